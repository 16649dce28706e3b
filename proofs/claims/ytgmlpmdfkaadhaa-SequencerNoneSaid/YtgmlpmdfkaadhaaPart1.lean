/- SequencerNoneSaid: contracts of the functions that the law goes through, put together in build order (part 2 of 3). -/
import Derived.Test.YtgmlpmdfkaadhaaPart0
import Derived.WalkKit
import Derived.Below
import Derived.Lib.SmallJoins
import Derived.Lib.Hide
import Derived.Lib.Bytes
import Derived.Deep.RegionHeld3
import Derived.Laws.ResultCell
import Derived.Maps.OwnSet
import Derived.Maps.OwnOps
import Derived.Maps.RangeWalk
import Derived.Maps.Views
import Derived.DeepKeys4
import Derived.KernelRfl
set_option linter.unusedVariables false
set_option linter.unusedSimpArgs false
set_option maxRecDepth 100000
section
-- Written by a program of this session's (wip/gprint.py over the kit's printer).
namespace Go.Proofs.Ytgmlpmdfkaadhaa.G
open Go.RowKit Go.Proofs.YtgmlpmdfkaadhaaW.PrintWords Go.Proofs.YtgmlpmdfkaadhaaW.PrintLast Go.Proofs.YtgmlpmdfkaadhaaW.PrintMore
attribute [local go_sem] max2_int min2_int max_two min_two max_three min_three max_four min_four   -- for this text's walks alone
attribute [local go_sem high] eqA54
def shape_Blob.f (l0 : List Int) (l1 : List Int) : Option (List Int) := (shape_Num.f l0 (([(l1.length : Int)] : List Int))).bind fun t107 => (if t107.length + l1.length < 140737488355328 then (some (t107 ++ l1)) else (none))
set_option maxHeartbeats 8000000 in
set_option maxRecDepth 100000 in
theorem shape_Blob.calls (A0 : Option Addr) (c0 : Nat) (l0 : List Int) (A1 : Option Addr) (c1 : Nat) (l1 : List Int) (r : List Int) (w : World) (hr0 : Kd.C (Kd.int .u8) w A0 l0.length l0) (hc0 : l0.length ≤ c0) (hr1 : Kd.C (Kd.int .u8) w A1 l1.length l1) (hc1 : l1.length ≤ c1) (h : shape_Blob.f l0 l1 = some r) :
  Calls Try.prog 91 #[.slice A0 l0.length c0, .slice A1 l1.length c1] w fun e w' => ∃ v0_ : Value, e = .returned (v0_) ∧ Kd.R (Kd.int .u8) 5 w' w.heap.size (fun _ => True) v0_ r ∧ Below w.heap.size w w' := by
 have HR0 := Aside0.mk hr0
 have HC0 := Aside0.mk hc0
 clear hr0 hc0
 have HR1 := Aside0.mk hr1
 have HC1 := Aside0.mk hc1
 clear hr1 hc1
 have HB := Aside0.mk (Below.refl w.heap.size w)
 have H : ((shape_Num.f l0 (([(l1.length : Int)] : List Int))).bind fun t107 => (if t107.length + l1.length < 140737488355328 then (some (t107 ++ l1)) else (none))) = some r := h
 clear h
 obtain ⟨y104, hy104⟩ : ∃ y_ : List Int, y_ = (([(l1.length : Int)] : List Int)) := ⟨_, rfl⟩
 replace H : ((shape_Num.f l0 y104).bind fun t107 => (if t107.length + l1.length < 140737488355328 then (some (t107 ++ l1)) else (none))) = some r := by first | (rw [hy104]; with_reducible exact H) | (have H2_ := (Option.bind_some _ _).symm.trans H; rw [hy104]; with_reducible exact H2_) | (have H2_ := (Option.bind_some _ _).symm.trans H; with_reducible exact H2_) | with_reducible exact H | (rw [hy104]; exact H) | exact H
 have Ny104 := Aside0.mk hy104
 clear hy104
 replace H := Option.bind_eq_some_iff.mp H
 obtain ⟨t107, A30, H⟩ := H
 replace H : (if t107.length + l1.length < 140737488355328 then (some (t107 ++ l1)) else (none)) = some r := H
 have A3 := Aside0.mk A30
 clear A30
 by_cases c4 : t107.length + l1.length < 140737488355328
 ·rw [if_pos c4] at H
  have LMc4 := Aside0.mk c4
  clear c4
  obtain ⟨y110, hy110⟩ : ∃ y_ : List Int, y_ = (t107 ++ l1) := ⟨_, rfl⟩
  replace H : (some y110) = some r := by first | (rw [hy110]; with_reducible exact H) | (have H2_ := (Option.bind_some _ _).symm.trans H; rw [hy110]; with_reducible exact H2_) | (have H2_ := (Option.bind_some _ _).symm.trans H; with_reducible exact H2_) | with_reducible exact H | (rw [hy110]; exact H) | exact H
  have Ny110 := Aside0.mk hy110
  clear hy110
  obtain rfl := Option.some.inj H
  go_enter Try.func91, Try.ntmps91
  go_wp2_with (first | ((with_reducible refine gate_dst (N := 8) rfl ?_); refine Kd.R_lit (Kd.int .i64) _ 2 ?hg (N := 8) ?hd (xs := ([(l1.length : Int)] : List Int)) (inner := [.int .i64 (l1.length : Int)]) (ok := fun _ => True) (okp := fun _ => True) ?hr ?hp (fun _ hk => hk) trivial (Below.refl _ _) (Nat.le_refl _) (by simp) ?_; (case hd => rfl); (case hg => rfl); (case hr => first | (go_simp; done) | (go_simp; rfl)); (case hp => exact (Reps.one (show Kd.M (Kd.int .i64) _ _ _ (l1.length : Int) [.int .i64 (l1.length : Int)] from rfl) (Reps.none _ _))); intro v105 w5 ho6 hb hg_ hnew_; clear hg_ hnew_; (first | rw [← Ny104.out] at ho6 | (simp only [Int.reduceToNat] at ho6; rw [← Ny104.out] at ho6)); have n0_ := Aside0.mk (Kd.R_lower ho6 (below_size (stB HB.out))); have n1_ := Aside0.mk (below_step (stB HB.out) hb); clear HB; have HO106 := n0_; have HB := n1_; clear n0_ n1_; clear hb ho6; obtain ⟨Ao7, co7, eo7⟩ := Kd.R_slice HO106.out; subst eo7) | ((with_reducible refine gate_callee (f := 74) rfl ?_); refine goesL_ (some 9) rfl rfl Try.func74 (by kernel_rfl) rfl #[.slice A0 l0.length c0, .slice Ao7 y104.length co7] rfl (by (try simp only [List.map_toArray, List.map_cons, List.map_nil]); first | done | rfl | (simp only [List.length_drop, List.length_take]; rfl)) ?_; (with_reducible refine (shape_Num.calls _ _ l0 _ _ y104 t107 _ ?side1 ?side2 ?side3 ?side4 A3.out).mono ?_); (case side1 => exact stC (Kd.C_below HR0.out HB.out)); (case side2 => exact HC0.out); (case side3 => exact stC ((Kd.R_reads' HO106.out).2.2)); (case side4 => exact (Kd.R_reads' HO106.out).2.1); rintro e w8 ⟨v108, rfl, ho0, hb⟩; refine ⟨_, rfl, ?_⟩; have n0_ := Aside0.mk (Kd.R_below (stR HO106.out) hb); have n1_ := Aside0.mk (Kd.R_lower ho0 (below_size (stB HB.out))); have n2_ := Aside0.mk (below_step (stB HB.out) hb); clear HO106; clear HB; have HO106 := n0_; have HO109 := n1_; have HB := n2_; clear n0_ n1_ n2_; (try clear hb); (try clear hb2); (try clear hk); (try clear hi); (try clear ho0)) | ((with_reducible refine gate_builtin (b := .append) (xs := #[.tmp 9, .tmp 10]) rfl ?_); at_builtin; refine Kd.R_append_rows (Kd.int .u8) (w0 := w) w.heap.size rfl (.tmp 9) (.tmp 10) 28 5 (.int .u8 0) 1 rfl Try.underlying28 info5 rfl (by decide) (by omega) v108 t107 l1 _ _ _ (fun _ => True) (fun _ => False) rfl rfl ?aO ?aR (fun _ _ h => h) (fun _ h => h.elim) ?aF ?aB ?aS ?aL ?_; (case aR => exact stC (Kd.C_below HR1.out HB.out)); (case aB => exact (stB HB.out)); (case aF => exact (fun _ _ => trivial)); (case aO => exact (stR HO109.out)); (case aS => exact (below_size (stB HB.out))); (case aL => have := LMc4.out; omega); intro v111 w9 ho hb hg hat; rw [← Ny110.out] at ho; have n0_ := Aside0.mk (Kd.R_over' (stR HO106.out) (Kd.R_typed (stR HO109.out)) (by decide) hg); have n1_ := Aside0.mk (hb); have n2_ := Aside0.mk (ho); clear HO106; clear HB; clear HO109; have HO106 := n0_; have HB := n1_; have HO112 := n2_; clear n0_ n1_ n2_; clear ho hb hg hat))
  go_ret
  exact ⟨_, by first | rfl | (simp [errW_none, errW_some] <;> rfl) | (simp [*, errW_none, errW_some] <;> rfl), stR HO112.out, stB HB.out⟩
 ·rw [if_neg c4] at H
  exact absurd H (by simp)
def bytes_Equal.f (l0 : List Int) (l1 : List Int) : Option (Bool) := some ((strOfNums l0).toList == (strOfNums l1).toList)
set_option maxHeartbeats 8000000 in
set_option maxRecDepth 100000 in
theorem bytes_Equal.calls (A0 : Option Addr) (c0 : Nat) (l0 : List Int) (A1 : Option Addr) (c1 : Nat) (l1 : List Int) (r : Bool) (w : World) (hr0 : Kd.C (Kd.int .u8) w A0 l0.length l0) (hc0 : l0.length ≤ c0) (hr1 : Kd.C (Kd.int .u8) w A1 l1.length l1) (hc1 : l1.length ≤ c1) (h : bytes_Equal.f l0 l1 = some r) :
  Calls Try.prog 79 #[.slice A0 l0.length c0, .slice A1 l1.length c1] w fun e w' => e = .returned (.bool r) ∧ Drawn0 w w' := by
 have HR0 := Aside0.mk hr0
 have HC0 := Aside0.mk hc0
 clear hr0 hc0
 have HR1 := Aside0.mk hr1
 have HC1 := Aside0.mk hc1
 clear hr1 hc1
 have H : (some ((strOfNums l0).toList == (strOfNums l1).toList)) = some r := h
 clear h
 obtain rfl := Option.some.inj H
 have hcv3 := Kd.C_string (P := Try.prog) (A := A0) (c := c0) Try.underlying28 Try.underlying5 Try.underlying9 HR0.out
 have hcv4 := Kd.C_string (P := Try.prog) (A := A1) (c := c1) Try.underlying28 Try.underlying5 Try.underlying9 HR1.out
 go_enter Try.func79, Try.ntmps79
 go_wp2
 go_ret
 exact ⟨by first | rfl | (simp; done) | (simp [*]; done), by repeat (first | exact Drawn0.refl _ | apply Drawn0.step)⟩
def slices_Equal_int64_int64.l0 : Nat → List Int → List Int → Int → Int → Option (Bool)
 | 0, _, _, _, _ => none
 | k + 1, x0, x1, x12, x13 => if x13 < x12 then (if 0 ≤ x13 then (if x13 < (x0.length : Int) then (if x13 < (x1.length : Int) then (if (rd x0 x13) = (rd x1 x13) then (slices_Equal_int64_int64.l0 k x0 x1 x12 (wrap64 (x13 + 1))) else (some false)) else (none)) else (none)) else (none)) else (some true)
def slices_Equal_int64_int64.f (k : Nat) (l0 : List Int) (l1 : List Int) : Option (Bool) := if (l0.length : Int) = (l1.length : Int) then (slices_Equal_int64_int64.l0 k l0 l1 (l0.length : Int) 0) else (some false)
set_option maxHeartbeats 8000000 in
set_option maxRecDepth 100000 in
theorem slices_Equal_int64_int64.calls (k : Nat) (A0 : Option Addr) (c0 : Nat) (l0 : List Int) (A1 : Option Addr) (c1 : Nat) (l1 : List Int) (r : Bool) (w : World) (hr0 : Kd.C (Kd.int .i64) w A0 l0.length l0) (hc0 : l0.length ≤ c0) (hr1 : Kd.C (Kd.int .i64) w A1 l1.length l1) (hc1 : l1.length ≤ c1) (h : slices_Equal_int64_int64.f k l0 l1 = some r) :
  Calls Try.prog 80 #[.slice A0 l0.length c0, .slice A1 l1.length c1] w fun e w' => e = .returned (.bool r) ∧ Drawn0 w w' := by
 have HR0 := Aside0.mk hr0
 have HC0 := Aside0.mk hc0
 clear hr0 hc0
 have HR1 := Aside0.mk hr1
 have HC1 := Aside0.mk hc1
 clear hr1 hc1
 have H : (if (l0.length : Int) = (l1.length : Int) then (slices_Equal_int64_int64.l0 k l0 l1 (l0.length : Int) 0) else (some false)) = some r := h
 clear h
 by_cases c3 : (l0.length : Int) = (l1.length : Int)
 ·rw [if_pos c3] at H
  have c3b0 : ((l0.length : Int) == (l1.length : Int)) = true := beq_iff_eq.mpr c3
  have c3b1 : ((l0.length : Int) != (l1.length : Int)) = false := bne_eq_false_iff_eq.mpr c3
  have c3b2 : (l0.length == l1.length) = true := by first | simpa using c3 | (simp at c3 ⊢; omega)
  clear c3
  have H' := Aside0.mk H
  clear H
  go_enter Try.func80, Try.ntmps80
  go_wp2
  repeat (go_quiet (fail); try go_wp2)
  go_loopg [13] k (fun kq v13 w' => ∃ (x13_1 : Int), v13 = .int .i64 x13_1 ∧ Aside0 (slices_Equal_int64_int64.l0 kq l0 l1 (l0.length : Int) x13_1 = some r) ∧ Aside0 (kq ≤ k) ∧ Drawn0 w w')
  case atStart => exact ⟨(0), (by first | rfl | (simp; done) | (simp [*]; done)), H', ⟨Nat.le_refl _⟩, by repeat (first | exact Drawn0.refl _ | apply Drawn0.step)⟩
  case round =>
   clear H'
   try clear c1
   try clear p2
   try clear c3
   try clear c3b0
   try clear c3b1
   try clear c3b2
   obtain ⟨x13_1, rfl, HA, HK1, ⟨m1, rfl⟩⟩ := hrel
   cases gk with
   | zero => exact absurd HA.out (by simp [slices_Equal_int64_int64.l0])
   | succ k1 =>
    have H := HA.out
    clear HA
    simp only [slices_Equal_int64_int64.l0] at H
    by_cases c4 : x13_1 < (l0.length : Int)
    ·rw [if_pos c4] at H
     have c4b0 : decide (x13_1 < (l0.length : Int)) = true := decide_eq_true c4
     clear c4
     by_cases c5 : 0 ≤ x13_1
     ·rw [if_pos c5] at H
      have c5b0 : decide (0 ≤ x13_1) = true := decide_eq_true c5
      clear c5
      by_cases c6 : x13_1 < (l0.length : Int)
      ·rw [if_pos c6] at H
       have c6b0 : decide (x13_1 < (l0.length : Int)) = true := decide_eq_true c6
       clear c6
       by_cases c7 : x13_1 < (l1.length : Int)
       ·rw [if_pos c7] at H
        have c7b0 : decide (x13_1 < (l1.length : Int)) = true := decide_eq_true c7
        clear c7
        by_cases c8 : (rd l0 x13_1) = (rd l1 x13_1)
        ·rw [if_pos c8] at H
         have c8b0 : ((rd l0 x13_1) == (rd l1 x13_1)) = true := beq_iff_eq.mpr c8
         have c8b1 : ((rd l0 x13_1) != (rd l1 x13_1)) = false := bne_eq_false_iff_eq.mpr c8
         clear c8
         have H' := Aside0.mk H
         clear H
         have p113 : 0 ≤ (x13_1 : Int) := of_decide_eq_true (by first | (with_reducible assumption) | assumption)
         have q113 : x13_1 < (l0.length : Int) := of_decide_eq_true (by first | (with_reducible assumption) | assumption)
         obtain ⟨ad113, e113, hx113_0⟩ := Kd.at_int HR0.out x13_1 p113 q113
         cases e113
         replace p113 := eq_true p113
         replace q113 := eq_true q113
         have p114 : 0 ≤ (x13_1 : Int) := of_decide_eq_true (by first | (with_reducible assumption) | assumption)
         have q114 : x13_1 < (l1.length : Int) := of_decide_eq_true (by first | (with_reducible assumption) | assumption)
         obtain ⟨ad114, e114, hx114_0⟩ := Kd.at_int HR1.out x13_1 p114 q114
         cases e114
         replace p114 := eq_true p114
         replace q114 := eq_true q114
         go_wp2
         repeat (go_quiet (fail); try go_wp2)
         go_roundg k1
         case measure => have := HK1.out; omega
         case rel => exact ⟨(wrap64 (x13_1 + 1)), (by first | rfl | (simp; done) | (simp [*]; done)), H', ⟨by have := HK1.out; omega⟩, by repeat (first | exact Drawn0.refl _ | apply Drawn0.step)⟩
        ·rw [if_neg c8] at H
         have c8b0 : ((rd l0 x13_1) == (rd l1 x13_1)) = false := beq_eq_false_iff_ne.mpr c8
         have c8b1 : ((rd l0 x13_1) != (rd l1 x13_1)) = true := bne_iff_ne.mpr c8
         obtain rfl := Option.some.inj H
         have p113 : 0 ≤ (x13_1 : Int) := of_decide_eq_true (by first | (with_reducible assumption) | assumption)
         have q113 : x13_1 < (l0.length : Int) := of_decide_eq_true (by first | (with_reducible assumption) | assumption)
         obtain ⟨ad113, e113, hx113_0⟩ := Kd.at_int HR0.out x13_1 p113 q113
         cases e113
         replace p113 := eq_true p113
         replace q113 := eq_true q113
         have p114 : 0 ≤ (x13_1 : Int) := of_decide_eq_true (by first | (with_reducible assumption) | assumption)
         have q114 : x13_1 < (l1.length : Int) := of_decide_eq_true (by first | (with_reducible assumption) | assumption)
         obtain ⟨ad114, e114, hx114_0⟩ := Kd.at_int HR1.out x13_1 p114 q114
         cases e114
         replace p114 := eq_true p114
         replace q114 := eq_true q114
         go_wp2
         repeat (go_quiet (fail); try go_wp2)
         go_ret
         exact ⟨by first | rfl | (simp; done) | (simp [*]; done), by repeat (first | exact Drawn0.refl _ | apply Drawn0.step)⟩
       ·rw [if_neg c7] at H
        exact absurd H (by simp)
      ·rw [if_neg c6] at H
       exact absurd H (by simp)
     ·rw [if_neg c5] at H
      exact absurd H (by simp)
    ·rw [if_neg c4] at H
     have c4b0 : decide (x13_1 < (l0.length : Int)) = false := decide_eq_false c4
     clear c4
     obtain rfl := Option.some.inj H
     go_wp2
     repeat (go_quiet (fail); try go_wp2)
     go_ret
     exact ⟨by first | rfl | (simp; done) | (simp [*]; done), by repeat (first | exact Drawn0.refl _ | apply Drawn0.step)⟩
 ·rw [if_neg c3] at H
  have c3b0 : ((l0.length : Int) == (l1.length : Int)) = false := beq_eq_false_iff_ne.mpr c3
  have c3b1 : ((l0.length : Int) != (l1.length : Int)) = true := bne_iff_ne.mpr c3
  have c3b2 : (l0.length == l1.length) = false := by first | simpa using c3 | (simp at c3 ⊢; omega)
  obtain rfl := Option.some.inj H
  go_enter Try.func80, Try.ntmps80
  go_wp2
  repeat (go_quiet (fail); try go_wp2)
  go_ret
  exact ⟨by first | rfl | (simp; done) | (simp [*]; done), by repeat (first | exact Drawn0.refl _ | apply Drawn0.step)⟩
def api_Key_81.l0 : Nat → List (S54) → List (S54) → Int → Int → Option (Bool)
 | 0, _, _, _, _ => none
 | k + 1, x0, x1, x12, x13 => if x13 < x12 then (if 0 ≤ x13 then (if x13 < (x0.length : Int) then (if x13 < (x1.length : Int) then (if (!(((rd_T54 x0 x13).f0) == ((rd_T54 x1 x13).f0)) || (!(((rd_T54 x0 x13).f1) == ((rd_T54 x1 x13).f1)))) = true then (some false) else (api_Key_81.l0 k x0 x1 x12 (wrap64 (x13 + 1)))) else (none)) else (none)) else (none)) else (some true)
def api_Key_81.f (k : Nat) (l0 : List (S54)) (l1 : List (S54)) : Option (Bool) := if (l0.length : Int) = (l1.length : Int) then (api_Key_81.l0 k l0 l1 (l0.length : Int) 0) else (some false)
set_option maxHeartbeats 8000000 in
set_option maxRecDepth 100000 in
theorem api_Key_81.calls (k : Nat) (A0 : Option Addr) (c0 : Nat) (l0 : List (S54)) (A1 : Option Addr) (c1 : Nat) (l1 : List (S54)) (r : Bool) (w : World) (hr0 : Kd.C k54 w A0 l0.length l0) (hc0 : l0.length ≤ c0) (hr1 : Kd.C k54 w A1 l1.length l1) (hc1 : l1.length ≤ c1) (h : api_Key_81.f k l0 l1 = some r) :
  Calls Try.prog 81 #[.slice A0 l0.length c0, .slice A1 l1.length c1] w fun e w' => e = .returned (.bool r) ∧ Drawn0 w w' := by
 have hu54 := Try.underlying54
 have HR0 := Aside0.mk hr0
 have HC0 := Aside0.mk hc0
 clear hr0 hc0
 have HR1 := Aside0.mk hr1
 have HC1 := Aside0.mk hc1
 clear hr1 hc1
 have H : (if (l0.length : Int) = (l1.length : Int) then (api_Key_81.l0 k l0 l1 (l0.length : Int) 0) else (some false)) = some r := h
 clear h
 by_cases c3 : (l0.length : Int) = (l1.length : Int)
 ·rw [if_pos c3] at H
  have c3b0 : ((l0.length : Int) == (l1.length : Int)) = true := beq_iff_eq.mpr c3
  have c3b1 : ((l0.length : Int) != (l1.length : Int)) = false := bne_eq_false_iff_eq.mpr c3
  have c3b2 : (l0.length == l1.length) = true := by first | simpa using c3 | (simp at c3 ⊢; omega)
  clear c3
  have H' := Aside0.mk H
  clear H
  go_enter Try.func81, Try.ntmps81
  go_wp2
  repeat (go_quiet (fail); try go_wp2)
  go_loopg [13] k (fun kq v13 w' => ∃ (x13_1 : Int), v13 = .int .i64 x13_1 ∧ Aside0 (api_Key_81.l0 kq l0 l1 (l0.length : Int) x13_1 = some r) ∧ Aside0 (kq ≤ k) ∧ Drawn0 w w')
  case atStart => exact ⟨(0), (by first | rfl | (simp; done) | (simp [*]; done)), H', ⟨Nat.le_refl _⟩, by repeat (first | exact Drawn0.refl _ | apply Drawn0.step)⟩
  case round =>
   clear H'
   try clear c1
   try clear p2
   try clear c3
   try clear c3b0
   try clear c3b1
   try clear c3b2
   obtain ⟨x13_1, rfl, HA, HK1, ⟨m1, rfl⟩⟩ := hrel
   cases gk with
   | zero => exact absurd HA.out (by simp [api_Key_81.l0])
   | succ k1 =>
    have H := HA.out
    clear HA
    simp only [api_Key_81.l0] at H
    by_cases c4 : x13_1 < (l0.length : Int)
    ·rw [if_pos c4] at H
     have c4b0 : decide (x13_1 < (l0.length : Int)) = true := decide_eq_true c4
     clear c4
     by_cases c5 : 0 ≤ x13_1
     ·rw [if_pos c5] at H
      have c5b0 : decide (0 ≤ x13_1) = true := decide_eq_true c5
      clear c5
      by_cases c6 : x13_1 < (l0.length : Int)
      ·rw [if_pos c6] at H
       have c6b0 : decide (x13_1 < (l0.length : Int)) = true := decide_eq_true c6
       clear c6
       by_cases c7 : x13_1 < (l1.length : Int)
       ·rw [if_pos c7] at H
        have c7b0 : decide (x13_1 < (l1.length : Int)) = true := decide_eq_true c7
        clear c7
        by_cases c8 : (!(((rd_T54 l0 x13_1).f0) == ((rd_T54 l1 x13_1).f0)) || (!(((rd_T54 l0 x13_1).f1) == ((rd_T54 l1 x13_1).f1)))) = true
        ·rw [if_pos c8] at H
         have c8b0 : (!(((rd_T54 l0 x13_1).f0) == ((rd_T54 l1 x13_1).f0)) || (!(((rd_T54 l0 x13_1).f1) == ((rd_T54 l1 x13_1).f1)))) = true := c8
         clear c8
         obtain rfl := Option.some.inj H
         have p115 : 0 ≤ (x13_1 : Int) := of_decide_eq_true (by first | (with_reducible assumption) | assumption)
         have q115 : x13_1 < (l0.length : Int) := of_decide_eq_true (by first | (with_reducible assumption) | assumption)
         obtain ⟨ad115, e115, hx115_0, hx115_1⟩ := at_T54 HR0.out x13_1 p115 q115
         cases e115
         replace p115 := eq_true p115
         replace q115 := eq_true q115
         have p116 : 0 ≤ (x13_1 : Int) := of_decide_eq_true (by first | (with_reducible assumption) | assumption)
         have q116 : x13_1 < (l1.length : Int) := of_decide_eq_true (by first | (with_reducible assumption) | assumption)
         obtain ⟨ad116, e116, hx116_0, hx116_1⟩ := at_T54 HR1.out x13_1 p116 q116
         cases e116
         replace p116 := eq_true p116
         replace q116 := eq_true q116
         go_wp2
         repeat (go_quiet (fail); try go_wp2)
         go_ret
         exact ⟨by first | rfl | (simp; done) | (simp [*]; done), by repeat (first | exact Drawn0.refl _ | apply Drawn0.step)⟩
        ·rw [if_neg c8] at H
         have c8b0 : (!(((rd_T54 l0 x13_1).f0) == ((rd_T54 l1 x13_1).f0)) || (!(((rd_T54 l0 x13_1).f1) == ((rd_T54 l1 x13_1).f1)))) = false := by simpa using c8
         clear c8
         have H' := Aside0.mk H
         clear H
         have p115 : 0 ≤ (x13_1 : Int) := of_decide_eq_true (by first | (with_reducible assumption) | assumption)
         have q115 : x13_1 < (l0.length : Int) := of_decide_eq_true (by first | (with_reducible assumption) | assumption)
         obtain ⟨ad115, e115, hx115_0, hx115_1⟩ := at_T54 HR0.out x13_1 p115 q115
         cases e115
         replace p115 := eq_true p115
         replace q115 := eq_true q115
         have p116 : 0 ≤ (x13_1 : Int) := of_decide_eq_true (by first | (with_reducible assumption) | assumption)
         have q116 : x13_1 < (l1.length : Int) := of_decide_eq_true (by first | (with_reducible assumption) | assumption)
         obtain ⟨ad116, e116, hx116_0, hx116_1⟩ := at_T54 HR1.out x13_1 p116 q116
         cases e116
         replace p116 := eq_true p116
         replace q116 := eq_true q116
         go_wp2
         repeat (go_quiet (fail); try go_wp2)
         go_roundg k1
         case measure => have := HK1.out; omega
         case rel => exact ⟨(wrap64 (x13_1 + 1)), (by first | rfl | (simp; done) | (simp [*]; done)), H', ⟨by have := HK1.out; omega⟩, by repeat (first | exact Drawn0.refl _ | apply Drawn0.step)⟩
       ·rw [if_neg c7] at H
        exact absurd H (by simp)
      ·rw [if_neg c6] at H
       exact absurd H (by simp)
     ·rw [if_neg c5] at H
      exact absurd H (by simp)
    ·rw [if_neg c4] at H
     have c4b0 : decide (x13_1 < (l0.length : Int)) = false := decide_eq_false c4
     clear c4
     obtain rfl := Option.some.inj H
     go_wp2
     repeat (go_quiet (fail); try go_wp2)
     go_ret
     exact ⟨by first | rfl | (simp; done) | (simp [*]; done), by repeat (first | exact Drawn0.refl _ | apply Drawn0.step)⟩
 ·rw [if_neg c3] at H
  have c3b0 : ((l0.length : Int) == (l1.length : Int)) = false := beq_eq_false_iff_ne.mpr c3
  have c3b1 : ((l0.length : Int) != (l1.length : Int)) = true := bne_iff_ne.mpr c3
  have c3b2 : (l0.length == l1.length) = false := by first | simpa using c3 | (simp at c3 ⊢; omega)
  obtain rfl := Option.some.inj H
  go_enter Try.func81, Try.ntmps81
  go_wp2
  repeat (go_quiet (fail); try go_wp2)
  go_ret
  exact ⟨by first | rfl | (simp; done) | (simp [*]; done), by repeat (first | exact Drawn0.refl _ | apply Drawn0.step)⟩
def record_SameTxn.f (k : Nat) (a0_0 : Int) (a0_1 : Int) (l0_2 : List Int) (l0_3 : List Int) (l0_4 : List (S54)) (l0_5 : List (S54)) (a1_0 : Int) (a1_1 : Int) (l1_2 : List Int) (l1_3 : List Int) (l1_4 : List (S54)) (l1_5 : List (S54)) : Option (Bool) := if a0_0 = a1_0 then (if a0_1 = a1_1 then ((bytes_Equal.f l0_2 l1_2).bind fun t119 => (if t119 = true then ((slices_Equal_int64_int64.f k l0_3 l1_3).bind fun t120 => (if t120 = true then ((api_Key_81.f k l0_4 l1_4).bind fun t121 => (if t121 = true then ((api_Key_81.f k l0_5 l1_5).bind fun t122 => (some t122)) else (some false))) else (some false))) else (some false))) else (some false)) else (some false)
set_option maxHeartbeats 8000000 in
set_option maxRecDepth 100000 in
theorem record_SameTxn.calls (k : Nat) (a0_0 : Int) (a0_1 : Int) (A0_2 : Option Addr) (c0_2 : Nat) (l0_2 : List Int) (A0_3 : Option Addr) (c0_3 : Nat) (l0_3 : List Int) (A0_4 : Option Addr) (c0_4 : Nat) (l0_4 : List (S54)) (A0_5 : Option Addr) (c0_5 : Nat) (l0_5 : List (S54)) (a1_0 : Int) (a1_1 : Int) (A1_2 : Option Addr) (c1_2 : Nat) (l1_2 : List Int) (A1_3 : Option Addr) (c1_3 : Nat) (l1_3 : List Int) (A1_4 : Option Addr) (c1_4 : Nat) (l1_4 : List (S54)) (A1_5 : Option Addr) (c1_5 : Nat) (l1_5 : List (S54)) (r : Bool) (w : World) (hr0_2 : Kd.C (Kd.int .u8) w A0_2 l0_2.length l0_2) (hc0_2 : l0_2.length ≤ c0_2) (hr0_3 : Kd.C (Kd.int .i64) w A0_3 l0_3.length l0_3) (hc0_3 : l0_3.length ≤ c0_3) (hr0_4 : Kd.C k54 w A0_4 l0_4.length l0_4) (hc0_4 : l0_4.length ≤ c0_4) (hr0_5 : Kd.C k54 w A0_5 l0_5.length l0_5) (hc0_5 : l0_5.length ≤ c0_5) (hr1_2 : Kd.C (Kd.int .u8) w A1_2 l1_2.length l1_2) (hc1_2 : l1_2.length ≤ c1_2) (hr1_3 : Kd.C (Kd.int .i64) w A1_3 l1_3.length l1_3) (hc1_3 : l1_3.length ≤ c1_3) (hr1_4 : Kd.C k54 w A1_4 l1_4.length l1_4) (hc1_4 : l1_4.length ≤ c1_4) (hr1_5 : Kd.C k54 w A1_5 l1_5.length l1_5) (hc1_5 : l1_5.length ≤ c1_5) (h : record_SameTxn.f k a0_0 a0_1 l0_2 l0_3 l0_4 l0_5 a1_0 a1_1 l1_2 l1_3 l1_4 l1_5 = some r) :
  Calls Try.prog 69 #[.agg #[.int .i64 a0_0, .int .i64 a0_1, .slice A0_2 l0_2.length c0_2, .slice A0_3 l0_3.length c0_3, .slice A0_4 l0_4.length c0_4, .slice A0_5 l0_5.length c0_5], .agg #[.int .i64 a1_0, .int .i64 a1_1, .slice A1_2 l1_2.length c1_2, .slice A1_3 l1_3.length c1_3, .slice A1_4 l1_4.length c1_4, .slice A1_5 l1_5.length c1_5]] w fun e w' => e = .returned (.bool r) ∧ Below w.heap.size w w' := by
 have hu32 := Try.underlying32
 have HR0_2 := Aside0.mk hr0_2
 have HC0_2 := Aside0.mk hc0_2
 clear hr0_2 hc0_2
 have HR0_3 := Aside0.mk hr0_3
 have HC0_3 := Aside0.mk hc0_3
 clear hr0_3 hc0_3
 have HR0_4 := Aside0.mk hr0_4
 have HC0_4 := Aside0.mk hc0_4
 clear hr0_4 hc0_4
 have HR0_5 := Aside0.mk hr0_5
 have HC0_5 := Aside0.mk hc0_5
 clear hr0_5 hc0_5
 have HR1_2 := Aside0.mk hr1_2
 have HC1_2 := Aside0.mk hc1_2
 clear hr1_2 hc1_2
 have HR1_3 := Aside0.mk hr1_3
 have HC1_3 := Aside0.mk hc1_3
 clear hr1_3 hc1_3
 have HR1_4 := Aside0.mk hr1_4
 have HC1_4 := Aside0.mk hc1_4
 clear hr1_4 hc1_4
 have HR1_5 := Aside0.mk hr1_5
 have HC1_5 := Aside0.mk hc1_5
 clear hr1_5 hc1_5
 have HB := Aside0.mk (Below.refl w.heap.size w)
 have H : (if a0_0 = a1_0 then (if a0_1 = a1_1 then ((bytes_Equal.f l0_2 l1_2).bind fun t119 => (if t119 = true then ((slices_Equal_int64_int64.f k l0_3 l1_3).bind fun t120 => (if t120 = true then ((api_Key_81.f k l0_4 l1_4).bind fun t121 => (if t121 = true then ((api_Key_81.f k l0_5 l1_5).bind fun t122 => (some t122)) else (some false))) else (some false))) else (some false))) else (some false)) else (some false)) = some r := h
 clear h
 by_cases c3 : a0_0 = a1_0
 ·rw [if_pos c3] at H
  have c3b0 : (a0_0 == a1_0) = true := beq_iff_eq.mpr c3
  have c3b1 : (a0_0 != a1_0) = false := bne_eq_false_iff_eq.mpr c3
  clear c3
  by_cases c4 : a0_1 = a1_1
  ·rw [if_pos c4] at H
   have c4b0 : (a0_1 == a1_1) = true := beq_iff_eq.mpr c4
   have c4b1 : (a0_1 != a1_1) = false := bne_eq_false_iff_eq.mpr c4
   clear c4
   replace H := Option.bind_eq_some_iff.mp H
   obtain ⟨t119, A50, H⟩ := H
   replace H : (if t119 = true then ((slices_Equal_int64_int64.f k l0_3 l1_3).bind fun t120 => (if t120 = true then ((api_Key_81.f k l0_4 l1_4).bind fun t121 => (if t121 = true then ((api_Key_81.f k l0_5 l1_5).bind fun t122 => (some t122)) else (some false))) else (some false))) else (some false)) = some r := H
   have A5 := Aside0.mk A50
   clear A50
   by_cases c6 : t119 = true
   ·subst c6
    have H1 : ((slices_Equal_int64_int64.f k l0_3 l1_3).bind fun t120 => (if t120 = true then ((api_Key_81.f k l0_4 l1_4).bind fun t121 => (if t121 = true then ((api_Key_81.f k l0_5 l1_5).bind fun t122 => (some t122)) else (some false))) else (some false))) = some r := by rw [if_pos rfl] at H; exact H
    clear H
    have H := H1
    clear H1
    replace H := Option.bind_eq_some_iff.mp H
    obtain ⟨t120, A70, H⟩ := H
    replace H : (if t120 = true then ((api_Key_81.f k l0_4 l1_4).bind fun t121 => (if t121 = true then ((api_Key_81.f k l0_5 l1_5).bind fun t122 => (some t122)) else (some false))) else (some false)) = some r := H
    have A7 := Aside0.mk A70
    clear A70
    by_cases c8 : t120 = true
    ·subst c8
     have H1 : ((api_Key_81.f k l0_4 l1_4).bind fun t121 => (if t121 = true then ((api_Key_81.f k l0_5 l1_5).bind fun t122 => (some t122)) else (some false))) = some r := by rw [if_pos rfl] at H; exact H
     clear H
     have H := H1
     clear H1
     replace H := Option.bind_eq_some_iff.mp H
     obtain ⟨t121, A90, H⟩ := H
     replace H : (if t121 = true then ((api_Key_81.f k l0_5 l1_5).bind fun t122 => (some t122)) else (some false)) = some r := H
     have A9 := Aside0.mk A90
     clear A90
     by_cases c10 : t121 = true
     ·subst c10
      have H1 : ((api_Key_81.f k l0_5 l1_5).bind fun t122 => (some t122)) = some r := by rw [if_pos rfl] at H; exact H
      clear H
      have H := H1
      clear H1
      replace H := Option.bind_eq_some_iff.mp H
      obtain ⟨t122, A110, H⟩ := H
      replace H : (some t122) = some r := H
      have A11 := Aside0.mk A110
      clear A110
      obtain rfl := Option.some.inj H
      go_enter Try.func69, Try.ntmps69
      go_wp2_with (first | ((with_reducible refine gate_dst (N := 2) rfl ?_); refine box_event ?hg (N := 2) ?hd (cs := #[.int .i64 a0_0, .int .i64 a0_1, .slice A0_2 l0_2.length c0_2, .slice A0_3 l0_3.length c0_3, .slice A0_4 l0_4.length c0_4, .slice A0_5 l0_5.length c0_5]) (t := 32) ?hr ?_; (case hd => rfl); (case hg => rfl); (case hr => first | (go_simp; done) | (go_simp; rfl)); intro gb117 hg w12 hbox hb; have n0_ := Aside0.mk (below_step (stB HB.out) hb); have n1_ := Aside0.mk (hbox); have n2_ := Aside0.mk ((by rw [hg]; exact (below_size (stB HB.out)) : w.heap.size ≤ gb117)); have n3_ := Aside0.mk ((by rw [hg]; exact (below_size (stB HB.out)) : w.heap.size ≤ gb117)); clear HB; have HB := n0_; have BK117 := n1_; have GW117 := n2_; have GE117 := n3_; clear n0_ n1_ n2_ n3_; clear hb hbox hg) | ((with_reducible refine gate_dst (N := 3) rfl ?_); refine box_event ?hg (N := 3) ?hd (cs := #[.int .i64 a1_0, .int .i64 a1_1, .slice A1_2 l1_2.length c1_2, .slice A1_3 l1_3.length c1_3, .slice A1_4 l1_4.length c1_4, .slice A1_5 l1_5.length c1_5]) (t := 32) ?hr ?_; (case hd => rfl); (case hg => rfl); (case hr => first | (go_simp; done) | (go_simp; rfl)); intro gb118 hg w13 hbox hb; have n0_ := Aside0.mk (blk_below (g := gb117) (o := .cells #[.int .i64 a0_0, .int .i64 a0_1, .slice A0_2 l0_2.length c0_2, .slice A0_3 l0_3.length c0_3, .slice A0_4 l0_4.length c0_4, .slice A0_5 l0_5.length c0_5] 32 (0, 0)) (stK BK117.out) hb); have n1_ := Aside0.mk (below_step (by repeat (first | (with_reducible first | exact HB.out | apply below_alloc | apply pw_below_drewN | apply below_drew1 | refine below_set ?_ GE117.out) | exact HB.out)) hb); have n2_ := Aside0.mk (hbox); have n3_ := Aside0.mk ((by rw [hg]; exact (below_size (by repeat (first | (with_reducible first | exact HB.out | apply below_alloc | apply pw_below_drewN | apply below_drew1 | refine below_set ?_ GE117.out) | exact HB.out))) : w.heap.size ≤ gb118)); have n4_ := Aside0.mk ((by rw [hg]; exact (below_size (by repeat (first | (with_reducible first | exact HB.out | apply below_alloc | apply pw_below_drewN | apply below_drew1 | refine below_set ?_ GE117.out) | exact HB.out))) : w.heap.size ≤ gb118)); have n5_ := Aside0.mk ((by rw [hg]; exact Nat.ne_of_lt (blk_lt (g := gb117) (o := .cells #[.int .i64 a0_0, .int .i64 a0_1, .slice A0_2 l0_2.length c0_2, .slice A0_3 l0_3.length c0_3, .slice A0_4 l0_4.length c0_4, .slice A0_5 l0_5.length c0_5] 32 (0, 0)) (stK BK117.out)) : gb117 ≠ gb118)); have n6_ := Aside0.mk ((by rw [hg]; exact Nat.ne_of_gt (blk_lt (g := gb117) (o := .cells #[.int .i64 a0_0, .int .i64 a0_1, .slice A0_2 l0_2.length c0_2, .slice A0_3 l0_3.length c0_3, .slice A0_4 l0_4.length c0_4, .slice A0_5 l0_5.length c0_5] 32 (0, 0)) (stK BK117.out)) : gb118 ≠ gb117)); clear BK117; clear HB; have BK117 := n0_; have HB := n1_; have BK118 := n2_; have GW118 := n3_; have GE118 := n4_; have NB117_118 := n5_; have NB118_117 := n6_; clear n0_ n1_ n2_ n3_ n4_ n5_ n6_; clear hb hbox hg; have hnb14 := NB117_118.out; have hnc14 := NB118_117.out; obtain ⟨hcz15_0, hcz15_1, hcz15_2, hcz15_3, hcz15_4, hcz15_5⟩ := bc6 BK117.out; obtain ⟨hfz15_0, hfz15_1, hfz15_2, hfz15_3, hfz15_4, hfz15_5⟩ := bf6 BK117.out; obtain ⟨hcz16_0, hcz16_1, hcz16_2, hcz16_3, hcz16_4, hcz16_5⟩ := bc6 BK118.out; obtain ⟨hfz16_0, hfz16_1, hfz16_2, hfz16_3, hfz16_4, hfz16_5⟩ := bf6 BK118.out) | (go_at_call 79; (with_reducible refine (bytes_Equal.calls _ _ l0_2 _ _ l1_2 true _ ?side1 ?side2 ?side3 ?side4 A5.out).mono ?_); (case side1 => exact stC (Kd.C_below HR0_2.out HB.out)); (case side2 => exact HC0_2.out); (case side3 => exact stC (Kd.C_below HR1_2.out HB.out)); (case side4 => exact HC1_2.out); rintro e w' ⟨rfl, ⟨nd, rfl⟩⟩) | (go_at_call 80; (with_reducible refine (slices_Equal_int64_int64.calls k _ _ l0_3 _ _ l1_3 true _ ?side1 ?side2 ?side3 ?side4 A7.out).mono ?_); (case side1 => repeat (first | exact (Kd.C_below HR0_3.out (by repeat (first | (with_reducible first | exact HB.out | apply below_alloc | apply pw_below_drewN | apply below_drew1 | refine below_set ?_ GE117.out | refine below_set ?_ GE118.out) | exact HB.out))) | (with_reducible refine Kd.C_alloc ?_ _) | (with_reducible refine Kd.C_drewN ?_ _) | (with_reducible refine Kd.C_drew ?_))); (case side2 => exact HC0_3.out); (case side3 => repeat (first | exact (Kd.C_below HR1_3.out (by repeat (first | (with_reducible first | exact HB.out | apply below_alloc | apply pw_below_drewN | apply below_drew1 | refine below_set ?_ GE117.out | refine below_set ?_ GE118.out) | exact HB.out))) | (with_reducible refine Kd.C_alloc ?_ _) | (with_reducible refine Kd.C_drewN ?_ _) | (with_reducible refine Kd.C_drew ?_))); (case side4 => exact HC1_3.out); rintro e w' ⟨rfl, ⟨nd, rfl⟩⟩) | (go_at_call 81; (with_reducible refine (api_Key_81.calls k _ _ l0_4 _ _ l1_4 true _ ?side1 ?side2 ?side3 ?side4 A9.out).mono ?_); (case side1 => repeat (first | exact (Kd.C_below HR0_4.out (by repeat (first | (with_reducible first | exact HB.out | apply below_alloc | apply pw_below_drewN | apply below_drew1 | refine below_set ?_ GE117.out | refine below_set ?_ GE118.out) | exact HB.out))) | (with_reducible refine Kd.C_alloc ?_ _) | (with_reducible refine Kd.C_drewN ?_ _) | (with_reducible refine Kd.C_drew ?_))); (case side2 => exact HC0_4.out); (case side3 => repeat (first | exact (Kd.C_below HR1_4.out (by repeat (first | (with_reducible first | exact HB.out | apply below_alloc | apply pw_below_drewN | apply below_drew1 | refine below_set ?_ GE117.out | refine below_set ?_ GE118.out) | exact HB.out))) | (with_reducible refine Kd.C_alloc ?_ _) | (with_reducible refine Kd.C_drewN ?_ _) | (with_reducible refine Kd.C_drew ?_))); (case side4 => exact HC1_4.out); rintro e w' ⟨rfl, ⟨nd, rfl⟩⟩) | (go_at_call 81; (with_reducible refine (api_Key_81.calls k _ _ l0_5 _ _ l1_5 t122 _ ?side1 ?side2 ?side3 ?side4 A11.out).mono ?_); (case side1 => repeat (first | exact (Kd.C_below HR0_5.out (by repeat (first | (with_reducible first | exact HB.out | apply below_alloc | apply pw_below_drewN | apply below_drew1 | refine below_set ?_ GE117.out | refine below_set ?_ GE118.out) | exact HB.out))) | (with_reducible refine Kd.C_alloc ?_ _) | (with_reducible refine Kd.C_drewN ?_ _) | (with_reducible refine Kd.C_drew ?_))); (case side2 => exact HC0_5.out); (case side3 => repeat (first | exact (Kd.C_below HR1_5.out (by repeat (first | (with_reducible first | exact HB.out | apply below_alloc | apply pw_below_drewN | apply below_drew1 | refine below_set ?_ GE117.out | refine below_set ?_ GE118.out) | exact HB.out))) | (with_reducible refine Kd.C_alloc ?_ _) | (with_reducible refine Kd.C_drewN ?_ _) | (with_reducible refine Kd.C_drew ?_))); (case side4 => exact HC1_5.out); rintro e w' ⟨rfl, ⟨nd, rfl⟩⟩))
      go_ret
      exact ⟨by first | rfl | (simp [errW_none, errW_some] <;> rfl) | (simp [*, errW_none, errW_some] <;> rfl), by repeat (first | (with_reducible first | exact HB.out | apply below_alloc | apply pw_below_drewN | apply below_drew1 | refine below_set ?_ GE117.out | refine below_set ?_ GE118.out) | exact HB.out)⟩
     ·replace c10 := Bool.eq_false_iff.mpr c10
      subst c10
      have H1 : (some false) = some r := by rw [if_neg (show ¬ (false = true) by decide)] at H; exact H
      clear H
      have H := H1
      clear H1
      obtain rfl := Option.some.inj H
      go_enter Try.func69, Try.ntmps69
      go_wp2_with (first | ((with_reducible refine gate_dst (N := 2) rfl ?_); refine box_event ?hg (N := 2) ?hd (cs := #[.int .i64 a0_0, .int .i64 a0_1, .slice A0_2 l0_2.length c0_2, .slice A0_3 l0_3.length c0_3, .slice A0_4 l0_4.length c0_4, .slice A0_5 l0_5.length c0_5]) (t := 32) ?hr ?_; (case hd => rfl); (case hg => rfl); (case hr => first | (go_simp; done) | (go_simp; rfl)); intro gb117 hg w17 hbox hb; have n0_ := Aside0.mk (below_step (stB HB.out) hb); have n1_ := Aside0.mk (hbox); have n2_ := Aside0.mk ((by rw [hg]; exact (below_size (stB HB.out)) : w.heap.size ≤ gb117)); have n3_ := Aside0.mk ((by rw [hg]; exact (below_size (stB HB.out)) : w.heap.size ≤ gb117)); clear HB; have HB := n0_; have BK117 := n1_; have GW117 := n2_; have GE117 := n3_; clear n0_ n1_ n2_ n3_; clear hb hbox hg) | ((with_reducible refine gate_dst (N := 3) rfl ?_); refine box_event ?hg (N := 3) ?hd (cs := #[.int .i64 a1_0, .int .i64 a1_1, .slice A1_2 l1_2.length c1_2, .slice A1_3 l1_3.length c1_3, .slice A1_4 l1_4.length c1_4, .slice A1_5 l1_5.length c1_5]) (t := 32) ?hr ?_; (case hd => rfl); (case hg => rfl); (case hr => first | (go_simp; done) | (go_simp; rfl)); intro gb118 hg w18 hbox hb; have n0_ := Aside0.mk (blk_below (g := gb117) (o := .cells #[.int .i64 a0_0, .int .i64 a0_1, .slice A0_2 l0_2.length c0_2, .slice A0_3 l0_3.length c0_3, .slice A0_4 l0_4.length c0_4, .slice A0_5 l0_5.length c0_5] 32 (0, 0)) (stK BK117.out) hb); have n1_ := Aside0.mk (below_step (by repeat (first | (with_reducible first | exact HB.out | apply below_alloc | apply pw_below_drewN | apply below_drew1 | refine below_set ?_ GE117.out) | exact HB.out)) hb); have n2_ := Aside0.mk (hbox); have n3_ := Aside0.mk ((by rw [hg]; exact (below_size (by repeat (first | (with_reducible first | exact HB.out | apply below_alloc | apply pw_below_drewN | apply below_drew1 | refine below_set ?_ GE117.out) | exact HB.out))) : w.heap.size ≤ gb118)); have n4_ := Aside0.mk ((by rw [hg]; exact (below_size (by repeat (first | (with_reducible first | exact HB.out | apply below_alloc | apply pw_below_drewN | apply below_drew1 | refine below_set ?_ GE117.out) | exact HB.out))) : w.heap.size ≤ gb118)); have n5_ := Aside0.mk ((by rw [hg]; exact Nat.ne_of_lt (blk_lt (g := gb117) (o := .cells #[.int .i64 a0_0, .int .i64 a0_1, .slice A0_2 l0_2.length c0_2, .slice A0_3 l0_3.length c0_3, .slice A0_4 l0_4.length c0_4, .slice A0_5 l0_5.length c0_5] 32 (0, 0)) (stK BK117.out)) : gb117 ≠ gb118)); have n6_ := Aside0.mk ((by rw [hg]; exact Nat.ne_of_gt (blk_lt (g := gb117) (o := .cells #[.int .i64 a0_0, .int .i64 a0_1, .slice A0_2 l0_2.length c0_2, .slice A0_3 l0_3.length c0_3, .slice A0_4 l0_4.length c0_4, .slice A0_5 l0_5.length c0_5] 32 (0, 0)) (stK BK117.out)) : gb118 ≠ gb117)); clear BK117; clear HB; have BK117 := n0_; have HB := n1_; have BK118 := n2_; have GW118 := n3_; have GE118 := n4_; have NB117_118 := n5_; have NB118_117 := n6_; clear n0_ n1_ n2_ n3_ n4_ n5_ n6_; clear hb hbox hg; have hnb19 := NB117_118.out; have hnc19 := NB118_117.out; obtain ⟨hcz20_0, hcz20_1, hcz20_2, hcz20_3, hcz20_4, hcz20_5⟩ := bc6 BK117.out; obtain ⟨hfz20_0, hfz20_1, hfz20_2, hfz20_3, hfz20_4, hfz20_5⟩ := bf6 BK117.out; obtain ⟨hcz21_0, hcz21_1, hcz21_2, hcz21_3, hcz21_4, hcz21_5⟩ := bc6 BK118.out; obtain ⟨hfz21_0, hfz21_1, hfz21_2, hfz21_3, hfz21_4, hfz21_5⟩ := bf6 BK118.out) | (go_at_call 79; (with_reducible refine (bytes_Equal.calls _ _ l0_2 _ _ l1_2 true _ ?side1 ?side2 ?side3 ?side4 A5.out).mono ?_); (case side1 => exact stC (Kd.C_below HR0_2.out HB.out)); (case side2 => exact HC0_2.out); (case side3 => exact stC (Kd.C_below HR1_2.out HB.out)); (case side4 => exact HC1_2.out); rintro e w' ⟨rfl, ⟨nd, rfl⟩⟩) | (go_at_call 80; (with_reducible refine (slices_Equal_int64_int64.calls k _ _ l0_3 _ _ l1_3 true _ ?side1 ?side2 ?side3 ?side4 A7.out).mono ?_); (case side1 => repeat (first | exact (Kd.C_below HR0_3.out (by repeat (first | (with_reducible first | exact HB.out | apply below_alloc | apply pw_below_drewN | apply below_drew1 | refine below_set ?_ GE117.out | refine below_set ?_ GE118.out) | exact HB.out))) | (with_reducible refine Kd.C_alloc ?_ _) | (with_reducible refine Kd.C_drewN ?_ _) | (with_reducible refine Kd.C_drew ?_))); (case side2 => exact HC0_3.out); (case side3 => repeat (first | exact (Kd.C_below HR1_3.out (by repeat (first | (with_reducible first | exact HB.out | apply below_alloc | apply pw_below_drewN | apply below_drew1 | refine below_set ?_ GE117.out | refine below_set ?_ GE118.out) | exact HB.out))) | (with_reducible refine Kd.C_alloc ?_ _) | (with_reducible refine Kd.C_drewN ?_ _) | (with_reducible refine Kd.C_drew ?_))); (case side4 => exact HC1_3.out); rintro e w' ⟨rfl, ⟨nd, rfl⟩⟩) | (go_at_call 81; (with_reducible refine (api_Key_81.calls k _ _ l0_4 _ _ l1_4 false _ ?side1 ?side2 ?side3 ?side4 A9.out).mono ?_); (case side1 => repeat (first | exact (Kd.C_below HR0_4.out (by repeat (first | (with_reducible first | exact HB.out | apply below_alloc | apply pw_below_drewN | apply below_drew1 | refine below_set ?_ GE117.out | refine below_set ?_ GE118.out) | exact HB.out))) | (with_reducible refine Kd.C_alloc ?_ _) | (with_reducible refine Kd.C_drewN ?_ _) | (with_reducible refine Kd.C_drew ?_))); (case side2 => exact HC0_4.out); (case side3 => repeat (first | exact (Kd.C_below HR1_4.out (by repeat (first | (with_reducible first | exact HB.out | apply below_alloc | apply pw_below_drewN | apply below_drew1 | refine below_set ?_ GE117.out | refine below_set ?_ GE118.out) | exact HB.out))) | (with_reducible refine Kd.C_alloc ?_ _) | (with_reducible refine Kd.C_drewN ?_ _) | (with_reducible refine Kd.C_drew ?_))); (case side4 => exact HC1_4.out); rintro e w' ⟨rfl, ⟨nd, rfl⟩⟩))
      go_ret
      exact ⟨by first | rfl | (simp [errW_none, errW_some] <;> rfl) | (simp [*, errW_none, errW_some] <;> rfl), by repeat (first | (with_reducible first | exact HB.out | apply below_alloc | apply pw_below_drewN | apply below_drew1 | refine below_set ?_ GE117.out | refine below_set ?_ GE118.out) | exact HB.out)⟩
    ·replace c8 := Bool.eq_false_iff.mpr c8
     subst c8
     have H1 : (some false) = some r := by rw [if_neg (show ¬ (false = true) by decide)] at H; exact H
     clear H
     have H := H1
     clear H1
     obtain rfl := Option.some.inj H
     go_enter Try.func69, Try.ntmps69
     go_wp2_with (first | ((with_reducible refine gate_dst (N := 2) rfl ?_); refine box_event ?hg (N := 2) ?hd (cs := #[.int .i64 a0_0, .int .i64 a0_1, .slice A0_2 l0_2.length c0_2, .slice A0_3 l0_3.length c0_3, .slice A0_4 l0_4.length c0_4, .slice A0_5 l0_5.length c0_5]) (t := 32) ?hr ?_; (case hd => rfl); (case hg => rfl); (case hr => first | (go_simp; done) | (go_simp; rfl)); intro gb117 hg w22 hbox hb; have n0_ := Aside0.mk (below_step (stB HB.out) hb); have n1_ := Aside0.mk (hbox); have n2_ := Aside0.mk ((by rw [hg]; exact (below_size (stB HB.out)) : w.heap.size ≤ gb117)); have n3_ := Aside0.mk ((by rw [hg]; exact (below_size (stB HB.out)) : w.heap.size ≤ gb117)); clear HB; have HB := n0_; have BK117 := n1_; have GW117 := n2_; have GE117 := n3_; clear n0_ n1_ n2_ n3_; clear hb hbox hg) | ((with_reducible refine gate_dst (N := 3) rfl ?_); refine box_event ?hg (N := 3) ?hd (cs := #[.int .i64 a1_0, .int .i64 a1_1, .slice A1_2 l1_2.length c1_2, .slice A1_3 l1_3.length c1_3, .slice A1_4 l1_4.length c1_4, .slice A1_5 l1_5.length c1_5]) (t := 32) ?hr ?_; (case hd => rfl); (case hg => rfl); (case hr => first | (go_simp; done) | (go_simp; rfl)); intro gb118 hg w23 hbox hb; have n0_ := Aside0.mk (blk_below (g := gb117) (o := .cells #[.int .i64 a0_0, .int .i64 a0_1, .slice A0_2 l0_2.length c0_2, .slice A0_3 l0_3.length c0_3, .slice A0_4 l0_4.length c0_4, .slice A0_5 l0_5.length c0_5] 32 (0, 0)) (stK BK117.out) hb); have n1_ := Aside0.mk (below_step (by repeat (first | (with_reducible first | exact HB.out | apply below_alloc | apply pw_below_drewN | apply below_drew1 | refine below_set ?_ GE117.out) | exact HB.out)) hb); have n2_ := Aside0.mk (hbox); have n3_ := Aside0.mk ((by rw [hg]; exact (below_size (by repeat (first | (with_reducible first | exact HB.out | apply below_alloc | apply pw_below_drewN | apply below_drew1 | refine below_set ?_ GE117.out) | exact HB.out))) : w.heap.size ≤ gb118)); have n4_ := Aside0.mk ((by rw [hg]; exact (below_size (by repeat (first | (with_reducible first | exact HB.out | apply below_alloc | apply pw_below_drewN | apply below_drew1 | refine below_set ?_ GE117.out) | exact HB.out))) : w.heap.size ≤ gb118)); have n5_ := Aside0.mk ((by rw [hg]; exact Nat.ne_of_lt (blk_lt (g := gb117) (o := .cells #[.int .i64 a0_0, .int .i64 a0_1, .slice A0_2 l0_2.length c0_2, .slice A0_3 l0_3.length c0_3, .slice A0_4 l0_4.length c0_4, .slice A0_5 l0_5.length c0_5] 32 (0, 0)) (stK BK117.out)) : gb117 ≠ gb118)); have n6_ := Aside0.mk ((by rw [hg]; exact Nat.ne_of_gt (blk_lt (g := gb117) (o := .cells #[.int .i64 a0_0, .int .i64 a0_1, .slice A0_2 l0_2.length c0_2, .slice A0_3 l0_3.length c0_3, .slice A0_4 l0_4.length c0_4, .slice A0_5 l0_5.length c0_5] 32 (0, 0)) (stK BK117.out)) : gb118 ≠ gb117)); clear BK117; clear HB; have BK117 := n0_; have HB := n1_; have BK118 := n2_; have GW118 := n3_; have GE118 := n4_; have NB117_118 := n5_; have NB118_117 := n6_; clear n0_ n1_ n2_ n3_ n4_ n5_ n6_; clear hb hbox hg; have hnb24 := NB117_118.out; have hnc24 := NB118_117.out; obtain ⟨hcz25_0, hcz25_1, hcz25_2, hcz25_3, hcz25_4, hcz25_5⟩ := bc6 BK117.out; obtain ⟨hfz25_0, hfz25_1, hfz25_2, hfz25_3, hfz25_4, hfz25_5⟩ := bf6 BK117.out; obtain ⟨hcz26_0, hcz26_1, hcz26_2, hcz26_3, hcz26_4, hcz26_5⟩ := bc6 BK118.out; obtain ⟨hfz26_0, hfz26_1, hfz26_2, hfz26_3, hfz26_4, hfz26_5⟩ := bf6 BK118.out) | (go_at_call 79; (with_reducible refine (bytes_Equal.calls _ _ l0_2 _ _ l1_2 true _ ?side1 ?side2 ?side3 ?side4 A5.out).mono ?_); (case side1 => exact stC (Kd.C_below HR0_2.out HB.out)); (case side2 => exact HC0_2.out); (case side3 => exact stC (Kd.C_below HR1_2.out HB.out)); (case side4 => exact HC1_2.out); rintro e w' ⟨rfl, ⟨nd, rfl⟩⟩) | (go_at_call 80; (with_reducible refine (slices_Equal_int64_int64.calls k _ _ l0_3 _ _ l1_3 false _ ?side1 ?side2 ?side3 ?side4 A7.out).mono ?_); (case side1 => repeat (first | exact (Kd.C_below HR0_3.out (by repeat (first | (with_reducible first | exact HB.out | apply below_alloc | apply pw_below_drewN | apply below_drew1 | refine below_set ?_ GE117.out | refine below_set ?_ GE118.out) | exact HB.out))) | (with_reducible refine Kd.C_alloc ?_ _) | (with_reducible refine Kd.C_drewN ?_ _) | (with_reducible refine Kd.C_drew ?_))); (case side2 => exact HC0_3.out); (case side3 => repeat (first | exact (Kd.C_below HR1_3.out (by repeat (first | (with_reducible first | exact HB.out | apply below_alloc | apply pw_below_drewN | apply below_drew1 | refine below_set ?_ GE117.out | refine below_set ?_ GE118.out) | exact HB.out))) | (with_reducible refine Kd.C_alloc ?_ _) | (with_reducible refine Kd.C_drewN ?_ _) | (with_reducible refine Kd.C_drew ?_))); (case side4 => exact HC1_3.out); rintro e w' ⟨rfl, ⟨nd, rfl⟩⟩))
     go_ret
     exact ⟨by first | rfl | (simp [errW_none, errW_some] <;> rfl) | (simp [*, errW_none, errW_some] <;> rfl), by repeat (first | (with_reducible first | exact HB.out | apply below_alloc | apply pw_below_drewN | apply below_drew1 | refine below_set ?_ GE117.out | refine below_set ?_ GE118.out) | exact HB.out)⟩
   ·replace c6 := Bool.eq_false_iff.mpr c6
    subst c6
    have H1 : (some false) = some r := by rw [if_neg (show ¬ (false = true) by decide)] at H; exact H
    clear H
    have H := H1
    clear H1
    obtain rfl := Option.some.inj H
    go_enter Try.func69, Try.ntmps69
    go_wp2_with (first | ((with_reducible refine gate_dst (N := 2) rfl ?_); refine box_event ?hg (N := 2) ?hd (cs := #[.int .i64 a0_0, .int .i64 a0_1, .slice A0_2 l0_2.length c0_2, .slice A0_3 l0_3.length c0_3, .slice A0_4 l0_4.length c0_4, .slice A0_5 l0_5.length c0_5]) (t := 32) ?hr ?_; (case hd => rfl); (case hg => rfl); (case hr => first | (go_simp; done) | (go_simp; rfl)); intro gb117 hg w27 hbox hb; have n0_ := Aside0.mk (below_step (stB HB.out) hb); have n1_ := Aside0.mk (hbox); have n2_ := Aside0.mk ((by rw [hg]; exact (below_size (stB HB.out)) : w.heap.size ≤ gb117)); have n3_ := Aside0.mk ((by rw [hg]; exact (below_size (stB HB.out)) : w.heap.size ≤ gb117)); clear HB; have HB := n0_; have BK117 := n1_; have GW117 := n2_; have GE117 := n3_; clear n0_ n1_ n2_ n3_; clear hb hbox hg) | ((with_reducible refine gate_dst (N := 3) rfl ?_); refine box_event ?hg (N := 3) ?hd (cs := #[.int .i64 a1_0, .int .i64 a1_1, .slice A1_2 l1_2.length c1_2, .slice A1_3 l1_3.length c1_3, .slice A1_4 l1_4.length c1_4, .slice A1_5 l1_5.length c1_5]) (t := 32) ?hr ?_; (case hd => rfl); (case hg => rfl); (case hr => first | (go_simp; done) | (go_simp; rfl)); intro gb118 hg w28 hbox hb; have n0_ := Aside0.mk (blk_below (g := gb117) (o := .cells #[.int .i64 a0_0, .int .i64 a0_1, .slice A0_2 l0_2.length c0_2, .slice A0_3 l0_3.length c0_3, .slice A0_4 l0_4.length c0_4, .slice A0_5 l0_5.length c0_5] 32 (0, 0)) (stK BK117.out) hb); have n1_ := Aside0.mk (below_step (by repeat (first | (with_reducible first | exact HB.out | apply below_alloc | apply pw_below_drewN | apply below_drew1 | refine below_set ?_ GE117.out) | exact HB.out)) hb); have n2_ := Aside0.mk (hbox); have n3_ := Aside0.mk ((by rw [hg]; exact (below_size (by repeat (first | (with_reducible first | exact HB.out | apply below_alloc | apply pw_below_drewN | apply below_drew1 | refine below_set ?_ GE117.out) | exact HB.out))) : w.heap.size ≤ gb118)); have n4_ := Aside0.mk ((by rw [hg]; exact (below_size (by repeat (first | (with_reducible first | exact HB.out | apply below_alloc | apply pw_below_drewN | apply below_drew1 | refine below_set ?_ GE117.out) | exact HB.out))) : w.heap.size ≤ gb118)); have n5_ := Aside0.mk ((by rw [hg]; exact Nat.ne_of_lt (blk_lt (g := gb117) (o := .cells #[.int .i64 a0_0, .int .i64 a0_1, .slice A0_2 l0_2.length c0_2, .slice A0_3 l0_3.length c0_3, .slice A0_4 l0_4.length c0_4, .slice A0_5 l0_5.length c0_5] 32 (0, 0)) (stK BK117.out)) : gb117 ≠ gb118)); have n6_ := Aside0.mk ((by rw [hg]; exact Nat.ne_of_gt (blk_lt (g := gb117) (o := .cells #[.int .i64 a0_0, .int .i64 a0_1, .slice A0_2 l0_2.length c0_2, .slice A0_3 l0_3.length c0_3, .slice A0_4 l0_4.length c0_4, .slice A0_5 l0_5.length c0_5] 32 (0, 0)) (stK BK117.out)) : gb118 ≠ gb117)); clear BK117; clear HB; have BK117 := n0_; have HB := n1_; have BK118 := n2_; have GW118 := n3_; have GE118 := n4_; have NB117_118 := n5_; have NB118_117 := n6_; clear n0_ n1_ n2_ n3_ n4_ n5_ n6_; clear hb hbox hg; have hnb29 := NB117_118.out; have hnc29 := NB118_117.out; obtain ⟨hcz30_0, hcz30_1, hcz30_2, hcz30_3, hcz30_4, hcz30_5⟩ := bc6 BK117.out; obtain ⟨hfz30_0, hfz30_1, hfz30_2, hfz30_3, hfz30_4, hfz30_5⟩ := bf6 BK117.out; obtain ⟨hcz31_0, hcz31_1, hcz31_2, hcz31_3, hcz31_4, hcz31_5⟩ := bc6 BK118.out; obtain ⟨hfz31_0, hfz31_1, hfz31_2, hfz31_3, hfz31_4, hfz31_5⟩ := bf6 BK118.out) | (go_at_call 79; (with_reducible refine (bytes_Equal.calls _ _ l0_2 _ _ l1_2 false _ ?side1 ?side2 ?side3 ?side4 A5.out).mono ?_); (case side1 => exact stC (Kd.C_below HR0_2.out HB.out)); (case side2 => exact HC0_2.out); (case side3 => exact stC (Kd.C_below HR1_2.out HB.out)); (case side4 => exact HC1_2.out); rintro e w' ⟨rfl, ⟨nd, rfl⟩⟩))
    go_ret
    exact ⟨by first | rfl | (simp [errW_none, errW_some] <;> rfl) | (simp [*, errW_none, errW_some] <;> rfl), by repeat (first | (with_reducible first | exact HB.out | apply below_alloc | apply pw_below_drewN | apply below_drew1 | refine below_set ?_ GE117.out | refine below_set ?_ GE118.out) | exact HB.out)⟩
  ·rw [if_neg c4] at H
   have c4b0 : (a0_1 == a1_1) = false := beq_eq_false_iff_ne.mpr c4
   have c4b1 : (a0_1 != a1_1) = true := bne_iff_ne.mpr c4
   obtain rfl := Option.some.inj H
   go_enter Try.func69, Try.ntmps69
   go_wp2_with (first | ((with_reducible refine gate_dst (N := 2) rfl ?_); refine box_event ?hg (N := 2) ?hd (cs := #[.int .i64 a0_0, .int .i64 a0_1, .slice A0_2 l0_2.length c0_2, .slice A0_3 l0_3.length c0_3, .slice A0_4 l0_4.length c0_4, .slice A0_5 l0_5.length c0_5]) (t := 32) ?hr ?_; (case hd => rfl); (case hg => rfl); (case hr => first | (go_simp; done) | (go_simp; rfl)); intro gb117 hg w32 hbox hb; have n0_ := Aside0.mk (below_step (stB HB.out) hb); have n1_ := Aside0.mk (hbox); have n2_ := Aside0.mk ((by rw [hg]; exact (below_size (stB HB.out)) : w.heap.size ≤ gb117)); have n3_ := Aside0.mk ((by rw [hg]; exact (below_size (stB HB.out)) : w.heap.size ≤ gb117)); clear HB; have HB := n0_; have BK117 := n1_; have GW117 := n2_; have GE117 := n3_; clear n0_ n1_ n2_ n3_; clear hb hbox hg) | ((with_reducible refine gate_dst (N := 3) rfl ?_); refine box_event ?hg (N := 3) ?hd (cs := #[.int .i64 a1_0, .int .i64 a1_1, .slice A1_2 l1_2.length c1_2, .slice A1_3 l1_3.length c1_3, .slice A1_4 l1_4.length c1_4, .slice A1_5 l1_5.length c1_5]) (t := 32) ?hr ?_; (case hd => rfl); (case hg => rfl); (case hr => first | (go_simp; done) | (go_simp; rfl)); intro gb118 hg w33 hbox hb; have n0_ := Aside0.mk (blk_below (g := gb117) (o := .cells #[.int .i64 a0_0, .int .i64 a0_1, .slice A0_2 l0_2.length c0_2, .slice A0_3 l0_3.length c0_3, .slice A0_4 l0_4.length c0_4, .slice A0_5 l0_5.length c0_5] 32 (0, 0)) (stK BK117.out) hb); have n1_ := Aside0.mk (below_step (by repeat (first | (with_reducible first | exact HB.out | apply below_alloc | apply pw_below_drewN | apply below_drew1 | refine below_set ?_ GE117.out) | exact HB.out)) hb); have n2_ := Aside0.mk (hbox); have n3_ := Aside0.mk ((by rw [hg]; exact (below_size (by repeat (first | (with_reducible first | exact HB.out | apply below_alloc | apply pw_below_drewN | apply below_drew1 | refine below_set ?_ GE117.out) | exact HB.out))) : w.heap.size ≤ gb118)); have n4_ := Aside0.mk ((by rw [hg]; exact (below_size (by repeat (first | (with_reducible first | exact HB.out | apply below_alloc | apply pw_below_drewN | apply below_drew1 | refine below_set ?_ GE117.out) | exact HB.out))) : w.heap.size ≤ gb118)); have n5_ := Aside0.mk ((by rw [hg]; exact Nat.ne_of_lt (blk_lt (g := gb117) (o := .cells #[.int .i64 a0_0, .int .i64 a0_1, .slice A0_2 l0_2.length c0_2, .slice A0_3 l0_3.length c0_3, .slice A0_4 l0_4.length c0_4, .slice A0_5 l0_5.length c0_5] 32 (0, 0)) (stK BK117.out)) : gb117 ≠ gb118)); have n6_ := Aside0.mk ((by rw [hg]; exact Nat.ne_of_gt (blk_lt (g := gb117) (o := .cells #[.int .i64 a0_0, .int .i64 a0_1, .slice A0_2 l0_2.length c0_2, .slice A0_3 l0_3.length c0_3, .slice A0_4 l0_4.length c0_4, .slice A0_5 l0_5.length c0_5] 32 (0, 0)) (stK BK117.out)) : gb118 ≠ gb117)); clear BK117; clear HB; have BK117 := n0_; have HB := n1_; have BK118 := n2_; have GW118 := n3_; have GE118 := n4_; have NB117_118 := n5_; have NB118_117 := n6_; clear n0_ n1_ n2_ n3_ n4_ n5_ n6_; clear hb hbox hg; have hnb34 := NB117_118.out; have hnc34 := NB118_117.out; obtain ⟨hcz35_0, hcz35_1, hcz35_2, hcz35_3, hcz35_4, hcz35_5⟩ := bc6 BK117.out; obtain ⟨hfz35_0, hfz35_1, hfz35_2, hfz35_3, hfz35_4, hfz35_5⟩ := bf6 BK117.out; obtain ⟨hcz36_0, hcz36_1, hcz36_2, hcz36_3, hcz36_4, hcz36_5⟩ := bc6 BK118.out; obtain ⟨hfz36_0, hfz36_1, hfz36_2, hfz36_3, hfz36_4, hfz36_5⟩ := bf6 BK118.out))
   go_ret
   exact ⟨by first | rfl | (simp [errW_none, errW_some] <;> rfl) | (simp [*, errW_none, errW_some] <;> rfl), by repeat (first | (with_reducible first | exact HB.out | apply below_alloc | apply pw_below_drewN | apply below_drew1 | refine below_set ?_ GE117.out | refine below_set ?_ GE118.out) | exact HB.out)⟩
 ·rw [if_neg c3] at H
  have c3b0 : (a0_0 == a1_0) = false := beq_eq_false_iff_ne.mpr c3
  have c3b1 : (a0_0 != a1_0) = true := bne_iff_ne.mpr c3
  obtain rfl := Option.some.inj H
  go_enter Try.func69, Try.ntmps69
  go_wp2_with (first | ((with_reducible refine gate_dst (N := 2) rfl ?_); refine box_event ?hg (N := 2) ?hd (cs := #[.int .i64 a0_0, .int .i64 a0_1, .slice A0_2 l0_2.length c0_2, .slice A0_3 l0_3.length c0_3, .slice A0_4 l0_4.length c0_4, .slice A0_5 l0_5.length c0_5]) (t := 32) ?hr ?_; (case hd => rfl); (case hg => rfl); (case hr => first | (go_simp; done) | (go_simp; rfl)); intro gb117 hg w37 hbox hb; have n0_ := Aside0.mk (below_step (stB HB.out) hb); have n1_ := Aside0.mk (hbox); have n2_ := Aside0.mk ((by rw [hg]; exact (below_size (stB HB.out)) : w.heap.size ≤ gb117)); have n3_ := Aside0.mk ((by rw [hg]; exact (below_size (stB HB.out)) : w.heap.size ≤ gb117)); clear HB; have HB := n0_; have BK117 := n1_; have GW117 := n2_; have GE117 := n3_; clear n0_ n1_ n2_ n3_; clear hb hbox hg) | ((with_reducible refine gate_dst (N := 3) rfl ?_); refine box_event ?hg (N := 3) ?hd (cs := #[.int .i64 a1_0, .int .i64 a1_1, .slice A1_2 l1_2.length c1_2, .slice A1_3 l1_3.length c1_3, .slice A1_4 l1_4.length c1_4, .slice A1_5 l1_5.length c1_5]) (t := 32) ?hr ?_; (case hd => rfl); (case hg => rfl); (case hr => first | (go_simp; done) | (go_simp; rfl)); intro gb118 hg w38 hbox hb; have n0_ := Aside0.mk (blk_below (g := gb117) (o := .cells #[.int .i64 a0_0, .int .i64 a0_1, .slice A0_2 l0_2.length c0_2, .slice A0_3 l0_3.length c0_3, .slice A0_4 l0_4.length c0_4, .slice A0_5 l0_5.length c0_5] 32 (0, 0)) (stK BK117.out) hb); have n1_ := Aside0.mk (below_step (by repeat (first | (with_reducible first | exact HB.out | apply below_alloc | apply pw_below_drewN | apply below_drew1 | refine below_set ?_ GE117.out) | exact HB.out)) hb); have n2_ := Aside0.mk (hbox); have n3_ := Aside0.mk ((by rw [hg]; exact (below_size (by repeat (first | (with_reducible first | exact HB.out | apply below_alloc | apply pw_below_drewN | apply below_drew1 | refine below_set ?_ GE117.out) | exact HB.out))) : w.heap.size ≤ gb118)); have n4_ := Aside0.mk ((by rw [hg]; exact (below_size (by repeat (first | (with_reducible first | exact HB.out | apply below_alloc | apply pw_below_drewN | apply below_drew1 | refine below_set ?_ GE117.out) | exact HB.out))) : w.heap.size ≤ gb118)); have n5_ := Aside0.mk ((by rw [hg]; exact Nat.ne_of_lt (blk_lt (g := gb117) (o := .cells #[.int .i64 a0_0, .int .i64 a0_1, .slice A0_2 l0_2.length c0_2, .slice A0_3 l0_3.length c0_3, .slice A0_4 l0_4.length c0_4, .slice A0_5 l0_5.length c0_5] 32 (0, 0)) (stK BK117.out)) : gb117 ≠ gb118)); have n6_ := Aside0.mk ((by rw [hg]; exact Nat.ne_of_gt (blk_lt (g := gb117) (o := .cells #[.int .i64 a0_0, .int .i64 a0_1, .slice A0_2 l0_2.length c0_2, .slice A0_3 l0_3.length c0_3, .slice A0_4 l0_4.length c0_4, .slice A0_5 l0_5.length c0_5] 32 (0, 0)) (stK BK117.out)) : gb118 ≠ gb117)); clear BK117; clear HB; have BK117 := n0_; have HB := n1_; have BK118 := n2_; have GW118 := n3_; have GE118 := n4_; have NB117_118 := n5_; have NB118_117 := n6_; clear n0_ n1_ n2_ n3_ n4_ n5_ n6_; clear hb hbox hg; have hnb39 := NB117_118.out; have hnc39 := NB118_117.out; obtain ⟨hcz40_0, hcz40_1, hcz40_2, hcz40_3, hcz40_4, hcz40_5⟩ := bc6 BK117.out; obtain ⟨hfz40_0, hfz40_1, hfz40_2, hfz40_3, hfz40_4, hfz40_5⟩ := bf6 BK117.out; obtain ⟨hcz41_0, hcz41_1, hcz41_2, hcz41_3, hcz41_4, hcz41_5⟩ := bc6 BK118.out; obtain ⟨hfz41_0, hfz41_1, hfz41_2, hfz41_3, hfz41_4, hfz41_5⟩ := bf6 BK118.out))
  go_ret
  exact ⟨by first | rfl | (simp [errW_none, errW_some] <;> rfl) | (simp [*, errW_none, errW_some] <;> rfl), by repeat (first | (with_reducible first | exact HB.out | apply below_alloc | apply pw_below_drewN | apply below_drew1 | refine below_set ?_ GE117.out | refine below_set ?_ GE118.out) | exact HB.out)⟩
end Go.Proofs.Ytgmlpmdfkaadhaa.G
end

section
-- Written by a program of this session's (wip/gprint.py over the kit's printer).
namespace Go.Proofs.Ytgmlpmdfkaadhaa.G
open Go.RowKit Go.Proofs.YtgmlpmdfkaadhaaW.PrintWords Go.Proofs.YtgmlpmdfkaadhaaW.PrintLast Go.Proofs.YtgmlpmdfkaadhaaW.PrintMore
attribute [local go_sem] max2_int min2_int max_two min_two max_three min_three max_four min_four   -- for this text's walks alone
attribute [local go_sem high] eqA54
end Go.Proofs.Ytgmlpmdfkaadhaa.G
end

section
-- Written by a program of this session's (wip/gprint.py over the kit's printer).
namespace Go.Proofs.Ytgmlpmdfkaadhaa.G
open Go.RowKit Go.Proofs.YtgmlpmdfkaadhaaW.PrintWords Go.Proofs.YtgmlpmdfkaadhaaW.PrintLast Go.Proofs.YtgmlpmdfkaadhaaW.PrintMore
attribute [local go_sem] max2_int min2_int max_two min_two max_three min_three max_four min_four   -- for this text's walks alone
end Go.Proofs.Ytgmlpmdfkaadhaa.G
end

section
/- Transactions and entries that are the same: in plain Lean. -/
namespace Go.Proofs.Ytgmlpmdfkaadhaa.M
open Go.RowKit Go.Proofs.YtgmlpmdfkaadhaaW.PrintWords Go.Proofs.YtgmlpmdfkaadhaaW.PrintLast Go.Proofs.YtgmlpmdfkaadhaaW.PrintMore Go.Proofs.Ytgmlpmdfkaadhaa.G
abbrev KeyD := G.S54
abbrev TxD := G.S32
theorem keyD_ext {a b : KeyD} (h : a.f0 = b.f0) (h1 : a.f1 = b.f1) : a = b := by cases a; cases b; simp_all
instance : DecidableEq KeyD := fun a b => if h : a.f0 = b.f0 ∧ a.f1 = b.f1 then .isTrue (keyD_ext h.1 h.2) else .isFalse (fun e => h (by rw [e]; exact ⟨rfl, rfl⟩))
theorem drop_cons {α : Type} {a : List α} {i : Nat} {x : α} (h : a[i]? = some x) : a.drop i = x :: a.drop (i + 1) := by
 have hl := (List.getElem?_eq_some_iff.1 h).1
 rw [List.drop_eq_getElem_cons hl]
 congr 1
 exact (List.getElem?_eq_some_iff.1 h).2
def eqS (a b : List Int) : Bool := (strOfNums a).toList == (strOfNums b).toList
def eqTx (a b : TxD) : Bool := a.f0 == b.f0 && (a.f1 == b.f1 && (eqS a.f2 b.f2 && (decide (a.f3 = b.f3) && (decide (a.f4 = b.f4) && decide (a.f5 = b.f5)))))
def eqTs : List TxD → List TxD → Bool
 | a :: r, b :: s => eqTx a b && eqTs r s
 | [], [] => true
 | _, _ => false
def eqEn (k f n : Int) (l : List TxD) (k' f' n' : Int) (l' : List TxD) : Bool := k == k' && (f == f' && (n == n' && eqTs l l'))
theorem eqTs_len : ∀ {a b : List TxD}, a.length ≠ b.length → eqTs a b = false
 | a :: r, b :: s, h => by
  unfold eqTs
  rw [eqTs_len (by simpa using h), Bool.and_false]
 | [], [], h => absurd rfl h
 | a :: r, [], _ => rfl
 | [], b :: s, _ => rfl
theorem eq_pi : ∀ (k : Nat) (a b : List Int) (i : Nat), a.length < i + k → i ≤ a.length → a.length = b.length → a.length ≤ 9223372036854775807 → G.slices_Equal_int64_int64.l0 k a b (a.length : Int) (i : Int) = some (decide (a.drop i = b.drop i))
 | 0, a, b, i, hk, hi, _, _ => by omega
 | k + 1, a, b, i, hk, hi, hl, hm => by
  simp only [G.slices_Equal_int64_int64.l0]
  by_cases hlt : i < a.length
  ·obtain ⟨x, hx⟩ : ∃ x, a[i]? = some x := ⟨_, List.getElem?_eq_getElem hlt⟩
   obtain ⟨y, hy⟩ : ∃ y, b[i]? = some y := ⟨_, List.getElem?_eq_getElem (by omega)⟩
   have r1 : rd a (i : Int) = x := by unfold rd; rw [Int.toNat_natCast, List.getD_eq_getElem?_getD, hx]; rfl
   have r2 : rd b (i : Int) = y := by unfold rd; rw [Int.toNat_natCast, List.getD_eq_getElem?_getD, hy]; rfl
   have d1 := drop_cons hx
   have d2 := drop_cons hy
   have hw : wrap64 ((i : Int) + 1) = ((i + 1 : Nat) : Int) := by unfold wrap64; omega
   rw [if_pos (by omega : (i : Int) < (a.length : Int)), if_pos (by omega : (0 : Int) ≤ (i : Int)), if_pos (by omega : (i : Int) < (a.length : Int)), if_pos (by omega : (i : Int) < (b.length : Int))]
   rw [r1, r2]
   by_cases e : x = y
   ·rw [if_pos e, hw, eq_pi k a b (i + 1) (by omega) (by omega) hl hm]
    congr 1
    rw [d1, d2, e]
    simp
   ·rw [if_neg e, d1, d2]
    simp [e]
  ·rw [if_neg (by omega), List.drop_of_length_le (by omega), List.drop_of_length_le (by omega)]
   simp
theorem eq_pi_f (k : Nat) (a b : List Int) (hk : a.length < k) (hm : a.length ≤ 9223372036854775807) : G.slices_Equal_int64_int64.f k a b = some (decide (a = b)) := by
 unfold G.slices_Equal_int64_int64.f
 by_cases h : a.length = b.length
 ·rw [if_pos (by omega)]
  have := eq_pi k a b 0 (by omega) (by omega) h hm
  simpa using this
 ·rw [if_neg (by omega)]
  congr 1
  exact (decide_eq_false (fun e => h (by rw [e]))).symm
theorem eq_pk : ∀ (k : Nat) (a b : List KeyD) (i : Nat), a.length < i + k → i ≤ a.length → a.length = b.length → a.length ≤ 9223372036854775807 → G.api_Key_81.l0 k a b (a.length : Int) (i : Int) = some (decide (a.drop i = b.drop i))
 | 0, a, b, i, hk, hi, _, _ => by omega
 | k + 1, a, b, i, hk, hi, hl, hm => by
  simp only [G.api_Key_81.l0]
  by_cases hlt : i < a.length
  ·obtain ⟨x, hx⟩ : ∃ x, a[i]? = some x := ⟨_, List.getElem?_eq_getElem hlt⟩
   obtain ⟨y, hy⟩ : ∃ y, b[i]? = some y := ⟨_, List.getElem?_eq_getElem (by omega)⟩
   have r1 : G.rd_T54 a (i : Int) = x := by unfold G.rd_T54; rw [Int.toNat_natCast, List.getD_eq_getElem?_getD, hx]; rfl
   have r2 : G.rd_T54 b (i : Int) = y := by unfold G.rd_T54; rw [Int.toNat_natCast, List.getD_eq_getElem?_getD, hy]; rfl
   have d1 := drop_cons hx
   have d2 := drop_cons hy
   have hw : wrap64 ((i : Int) + 1) = ((i + 1 : Nat) : Int) := by unfold wrap64; omega
   rw [if_pos (by omega : (i : Int) < (a.length : Int)), if_pos (by omega : (0 : Int) ≤ (i : Int)), if_pos (by omega : (i : Int) < (a.length : Int)), if_pos (by omega : (i : Int) < (b.length : Int))]
   by_cases e : x = y
   ·have e1 : (!(((G.rd_T54 a (i : Int)).f0) == ((G.rd_T54 b (i : Int)).f0)) || (!(((G.rd_T54 a (i : Int)).f1) == ((G.rd_T54 b (i : Int)).f1)))) = false := by rw [r1, r2, e]; simp
    rw [e1]
    simp only [Bool.false_eq_true, if_false]
    rw [hw, eq_pk k a b (i + 1) (by omega) (by omega) hl hm]
    congr 1
    rw [d1, d2, e]
    simp
   ·have e1 : (!(((G.rd_T54 a (i : Int)).f0) == ((G.rd_T54 b (i : Int)).f0)) || (!(((G.rd_T54 a (i : Int)).f1) == ((G.rd_T54 b (i : Int)).f1)))) = true := by
     rw [r1, r2]
     rw [← Bool.not_eq_false]
     intro h
     simp only [Bool.or_eq_false_iff, Bool.not_eq_false', beq_iff_eq] at h
     exact e (keyD_ext h.1 h.2)
    rw [if_pos e1, d1, d2]
    simp [e]
  ·rw [if_neg (by omega), List.drop_of_length_le (by omega), List.drop_of_length_le (by omega)]
   simp
theorem eq_pk_f (k : Nat) (a b : List KeyD) (hk : a.length < k) (hm : a.length ≤ 9223372036854775807) : G.api_Key_81.f k a b = some (decide (a = b)) := by
 unfold G.api_Key_81.f
 by_cases h : a.length = b.length
 ·rw [if_pos (by omega)]
  have := eq_pk k a b 0 (by omega) (by omega) h hm
  simpa using this
 ·rw [if_neg (by omega)]
  congr 1
  exact (decide_eq_false (fun e => h (by rw [e]))).symm
def TxLe (t : TxD) (n : Nat) : Prop := t.f2.length ≤ n ∧ t.f3.length ≤ n ∧ t.f4.length ≤ n ∧ t.f5.length ≤ n
theorem sameTxn_p (k : Nat) (a b : TxD) (h : TxLe a 9223372036854775807) (hk : a.f3.length < k ∧ a.f4.length < k ∧ a.f5.length < k) : G.record_SameTxn.f k a.f0 a.f1 a.f2 a.f3 a.f4 a.f5 b.f0 b.f1 b.f2 b.f3 b.f4 b.f5 = some (eqTx a b) := by
 unfold G.record_SameTxn.f eqTx G.bytes_Equal.f
 rw [eq_pi_f k a.f3 b.f3 hk.1 h.2.1, eq_pk_f k a.f4 b.f4 hk.2.1 h.2.2.1, eq_pk_f k a.f5 b.f5 hk.2.2 h.2.2.2]
 simp only [Option.bind_some]
 by_cases h0 : a.f0 = b.f0
 ·by_cases h1 : a.f1 = b.f1
  ·rw [if_pos h0, if_pos h1]
   cases h2 : eqS a.f2 b.f2 <;> cases h3 : decide (a.f3 = b.f3) <;> cases h4 : decide (a.f4 = b.f4) <;> unfold eqS at h2 <;> simp [h0, h1, h2]
  ·rw [if_pos h0, if_neg h1]; simp [h1]
 ·rw [if_neg h0]; simp [h0]
end Go.Proofs.Ytgmlpmdfkaadhaa.M
end

section
/- slices.IsSortedFunc of keys. -/
attribute [local irreducible] Go.wpStill
namespace Go.Proofs.Ytgmlpmdfkaadhaa.M
open Go.RowKit Go.Proofs.YtgmlpmdfkaadhaaW.PrintWords Go.Proofs.YtgmlpmdfkaadhaaW.PrintLast Go.Proofs.YtgmlpmdfkaadhaaW.PrintMore Go.Proofs.Ytgmlpmdfkaadhaa.G
def kv (x : KeyD) : Int × Int := (x.f0, x.f1)
theorem keyd_get {W : World} {A : Option Addr} {n : Nat} {l : List KeyD} (h : Kd.C G.k54 W A n l) {k : Nat} {x : KeyD} (hk : l[k]? = some x) :
  ∃ ad, A = some ad ∧ W.cell? (ad.add (k * 2)) = some (.int .i32 x.f0) ∧ W.cell? ⟨(ad.add (k * 2)).block, (ad.add (k * 2)).off + 1, none⟩ = some (.int .i64 x.f1) := by
 have hlt : k < n := by
  have := (List.getElem?_eq_some_iff.1 hk).1
  have := h.1
  omega
 obtain ⟨ad, c, rfl, hcl, hK, hcc⟩ := Kd.C_get h G.z54 (k : Int) (by omega) (by omega)
 have e : l.getD (k : Int).toNat G.z54 = x := by rw [Int.toNat_natCast, List.getD_eq_getElem?_getD, hk]; rfl
 rw [e] at hK
 rw [Int.toNat_natCast] at hcc
 have hc := G.k54_open hK
 have hs : G.k54.sz = 2 := rfl
 rw [hs] at hcc
 refine ⟨ad, rfl, by simpa using hcc 0 _ (by rw [hc]; rfl), ?_⟩
 rw [← add_field ad (k * 2) 1 (by omega)]; exact hcc 1 _ (by rw [hc]; rfl)
def ndFrom (l : List KeyD) (i : Nat) : Prop := ∀ (j : Nat) (x y : KeyD), i ≤ j → l[j]? = some x → l[j + 1]? = some y → kLt (kv y) (kv x) = false
def SoI (l : List KeyD) (w : World) (i : Value) (wr : World) : Prop := ∃ k : Int, i = .int .i64 k ∧ k < l.length ∧ -1 ≤ k ∧ ndFrom l k.toNat ∧ Below w.heap.size w wr
def SoV (l : List KeyD) (w : World) (e : Ending) (w' : World) : Prop := ∃ b : Bool, e = .returned (.bool b) ∧ (b = true ↔ ndFrom l 0) ∧ Below w.heap.size w w'
set_option maxHeartbeats 1000000 in
theorem sorted_is (A : Option Addr) (c : Nat) (l : List KeyD) (w : World) (hr : Kd.C G.k54 w A l.length l) :
  Calls Try.prog 83 #[.slice A l.length c, .func (.func 84) #[] #[]] w fun e w' => SoV l w e w' := by
 have hn : l.length ≤ 9223372036854775807 := hr.2.1
 have HR := Lib.hid hr
 clear hr
 go_enter Try.func83, Try.ntmps83
 go_wp2_with fail
 go_loopw [5] (fun i wr => SoI l w i wr) (fun i _ => (intOf i).toNat)
 case atStart =>
  refine ⟨(l.length : Int) - 1, rfl, by omega, by omega, fun j x y hj hx hy => ?_, Below.refl _ _⟩
  have := (List.getElem?_eq_some_iff.1 hy).1
  omega
 case round =>
  obtain ⟨k, rfl, hk, hk0, hnd, hb⟩ := hrel
  have HND := Lib.hid hnd; have HBr := Lib.hid hb
  clear hnd hb
  by_cases hlt : 0 < k
  ·obtain ⟨m, rfl⟩ : ∃ m : Nat, k = (m : Int) + 1 := ⟨(k - 1).toNat, by omega⟩
   obtain ⟨y, hy⟩ : ∃ y, l[m + 1]? = some y := ⟨_, List.getElem?_eq_getElem (by omega)⟩
   obtain ⟨x, hx⟩ : ∃ x, l[m]? = some x := ⟨_, List.getElem?_eq_getElem (by omega)⟩
   have hC := Kd.C_below HR.out HBr.out
   obtain ⟨ad, rfl, hy0, hy1⟩ := keyd_get hC hy
   obtain ⟨ad', e', hx0, hx1⟩ := keyd_get hC hx
   cases e'
   have HX := Lib.hid hx; have HY := Lib.hid hy
   have e1 : ((m : Int) + 1).toNat = m + 1 := by omega
   have e2 : IntKind.i64.wrap (m : Int) = (m : Int) := by rw [IntKind.wrap_i64]; omega
   have e3 : ((m : Int)).toNat = m := by omega
   have g0 : (0 : Int) ≤ (m : Int) + 1 := by omega
   have g1 : (m : Int) + 1 < (l.length : Int) := by omega
   have g2 : (m : Int) < (l.length : Int) := by omega
   have g3 : (0 : Int) ≤ (m : Int) := by omega
   clear hC hx hy
   go_wp2_with fail
   refine wp_region_still_tail 10 (by kernel_rfl) (by kernel_rfl) ?_
   simp only [List.take_succ_cons, List.take_zero, List.drop_succ_cons, List.drop_zero]
   iterate 10 still_step
   refine wpStill_nil ?_
   change wpList _ _ _ _ _ wr.drew
   go_wp2_with fail
   refine (compare_is (kv y) (kv x) _).mono ?_
   rintro e w' ⟨rfl, hb⟩
   have HB2 := Lib.hid (show Below w.heap.size w w' from (HBr.out.drew).trans (hb.mono (by simpa using HBr.out.size)))
   have HNG := Lib.hid (cmpK_neg (kv y) (kv x))
   obtain ⟨r, hr⟩ : ∃ r, cmpK (kv y) (kv x) = r := ⟨_, rfl⟩
   rw [hr] at HNG ⊢
   clear hr hb
   by_cases hr0 : r < 0
   ·have hrb : decide (r < 0) = true := decide_eq_true hr0
    have HN := Lib.hid (show ¬ ndFrom l 0 from fun h => by
     have := h m x y (Nat.zero_le _) HX.out HY.out
     rw [HNG.out.1 hr0] at this
     cases this)
    clear hr0
    go_wp2_with fail
    go_ret
    exact ⟨false, rfl, ⟨(fun h => by cases h), fun h => absurd h HN.out⟩, HB2.out⟩
   ·have hrb : decide (r < 0) = false := decide_eq_false hr0
    have HN := Lib.hid (show ndFrom l m from fun j a b hj ha hb => by
     rcases Nat.lt_or_ge m j with h | h
     ·exact HND.out j a b (by omega) ha hb
     ·obtain rfl : j = m := by omega
      rw [HX.out] at ha
      rw [HY.out] at hb
      cases ha
      cases hb
      rw [← Bool.not_eq_true]
      exact fun e => hr0 (HNG.out.2 e))
    clear hr0
    go_wp2_with fail
    go_roundw
    case rel => exact ⟨m, rfl, by omega, by omega, HN.out, HB2.out⟩
    case measure => simp [intOf]
  ·have hlt' : decide (0 < k) = false := decide_eq_false hlt
   have HN := Lib.hid (show ndFrom l 0 by have := HND.out; rwa [show k.toNat = 0 by omega] at this)
   clear hlt
   go_wp2_with fail
   go_ret
   exact ⟨true, rfl, ⟨fun _ => HN.out, fun _ => rfl⟩, HBr.out⟩
end Go.Proofs.Ytgmlpmdfkaadhaa.M
end

section
/- slices.Clone of numbers and of keys. -/
namespace Go.Proofs.Ytgmlpmdfkaadhaa.M
open Go.RowKit Go.Proofs.YtgmlpmdfkaadhaaW.PrintWords Go.Proofs.YtgmlpmdfkaadhaaW.PrintLast Go.Proofs.YtgmlpmdfkaadhaaW.PrintMore
theorem C_none' {α : Type} {d : Kd α} {w : World} {n : Nat} {xs : List α} (h : Kd.C d w none n xs) : n = 0 ∧ xs = [] := by
 have hn : n = 0 := by
  rcases Nat.eq_zero_or_pos n with h0 | h0
  ·exact h0
  ·obtain ⟨ad, e, _⟩ := h.2.2 h0
   cases e
 exact ⟨hn, List.eq_nil_of_length_eq_zero (h.1.trans hn)⟩
theorem R_empty {α : Type} (d : Kd α) (e : Nat) (w : World) : Kd.R d e (w.alloc (.cells #[] e)) w.heap.size (fun _ => True) (.slice (some ⟨w.heap.size, 0, none⟩) 0 0) [] := by
 refine ⟨fun _ _ => trivial, [], ?_, ?_⟩
 ·exact ⟨by simp, .inr ⟨w.heap.size, 0, #[], rfl, Nat.le_refl _, heap_alloc_new w _, Nat.le_refl _, Nat.zero_le _, by simp, by simp⟩⟩
 ·exact Reps.none _ _
theorem infoI64 : (Try.prog.info? 2).map (fun i => (i.zero, i.size, i.bytes)) = some (some (.int .i64 0), 1, 8) := by kernel_rfl
theorem infoKey : (Try.prog.info? 54).map (fun i => (i.zero, i.size, i.bytes)) = some (some (.agg #[.int .i32 0, .int .i64 0]), 2, 16) := by kernel_rfl
theorem clone_ints (A : Option Addr) (c : Nat) (l : List Int) (w : World) (hr : Kd.C (Kd.int .i64) w A l.length l) (hc : l.length ≤ c) (hl : l.length < 17592186044416) :
  Calls Try.prog 46 #[.slice A l.length c] w fun e w' => ∃ v0_ : Value, e = .returned v0_ ∧ Kd.R (Kd.int .i64) 2 w' w.heap.size (fun _ => True) v0_ l ∧ Below w.heap.size w w' := by
 have qT : ∀ (w : World) (a : Option Addr) (n c n' c' : Nat), (binOp .eql 29 (.slice a n c) (.slice none n' c')).run Try.prog w = .ok (.bool a.isNone) w := fun w a n c n' c' => Lib.run_eql_slice_nil w _ _ a n c n' c' Try.underlying29
 have HR := Aside0.mk hr
 have HL := Aside0.mk hl
 clear hr hl
 rcases A with _ | ad
 ·obtain ⟨_, rfl⟩ := C_none' HR.out
  go_enter Try.func46, Try.ntmps46
  go_wp2
  go_ret
  exact ⟨_, rfl, Kd.R_nil _ _ _ _ _, Below.refl _ _⟩
 ·go_enter Try.func46, Try.ntmps46
  have HE := Aside0.mk (R_empty (Kd.int .i64) 2 w)
  go_wp2_with ((with_reducible refine gate_builtin (b := .append) (xs := #[.tmp 5, .tmp 6]) rfl ?_); at_builtin; refine Kd.R_append_rows (Kd.int .i64) (w0 := w) w.heap.size rfl (.tmp 5) (.tmp 6) 29 2 (.int .i64 0) 8 rfl Try.underlying29 infoI64 rfl (by decide) (by omega) _ ([] : List Int) l _ _ _ (fun _ => True) (fun _ => False) rfl rfl HE.out (Kd.C_alloc HR.out _) (fun _ _ h => h) (fun _ h => h.elim) (fun _ _ => trivial) ((Below.refl _ _).alloc (Nat.le_refl _) _) (by simp) (by have := HL.out; simp; omega) ?_; intro v1 w1 ho hb _ _)
  go_ret
  exact ⟨_, rfl, ho, hb⟩
theorem clone_keys (A : Option Addr) (c : Nat) (l : List (G.S54)) (w : World) (hr : Kd.C G.k54 w A l.length l) (hc : l.length ≤ c) (hl : l.length < 8796093022208) :
  Calls Try.prog 47 #[.slice A l.length c] w fun e w' => ∃ v0_ : Value, e = .returned v0_ ∧ Kd.R G.k54 54 w' w.heap.size (fun _ => True) v0_ l ∧ Below w.heap.size w w' := by
 have qT : ∀ (w : World) (a : Option Addr) (n c n' c' : Nat), (binOp .eql 30 (.slice a n c) (.slice none n' c')).run Try.prog w = .ok (.bool a.isNone) w := fun w a n c n' c' => Lib.run_eql_slice_nil w _ _ a n c n' c' Try.underlying30
 have HR := Aside0.mk hr
 have HL := Aside0.mk hl
 clear hr hl
 rcases A with _ | ad
 ·obtain ⟨_, rfl⟩ := C_none' HR.out
  go_enter Try.func47, Try.ntmps47
  go_wp2
  go_ret
  exact ⟨_, rfl, Kd.R_nil _ _ _ _ _, Below.refl _ _⟩
 ·go_enter Try.func47, Try.ntmps47
  have HE := Aside0.mk (R_empty G.k54 54 w)
  go_wp2_with ((with_reducible refine gate_builtin (b := .append) (xs := #[.tmp 5, .tmp 6]) rfl ?_); at_builtin; refine Kd.R_append_rows G.k54 (w0 := w) w.heap.size rfl (.tmp 5) (.tmp 6) 30 54 (.agg #[.int .i32 0, .int .i64 0]) 16 rfl Try.underlying30 infoKey rfl (by decide) (by omega) _ ([] : List (G.S54)) l _ _ _ (fun _ => True) (fun _ => False) rfl rfl HE.out (Kd.C_alloc HR.out _) (fun x cs h => (by rw [G.k54_open h]; exact G.k54_mkM _ _ _ _)) (fun _ h => h.elim) (fun _ _ => trivial) ((Below.refl _ _).alloc (Nat.le_refl _) _) (by simp) (by have := HL.out; simp; omega) ?_; intro v1 w1 ho hb _ _)
  go_ret
  exact ⟨_, rfl, ho, hb⟩
end Go.Proofs.Ytgmlpmdfkaadhaa.M
namespace Go.Proofs.Ytgmlpmdfkaadhaa.G
open Go.RowKit Go.Proofs.YtgmlpmdfkaadhaaW.PrintWords Go.Proofs.Ytgmlpmdfkaadhaa.M
def slices_Clone_int64_int64.f (l0 : List Int) : Option (List Int) := if l0.length < 17592186044416 then some l0 else none
theorem slices_Clone_int64_int64.calls (A0 : Option Addr) (c0 : Nat) (l0 : List Int) (r : List Int) (w : World) (hr0 : Kd.C (Kd.int .i64) w A0 l0.length l0) (hc0 : l0.length ≤ c0) (h : slices_Clone_int64_int64.f l0 = some r) :
  Calls Try.prog 46 #[.slice A0 l0.length c0] w fun e w' => ∃ v0_ : Value, e = .returned v0_ ∧ Kd.R (Kd.int .i64) 2 w' w.heap.size (fun _ => True) v0_ r ∧ Below w.heap.size w w' := by
 unfold slices_Clone_int64_int64.f at h
 split at h
 ·obtain rfl := Option.some.inj h
  exact clone_ints A0 c0 l0 w hr0 hc0 (by assumption)
 ·cases h
def api_Key_47.f (l0 : List S54) : Option (List S54) := if l0.length < 8796093022208 then some l0 else none
theorem api_Key_47.calls (A0 : Option Addr) (c0 : Nat) (l0 : List S54) (r : List S54) (w : World) (hr0 : Kd.C k54 w A0 l0.length l0) (hc0 : l0.length ≤ c0) (h : api_Key_47.f l0 = some r) :
  Calls Try.prog 47 #[.slice A0 l0.length c0] w fun e w' => ∃ v0_ : Value, e = .returned v0_ ∧ Kd.R k54 54 w' w.heap.size (fun _ => True) v0_ r ∧ Below w.heap.size w w' := by
 unfold api_Key_47.f at h
 split at h
 ·obtain rfl := Option.some.inj h
  exact clone_keys A0 c0 l0 w hr0 hc0 (by assumption)
 ·cases h
end Go.Proofs.Ytgmlpmdfkaadhaa.G
end

section
/- What has turned lies in the blocks of S, or is new. -/
namespace Go.Proofs.Ytgmlpmdfkaadhaa.M
open Go.RowKit Go.Proofs.YtgmlpmdfkaadhaaW.PrintWords
structure KeepS (S : Nat → Prop) (w w' : World) : Prop where
 os : w'.os = w.os
 tape : w'.tape = w.tape
 output : w'.output = w.output
 size : w.heap.size ≤ w'.heap.size
 block : ∀ i, i < w.heap.size → ¬ S i → w'.heap[i]? = w.heap[i]?
namespace KeepS
variable {S S' : Nat → Prop} {x y z : World}
theorem refl (S : Nat → Prop) (w : World) : KeepS S w w := ⟨rfl, rfl, rfl, Nat.le_refl _, fun _ _ _ => rfl⟩
theorem trans (h : KeepS S x y) (k : KeepS S y z) : KeepS S x z :=
 ⟨k.os.trans h.os, k.tape.trans h.tape, k.output.trans h.output, Nat.le_trans h.size k.size, fun i hi hs => (k.block i (Nat.lt_of_lt_of_le hi h.size) hs).trans (h.block i hi hs)⟩
theorem mono (h : KeepS S x y) (hs : ∀ i, S i → S' i) : KeepS S' x y := ⟨h.os, h.tape, h.output, h.size, fun i hi hn => h.block i hi (fun e => hn (hs i e))⟩
theorem of_below (S : Nat → Prop) (h : Below x.heap.size x y) : KeepS S x y := ⟨h.os, h.tape, h.output, h.size, fun i hi _ => h.block i hi⟩
theorem of_grown {row : Option Nat} (h : x.grownBy y row) (hs : ∀ i, row = some i → S i) : KeepS S x y := ⟨h.os, h.tape, h.output, h.size, fun i hi hn => h.block i hi (fun e => hn (hs i e.symm))⟩
theorem then_below (h : KeepS S x y) (k : Below y.heap.size y z) : KeepS S x z := h.trans (of_below S k)
theorem set (h : KeepS S x y) {p : Addr} (hp : S p.block ∨ x.heap.size ≤ p.block) (v : Value) : KeepS S x (y.setCell p v) :=
 ⟨h.os, h.tape, h.output, by simpa [World.setCell] using h.size, fun i hi hn => (Below.heap_setCell y p v i (by rcases hp with hp | hp; exact fun e => hn (e ▸ hp); exact fun e => by omega)).trans (h.block i hi hn)⟩
theorem alloc (h : KeepS S x y) (o : Obj) : KeepS S x (y.alloc o) := h.then_below ((Below.refl _ y).alloc (Nat.le_refl _) o)
theorem drew (h : KeepS S x y) : KeepS S x y.drew := ⟨h.os, h.tape, h.output, h.size, h.block⟩
theorem drewN (h : KeepS S x y) (n : Nat) : KeepS S x (y.drewN n) := ⟨h.os, h.tape, h.output, h.size, h.block⟩
theorem cell (h : KeepS S x y) {p : Addr} (hp : p.block < x.heap.size) (hs : ¬ S p.block) : y.cell? p = x.cell? p := World.cell?_of_block (h.block p.block hp hs)
theorem frozen (h : KeepS S x y) {p : Addr} (hp : p.block < x.heap.size) (hs : ¬ S p.block) : y.frozen? p = x.frozen? p := World.frozen?_of_block (h.block p.block hp hs)
theorem below (h : KeepS S x y) {B : Nat} (hB : B ≤ x.heap.size) (hs : ∀ i, S i → B ≤ i) : Below B x y :=
 ⟨h.os, h.tape, h.output, h.size, fun i hi => h.block i (Nat.lt_of_lt_of_le hi hB) (fun e => by have := hs i e; omega)⟩
end KeepS
end Go.Proofs.Ytgmlpmdfkaadhaa.M
end

section
/- slices.Compact of keys in memory of their own; record.keys. -/
attribute [local irreducible] Go.wpStill
namespace Go.Proofs.Ytgmlpmdfkaadhaa.M
open Go.RowKit Go.Proofs.YtgmlpmdfkaadhaaW.PrintWords
theorem eq_i32 (d : Nat) (a b : Int) (w : World) : (Op.equalIn (d + 1) 21 (.int .i32 a) (.int .i32 b)).run Try.prog w = .ok (a == b) w := by
 have hu := Try.underlying21
 simp [Op.equalIn, go_sem, hu]
theorem eq_i64 (d : Nat) (a b : Int) (w : World) : (Op.equalIn (d + 1) 2 (.int .i64 a) (.int .i64 b)).run Try.prog w = .ok (a == b) w := by
 have hu := Try.underlying2
 simp [Op.equalIn, go_sem, hu]
theorem eq_key (d : Nat) (a b : Int × Int) (w : World) : (Op.equalIn (d + 2) 54 (.agg #[.int .i32 a.1, .int .i64 a.2]) (.agg #[.int .i32 b.1, .int .i64 b.2])).run Try.prog w = .ok (a.1 == b.1 && a.2 == b.2) w := by
 refine eqA_of Try.underlying54 (by kernel_rfl) ?_
 simp only
 refine eqf_cons (by rfl) ?_ ?_ (eq_i32 _ _ _ _) (eqf_end (by rfl) ?_ ?_ (eq_i64 _ _ _ _) eqf_nil)
 all_goals simp only [part]
 all_goals go_simp
theorem eqk_self (k : KeyD) (w : World) : (Op.equalIn 10000 54 (.agg #[.int .i32 k.f0, .int .i64 k.f1]) (.agg #[.int .i32 k.f0, .int .i64 k.f1])).run Try.prog w = .ok true w := by
 have := eq_key 9998 (kv k) (kv k) w
 simpa [kv] using this
theorem eqk_ne {a b : KeyD} (h : a ≠ b) (w : World) : (Op.equalIn 10000 54 (.agg #[.int .i32 a.f0, .int .i64 a.f1]) (.agg #[.int .i32 b.f0, .int .i64 b.f1])).run Try.prog w = .ok false w := by
 have := eq_key 9998 (kv a) (kv b) w
 simp only [kv] at this
 rw [this]
 congr 1
 simp only [Bool.and_eq_false_iff, beq_eq_false_iff_ne]
 by_cases e : a.f0 = b.f0
 ·refine .inr (fun e2 => h ?_)
  cases a; cases b
  simp only at e e2
  rw [e, e2]
 ·exact .inl e
def KRow (W : World) (b : Nat) (l : List KeyD) : Prop := ∃ cells : Array Value, W.heap[b]? = some (.cells cells 54 (0, 0)) ∧ l.length * 2 ≤ cells.size ∧ ∀ (j : Nat) (x : KeyD), l[j]? = some x → cells[j * 2]? = some (.int .i32 x.f0) ∧ cells[j * 2 + 1]? = some (.int .i64 x.f1)
theorem KRow.move {W W' : World} {b : Nat} {l : List KeyD} (h : KRow W b l) (hb : W'.heap[b]? = W.heap[b]?) : KRow W' b l := by
 obtain ⟨c, h1, h2, h3⟩ := h
 exact ⟨c, hb.trans h1, h2, h3⟩
theorem KRow.lt {W : World} {b : Nat} {l : List KeyD} (h : KRow W b l) : b < W.heap.size := by
 obtain ⟨c, h1, _⟩ := h
 exact (Array.getElem?_eq_some_iff.1 h1).1
theorem KRow.get {W : World} {b : Nat} {l : List KeyD} (h : KRow W b l) {j : Nat} {x : KeyD} (hj : l[j]? = some x) {o : Nat} (ho : o = j * 2) : W.cell? ⟨b, o, none⟩ = some (.int .i32 x.f0) ∧ W.cell? ⟨b, o + 1, none⟩ = some (.int .i64 x.f1) ∧ W.frozen? ⟨b, o, none⟩ = false ∧ W.frozen? ⟨b, o + 1, none⟩ = false := by
 obtain ⟨c, h1, h2, h3⟩ := h
 obtain ⟨h4, h5⟩ := h3 j x hj
 subst ho
 simp [World.cell?, World.frozen?, h1, h4, h5]
theorem heap_same (W : World) (a : Addr) (v : Value) {cs : Array Value} {e : TypeId} {z : Nat × Nat} (h : W.heap[a.block]? = some (.cells cs e z)) (hs : a.spot = none) : (W.setCell a v).heap[a.block]? = some (.cells (cs.setIfInBounds a.off v) e z) := by
 simp only [World.setCell, Array.getElem?_modify, if_true, h, hs]
 rfl
theorem KRow.set {W : World} {b : Nat} {l : List KeyD} (h : KRow W b l) {k : Nat} (hk : k < l.length) (x : KeyD) : KRow ((W.setCell ⟨b, k * 2, none⟩ (.int .i32 x.f0)).setCell ⟨b, k * 2 + 1, none⟩ (.int .i64 x.f1)) b (l.set k x) := by
 obtain ⟨c, h1, h2, h3⟩ := h
 have e1 := heap_same W ⟨b, k * 2, none⟩ (.int .i32 x.f0) h1 rfl
 have e2 := heap_same _ ⟨b, k * 2 + 1, none⟩ (.int .i64 x.f1) e1 rfl
 refine ⟨_, e2, by simpa using h2, fun j y hy => ?_⟩
 simp only [Array.getElem?_setIfInBounds]
 rw [List.getElem?_set] at hy
 by_cases e : k = j
 ·subst e
  rw [if_pos rfl, if_pos hk] at hy
  obtain rfl := Option.some.inj hy
  have s1 : k * 2 < c.size := by omega
  have s2 : k * 2 + 1 < c.size := by omega
  constructor
  ·rw [if_neg (by omega), if_pos rfl, if_pos s1]
  ·rw [if_pos rfl, if_pos (by simpa using s2)]
 ·rw [if_neg e] at hy
  obtain ⟨h4, h5⟩ := h3 j y hy
  constructor
  ·rw [if_neg (by omega), if_neg (by omega)]; exact h4
  ·rw [if_neg (by omega), if_neg (by omega)]; exact h5
theorem keep_setCells (b : Nat) : ∀ (vs : List Value) (o : Nat) (w : World), KeepS (fun i => i = b) w (w.setCells b o vs)
 | [], _, _ => KeepS.refl _ _
 | v :: vs, o, w => ((KeepS.refl (fun i => i = b) w).set (p := ⟨b, o, none⟩) (.inl rfl) v).trans (keep_setCells b vs (o + 1) _)
theorem zeroKey (u : World) : (zeroValue 54).run Try.prog u = .ok (.agg #[.int .i32 0, .int .i64 0]) u := by kernel_rfl
theorem clear_is {W : World} {b : Nat} {l : List KeyD} (h : KRow W b l) {k n c : Nat} (hk : k + n ≤ l.length) (hn : 0 < n) :
  ∃ W', (Builtin.clear_ #[30] 0 #[.slice (some ⟨b, k * 2, none⟩) n c]).run Try.prog W = .ok (.tuple #[]) W' ∧ KeepS (fun i => i = b) W W' := by
 obtain ⟨cells, h1, h2, h3⟩ := h
 obtain ⟨m, rfl⟩ : ∃ m, n = m + 1 := ⟨n - 1, by omega⟩
 have hmem : ∀ v ∈ (Builtin.zeroCells #[.int .i32 0, .int .i64 0] (m + 1)).toList, v.oneCell' = true := by
  intro v hv
  unfold Builtin.zeroCells at hv
  simp only [Array.toList_map, List.mem_map] at hv
  obtain ⟨i, _, rfl⟩ := hv
  rcases Nat.mod_two_eq_zero_or_one i with e | e <;> simp [e] <;> rfl
 have hlen : (Builtin.zeroCells #[.int .i32 0, .int .i64 0] (m + 1)).toList.length = (m + 1) * 2 := by
  unfold Builtin.zeroCells
  simp
 have hrun := run_storeCells_cells (P := Try.prog) b (k * 2) (Builtin.zeroCells #[.int .i32 0, .int .i64 0] (m + 1)).toList 0 W
  (fun j hj => by
   rw [hlen] at hj
   have hc : k * 2 + 0 + j < cells.size := by omega
   have hc' : k * 2 + j < cells.size := by omega
   simp [World.cell?, h1, hc'])
  (fun j hj => by simp [World.frozen?, h1]) hmem
 have hu : ∀ u : World, (underlying 30).run Try.prog u = .ok (.slice 54) u := fun u => by
  unfold underlying
  simp [go_sem, Try.underlying30]
 have hr2 : (Builtin.clear_ #[30] 0 #[.slice (some ⟨b, k * 2, none⟩) (m + 1) c]).run Try.prog W = .ok (.tuple #[]) (W.setCells b (k * 2 + 0) (Builtin.zeroCells #[.int .i32 0, .int .i64 0] (m + 1)).toList) := by
  unfold Builtin.clear_
  simp [go_sem, hu, zeroKey, hrun, Value.cells]
 exact ⟨_, hr2, keep_setCells b _ _ W⟩
def distUpto (l : List KeyD) (k : Nat) : Prop := ∀ (j : Nat) (x y : KeyD), j + 1 < k → l[j]? = some x → l[j + 1]? = some y → x ≠ y
def CoV (b n : Nat) (l : List KeyD) (w : World) (e : Ending) (w' : World) : Prop := ∃ (A : Option Addr) (m c : Nat), e = .returned (.slice A m c) ∧ (m = n ↔ distUpto l n) ∧ KeepS (fun i => i = b) w w'
def CoI (b : Nat) (l : List KeyD) (w : World) (i : Value) (wr : World) : Prop := ∃ k : Nat, i = .int .i64 k ∧ 1 ≤ k ∧ k ≤ l.length ∧ distUpto l k ∧ Below w.heap.size w wr
def CoJ (b k0 : Nat) (l : List KeyD) (w : World) (k i : Value) (wr : World) : Prop := ∃ (k1 k2 : Nat) (ys : List KeyD), k = .int .i64 k1 ∧ i = .int .i64 k2 ∧ 1 ≤ k2 ∧ k0 + k2 ≤ l.length ∧ k0 ≤ k1 ∧ k1 + 1 ≤ k0 + k2 ∧ KRow wr b ys ∧ ys.length = l.length ∧ KeepS (fun i => i = b) w wr
theorem compact_small (A : Option Addr) (n c : Nat) (w : World) (h2 : n < 2) :
  Calls Try.prog 88 #[.slice A n c] w fun e w' => e = .returned (.slice A n c) ∧ w' = w := by
 have h2b : decide ((n : Int) < 2) = true := decide_eq_true (by omega)
 clear h2
 go_enter Try.func88, Try.ntmps88
 go_wp2_with fail
 go_ret
 exact ⟨rfl, rfl⟩
set_option maxHeartbeats 1000000 in
theorem compact_is (b c : Nat) (l : List KeyD) (w : World) (hr : KRow w b l) (hc : l.length ≤ c) (hn : l.length ≤ 16) :
  Calls Try.prog 88 #[.slice (some ⟨b, 0, none⟩) l.length c] w fun e w' => CoV b l.length l w e w' := by
 have HR := Lib.hid hr; have HC := Lib.hid hc
 clear hr
 by_cases h2 : l.length < 2
 ·have h2b : decide ((l.length : Int) < 2) = true := decide_eq_true (by omega)
  have HD := Lib.hid (show distUpto l l.length from fun j x y hj _ _ => by omega)
  clear h2
  go_enter Try.func88, Try.ntmps88
  go_wp2_with fail
  go_ret
  exact ⟨_, _, _, rfl, ⟨fun _ => HD.out, fun _ => rfl⟩, KeepS.refl _ _⟩
 ·have h2b : decide ((l.length : Int) < 2) = false := decide_eq_false (by omega)
  have H2 := Lib.hid (show 2 ≤ l.length by omega)
  clear h2
  go_enter Try.func88, Try.ntmps88
  go_wp2_with fail
  go_loopw [3] (fun i wr => CoI b l w i wr) (fun i _ => l.length - (intOf i).toNat)
  case atStart => exact ⟨1, rfl, Nat.le_refl _, by have := H2.out; omega, fun j x y hj _ _ => by omega, Below.refl _ _⟩
  case round =>
   obtain ⟨k, rfl, hk1, hkn, hd, hb⟩ := hrel
   have HD := Lib.hid hd; have HBr := Lib.hid hb
   have HRr := Lib.hid (HR.out.move (hb.block b HR.out.lt))
   clear hd hb
   by_cases hlt : k < l.length
   ·obtain ⟨m, rfl⟩ : ∃ m, k = m + 1 := ⟨k - 1, by omega⟩
    obtain ⟨y, hy⟩ : ∃ y, l[m + 1]? = some y := ⟨_, List.getElem?_eq_getElem hlt⟩
    obtain ⟨x, hx⟩ : ∃ x, l[m]? = some x := ⟨_, List.getElem?_eq_getElem (by omega)⟩
    obtain ⟨y0, y1, _, _⟩ := HRr.out.get hy rfl
    obtain ⟨x0, x1, _, _⟩ := HRr.out.get hx rfl
    have HX := Lib.hid hx; have HY := Lib.hid hy
    clear hx hy
    have e2 : IntKind.i64.wrap (m : Int) = (m : Int) := by rw [IntKind.wrap_i64]; omega
    have e3 : ((m : Int) + 1).toNat = m + 1 := by omega
    have g0 : (0 : Int) ≤ (m : Int) + 1 := by omega
    have g1 : (m : Int) + 1 < (l.length : Int) := by omega
    have g2 : (m : Int) < (l.length : Int) := by omega
    by_cases hk : y = x
    ·have hq : ∀ W : World, (Op.equalIn 10000 54 (.agg #[.int .i32 y.f0, .int .i64 y.f1]) (.agg #[.int .i32 x.f0, .int .i64 x.f1])).run Try.prog W = .ok true W := fun W => by rw [hk]; exact eqk_self x W
     have HK := Lib.hid hk
     clear hk
     go_wp2_with fail
     refine wp_region_still_tail 9 (by kernel_rfl) (by kernel_rfl) ?_
     simp only [List.take_succ_cons, List.take_zero, List.drop_succ_cons, List.drop_zero]
     iterate 9 still_step
     refine wpStill_nil ?_
     change wpList _ _ _ _ _ wr.drew
     have hcm : ¬ c = m + 1 := by have := HC.out; omega
     have HRd := Lib.hid (HRr.out.move (W' := wr.drew) rfl)
     have HBd := Lib.hid (HBr.out.drew)
     obtain ⟨w5, hw5⟩ : ∃ w5, wr.drew = w5 := ⟨_, rfl⟩
     rw [hw5] at HRd HBd ⊢
     clear hw5 y0 y1 x0 x1
     go_wp2_with fail
     obtain ⟨n2, hn2⟩ : ∃ n2, l.length - (m + 1) = n2 := ⟨_, rfl⟩
     have HN2 := Lib.hid hn2
     rw [hn2]
     have hnm : n2 ≤ 16 := by omega
     clear hn2
     go_loopw [3, 5] (fun k i wq => CoJ b (m + 1) l w k i wq) (fun _ i _ => l.length - (intOf i).toNat)
     case atStart => exact ⟨m + 1, 1, l, by go_num, rfl, by omega, by omega, by omega, by omega, HRd.out, rfl, KeepS.of_below _ HBd.out⟩
     case round =>
      obtain ⟨k1, k2, ys, rfl, rfl, hk2, hkl, hk01, hk12, hys, hyl, hks⟩ := hrel
      have HYS := Lib.hid hys; have HKS := Lib.hid hks; have HYL := Lib.hid hyl
      clear hys hks hyl
      by_cases hl2 : k2 < n2
      ·obtain ⟨q, rfl⟩ : ∃ q, k2 = q + 1 := ⟨k2 - 1, by omega⟩
       obtain ⟨u, hu⟩ : ∃ u, ys[m + 1 + (q + 1)]? = some u := ⟨_, List.getElem?_eq_getElem (by have := HYL.out; have := HN2.out; omega)⟩
       obtain ⟨v, hv⟩ : ∃ v, ys[m + 1 + q]? = some v := ⟨_, List.getElem?_eq_getElem (by have := HYL.out; omega)⟩
       obtain ⟨u0, u1, _, _⟩ := HYS.out.get hu (o := (m + 1) * 2 + (q + 1) * 2) (by omega)
       obtain ⟨v0, v1, _, _⟩ := HYS.out.get hv (o := (m + 1) * 2 + q * 2) (by omega)
       have HU := Lib.hid hu
       have e4 : IntKind.i64.wrap (q : Int) = (q : Int) := by rw [IntKind.wrap_i64]; omega
       have e5 : ((q : Int) + 1).toNat = q + 1 := by omega
       have g3 : (0 : Int) ≤ (q : Int) + 1 := by omega
       have g4 : (q : Int) + 1 < (n2 : Int) := by omega
       have g5 : (q : Int) < (n2 : Int) := by omega
       have g6 : (0 : Int) ≤ (k1 : Int) := by omega
       have hk1l : k1 < l.length := by have := HN2.out; omega
       have g7 : (k1 : Int) < (l.length : Int) := by omega
       clear hu hv
       by_cases huv : u = v
       ·have hq2 : ∀ W : World, (Op.equalIn 10000 54 (.agg #[.int .i32 u.f0, .int .i64 u.f1]) (.agg #[.int .i32 v.f0, .int .i64 v.f1])).run Try.prog W = .ok true W := fun W => by rw [huv]; exact eqk_self v W
        clear huv
        go_wp2_with fail
        refine wp_region_still_tail 9 (by kernel_rfl) (by kernel_rfl) ?_
        simp only [List.take_succ_cons, List.take_zero, List.drop_succ_cons, List.drop_zero]
        iterate 9 still_step
        refine wpStill_nil ?_
        change wpList _ _ _ _ _ wr.drew
        go_wp2_with fail
        go_roundw
        case rel => exact ⟨k1, q + 1 + 1, ys, rfl, by go_num, by omega, by have := HN2.out; omega, hk01, by omega, HYS.out.move rfl, HYL.out, HKS.out.drew⟩
        case measure => simp [intOf]; have := HN2.out; omega
       ·have hq2 : ∀ W : World, (Op.equalIn 10000 54 (.agg #[.int .i32 u.f0, .int .i64 u.f1]) (.agg #[.int .i32 v.f0, .int .i64 v.f1])).run Try.prog W = .ok false W := fun W => eqk_ne huv W
        clear huv
        obtain ⟨t, ht⟩ : ∃ t, ys[k1]? = some t := ⟨_, List.getElem?_eq_getElem (by have := HYL.out; omega)⟩
        obtain ⟨s0, s1, z0, z1⟩ := HYS.out.get ht (o := k1 * 2) rfl
        clear ht
        go_wp2_with fail
        refine wp_region_still_tail 9 (by kernel_rfl) (by kernel_rfl) ?_
        simp only [List.take_succ_cons, List.take_zero, List.drop_succ_cons, List.drop_zero]
        iterate 9 still_step
        refine wpStill_nil ?_
        change wpList _ _ _ _ _ wr.drew
        go_wp2_with fail
        go_roundw
        case rel =>
         refine ⟨k1 + 1, q + 1 + 1, ys.set k1 u, by go_num, by go_num, by omega, by have := HN2.out; omega, by omega, by omega, ?_, by rw [List.length_set]; exact HYL.out, ?_⟩
         ·exact (HYS.out.move (W' := wr.drew) rfl).set (by have := HYL.out; omega) u
         ·exact (HKS.out.drew.set (p := ⟨b, k1 * 2, none⟩) (.inl rfl) _).set (p := ⟨b, k1 * 2 + 1, none⟩) (.inl rfl) _
        case measure => simp [intOf]; have := HN2.out; omega
      ·have hk1n : k1 < l.length := by have := HN2.out; omega
       have hk1c : ¬ c = k1 := by have := HC.out; omega
       have g6 : (0 : Int) ≤ (k1 : Int) := by omega
       have g7 : (k1 : Int) ≤ (l.length : Int) := by omega
       have g8 : (k1 : Int) ≤ (c : Int) := by have := HC.out; omega
       obtain ⟨W', hcl, hkp⟩ := clear_is HYS.out (k := k1) (n := l.length - k1) (c := c - k1) (by have := HYL.out; omega) (by omega)
       have HKP := Lib.hid hkp
       clear hkp
       go_wp2_with fail
       go_ret
       refine ⟨_, _, _, rfl, ⟨fun e => by omega, fun h => absurd HK.out.symm (h m x y (by omega) HX.out HY.out)⟩, ?_⟩
       exact HKS.out.trans HKP.out
    ·have hq : ∀ W : World, (Op.equalIn 10000 54 (.agg #[.int .i32 y.f0, .int .i64 y.f1]) (.agg #[.int .i32 x.f0, .int .i64 x.f1])).run Try.prog W = .ok false W := fun W => eqk_ne hk W
     have HN := Lib.hid (show distUpto l (m + 1 + 1) from fun j u v hj hu hv => by
      rcases Nat.lt_or_ge j m with h | h
      ·exact HD.out j u v (by omega) hu hv
      ·obtain rfl : j = m := by omega
       rw [HX.out] at hu
       rw [HY.out] at hv
       cases hu
       cases hv
       exact fun e => hk e.symm)
     clear hk
     go_wp2_with fail
     refine wp_region_still_tail 9 (by kernel_rfl) (by kernel_rfl) ?_
     simp only [List.take_succ_cons, List.take_zero, List.drop_succ_cons, List.drop_zero]
     iterate 9 still_step
     refine wpStill_nil ?_
     change wpList _ _ _ _ _ wr.drew
     go_wp2_with fail
     go_roundw
     case rel => exact ⟨m + 1 + 1, by go_num, by omega, by omega, HN.out, HBr.out.drew⟩
     case measure => simp [intOf]; omega
   ·have hkn' : k = l.length := by omega
    have HN := Lib.hid (show distUpto l l.length by have := HD.out; rwa [hkn'] at this)
    clear hkn'
    go_wp2_with fail
    go_ret
    exact ⟨_, _, _, rfl, ⟨fun _ => HN.out, fun _ => rfl⟩, KeepS.of_below _ HBr.out⟩
def risB : List KeyD → Bool
 | a :: b :: r => kLt (kv a) (kv b) && risB (b :: r)
 | _ => true
def mayK (l : List KeyD) : Bool := decide (l.length ≤ 16) && risB l
theorem ris_iff : ∀ l : List KeyD, risB l = true ↔ ∀ (j : Nat) (x y : KeyD), l[j]? = some x → l[j + 1]? = some y → kLt (kv x) (kv y) = true
 | [] => by simp [risB]
 | [a] => by
  simp only [risB, true_iff]
  intro j x y hx hy
  simp at hy
 | a :: b :: r => by
  unfold risB
  rw [Bool.and_eq_true, ris_iff (b :: r)]
  constructor
  ·rintro ⟨h1, h2⟩ j x y hx hy
   cases j with
   | zero =>
    simp only [List.getElem?_cons_zero, Option.some.injEq] at hx
    simp only [Nat.zero_add, List.getElem?_cons_succ, List.getElem?_cons_zero, Option.some.injEq] at hy
    rw [← hx, ← hy]
    exact h1
   | succ j => exact h2 j x y (by simpa using hx) (by simpa using hy)
  ·exact fun h => ⟨h 0 a b rfl rfl, fun j x y hx hy => h (j + 1) x y (by simpa using hx) (by simpa using hy)⟩
theorem kLt_total {x y : Int × Int} (h : kLt x y = false) (k : kLt y x = false) : x = y := by
 unfold kLt at h k
 simp only [Bool.or_eq_false_iff, Bool.and_eq_false_iff, decide_eq_false_iff_not] at h k
 apply Prod.ext <;> omega
theorem kLt_asymm {x y : Int × Int} (h : kLt x y = true) : kLt y x = false := by
 unfold kLt at h ⊢
 simp only [Bool.or_eq_true, Bool.and_eq_true, decide_eq_true_eq] at h
 simp only [Bool.or_eq_false_iff, Bool.and_eq_false_iff, decide_eq_false_iff_not]
 omega
theorem kv_inj {x y : KeyD} (h : kv x = kv y) : x = y := by
 cases x; cases y
 simp only [kv, Prod.mk.injEq] at h
 rw [h.1, h.2]
theorem ris_nd (l : List KeyD) : risB l = true ↔ ndFrom l 0 ∧ distUpto l l.length := by
 rw [ris_iff]
 constructor
 ·exact fun h => ⟨fun j x y _ hx hy => kLt_asymm (h j x y hx hy), fun j x y _ hx hy e => by
   have := h j x y hx hy
   rw [e] at this
   unfold kLt at this
   simp at this⟩
 ·rintro ⟨h1, h2⟩ j x y hx hy
  have hl := (List.getElem?_eq_some_iff.1 hy).1
  rw [← Bool.not_eq_false]
  exact fun h3 => h2 j x y hl hx hy (kv_inj (kLt_total h3 (h1 j x y (Nat.zero_le _) hx hy)))
theorem krow_of {W : World} {base : Nat} {ok : Nat → Prop} {v : Value} {l : List KeyD} (h : Kd.R G.k54 54 W base ok v l) (hl : 0 < l.length) : ∃ (b c : Nat), v = .slice (some ⟨b, 0, none⟩) l.length c ∧ l.length ≤ c ∧ base ≤ b ∧ KRow W b l := by
 obtain ⟨_, inner, ⟨hil, ho⟩, hrep⟩ := h
 rcases ho with ⟨rfl, h0⟩ | ⟨g, cap, cur, rfl, hb, hg, hnc, _, hcs, htk⟩
 ·omega
 ·refine ⟨g, cap, rfl, hnc, hb, cur, hg, ?_, fun j x hj => ?_⟩
  ·have hs : G.k54.sz = 2 := rfl
   rw [hcs, hs]
   omega
  ·have h1 := G.k54_openM (hrep.2 j x hj)
   have hs : G.k54.sz = 2 := rfl
   have hjl := (List.getElem?_eq_some_iff.1 hj).1
   rw [hs] at h1
   have h2 : inner[j * 2]? = some (.int .i32 x.f0) := by
    have := congrArg (fun q => q[0]?) h1
    simpa [List.getElem?_take, List.getElem?_drop] using this
   have h3 : inner[j * 2 + 1]? = some (.int .i64 x.f1) := by
    have := congrArg (fun q => q[1]?) h1
    simpa [List.getElem?_take, List.getElem?_drop] using this
   rw [← htk, hs, List.getElem?_take] at h2 h3
   rw [if_pos (by omega)] at h2 h3
   exact ⟨by simpa using h2, by simpa using h3⟩
set_option maxHeartbeats 1000000 in
theorem keys_is (A : Option Addr) (c : Nat) (l : List KeyD) (w : World) (hr : Kd.C G.k54 w A l.length l) (hc : l.length ≤ c) :
  Calls Try.prog 73 #[.slice A l.length c] w fun e w' => e = .returned (.bool (mayK l)) ∧ Below w.heap.size w w' := by
 have HR := Lib.hid hr; have HC := Lib.hid hc
 have HS := Lib.hid (sorted_is A c l w hr)
 clear hr hc
 go_enter Try.func73, Try.ntmps73
 go_wp2_with fail
 refine HS.out.mono ?_
 rintro e w1 ⟨b, rfl, hb, hb1⟩
 have HB := Lib.hid hb; have HB1 := Lib.hid hb1
 clear hb hb1 HS
 by_cases h16 : l.length ≤ 16
 ·have hq : decide ((l.length : Int) ≤ 16) = true := decide_eq_true (by omega)
  have H16 := Lib.hid h16
  clear h16
  cases b with
  | false =>
   have HM := Lib.hid (show mayK l = false by
    unfold mayK
    have : risB l = false := by
     rw [← Bool.not_eq_true]
     exact fun h => by have := HB.out.2 ((ris_nd l).1 h).1; cases this
    rw [this, Bool.and_false])
   go_wp2_with fail
   go_ret
   exact ⟨by rw [HM.out]; rfl, HB1.out⟩
  | true =>
   have HND := Lib.hid (HB.out.1 rfl)
   go_wp2_with fail
   refine (clone_keys A c l w1 (Kd.C_below HR.out HB1.out) HC.out (by have := H16.out; omega)).mono ?_
   rintro e w2 ⟨v, rfl, hv, hb2⟩
   have HB2 := Lib.hid (HB1.out.trans (hb2.mono HB1.out.size))
   rcases Nat.eq_zero_or_pos l.length with h0 | h0
   ·obtain ⟨A2, c2, rfl⟩ := Kd.R_slice hv
    have HM := Lib.hid (show mayK l = true by
     obtain rfl := List.eq_nil_of_length_eq_zero h0
     rfl)
    have HE := Lib.hid h0
    rw [h0]
    clear hv hb2 h0
    go_wp2_with fail
    refine (compact_small A2 0 c2 w2 (by omega)).mono ?_
    rintro e w3 ⟨rfl, rfl⟩
    go_wp2_with fail
    go_ret
    exact ⟨by rw [HM.out]; rfl, HB2.out⟩
   ·obtain ⟨g, cc, rfl, hcc, hg, hK⟩ := krow_of hv h0
    have HG := Lib.hid hg; have HK := Lib.hid hK; have HCC := Lib.hid hcc
    have HZ := Lib.hid hb2.size
    clear hv hb2 hg hK hcc
    go_wp2_with fail
    refine (compact_is g cc l w2 HK.out HCC.out H16.out).mono ?_
    rintro e w3 ⟨A3, m, c3, rfl, hm, hk⟩
    have HM := Lib.hid (show mayK l = (decide (m = l.length)) by
     unfold mayK
     rw [decide_eq_true H16.out, Bool.true_and, Bool.eq_iff_iff, decide_eq_true_eq, ris_nd, hm]
     exact ⟨fun h => h.2, fun h => ⟨HND.out, h⟩⟩)
    have HBE := Lib.hid (HB2.out.trans (hk.below (B := w.heap.size) HB2.out.size (by have := HG.out; have := HB1.out.size; rintro i rfl; omega)))
    clear hm hk
    go_wp2_with fail
    go_ret
    refine ⟨?_, HBE.out⟩
    rw [HM.out]
    show Ending.returned (.bool ((m : Int) == (l.length : Int))) = _
    congr 2
    rw [Bool.eq_iff_iff, beq_iff_eq, decide_eq_true_eq]
    omega
 ·have hq : decide ((l.length : Int) ≤ 16) = false := decide_eq_false (by omega)
  have HM := Lib.hid (show mayK l = false by unfold mayK; rw [decide_eq_false h16, Bool.false_and])
  clear h16
  go_wp2_with fail
  go_ret
  exact ⟨by rw [HM.out]; rfl, HB1.out⟩
end Go.Proofs.Ytgmlpmdfkaadhaa.M
namespace Go.Proofs.Ytgmlpmdfkaadhaa.G
open Go.RowKit Go.Proofs.YtgmlpmdfkaadhaaW.PrintWords Go.Proofs.Ytgmlpmdfkaadhaa.M
def record_keys.f (l0 : List S54) : Option Bool := some (mayK l0)
theorem record_keys.calls (A0 : Option Addr) (c0 : Nat) (l0 : List S54) (r : Bool) (w : World) (hr0 : Kd.C k54 w A0 l0.length l0) (hc0 : l0.length ≤ c0) (h : record_keys.f l0 = some r) :
  Calls Try.prog 73 #[.slice A0 l0.length c0] w fun e w' => e = .returned (.bool r) ∧ Below w.heap.size w w' := by
 obtain rfl := Option.some.inj h
 exact keys_is A0 c0 l0 w hr0 hc0
end Go.Proofs.Ytgmlpmdfkaadhaa.G
end

section
-- Written by a program of this session's (wip/gprint.py over the kit's printer).
namespace Go.Proofs.Ytgmlpmdfkaadhaa.G
open Go.RowKit Go.Proofs.YtgmlpmdfkaadhaaW.PrintWords Go.Proofs.YtgmlpmdfkaadhaaW.PrintLast Go.Proofs.YtgmlpmdfkaadhaaW.PrintMore
attribute [local go_sem] max2_int min2_int max_two min_two max_three min_three max_four min_four   -- for this text's walks alone
def record_txn.f (a0_0 : Int) (a0_1 : Int) (l0_2 : List Int) (l0_3 : List Int) (l0_4 : List (S54)) (l0_5 : List (S54)) : Option (Bool) := (record_between.f 1 1099511627776 (([a0_0, a0_1] : List Int))).bind fun t150 => (if t150 = true then (if (l0_2.length : Int) ≤ 512 then (if (l0_3.length : Int) ≤ 8 then ((record_keys.f l0_4).bind fun t151 => (if t151 = true then ((record_keys.f l0_5).bind fun t152 => (some t152)) else (some false))) else (some false)) else (some false)) else (some false))
set_option maxHeartbeats 8000000 in
set_option maxRecDepth 100000 in
theorem record_txn.calls (a0_0 : Int) (a0_1 : Int) (A0_2 : Option Addr) (c0_2 : Nat) (l0_2 : List Int) (A0_3 : Option Addr) (c0_3 : Nat) (l0_3 : List Int) (A0_4 : Option Addr) (c0_4 : Nat) (l0_4 : List (S54)) (A0_5 : Option Addr) (c0_5 : Nat) (l0_5 : List (S54)) (r : Bool) (w : World) (hr0_2 : Kd.C (Kd.int .u8) w A0_2 l0_2.length l0_2) (hc0_2 : l0_2.length ≤ c0_2) (hr0_3 : Kd.C (Kd.int .i64) w A0_3 l0_3.length l0_3) (hc0_3 : l0_3.length ≤ c0_3) (hr0_4 : Kd.C k54 w A0_4 l0_4.length l0_4) (hc0_4 : l0_4.length ≤ c0_4) (hr0_5 : Kd.C k54 w A0_5 l0_5.length l0_5) (hc0_5 : l0_5.length ≤ c0_5) (h : record_txn.f a0_0 a0_1 l0_2 l0_3 l0_4 l0_5 = some r) :
  Calls Try.prog 60 #[.agg #[.int .i64 a0_0, .int .i64 a0_1, .slice A0_2 l0_2.length c0_2, .slice A0_3 l0_3.length c0_3, .slice A0_4 l0_4.length c0_4, .slice A0_5 l0_5.length c0_5]] w fun e w' => e = .returned (.bool r) ∧ Below w.heap.size w w' := by
 have hu32 := Try.underlying32
 have HR0_2 := Aside0.mk hr0_2
 have HC0_2 := Aside0.mk hc0_2
 clear hr0_2 hc0_2
 have HR0_3 := Aside0.mk hr0_3
 have HC0_3 := Aside0.mk hc0_3
 clear hr0_3 hc0_3
 have HR0_4 := Aside0.mk hr0_4
 have HC0_4 := Aside0.mk hc0_4
 clear hr0_4 hc0_4
 have HR0_5 := Aside0.mk hr0_5
 have HC0_5 := Aside0.mk hc0_5
 clear hr0_5 hc0_5
 have HB := Aside0.mk (Below.refl w.heap.size w)
 have H : ((record_between.f 1 1099511627776 (([a0_0, a0_1] : List Int))).bind fun t150 => (if t150 = true then (if (l0_2.length : Int) ≤ 512 then (if (l0_3.length : Int) ≤ 8 then ((record_keys.f l0_4).bind fun t151 => (if t151 = true then ((record_keys.f l0_5).bind fun t152 => (some t152)) else (some false))) else (some false)) else (some false)) else (some false))) = some r := h
 clear h
 obtain ⟨y147, hy147⟩ : ∃ y_ : List Int, y_ = (([a0_0, a0_1] : List Int)) := ⟨_, rfl⟩
 replace H : ((record_between.f 1 1099511627776 y147).bind fun t150 => (if t150 = true then (if (l0_2.length : Int) ≤ 512 then (if (l0_3.length : Int) ≤ 8 then ((record_keys.f l0_4).bind fun t151 => (if t151 = true then ((record_keys.f l0_5).bind fun t152 => (some t152)) else (some false))) else (some false)) else (some false)) else (some false))) = some r := by first | (rw [hy147]; with_reducible exact H) | (have H2_ := (Option.bind_some _ _).symm.trans H; rw [hy147]; with_reducible exact H2_) | (have H2_ := (Option.bind_some _ _).symm.trans H; with_reducible exact H2_) | with_reducible exact H | (rw [hy147]; exact H) | exact H
 have Ny147 := Aside0.mk hy147
 clear hy147
 replace H := Option.bind_eq_some_iff.mp H
 obtain ⟨t150, A20, H⟩ := H
 replace H : (if t150 = true then (if (l0_2.length : Int) ≤ 512 then (if (l0_3.length : Int) ≤ 8 then ((record_keys.f l0_4).bind fun t151 => (if t151 = true then ((record_keys.f l0_5).bind fun t152 => (some t152)) else (some false))) else (some false)) else (some false)) else (some false)) = some r := H
 have A2 := Aside0.mk A20
 clear A20
 by_cases c3 : t150 = true
 ·subst c3
  have H1 : (if (l0_2.length : Int) ≤ 512 then (if (l0_3.length : Int) ≤ 8 then ((record_keys.f l0_4).bind fun t151 => (if t151 = true then ((record_keys.f l0_5).bind fun t152 => (some t152)) else (some false))) else (some false)) else (some false)) = some r := by rw [if_pos rfl] at H; exact H
  clear H
  have H := H1
  clear H1
  by_cases c4 : (l0_2.length : Int) ≤ 512
  ·rw [if_pos c4] at H
   have c4b0 : decide ((l0_2.length : Int) ≤ 512) = true := decide_eq_true c4
   have c4b1 : decide (l0_2.length ≤ 512) = true := decide_eq_true (by omega)
   clear c4
   by_cases c5 : (l0_3.length : Int) ≤ 8
   ·rw [if_pos c5] at H
    have c5b0 : decide ((l0_3.length : Int) ≤ 8) = true := decide_eq_true c5
    have c5b1 : decide (l0_3.length ≤ 8) = true := decide_eq_true (by omega)
    clear c5
    replace H := Option.bind_eq_some_iff.mp H
    obtain ⟨t151, A60, H⟩ := H
    replace H : (if t151 = true then ((record_keys.f l0_5).bind fun t152 => (some t152)) else (some false)) = some r := H
    have A6 := Aside0.mk A60
    clear A60
    by_cases c7 : t151 = true
    ·subst c7
     have H1 : ((record_keys.f l0_5).bind fun t152 => (some t152)) = some r := by rw [if_pos rfl] at H; exact H
     clear H
     have H := H1
     clear H1
     replace H := Option.bind_eq_some_iff.mp H
     obtain ⟨t152, A80, H⟩ := H
     replace H : (some t152) = some r := H
     have A8 := Aside0.mk A80
     clear A80
     obtain rfl := Option.some.inj H
     go_enter Try.func60, Try.ntmps60
     go_wp2_with (first | ((with_reducible refine gate_dst (N := 1) rfl ?_); (try (refine gate_guard (by rfl) ?_; dsimp only)); refine box_event ?hg (N := 1) ?hd (cs := #[.int .i64 a0_0, .int .i64 a0_1, .slice A0_2 l0_2.length c0_2, .slice A0_3 l0_3.length c0_3, .slice A0_4 l0_4.length c0_4, .slice A0_5 l0_5.length c0_5]) (t := 32) ?hr ?_; (case hd => rfl); (case hg => rfl); (case hr => first | (go_simp; done) | (go_simp; rfl)); intro gb146 hg w9 hbox hb; have n0_ := Aside0.mk (below_step (stB HB.out) hb); have n1_ := Aside0.mk (hbox); have n2_ := Aside0.mk ((by rw [hg]; exact (below_size (stB HB.out)) : w.heap.size ≤ gb146)); have n3_ := Aside0.mk ((by rw [hg]; exact (below_size (stB HB.out)) : w.heap.size ≤ gb146)); clear HB; have HB := n0_; have BK146 := n1_; have GW146 := n2_; have GE146 := n3_; clear n0_ n1_ n2_ n3_; clear hb hbox hg; obtain ⟨hcz10_0, hcz10_1, hcz10_2, hcz10_3, hcz10_4, hcz10_5⟩ := bc6 BK146.out; obtain ⟨hfz10_0, hfz10_1, hfz10_2, hfz10_3, hfz10_4, hfz10_5⟩ := bf6 BK146.out) | ((with_reducible refine gate_dst (N := 7) rfl ?_); (try (refine gate_guard (by rfl) ?_; dsimp only)); refine Kd.R_lit (Kd.int .i64) _ 2 ?hg (N := 7) ?hd (xs := ([a0_0, a0_1] : List Int)) (inner := [.int .i64 a0_0, .int .i64 a0_1]) (ok := fun _ => True) (okp := fun _ => True) ?hr ?hp (fun _ hk => hk) trivial (Below.refl _ _) (Nat.le_refl _) (by simp) ?_; (case hd => rfl); (case hg => rfl); (case hr => first | (go_simp; done) | (go_simp; rfl)); (case hp => exact (Reps.one (show Kd.M (Kd.int .i64) _ _ _ a0_0 [.int .i64 a0_0] from rfl) (Reps.one (show Kd.M (Kd.int .i64) _ _ _ a0_1 [.int .i64 a0_1] from rfl) (Reps.none _ _)))); intro v148 w11 ho12 hb hg_ hnew_; clear hg_ hnew_; (first | rw [← Ny147.out] at ho12 | (simp only [Int.reduceToNat] at ho12; rw [← Ny147.out] at ho12)); have n0_ := Aside0.mk (Kd.R_lower ho12 (below_size (by repeat (first | (with_reducible first | exact HB.out | apply below_alloc | apply pw_below_drewN | apply below_drew1 | refine below_set ?_ GE146.out) | exact HB.out)))); have n1_ := Aside0.mk (blk_below (g := gb146) (o := .cells #[.int .i64 a0_0, .int .i64 a0_1, .slice A0_2 l0_2.length c0_2, .slice A0_3 l0_3.length c0_3, .slice A0_4 l0_4.length c0_4, .slice A0_5 l0_5.length c0_5] 32 (0, 0)) (stK BK146.out) hb); have n2_ := Aside0.mk (below_step (by repeat (first | (with_reducible first | exact HB.out | apply below_alloc | apply pw_below_drewN | apply below_drew1 | refine below_set ?_ GE146.out) | exact HB.out)) hb); clear BK146; clear HB; have HO149 := n0_; have BK146 := n1_; have HB := n2_; clear n0_ n1_ n2_; clear hb ho12; obtain ⟨Ao13, co13, eo13⟩ := Kd.R_slice HO149.out; subst eo13) | ((with_reducible refine gate_callee (f := 55) rfl ?_); refine goesL_ (some 8) rfl rfl Try.func55 (by kernel_rfl) rfl #[.int .i64 1, .int .i64 1099511627776, .slice Ao13 y147.length co13] rfl (by (try simp only [List.map_toArray, List.map_cons, List.map_nil]); first | done | rfl | (simp only [List.length_drop, List.length_take]; rfl)) ?_; (with_reducible refine (record_between.calls 1 1099511627776 _ _ y147 true _ ?side1 ?side2 A2.out).mono ?_); (case side1 => exact stC ((Kd.R_reads' HO149.out).2.2)); (case side2 => exact (Kd.R_reads' HO149.out).2.1); rintro e w14 ⟨rfl, hb⟩; refine ⟨_, rfl, ?_⟩; have n0_ := Aside0.mk (Kd.R_below (stR HO149.out) hb); have n1_ := Aside0.mk (blk_below (g := gb146) (o := .cells #[.int .i64 a0_0, .int .i64 a0_1, .slice A0_2 l0_2.length c0_2, .slice A0_3 l0_3.length c0_3, .slice A0_4 l0_4.length c0_4, .slice A0_5 l0_5.length c0_5] 32 (0, 0)) (stK BK146.out) hb); have n2_ := Aside0.mk (below_step (by repeat (first | (with_reducible first | exact HB.out | apply below_alloc | apply pw_below_drewN | apply below_drew1 | refine below_set ?_ GE146.out) | exact HB.out)) hb); clear HO149; clear BK146; clear HB; have HO149 := n0_; have BK146 := n1_; have HB := n2_; clear n0_ n1_ n2_; (try clear hb); (try clear hb2); (try clear hk); (try clear hi); obtain ⟨hcz15_0, hcz15_1, hcz15_2, hcz15_3, hcz15_4, hcz15_5⟩ := bc6 BK146.out; obtain ⟨hfz15_0, hfz15_1, hfz15_2, hfz15_3, hfz15_4, hfz15_5⟩ := bf6 BK146.out) | (go_at_call 73; (with_reducible refine (record_keys.calls _ _ l0_4 true _ ?side1 ?side2 A6.out).mono ?_); (case side1 => exact stC (Kd.C_below HR0_4.out HB.out)); (case side2 => exact HC0_4.out); rintro e w16 ⟨rfl, hb⟩; have n0_ := Aside0.mk (Kd.R_below (stR HO149.out) hb); have n1_ := Aside0.mk (blk_below (g := gb146) (o := .cells #[.int .i64 a0_0, .int .i64 a0_1, .slice A0_2 l0_2.length c0_2, .slice A0_3 l0_3.length c0_3, .slice A0_4 l0_4.length c0_4, .slice A0_5 l0_5.length c0_5] 32 (0, 0)) (stK BK146.out) hb); have n2_ := Aside0.mk (below_step (by repeat (first | (with_reducible first | exact HB.out | apply below_alloc | apply pw_below_drewN | apply below_drew1 | refine below_set ?_ GE146.out) | exact HB.out)) hb); clear HO149; clear BK146; clear HB; have HO149 := n0_; have BK146 := n1_; have HB := n2_; clear n0_ n1_ n2_; (try clear hb); (try clear hb2); (try clear hk); (try clear hi); obtain ⟨hcz17_0, hcz17_1, hcz17_2, hcz17_3, hcz17_4, hcz17_5⟩ := bc6 BK146.out; obtain ⟨hfz17_0, hfz17_1, hfz17_2, hfz17_3, hfz17_4, hfz17_5⟩ := bf6 BK146.out) | (go_at_call 73; (with_reducible refine (record_keys.calls _ _ l0_5 t152 _ ?side1 ?side2 A8.out).mono ?_); (case side1 => exact stC (Kd.C_below HR0_5.out HB.out)); (case side2 => exact HC0_5.out); rintro e w18 ⟨rfl, hb⟩; have n0_ := Aside0.mk (Kd.R_below (stR HO149.out) hb); have n1_ := Aside0.mk (blk_below (g := gb146) (o := .cells #[.int .i64 a0_0, .int .i64 a0_1, .slice A0_2 l0_2.length c0_2, .slice A0_3 l0_3.length c0_3, .slice A0_4 l0_4.length c0_4, .slice A0_5 l0_5.length c0_5] 32 (0, 0)) (stK BK146.out) hb); have n2_ := Aside0.mk (below_step (by repeat (first | (with_reducible first | exact HB.out | apply below_alloc | apply pw_below_drewN | apply below_drew1 | refine below_set ?_ GE146.out) | exact HB.out)) hb); clear HO149; clear BK146; clear HB; have HO149 := n0_; have BK146 := n1_; have HB := n2_; clear n0_ n1_ n2_; (try clear hb); (try clear hb2); (try clear hk); (try clear hi)))
     go_ret
     exact ⟨by first | rfl | (simp [errW_none, errW_some] <;> rfl) | (simp [*, errW_none, errW_some] <;> rfl), by repeat (first | (with_reducible first | exact HB.out | apply below_alloc | apply pw_below_drewN | apply below_drew1 | refine below_set ?_ GE146.out) | exact HB.out)⟩
    ·replace c7 := Bool.eq_false_iff.mpr c7
     subst c7
     have H1 : (some false) = some r := by rw [if_neg (show ¬ (false = true) by decide)] at H; exact H
     clear H
     have H := H1
     clear H1
     obtain rfl := Option.some.inj H
     go_enter Try.func60, Try.ntmps60
     go_wp2_with (first | ((with_reducible refine gate_dst (N := 1) rfl ?_); (try (refine gate_guard (by rfl) ?_; dsimp only)); refine box_event ?hg (N := 1) ?hd (cs := #[.int .i64 a0_0, .int .i64 a0_1, .slice A0_2 l0_2.length c0_2, .slice A0_3 l0_3.length c0_3, .slice A0_4 l0_4.length c0_4, .slice A0_5 l0_5.length c0_5]) (t := 32) ?hr ?_; (case hd => rfl); (case hg => rfl); (case hr => first | (go_simp; done) | (go_simp; rfl)); intro gb146 hg w19 hbox hb; have n0_ := Aside0.mk (below_step (stB HB.out) hb); have n1_ := Aside0.mk (hbox); have n2_ := Aside0.mk ((by rw [hg]; exact (below_size (stB HB.out)) : w.heap.size ≤ gb146)); have n3_ := Aside0.mk ((by rw [hg]; exact (below_size (stB HB.out)) : w.heap.size ≤ gb146)); clear HB; have HB := n0_; have BK146 := n1_; have GW146 := n2_; have GE146 := n3_; clear n0_ n1_ n2_ n3_; clear hb hbox hg; obtain ⟨hcz20_0, hcz20_1, hcz20_2, hcz20_3, hcz20_4, hcz20_5⟩ := bc6 BK146.out; obtain ⟨hfz20_0, hfz20_1, hfz20_2, hfz20_3, hfz20_4, hfz20_5⟩ := bf6 BK146.out) | ((with_reducible refine gate_dst (N := 7) rfl ?_); (try (refine gate_guard (by rfl) ?_; dsimp only)); refine Kd.R_lit (Kd.int .i64) _ 2 ?hg (N := 7) ?hd (xs := ([a0_0, a0_1] : List Int)) (inner := [.int .i64 a0_0, .int .i64 a0_1]) (ok := fun _ => True) (okp := fun _ => True) ?hr ?hp (fun _ hk => hk) trivial (Below.refl _ _) (Nat.le_refl _) (by simp) ?_; (case hd => rfl); (case hg => rfl); (case hr => first | (go_simp; done) | (go_simp; rfl)); (case hp => exact (Reps.one (show Kd.M (Kd.int .i64) _ _ _ a0_0 [.int .i64 a0_0] from rfl) (Reps.one (show Kd.M (Kd.int .i64) _ _ _ a0_1 [.int .i64 a0_1] from rfl) (Reps.none _ _)))); intro v148 w21 ho22 hb hg_ hnew_; clear hg_ hnew_; (first | rw [← Ny147.out] at ho22 | (simp only [Int.reduceToNat] at ho22; rw [← Ny147.out] at ho22)); have n0_ := Aside0.mk (Kd.R_lower ho22 (below_size (by repeat (first | (with_reducible first | exact HB.out | apply below_alloc | apply pw_below_drewN | apply below_drew1 | refine below_set ?_ GE146.out) | exact HB.out)))); have n1_ := Aside0.mk (blk_below (g := gb146) (o := .cells #[.int .i64 a0_0, .int .i64 a0_1, .slice A0_2 l0_2.length c0_2, .slice A0_3 l0_3.length c0_3, .slice A0_4 l0_4.length c0_4, .slice A0_5 l0_5.length c0_5] 32 (0, 0)) (stK BK146.out) hb); have n2_ := Aside0.mk (below_step (by repeat (first | (with_reducible first | exact HB.out | apply below_alloc | apply pw_below_drewN | apply below_drew1 | refine below_set ?_ GE146.out) | exact HB.out)) hb); clear BK146; clear HB; have HO149 := n0_; have BK146 := n1_; have HB := n2_; clear n0_ n1_ n2_; clear hb ho22; obtain ⟨Ao23, co23, eo23⟩ := Kd.R_slice HO149.out; subst eo23) | ((with_reducible refine gate_callee (f := 55) rfl ?_); refine goesL_ (some 8) rfl rfl Try.func55 (by kernel_rfl) rfl #[.int .i64 1, .int .i64 1099511627776, .slice Ao23 y147.length co23] rfl (by (try simp only [List.map_toArray, List.map_cons, List.map_nil]); first | done | rfl | (simp only [List.length_drop, List.length_take]; rfl)) ?_; (with_reducible refine (record_between.calls 1 1099511627776 _ _ y147 true _ ?side1 ?side2 A2.out).mono ?_); (case side1 => exact stC ((Kd.R_reads' HO149.out).2.2)); (case side2 => exact (Kd.R_reads' HO149.out).2.1); rintro e w24 ⟨rfl, hb⟩; refine ⟨_, rfl, ?_⟩; have n0_ := Aside0.mk (Kd.R_below (stR HO149.out) hb); have n1_ := Aside0.mk (blk_below (g := gb146) (o := .cells #[.int .i64 a0_0, .int .i64 a0_1, .slice A0_2 l0_2.length c0_2, .slice A0_3 l0_3.length c0_3, .slice A0_4 l0_4.length c0_4, .slice A0_5 l0_5.length c0_5] 32 (0, 0)) (stK BK146.out) hb); have n2_ := Aside0.mk (below_step (by repeat (first | (with_reducible first | exact HB.out | apply below_alloc | apply pw_below_drewN | apply below_drew1 | refine below_set ?_ GE146.out) | exact HB.out)) hb); clear HO149; clear BK146; clear HB; have HO149 := n0_; have BK146 := n1_; have HB := n2_; clear n0_ n1_ n2_; (try clear hb); (try clear hb2); (try clear hk); (try clear hi); obtain ⟨hcz25_0, hcz25_1, hcz25_2, hcz25_3, hcz25_4, hcz25_5⟩ := bc6 BK146.out; obtain ⟨hfz25_0, hfz25_1, hfz25_2, hfz25_3, hfz25_4, hfz25_5⟩ := bf6 BK146.out) | (go_at_call 73; (with_reducible refine (record_keys.calls _ _ l0_4 false _ ?side1 ?side2 A6.out).mono ?_); (case side1 => exact stC (Kd.C_below HR0_4.out HB.out)); (case side2 => exact HC0_4.out); rintro e w26 ⟨rfl, hb⟩; have n0_ := Aside0.mk (Kd.R_below (stR HO149.out) hb); have n1_ := Aside0.mk (blk_below (g := gb146) (o := .cells #[.int .i64 a0_0, .int .i64 a0_1, .slice A0_2 l0_2.length c0_2, .slice A0_3 l0_3.length c0_3, .slice A0_4 l0_4.length c0_4, .slice A0_5 l0_5.length c0_5] 32 (0, 0)) (stK BK146.out) hb); have n2_ := Aside0.mk (below_step (by repeat (first | (with_reducible first | exact HB.out | apply below_alloc | apply pw_below_drewN | apply below_drew1 | refine below_set ?_ GE146.out) | exact HB.out)) hb); clear HO149; clear BK146; clear HB; have HO149 := n0_; have BK146 := n1_; have HB := n2_; clear n0_ n1_ n2_; (try clear hb); (try clear hb2); (try clear hk); (try clear hi)))
     go_ret
     exact ⟨by first | rfl | (simp [errW_none, errW_some] <;> rfl) | (simp [*, errW_none, errW_some] <;> rfl), by repeat (first | (with_reducible first | exact HB.out | apply below_alloc | apply pw_below_drewN | apply below_drew1 | refine below_set ?_ GE146.out) | exact HB.out)⟩
   ·rw [if_neg c5] at H
    have c5b0 : decide ((l0_3.length : Int) ≤ 8) = false := decide_eq_false c5
    have c5b1 : decide (l0_3.length ≤ 8) = false := decide_eq_false (by omega)
    clear c5
    obtain rfl := Option.some.inj H
    go_enter Try.func60, Try.ntmps60
    go_wp2_with (first | ((with_reducible refine gate_dst (N := 1) rfl ?_); (try (refine gate_guard (by rfl) ?_; dsimp only)); refine box_event ?hg (N := 1) ?hd (cs := #[.int .i64 a0_0, .int .i64 a0_1, .slice A0_2 l0_2.length c0_2, .slice A0_3 l0_3.length c0_3, .slice A0_4 l0_4.length c0_4, .slice A0_5 l0_5.length c0_5]) (t := 32) ?hr ?_; (case hd => rfl); (case hg => rfl); (case hr => first | (go_simp; done) | (go_simp; rfl)); intro gb146 hg w27 hbox hb; have n0_ := Aside0.mk (below_step (stB HB.out) hb); have n1_ := Aside0.mk (hbox); have n2_ := Aside0.mk ((by rw [hg]; exact (below_size (stB HB.out)) : w.heap.size ≤ gb146)); have n3_ := Aside0.mk ((by rw [hg]; exact (below_size (stB HB.out)) : w.heap.size ≤ gb146)); clear HB; have HB := n0_; have BK146 := n1_; have GW146 := n2_; have GE146 := n3_; clear n0_ n1_ n2_ n3_; clear hb hbox hg; obtain ⟨hcz28_0, hcz28_1, hcz28_2, hcz28_3, hcz28_4, hcz28_5⟩ := bc6 BK146.out; obtain ⟨hfz28_0, hfz28_1, hfz28_2, hfz28_3, hfz28_4, hfz28_5⟩ := bf6 BK146.out) | ((with_reducible refine gate_dst (N := 7) rfl ?_); (try (refine gate_guard (by rfl) ?_; dsimp only)); refine Kd.R_lit (Kd.int .i64) _ 2 ?hg (N := 7) ?hd (xs := ([a0_0, a0_1] : List Int)) (inner := [.int .i64 a0_0, .int .i64 a0_1]) (ok := fun _ => True) (okp := fun _ => True) ?hr ?hp (fun _ hk => hk) trivial (Below.refl _ _) (Nat.le_refl _) (by simp) ?_; (case hd => rfl); (case hg => rfl); (case hr => first | (go_simp; done) | (go_simp; rfl)); (case hp => exact (Reps.one (show Kd.M (Kd.int .i64) _ _ _ a0_0 [.int .i64 a0_0] from rfl) (Reps.one (show Kd.M (Kd.int .i64) _ _ _ a0_1 [.int .i64 a0_1] from rfl) (Reps.none _ _)))); intro v148 w29 ho30 hb hg_ hnew_; clear hg_ hnew_; (first | rw [← Ny147.out] at ho30 | (simp only [Int.reduceToNat] at ho30; rw [← Ny147.out] at ho30)); have n0_ := Aside0.mk (Kd.R_lower ho30 (below_size (by repeat (first | (with_reducible first | exact HB.out | apply below_alloc | apply pw_below_drewN | apply below_drew1 | refine below_set ?_ GE146.out) | exact HB.out)))); have n1_ := Aside0.mk (blk_below (g := gb146) (o := .cells #[.int .i64 a0_0, .int .i64 a0_1, .slice A0_2 l0_2.length c0_2, .slice A0_3 l0_3.length c0_3, .slice A0_4 l0_4.length c0_4, .slice A0_5 l0_5.length c0_5] 32 (0, 0)) (stK BK146.out) hb); have n2_ := Aside0.mk (below_step (by repeat (first | (with_reducible first | exact HB.out | apply below_alloc | apply pw_below_drewN | apply below_drew1 | refine below_set ?_ GE146.out) | exact HB.out)) hb); clear BK146; clear HB; have HO149 := n0_; have BK146 := n1_; have HB := n2_; clear n0_ n1_ n2_; clear hb ho30; obtain ⟨Ao31, co31, eo31⟩ := Kd.R_slice HO149.out; subst eo31) | ((with_reducible refine gate_callee (f := 55) rfl ?_); refine goesL_ (some 8) rfl rfl Try.func55 (by kernel_rfl) rfl #[.int .i64 1, .int .i64 1099511627776, .slice Ao31 y147.length co31] rfl (by (try simp only [List.map_toArray, List.map_cons, List.map_nil]); first | done | rfl | (simp only [List.length_drop, List.length_take]; rfl)) ?_; (with_reducible refine (record_between.calls 1 1099511627776 _ _ y147 true _ ?side1 ?side2 A2.out).mono ?_); (case side1 => exact stC ((Kd.R_reads' HO149.out).2.2)); (case side2 => exact (Kd.R_reads' HO149.out).2.1); rintro e w32 ⟨rfl, hb⟩; refine ⟨_, rfl, ?_⟩; have n0_ := Aside0.mk (Kd.R_below (stR HO149.out) hb); have n1_ := Aside0.mk (blk_below (g := gb146) (o := .cells #[.int .i64 a0_0, .int .i64 a0_1, .slice A0_2 l0_2.length c0_2, .slice A0_3 l0_3.length c0_3, .slice A0_4 l0_4.length c0_4, .slice A0_5 l0_5.length c0_5] 32 (0, 0)) (stK BK146.out) hb); have n2_ := Aside0.mk (below_step (by repeat (first | (with_reducible first | exact HB.out | apply below_alloc | apply pw_below_drewN | apply below_drew1 | refine below_set ?_ GE146.out) | exact HB.out)) hb); clear HO149; clear BK146; clear HB; have HO149 := n0_; have BK146 := n1_; have HB := n2_; clear n0_ n1_ n2_; (try clear hb); (try clear hb2); (try clear hk); (try clear hi); obtain ⟨hcz33_0, hcz33_1, hcz33_2, hcz33_3, hcz33_4, hcz33_5⟩ := bc6 BK146.out; obtain ⟨hfz33_0, hfz33_1, hfz33_2, hfz33_3, hfz33_4, hfz33_5⟩ := bf6 BK146.out))
    go_ret
    exact ⟨by first | rfl | (simp [errW_none, errW_some] <;> rfl) | (simp [*, errW_none, errW_some] <;> rfl), by repeat (first | (with_reducible first | exact HB.out | apply below_alloc | apply pw_below_drewN | apply below_drew1 | refine below_set ?_ GE146.out) | exact HB.out)⟩
  ·rw [if_neg c4] at H
   have c4b0 : decide ((l0_2.length : Int) ≤ 512) = false := decide_eq_false c4
   have c4b1 : decide (l0_2.length ≤ 512) = false := decide_eq_false (by omega)
   clear c4
   obtain rfl := Option.some.inj H
   go_enter Try.func60, Try.ntmps60
   go_wp2_with (first | ((with_reducible refine gate_dst (N := 1) rfl ?_); (try (refine gate_guard (by rfl) ?_; dsimp only)); refine box_event ?hg (N := 1) ?hd (cs := #[.int .i64 a0_0, .int .i64 a0_1, .slice A0_2 l0_2.length c0_2, .slice A0_3 l0_3.length c0_3, .slice A0_4 l0_4.length c0_4, .slice A0_5 l0_5.length c0_5]) (t := 32) ?hr ?_; (case hd => rfl); (case hg => rfl); (case hr => first | (go_simp; done) | (go_simp; rfl)); intro gb146 hg w34 hbox hb; have n0_ := Aside0.mk (below_step (stB HB.out) hb); have n1_ := Aside0.mk (hbox); have n2_ := Aside0.mk ((by rw [hg]; exact (below_size (stB HB.out)) : w.heap.size ≤ gb146)); have n3_ := Aside0.mk ((by rw [hg]; exact (below_size (stB HB.out)) : w.heap.size ≤ gb146)); clear HB; have HB := n0_; have BK146 := n1_; have GW146 := n2_; have GE146 := n3_; clear n0_ n1_ n2_ n3_; clear hb hbox hg; obtain ⟨hcz35_0, hcz35_1, hcz35_2, hcz35_3, hcz35_4, hcz35_5⟩ := bc6 BK146.out; obtain ⟨hfz35_0, hfz35_1, hfz35_2, hfz35_3, hfz35_4, hfz35_5⟩ := bf6 BK146.out) | ((with_reducible refine gate_dst (N := 7) rfl ?_); (try (refine gate_guard (by rfl) ?_; dsimp only)); refine Kd.R_lit (Kd.int .i64) _ 2 ?hg (N := 7) ?hd (xs := ([a0_0, a0_1] : List Int)) (inner := [.int .i64 a0_0, .int .i64 a0_1]) (ok := fun _ => True) (okp := fun _ => True) ?hr ?hp (fun _ hk => hk) trivial (Below.refl _ _) (Nat.le_refl _) (by simp) ?_; (case hd => rfl); (case hg => rfl); (case hr => first | (go_simp; done) | (go_simp; rfl)); (case hp => exact (Reps.one (show Kd.M (Kd.int .i64) _ _ _ a0_0 [.int .i64 a0_0] from rfl) (Reps.one (show Kd.M (Kd.int .i64) _ _ _ a0_1 [.int .i64 a0_1] from rfl) (Reps.none _ _)))); intro v148 w36 ho37 hb hg_ hnew_; clear hg_ hnew_; (first | rw [← Ny147.out] at ho37 | (simp only [Int.reduceToNat] at ho37; rw [← Ny147.out] at ho37)); have n0_ := Aside0.mk (Kd.R_lower ho37 (below_size (by repeat (first | (with_reducible first | exact HB.out | apply below_alloc | apply pw_below_drewN | apply below_drew1 | refine below_set ?_ GE146.out) | exact HB.out)))); have n1_ := Aside0.mk (blk_below (g := gb146) (o := .cells #[.int .i64 a0_0, .int .i64 a0_1, .slice A0_2 l0_2.length c0_2, .slice A0_3 l0_3.length c0_3, .slice A0_4 l0_4.length c0_4, .slice A0_5 l0_5.length c0_5] 32 (0, 0)) (stK BK146.out) hb); have n2_ := Aside0.mk (below_step (by repeat (first | (with_reducible first | exact HB.out | apply below_alloc | apply pw_below_drewN | apply below_drew1 | refine below_set ?_ GE146.out) | exact HB.out)) hb); clear BK146; clear HB; have HO149 := n0_; have BK146 := n1_; have HB := n2_; clear n0_ n1_ n2_; clear hb ho37; obtain ⟨Ao38, co38, eo38⟩ := Kd.R_slice HO149.out; subst eo38) | ((with_reducible refine gate_callee (f := 55) rfl ?_); refine goesL_ (some 8) rfl rfl Try.func55 (by kernel_rfl) rfl #[.int .i64 1, .int .i64 1099511627776, .slice Ao38 y147.length co38] rfl (by (try simp only [List.map_toArray, List.map_cons, List.map_nil]); first | done | rfl | (simp only [List.length_drop, List.length_take]; rfl)) ?_; (with_reducible refine (record_between.calls 1 1099511627776 _ _ y147 true _ ?side1 ?side2 A2.out).mono ?_); (case side1 => exact stC ((Kd.R_reads' HO149.out).2.2)); (case side2 => exact (Kd.R_reads' HO149.out).2.1); rintro e w39 ⟨rfl, hb⟩; refine ⟨_, rfl, ?_⟩; have n0_ := Aside0.mk (Kd.R_below (stR HO149.out) hb); have n1_ := Aside0.mk (blk_below (g := gb146) (o := .cells #[.int .i64 a0_0, .int .i64 a0_1, .slice A0_2 l0_2.length c0_2, .slice A0_3 l0_3.length c0_3, .slice A0_4 l0_4.length c0_4, .slice A0_5 l0_5.length c0_5] 32 (0, 0)) (stK BK146.out) hb); have n2_ := Aside0.mk (below_step (by repeat (first | (with_reducible first | exact HB.out | apply below_alloc | apply pw_below_drewN | apply below_drew1 | refine below_set ?_ GE146.out) | exact HB.out)) hb); clear HO149; clear BK146; clear HB; have HO149 := n0_; have BK146 := n1_; have HB := n2_; clear n0_ n1_ n2_; (try clear hb); (try clear hb2); (try clear hk); (try clear hi); obtain ⟨hcz40_0, hcz40_1, hcz40_2, hcz40_3, hcz40_4, hcz40_5⟩ := bc6 BK146.out; obtain ⟨hfz40_0, hfz40_1, hfz40_2, hfz40_3, hfz40_4, hfz40_5⟩ := bf6 BK146.out))
   go_ret
   exact ⟨by first | rfl | (simp [errW_none, errW_some] <;> rfl) | (simp [*, errW_none, errW_some] <;> rfl), by repeat (first | (with_reducible first | exact HB.out | apply below_alloc | apply pw_below_drewN | apply below_drew1 | refine below_set ?_ GE146.out) | exact HB.out)⟩
 ·replace c3 := Bool.eq_false_iff.mpr c3
  subst c3
  have H1 : (some false) = some r := by rw [if_neg (show ¬ (false = true) by decide)] at H; exact H
  clear H
  have H := H1
  clear H1
  obtain rfl := Option.some.inj H
  go_enter Try.func60, Try.ntmps60
  go_wp2_with (first | ((with_reducible refine gate_dst (N := 1) rfl ?_); (try (refine gate_guard (by rfl) ?_; dsimp only)); refine box_event ?hg (N := 1) ?hd (cs := #[.int .i64 a0_0, .int .i64 a0_1, .slice A0_2 l0_2.length c0_2, .slice A0_3 l0_3.length c0_3, .slice A0_4 l0_4.length c0_4, .slice A0_5 l0_5.length c0_5]) (t := 32) ?hr ?_; (case hd => rfl); (case hg => rfl); (case hr => first | (go_simp; done) | (go_simp; rfl)); intro gb146 hg w41 hbox hb; have n0_ := Aside0.mk (below_step (stB HB.out) hb); have n1_ := Aside0.mk (hbox); have n2_ := Aside0.mk ((by rw [hg]; exact (below_size (stB HB.out)) : w.heap.size ≤ gb146)); have n3_ := Aside0.mk ((by rw [hg]; exact (below_size (stB HB.out)) : w.heap.size ≤ gb146)); clear HB; have HB := n0_; have BK146 := n1_; have GW146 := n2_; have GE146 := n3_; clear n0_ n1_ n2_ n3_; clear hb hbox hg; obtain ⟨hcz42_0, hcz42_1, hcz42_2, hcz42_3, hcz42_4, hcz42_5⟩ := bc6 BK146.out; obtain ⟨hfz42_0, hfz42_1, hfz42_2, hfz42_3, hfz42_4, hfz42_5⟩ := bf6 BK146.out) | ((with_reducible refine gate_dst (N := 7) rfl ?_); (try (refine gate_guard (by rfl) ?_; dsimp only)); refine Kd.R_lit (Kd.int .i64) _ 2 ?hg (N := 7) ?hd (xs := ([a0_0, a0_1] : List Int)) (inner := [.int .i64 a0_0, .int .i64 a0_1]) (ok := fun _ => True) (okp := fun _ => True) ?hr ?hp (fun _ hk => hk) trivial (Below.refl _ _) (Nat.le_refl _) (by simp) ?_; (case hd => rfl); (case hg => rfl); (case hr => first | (go_simp; done) | (go_simp; rfl)); (case hp => exact (Reps.one (show Kd.M (Kd.int .i64) _ _ _ a0_0 [.int .i64 a0_0] from rfl) (Reps.one (show Kd.M (Kd.int .i64) _ _ _ a0_1 [.int .i64 a0_1] from rfl) (Reps.none _ _)))); intro v148 w43 ho44 hb hg_ hnew_; clear hg_ hnew_; (first | rw [← Ny147.out] at ho44 | (simp only [Int.reduceToNat] at ho44; rw [← Ny147.out] at ho44)); have n0_ := Aside0.mk (Kd.R_lower ho44 (below_size (by repeat (first | (with_reducible first | exact HB.out | apply below_alloc | apply pw_below_drewN | apply below_drew1 | refine below_set ?_ GE146.out) | exact HB.out)))); have n1_ := Aside0.mk (blk_below (g := gb146) (o := .cells #[.int .i64 a0_0, .int .i64 a0_1, .slice A0_2 l0_2.length c0_2, .slice A0_3 l0_3.length c0_3, .slice A0_4 l0_4.length c0_4, .slice A0_5 l0_5.length c0_5] 32 (0, 0)) (stK BK146.out) hb); have n2_ := Aside0.mk (below_step (by repeat (first | (with_reducible first | exact HB.out | apply below_alloc | apply pw_below_drewN | apply below_drew1 | refine below_set ?_ GE146.out) | exact HB.out)) hb); clear BK146; clear HB; have HO149 := n0_; have BK146 := n1_; have HB := n2_; clear n0_ n1_ n2_; clear hb ho44; obtain ⟨Ao45, co45, eo45⟩ := Kd.R_slice HO149.out; subst eo45) | ((with_reducible refine gate_callee (f := 55) rfl ?_); refine goesL_ (some 8) rfl rfl Try.func55 (by kernel_rfl) rfl #[.int .i64 1, .int .i64 1099511627776, .slice Ao45 y147.length co45] rfl (by (try simp only [List.map_toArray, List.map_cons, List.map_nil]); first | done | rfl | (simp only [List.length_drop, List.length_take]; rfl)) ?_; (with_reducible refine (record_between.calls 1 1099511627776 _ _ y147 false _ ?side1 ?side2 A2.out).mono ?_); (case side1 => exact stC ((Kd.R_reads' HO149.out).2.2)); (case side2 => exact (Kd.R_reads' HO149.out).2.1); rintro e w46 ⟨rfl, hb⟩; refine ⟨_, rfl, ?_⟩; have n0_ := Aside0.mk (Kd.R_below (stR HO149.out) hb); have n1_ := Aside0.mk (blk_below (g := gb146) (o := .cells #[.int .i64 a0_0, .int .i64 a0_1, .slice A0_2 l0_2.length c0_2, .slice A0_3 l0_3.length c0_3, .slice A0_4 l0_4.length c0_4, .slice A0_5 l0_5.length c0_5] 32 (0, 0)) (stK BK146.out) hb); have n2_ := Aside0.mk (below_step (by repeat (first | (with_reducible first | exact HB.out | apply below_alloc | apply pw_below_drewN | apply below_drew1 | refine below_set ?_ GE146.out) | exact HB.out)) hb); clear HO149; clear BK146; clear HB; have HO149 := n0_; have BK146 := n1_; have HB := n2_; clear n0_ n1_ n2_; (try clear hb); (try clear hb2); (try clear hk); (try clear hi)))
  go_ret
  exact ⟨by first | rfl | (simp [errW_none, errW_some] <;> rfl) | (simp [*, errW_none, errW_some] <;> rfl), by repeat (first | (with_reducible first | exact HB.out | apply below_alloc | apply pw_below_drewN | apply below_drew1 | refine below_set ?_ GE146.out) | exact HB.out)⟩
end Go.Proofs.Ytgmlpmdfkaadhaa.G
end

section
-- Written by a program of this session's (wip/gprint.py over the kit's printer).
namespace Go.Proofs.Ytgmlpmdfkaadhaa.G
open Go.RowKit Go.Proofs.YtgmlpmdfkaadhaaW.PrintWords Go.Proofs.YtgmlpmdfkaadhaaW.PrintLast Go.Proofs.YtgmlpmdfkaadhaaW.PrintMore
attribute [local go_sem] max2_int min2_int max_two min_two max_three min_three max_four min_four   -- for this text's walks alone
def record_who.f (a0 : Int) : Option (Bool) := (record_between.f 0 4 (([a0] : List Int))).bind fun t247 => (some t247)
set_option maxHeartbeats 8000000 in
set_option maxRecDepth 100000 in
theorem record_who.calls (a0 : Int) (r : Bool) (w : World) (h : record_who.f a0 = some r) :
  Calls Try.prog 56 #[.int .i64 a0] w fun e w' => e = .returned (.bool r) ∧ Below w.heap.size w w' := by
 have HB := Aside0.mk (Below.refl w.heap.size w)
 have H : ((record_between.f 0 4 (([a0] : List Int))).bind fun t247 => (some t247)) = some r := h
 clear h
 obtain ⟨y244, hy244⟩ : ∃ y_ : List Int, y_ = (([a0] : List Int)) := ⟨_, rfl⟩
 replace H : ((record_between.f 0 4 y244).bind fun t247 => (some t247)) = some r := by first | (rw [hy244]; with_reducible exact H) | (have H2_ := (Option.bind_some _ _).symm.trans H; rw [hy244]; with_reducible exact H2_) | (have H2_ := (Option.bind_some _ _).symm.trans H; with_reducible exact H2_) | with_reducible exact H | (rw [hy244]; exact H) | exact H
 have Ny244 := Aside0.mk hy244
 clear hy244
 replace H := Option.bind_eq_some_iff.mp H
 obtain ⟨t247, A20, H⟩ := H
 replace H : (some t247) = some r := H
 have A2 := Aside0.mk A20
 clear A20
 obtain rfl := Option.some.inj H
 go_enter Try.func56, Try.ntmps56
 go_wp2_with (first | ((with_reducible refine gate_dst (N := 4) rfl ?_); refine Kd.R_lit (Kd.int .i64) _ 2 ?hg (N := 4) ?hd (xs := ([a0] : List Int)) (inner := [.int .i64 a0]) (ok := fun _ => True) (okp := fun _ => True) ?hr ?hp (fun _ hk => hk) trivial (Below.refl _ _) (Nat.le_refl _) (by simp) ?_; (case hd => rfl); (case hg => rfl); (case hr => first | (go_simp; done) | (go_simp; rfl)); (case hp => exact (Reps.one (show Kd.M (Kd.int .i64) _ _ _ a0 [.int .i64 a0] from rfl) (Reps.none _ _))); intro v245 w3 ho4 hb hg_ hnew_; clear hg_ hnew_; (first | rw [← Ny244.out] at ho4 | (simp only [Int.reduceToNat] at ho4; rw [← Ny244.out] at ho4)); have n0_ := Aside0.mk (Kd.R_lower ho4 (below_size (stB HB.out))); have n1_ := Aside0.mk (below_step (stB HB.out) hb); clear HB; have HO246 := n0_; have HB := n1_; clear n0_ n1_; clear hb ho4; obtain ⟨Ao5, co5, eo5⟩ := Kd.R_slice HO246.out; subst eo5) | ((with_reducible refine gate_callee (f := 55) rfl ?_); refine goesL_ (some 5) rfl rfl Try.func55 (by kernel_rfl) rfl #[.int .i64 0, .int .i64 4, .slice Ao5 y244.length co5] rfl (by (try simp only [List.map_toArray, List.map_cons, List.map_nil]); first | done | rfl | (simp only [List.length_drop, List.length_take]; rfl)) ?_; (with_reducible refine (record_between.calls 0 4 _ _ y244 t247 _ ?side1 ?side2 A2.out).mono ?_); (case side1 => exact stC ((Kd.R_reads' HO246.out).2.2)); (case side2 => exact (Kd.R_reads' HO246.out).2.1); rintro e w6 ⟨rfl, hb⟩; refine ⟨_, rfl, ?_⟩; have n0_ := Aside0.mk (Kd.R_below (stR HO246.out) hb); have n1_ := Aside0.mk (below_step (stB HB.out) hb); clear HO246; clear HB; have HO246 := n0_; have HB := n1_; clear n0_ n1_; (try clear hb); (try clear hb2); (try clear hk); (try clear hi)))
 go_ret
 exact ⟨by first | rfl | (simp [errW_none, errW_some] <;> rfl) | (simp [*, errW_none, errW_some] <;> rfl), stB HB.out⟩
def record_count.f (l0 : List Int) : Option (Bool) := (record_between.f 0 1099511627776 l0).bind fun t248 => (some t248)
set_option maxHeartbeats 8000000 in
set_option maxRecDepth 100000 in
theorem record_count.calls (A0 : Option Addr) (c0 : Nat) (l0 : List Int) (r : Bool) (w : World) (hr0 : Kd.C (Kd.int .i64) w A0 l0.length l0) (hc0 : l0.length ≤ c0) (h : record_count.f l0 = some r) :
  Calls Try.prog 57 #[.slice A0 l0.length c0] w fun e w' => e = .returned (.bool r) ∧ Below w.heap.size w w' := by
 have HR0 := Aside0.mk hr0
 have HC0 := Aside0.mk hc0
 clear hr0 hc0
 have HB := Aside0.mk (Below.refl w.heap.size w)
 have H : ((record_between.f 0 1099511627776 l0).bind fun t248 => (some t248)) = some r := h
 clear h
 replace H := Option.bind_eq_some_iff.mp H
 obtain ⟨t248, A20, H⟩ := H
 replace H : (some t248) = some r := H
 have A2 := Aside0.mk A20
 clear A20
 obtain rfl := Option.some.inj H
 go_enter Try.func57, Try.ntmps57
 go_wp2_with (first | ((with_reducible refine gate_callee (f := 55) rfl ?_); refine goesL_ (some 4) rfl rfl Try.func55 (by kernel_rfl) rfl #[.int .i64 0, .int .i64 1099511627776, .slice A0 l0.length c0] rfl (by (try simp only [List.map_toArray, List.map_cons, List.map_nil]); first | done | rfl | (simp only [List.length_drop, List.length_take]; rfl)) ?_; (with_reducible refine (record_between.calls 0 1099511627776 _ _ l0 t248 _ ?side1 ?side2 A2.out).mono ?_); (case side1 => exact stC HR0.out); (case side2 => exact HC0.out); rintro e w3 ⟨rfl, hb⟩; refine ⟨_, rfl, ?_⟩; have n0_ := Aside0.mk (below_step (stB HB.out) hb); clear HB; have HB := n0_; clear n0_; (try clear hb); (try clear hb2); (try clear hk); (try clear hi)))
 go_ret
 exact ⟨by first | rfl | (simp [errW_none, errW_some] <;> rfl) | (simp [*, errW_none, errW_some] <;> rfl), stB HB.out⟩
end Go.Proofs.Ytgmlpmdfkaadhaa.G
end

section
/- record.SameEntry. -/
namespace Go.Proofs.Ytgmlpmdfkaadhaa.M
open Go.RowKit Go.Proofs.YtgmlpmdfkaadhaaW.PrintWords Go.Proofs.YtgmlpmdfkaadhaaW.PrintLast Go.Proofs.YtgmlpmdfkaadhaaW.PrintMore Go.Proofs.Ytgmlpmdfkaadhaa.G
structure TxAt (w : World) (p : Addr) (x : TxD) (A2 : Option Addr) (c2 : Nat) (A3 : Option Addr) (c3 : Nat) (A4 : Option Addr) (c4 : Nat) (A5 : Option Addr) (c5 : Nat) : Prop where
 e0 : w.cell? p = some (.int .i64 x.f0)
 e1 : w.cell? ⟨p.block, p.off + 1, none⟩ = some (.int .i64 x.f1)
 e2 : w.cell? ⟨p.block, p.off + 2, none⟩ = some (.slice A2 x.f2.length c2)
 e3 : w.cell? ⟨p.block, p.off + 3, none⟩ = some (.slice A3 x.f3.length c3)
 e4 : w.cell? ⟨p.block, p.off + 4, none⟩ = some (.slice A4 x.f4.length c4)
 e5 : w.cell? ⟨p.block, p.off + 5, none⟩ = some (.slice A5 x.f5.length c5)
structure TxC (w : World) (x : TxD) (A2 : Option Addr) (c2 : Nat) (A3 : Option Addr) (c3 : Nat) (A4 : Option Addr) (c4 : Nat) (A5 : Option Addr) (c5 : Nat) : Prop where
 l2 : x.f2.length ≤ c2
 g2 : (Kd.int .u8).C w A2 x.f2.length x.f2
 l3 : x.f3.length ≤ c3
 g3 : (Kd.int .i64).C w A3 x.f3.length x.f3
 l4 : x.f4.length ≤ c4
 g4 : G.k54.C w A4 x.f4.length x.f4
 l5 : x.f5.length ≤ c5
 g5 : G.k54.C w A5 x.f5.length x.f5
theorem TxC.below {w w' : World} {x : TxD} {A2 A3 A4 A5 : Option Addr} {c2 c3 c4 c5 : Nat} (h : TxC w x A2 c2 A3 c3 A4 c4 A5 c5) (hb : Below w.heap.size w w') : TxC w' x A2 c2 A3 c3 A4 c4 A5 c5 :=
 ⟨h.l2, Kd.C_below h.g2 hb, h.l3, Kd.C_below h.g3 hb, h.l4, Kd.C_below h.g4 hb, h.l5, Kd.C_below h.g5 hb⟩
theorem TxC.le {w : World} {x : TxD} {A2 A3 A4 A5 : Option Addr} {c2 c3 c4 c5 : Nat} (h : TxC w x A2 c2 A3 c3 A4 c4 A5 c5) : TxLe x 9223372036854775807 := ⟨h.g2.2.1, h.g3.2.1, h.g4.2.1, h.g5.2.1⟩
theorem tx_get {w : World} {A : Option Addr} {n : Nat} {l : List TxD} (h : Kd.C G.k32 w A n l) {k : Nat} {x : TxD} (hk : l[k]? = some x) :
  ∃ ad A2 c2 A3 c3 A4 c4 A5 c5, A = some ad ∧ TxAt w (ad.add (k * 6)) x A2 c2 A3 c3 A4 c4 A5 c5 ∧ TxC w x A2 c2 A3 c3 A4 c4 A5 c5 := by
 have hlt : k < n := by
  have := (List.getElem?_eq_some_iff.1 hk).1
  have := h.1
  omega
 obtain ⟨ad, A2, c2, A3, c3, A4, c4, A5, c5, rfl, h0, h1, h2, h3, h4, h5, l2, g2, l3, g3, l4, g4, l5, g5⟩ := G.at_T32 h (k : Int) (by omega) (by omega)
 have e : G.rd_T32 l (k : Int) = x := by unfold G.rd_T32; rw [Int.toNat_natCast, List.getD_eq_getElem?_getD, hk]; rfl
 rw [e] at h0 h1 h2 h3 h4 h5 l2 g2 l3 g3 l4 g4 l5 g5
 rw [Int.toNat_natCast] at h0 h1 h2 h3 h4 h5
 exact ⟨ad, A2, c2, A3, c3, A4, c4, A5, c5, rfl, ⟨h0, h1, h2, h3, h4, h5⟩, ⟨l2, g2, l3, g3, l4, g4, l5, g5⟩⟩
theorem sameTx_is {w : World} (a b : TxD) {A2 A3 A4 A5 B2 B3 B4 B5 : Option Addr} {c2 c3 c4 c5 d2 d3 d4 d5 : Nat} (ha : TxC w a A2 c2 A3 c3 A4 c4 A5 c5) (hb : TxC w b B2 d2 B3 d3 B4 d4 B5 d5) :
  Calls Try.prog 69 #[.agg #[.int .i64 a.f0, .int .i64 a.f1, .slice A2 a.f2.length c2, .slice A3 a.f3.length c3, .slice A4 a.f4.length c4, .slice A5 a.f5.length c5], .agg #[.int .i64 b.f0, .int .i64 b.f1, .slice B2 b.f2.length d2, .slice B3 b.f3.length d3, .slice B4 b.f4.length d4, .slice B5 b.f5.length d5]] w fun e w' => e = .returned (.bool (eqTx a b)) ∧ Below w.heap.size w w' :=
 G.record_SameTxn.calls (a.f3.length + a.f4.length + a.f5.length + 1) a.f0 a.f1 A2 c2 a.f2 A3 c3 a.f3 A4 c4 a.f4 A5 c5 a.f5 b.f0 b.f1 B2 d2 b.f2 B3 d3 b.f3 B4 d4 b.f4 B5 d5 b.f5 _ w ha.g2 ha.l2 ha.g3 ha.l3 ha.g4 ha.l4 ha.g5 ha.l5 hb.g2 hb.l2 hb.g3 hb.l3 hb.g4 hb.l4 hb.g5 hb.l5 (sameTxn_p _ a b ha.le ⟨by omega, by omega, by omega⟩)
theorem eqTs_take {a b : List TxD} {i : Nat} {x y : TxD} (hx : a[i]? = some x) (hy : b[i]? = some y) : eqTs (a.drop i) (b.drop i) = (eqTx x y && eqTs (a.drop (i + 1)) (b.drop (i + 1))) := by
 rw [drop_cons hx, drop_cons hy]; rfl
def EqI (a b : List TxD) (w : World) (i : Value) (wr : World) : Prop := ∃ k : Nat, i = .int .i64 k ∧ k ≤ a.length ∧ eqTs a b = eqTs (a.drop k) (b.drop k) ∧ Below w.heap.size w wr
set_option maxHeartbeats 1000000 in
theorem eqfunc_is (A B : Option Addr) (c d : Nat) (a b : List TxD) (w : World) (ha : Kd.C G.k32 w A a.length a) (hb : Kd.C G.k32 w B b.length b) :
  Calls Try.prog 14 #[.slice A a.length c, .slice B b.length d, .func (.func 69) #[] #[]] w fun e w' => e = .returned (.bool (eqTs a b)) ∧ Below w.heap.size w w' := by
 have hlm : a.length ≤ 9223372036854775807 := ha.2.1
 have HA := Lib.hid ha; have HB := Lib.hid hb
 clear ha hb
 by_cases hl : a.length = b.length
 ·have hlb : ((a.length : Int) != (b.length : Int)) = false := by rw [bne_eq_false_iff_eq]; omega
  have HL := Lib.hid hl
  clear hl
  go_enter Try.func14, Try.ntmps14
  go_wp2_with fail
  go_loopw [17] (fun i wr => EqI a b w i wr) (fun i _ => a.length - (intOf i).toNat)
  case atStart => exact ⟨0, rfl, Nat.zero_le _, rfl, Below.refl _ _⟩
  case round =>
   obtain ⟨k, rfl, hk, he, hb⟩ := hrel
   have HE := Lib.hid he; have HBr := Lib.hid hb
   clear he hb
   by_cases hlt : k < a.length
   ·obtain ⟨x, hx⟩ : ∃ x, a[k]? = some x := ⟨_, List.getElem?_eq_getElem hlt⟩
    obtain ⟨y, hy⟩ : ∃ y, b[k]? = some y := ⟨_, List.getElem?_eq_getElem (by have := HL.out; omega)⟩
    obtain ⟨ad, A2, c2, A3, c3, A4, c4, A5, c5, rfl, ⟨x0, x1, x2, x3, x4, x5⟩, hX⟩ := tx_get (Kd.C_below HA.out HBr.out) hx
    obtain ⟨bd, B2, d2, B3, d3, B4, d4, B5, d5, rfl, ⟨y0, y1, y2, y3, y4, y5⟩, hY⟩ := tx_get (Kd.C_below HB.out HBr.out) hy
    have HXX := Lib.hid hX; have HYY := Lib.hid hY
    have HS := Lib.hid (eqTs_take hx hy)
    have hkb : k < b.length := by have := HL.out; omega
    clear hX hY hx hy
    have zb : (bd.add (k * 6)).block < wr.heap.size := World.block_lt_of_cell? _ _ y0
    go_wp2_with fail
    have HB2 := Lib.hid (show Below wr.heap.size wr ((wr.alloc (.cells #[.int .i64 x.f0, .int .i64 x.f1, .slice A2 x.f2.length c2, .slice A3 x.f3.length c3, .slice A4 x.f4.length c4, .slice A5 x.f5.length c5] 32)).alloc (.cells #[.int .i64 y.f0, .int .i64 y.f1, .slice B2 y.f2.length d2, .slice B3 y.f3.length d3, .slice B4 y.f4.length d4, .slice B5 y.f5.length d5] 32)) from ((Below.refl _ _).alloc (Nat.le_refl _) _).alloc (by simp) _)
    refine (sameTx_is x y (HXX.out.below HB2.out) (HYY.out.below HB2.out)).mono ?_
    rintro e w' ⟨rfl, hb⟩
    have HB3 := Lib.hid (HBr.out.trans ((HB2.out.trans (hb.mono HB2.out.size)).mono HBr.out.size))
    clear hb x0 x1 x2 x3 x4 x5 y0 y1 y2 y3 y4 y5 zb
    obtain ⟨q, hq⟩ : ∃ q, eqTx x y = q := ⟨_, rfl⟩
    have HQ := Lib.hid hq
    rw [hq]
    clear hq
    cases q with
    | true =>
     go_wp2_with fail
     go_roundw
     case rel => exact ⟨k + 1, by go_num, hlt, by rw [HE.out, HS.out, HQ.out, Bool.true_and], HB3.out⟩
     case measure => simp [intOf]; omega
    | false =>
     go_wp2_with fail
     go_ret
     exact ⟨by rw [HE.out, HS.out, HQ.out]; rfl, HB3.out⟩
   ·have HF := Lib.hid (show eqTs a b = true by rw [HE.out, List.drop_of_length_le (by omega), List.drop_of_length_le (by have := HL.out; omega)]; rfl)
    go_wp2_with fail
    go_ret
    exact ⟨by rw [HF.out]; rfl, HBr.out⟩
 ·have hlb : ((a.length : Int) != (b.length : Int)) = true := by rw [bne_iff_ne]; omega
  have HF := Lib.hid (eqTs_len hl)
  clear hl
  go_enter Try.func14, Try.ntmps14
  go_wp2_with fail
  go_ret
  exact ⟨by rw [HF.out]; rfl, Below.refl _ _⟩
set_option maxHeartbeats 1000000 in
theorem sameEn_is (k f n : Int) (A : Option Addr) (c : Nat) (l : List TxD) (k' f' n' : Int) (A' : Option Addr) (c' : Nat) (l' : List TxD) (w : World) (ha : Kd.C G.k32 w A l.length l) (hb : Kd.C G.k32 w A' l'.length l') :
  Calls Try.prog 54 #[.agg #[.int .i64 k, .int .i64 f, .int .i64 n, .slice A l.length c], .agg #[.int .i64 k', .int .i64 f', .int .i64 n', .slice A' l'.length c']] w fun e w' => e = .returned (.bool (eqEn k f n l k' f' n' l')) ∧ Below w.heap.size w w' := by
 obtain ⟨q, hq⟩ : ∃ q, eqEn k f n l k' f' n' l' = q := ⟨_, rfl⟩
 have HQ := Lib.hid hq
 rw [hq]
 clear hq
 have HB := Lib.hid (show Below w.heap.size w ((w.alloc (.cells #[.int .i64 k, .int .i64 f, .int .i64 n, .slice A l.length c] 36)).alloc (.cells #[.int .i64 k', .int .i64 f', .int .i64 n', .slice A' l'.length c'] 36)) from ((Below.refl _ _).alloc (Nat.le_refl _) _).alloc (by simp) _)
 have HE := Lib.hid (eqfunc_is A A' c c' l l' _ (Kd.C_below ha HB.out) (Kd.C_below hb HB.out))
 clear ha hb
 cases h0 : (k == k') with
 | false =>
  have HV := Lib.hid (show q = false by rw [← HQ.out]; unfold eqEn; rw [h0, Bool.false_and])
  go_enter Try.func54, Try.ntmps54
  go_wp2_with fail
  go_ret
  exact ⟨by rw [HV.out]; rfl, HB.out⟩
 | true =>
  cases h1 : (f == f') with
  | false =>
   have HV := Lib.hid (show q = false by rw [← HQ.out]; unfold eqEn; rw [h1, Bool.false_and, Bool.and_false])
   go_enter Try.func54, Try.ntmps54
   go_wp2_with fail
   go_ret
   exact ⟨by rw [HV.out]; rfl, HB.out⟩
  | true =>
   cases h2 : (n == n') with
   | false =>
    have HV := Lib.hid (show q = false by rw [← HQ.out]; unfold eqEn; rw [h2, Bool.false_and, Bool.and_false, Bool.and_false])
    go_enter Try.func54, Try.ntmps54
    go_wp2_with fail
    go_ret
    exact ⟨by rw [HV.out]; rfl, HB.out⟩
   | true =>
    have HV := Lib.hid (show q = eqTs l l' by rw [← HQ.out]; unfold eqEn; rw [h0, h1, h2, Bool.true_and, Bool.true_and, Bool.true_and])
    go_enter Try.func54, Try.ntmps54
    go_wp2_with fail
    refine HE.out.mono ?_
    rintro e w' ⟨rfl, hb⟩
    have HB2 := Lib.hid (HB.out.trans (hb.mono HB.out.size))
    clear hb
    go_wp2_with fail
    go_ret
    exact ⟨by rw [HV.out]; rfl, HB2.out⟩
end Go.Proofs.Ytgmlpmdfkaadhaa.M
namespace Go.Proofs.Ytgmlpmdfkaadhaa.G
open Go.RowKit Go.Proofs.YtgmlpmdfkaadhaaW.PrintWords Go.Proofs.Ytgmlpmdfkaadhaa.M
def record_SameEntry.f (a0_0 a0_1 a0_2 : Int) (l0_3 : List S32) (a1_0 a1_1 a1_2 : Int) (l1_3 : List S32) : Option Bool := some (eqEn a0_0 a0_1 a0_2 l0_3 a1_0 a1_1 a1_2 l1_3)
theorem record_SameEntry.calls (a0_0 a0_1 a0_2 : Int) (A0_3 : Option Addr) (c0_3 : Nat) (l0_3 : List S32) (a1_0 a1_1 a1_2 : Int) (A1_3 : Option Addr) (c1_3 : Nat) (l1_3 : List S32) (r : Bool) (w : World) (hr0_3 : Kd.C k32 w A0_3 l0_3.length l0_3) (hc0_3 : l0_3.length ≤ c0_3) (hr1_3 : Kd.C k32 w A1_3 l1_3.length l1_3) (hc1_3 : l1_3.length ≤ c1_3) (h : record_SameEntry.f a0_0 a0_1 a0_2 l0_3 a1_0 a1_1 a1_2 l1_3 = some r) :
  Calls Try.prog 54 #[.agg #[.int .i64 a0_0, .int .i64 a0_1, .int .i64 a0_2, .slice A0_3 l0_3.length c0_3], .agg #[.int .i64 a1_0, .int .i64 a1_1, .int .i64 a1_2, .slice A1_3 l1_3.length c1_3]] w fun e w' => e = .returned (.bool r) ∧ Below w.heap.size w w' := by
 obtain rfl := Option.some.inj h
 exact sameEn_is a0_0 a0_1 a0_2 A0_3 c0_3 l0_3 a1_0 a1_1 a1_2 A1_3 c1_3 l1_3 w hr0_3 hr1_3
end Go.Proofs.Ytgmlpmdfkaadhaa.G
end

section
/- record.entry: which entries may be. -/
namespace Go.Proofs.Ytgmlpmdfkaadhaa.M
open Go.RowKit Go.Proofs.YtgmlpmdfkaadhaaW.PrintWords Go.Proofs.YtgmlpmdfkaadhaaW.PrintLast Go.Proofs.YtgmlpmdfkaadhaaW.PrintMore Go.Proofs.Ytgmlpmdfkaadhaa.G
theorem C_lit (w : World) (xs : List Int) (hm : xs.length ≤ 1000) : Kd.C (Kd.int .i64) (w.alloc (.cells (xs.map (Value.int .i64)).toArray 2)) (some ⟨w.heap.size, 0, none⟩) xs.length xs := by
 have h : Kd.R (Kd.int .i64) 2 (w.alloc (.cells (xs.map (Value.int .i64)).toArray 2)) w.heap.size (fun _ => True) (.slice (some ⟨w.heap.size, 0, none⟩) xs.length xs.length) xs :=
  Kd.R_of_own (own_lit w w.heap.size 2 .i64 xs (Nat.le_refl _) (by omega)) (fun _ _ => trivial)
 exact (Kd.R_reads' h).2.2
def mayT (t : TxD) : Bool := inB 1 1099511627776 [t.f0, t.f1] && (decide (t.f2.length ≤ 512) && (decide (t.f3.length ≤ 8) && (mayK t.f4 && mayK t.f5)))
def mayE (k f n : Int) (l : List TxD) : Bool := if k = 0 then eqEn k f n l 0 0 0 [] else (k == 1 && (inB 0 4 [f] && (inB 0 1099511627776 [n] && (inB 1 16 [(l.length : Int)] && l.all mayT))))
theorem record_txn_f (t : TxD) : G.record_txn.f t.f0 t.f1 t.f2 t.f3 t.f4 t.f5 = some (mayT t) := by
 unfold G.record_txn.f mayT G.record_between.f G.record_keys.f
 simp only [Option.bind_some]
 cases h1 : inB 1 1099511627776 [t.f0, t.f1]
 ·simp
 ·by_cases h2 : t.f2.length ≤ 512
  ·by_cases h3 : t.f3.length ≤ 8
   ·rw [if_pos rfl, if_pos (by omega), if_pos (by omega)]
    cases h4 : mayK t.f4 <;> simp [h2, h3]
   ·rw [if_pos rfl, if_pos (by omega), if_neg (by omega)]
    simp [h3]
  ·rw [if_pos rfl, if_neg (by omega)]
   simp [h2]
theorem mayTx_is {w : World} (a : TxD) {A2 A3 A4 A5 : Option Addr} {c2 c3 c4 c5 : Nat} (ha : TxC w a A2 c2 A3 c3 A4 c4 A5 c5) :
  Calls Try.prog 60 #[.agg #[.int .i64 a.f0, .int .i64 a.f1, .slice A2 a.f2.length c2, .slice A3 a.f3.length c3, .slice A4 a.f4.length c4, .slice A5 a.f5.length c5]] w fun e w' => e = .returned (.bool (mayT a)) ∧ Below w.heap.size w w' :=
 G.record_txn.calls a.f0 a.f1 A2 c2 a.f2 A3 c3 a.f3 A4 c4 a.f4 A5 c5 a.f5 _ w ha.g2 ha.l2 ha.g3 ha.l3 ha.g4 ha.l4 ha.g5 ha.l5 (record_txn_f a)
theorem entry1_is {w : World} (a : TxD) {A2 A3 A4 A5 : Option Addr} {c2 c3 c4 c5 : Nat} (ha : TxC w a A2 c2 A3 c3 A4 c4 A5 c5) :
  Calls Try.prog 59 #[.agg #[.int .i64 a.f0, .int .i64 a.f1, .slice A2 a.f2.length c2, .slice A3 a.f3.length c3, .slice A4 a.f4.length c4, .slice A5 a.f5.length c5]] w fun e w' => e = .returned (.bool (!mayT a)) ∧ Below w.heap.size w w' := by
 have HB := Lib.hid (show Below w.heap.size w (w.alloc (.cells #[.int .i64 a.f0, .int .i64 a.f1, .slice A2 a.f2.length c2, .slice A3 a.f3.length c3, .slice A4 a.f4.length c4, .slice A5 a.f5.length c5] 32)) from (Below.refl _ _).alloc (Nat.le_refl _) _)
 have HA := Lib.hid (ha.below HB.out)
 clear ha
 go_enter Try.func59, Try.ntmps59
 go_wp2_with fail
 refine (mayTx_is a HA.out).mono ?_
 rintro e w' ⟨rfl, hb⟩
 have HB2 := Lib.hid (HB.out.trans (hb.mono HB.out.size))
 clear hb
 go_wp2_with fail
 go_ret
 exact ⟨by simp, HB2.out⟩
def TxV (l : List TxD) (w : World) (e : Ending) (w' : World) : Prop := ∃ i : Int, e = .returned (.int .i64 i) ∧ (0 ≤ i ↔ l.all mayT = false) ∧ Below w.heap.size w w'
def TxI (l : List TxD) (w : World) (i : Value) (wr : World) : Prop := ∃ k : Nat, k ≤ l.length ∧ i = .int .i64 k ∧ (l.take k).all mayT = true ∧ Below w.heap.size w wr
set_option maxHeartbeats 1000000 in
theorem tx_index (A : Option Addr) (c : Nat) (l : List TxD) (w : World) (hr : Kd.C G.k32 w A l.length l) :
  Calls Try.prog 72 #[.slice A l.length c, .func (.func 59) #[] #[]] w fun e w' => TxV l w e w' := by
 have hlm : l.length ≤ 9223372036854775807 := hr.2.1
 have HR := Lib.hid hr
 clear hr
 go_enter Try.func72, Try.ntmps72
 go_wp2_with fail
 go_loopw [8] (fun i wr => TxI l w i wr) (fun i _ => l.length - (intOf i).toNat)
 case atStart => exact ⟨0, Nat.zero_le _, rfl, by simp, Below.refl _ _⟩
 case round =>
  obtain ⟨k, hk, rfl, hin, hb⟩ := hrel
  have HIN := Lib.hid hin; have HBr := Lib.hid hb
  clear hin hb
  by_cases hlt : k < l.length
  ·obtain ⟨x, hx⟩ : ∃ x, l[k]? = some x := ⟨_, List.getElem?_eq_getElem hlt⟩
   obtain ⟨ad, A2, c2, A3, c3, A4, c4, A5, c5, rfl, ⟨x0, x1, x2, x3, x4, x5⟩, hX⟩ := tx_get (Kd.C_below HR.out HBr.out) hx
   have HXX := Lib.hid hX
   have HX := Lib.hid (show l.take (k + 1) = l.take k ++ [x] by rw [List.take_add_one, hx]; rfl)
   have HM := Lib.hid (List.mem_of_getElem? hx)
   clear hx hX
   go_wp2_with fail
   refine (entry1_is x HXX.out).mono ?_
   rintro e w' ⟨rfl, hb⟩
   have HB2 := Lib.hid (HBr.out.trans (hb.mono HBr.out.size))
   clear hb
   cases ho : mayT x with
   | false =>
    have HB := Lib.hid (show l.all mayT = false by rw [List.all_eq_false]; exact ⟨x, HM.out, by rw [ho]; simp⟩)
    clear ho
    go_wp2_with fail
    go_ret
    exact ⟨k, rfl, ⟨fun _ => HB.out, fun _ => by omega⟩, HB2.out⟩
   | true =>
    have HB := Lib.hid (show (l.take (k + 1)).all mayT = true by rw [HX.out, List.all_append, HIN.out]; simp [ho])
    clear ho
    go_wp2_with fail
    go_roundw
    case rel => exact ⟨k + 1, hlt, by go_num, HB.out, HB2.out⟩
    case measure => simp [intOf]; omega
  ·have HB := Lib.hid (show l.all mayT = true by have := HIN.out; rwa [List.take_of_length_le (by omega)] at this)
   go_wp2_with fail
   go_ret
   exact ⟨-1, rfl, ⟨fun h => by omega, fun h => by rw [HB.out] at h; cases h⟩, HBr.out⟩
theorem tx_has (A : Option Addr) (c : Nat) (l : List TxD) (w : World) (hr : Kd.C G.k32 w A l.length l) :
  Calls Try.prog 58 #[.slice A l.length c, .func (.func 59) #[] #[]] w fun e w' => e = .returned (.bool (!l.all mayT)) ∧ Below w.heap.size w w' := by
 have H := Lib.hid (tx_index A c l w hr)
 clear hr
 go_enter Try.func58, Try.ntmps58
 go_wp2_with fail
 refine H.out.mono ?_
 rintro e w' ⟨i, rfl, hi, hb⟩
 have HI := Lib.hid hi; have HB := Lib.hid hb
 clear hi hb
 go_wp2_with fail
 go_ret
 refine ⟨?_, HB.out⟩
 show Ending.returned (.bool (decide (0 ≤ i))) = _
 cases hb : l.all mayT with
 | true => rw [decide_eq_false (fun h => by have := HI.out.1 h; rw [hb] at this; cases this)]; rfl
 | false => rw [decide_eq_true (HI.out.2 hb)]; rfl
def EnBox (W : World) (b : Nat) (k f n : Int) (A : Option Addr) (m c : Nat) : Prop := W.heap[b]? = some (.cells #[.int .i64 k, .int .i64 f, .int .i64 n, .slice A m c] 36)
theorem EnBox.cell {W : World} {b : Nat} {k f n : Int} {A : Option Addr} {m c : Nat} (h : EnBox W b k f n A m c) : W.cell? ⟨b, 0, none⟩ = some (.int .i64 k) ∧ W.cell? ⟨b, 1, none⟩ = some (.int .i64 f) ∧ W.cell? ⟨b, 2, none⟩ = some (.int .i64 n) ∧ W.cell? ⟨b, 3, none⟩ = some (.slice A m c) ∧ b < W.heap.size := by
 unfold EnBox at h
 exact ⟨by simp [World.cell?, h], by simp [World.cell?, h], by simp [World.cell?, h], by simp [World.cell?, h], (Array.getElem?_eq_some_iff.1 h).1⟩
theorem EnBox.below {W W' : World} {b : Nat} {k f n : Int} {A : Option Addr} {m c : Nat} (h : EnBox W b k f n A m c) (hb : Below W.heap.size W W') : EnBox W' b k f n A m c := (hb.block b h.cell.2.2.2.2).trans h
theorem below_then {a b c : World} (h : Below a.heap.size a b) (k : Below b.heap.size b c) : Below a.heap.size a c := h.trans (k.mono h.size)
set_option maxHeartbeats 2000000 in
theorem mayEn_is (k f n : Int) (A : Option Addr) (c : Nat) (l : List TxD) (w : World) (hr : Kd.C G.k32 w A l.length l) :
  Calls Try.prog 41 #[.agg #[.int .i64 k, .int .i64 f, .int .i64 n, .slice A l.length c]] w fun e w' => e = .returned (.bool (mayE k f n l)) ∧ Below w.heap.size w w' := by
 have hlm : l.length ≤ 9223372036854775807 := hr.2.1
 obtain ⟨q, hq⟩ : ∃ q, mayE k f n l = q := ⟨_, rfl⟩
 have HQ := Lib.hid hq
 rw [hq]
 clear hq
 have HB1 := Lib.hid (show Below w.heap.size w (w.alloc (.cells #[.int .i64 k, .int .i64 f, .int .i64 n, .slice A l.length c] 36)) from (Below.refl _ _).alloc (Nat.le_refl _) _)
 have HX1 := Lib.hid (show EnBox (w.alloc (.cells #[.int .i64 k, .int .i64 f, .int .i64 n, .slice A l.length c] 36)) w.heap.size k f n A l.length c from heap_alloc_new w _)
 have HR1 := Lib.hid (Kd.C_below hr HB1.out)
 clear hr
 cases h0 : (k == 0) with
 | true =>
  have hk0 : k = 0 := by simpa using h0
  subst hk0
  have HV := Lib.hid (show q = eqEn 0 f n l 0 0 0 [] by rw [← HQ.out]; unfold mayE; rw [if_pos rfl])
  have HS := Lib.hid (sameEn_is 0 f n A c l 0 0 0 none 0 [] _ HR1.out (Kd.C_nil _ _))
  simp only [List.length_nil] at HS
  go_enter Try.func41, Try.ntmps41
  go_wp2_with fail
  refine HS.out.mono ?_
  rintro e w' ⟨rfl, hb⟩
  have HB2 := Lib.hid (below_then HB1.out hb)
  clear hb
  go_wp2_with fail
  go_ret
  exact ⟨by rw [HV.out]; rfl, HB2.out⟩
 | false =>
  have hk0 : k ≠ 0 := by simpa using h0
  have HV := Lib.hid (show q = (k == 1 && (inB 0 4 [f] && (inB 0 1099511627776 [n] && (inB 1 16 [(l.length : Int)] && l.all mayT)))) by rw [← HQ.out]; unfold mayE; rw [if_neg hk0])
  clear hk0
  go_enter Try.func41, Try.ntmps41
  go_wp2_with fail
  have HB2 := Lib.hid (below_then HB1.out ((Below.refl _ (w.alloc (.cells #[.int .i64 k, .int .i64 f, .int .i64 n, .slice A l.length c] 36))).alloc (Nat.le_refl _) (.cells #[.int .i64 l.length] 2)))
  have HX2 := Lib.hid (HX1.out.below ((Below.refl _ (w.alloc (.cells #[.int .i64 k, .int .i64 f, .int .i64 n, .slice A l.length c] 36))).alloc (Nat.le_refl _) (.cells #[.int .i64 l.length] 2)))
  have HR2 := Lib.hid (Kd.C_below HR1.out ((Below.refl _ (w.alloc (.cells #[.int .i64 k, .int .i64 f, .int .i64 n, .slice A l.length c] 36))).alloc (Nat.le_refl _) (.cells #[.int .i64 l.length] 2)))
  have HL := C_lit (w.alloc (.cells #[.int .i64 k, .int .i64 f, .int .i64 n, .slice A l.length c] 36)) [(l.length : Int)] (by simp)
  simp only [World.size_alloc, List.length_singleton] at HL
  refine (between_is _ 1 [(l.length : Int)] 1 16 _ HL).mono ?_
  rintro e w3 ⟨rfl, hb⟩
  have HB3 := Lib.hid (below_then HB2.out hb); have HX3 := Lib.hid (HX2.out.below hb); have HR3 := Lib.hid (Kd.C_below HR2.out hb)
  clear hb HL
  obtain ⟨b4, hb4⟩ : ∃ b4, inB 1 16 [(l.length : Int)] = b4 := ⟨_, rfl⟩
  rw [hb4] at HV ⊢
  obtain ⟨c0, c1, c2, c3, cz⟩ := HX3.out.cell
  cases h1 : (k == 1) with
  | false =>
   have HW := Lib.hid (show q = false by rw [HV.out, h1, Bool.false_and])
   clear hb4
   go_wp2_with fail
   go_ret
   exact ⟨by rw [HW.out]; rfl, HB3.out⟩
  | true =>
   have HW := Lib.hid (show q = (inB 0 4 [f] && (inB 0 1099511627776 [n] && (b4 && l.all mayT))) by rw [HV.out, h1, Bool.true_and])
   clear hb4
   go_wp2_with fail
   refine (G.record_who.calls f (inB 0 4 [f]) w3 rfl).mono ?_
   rintro e w4 ⟨rfl, hb⟩
   have HB4 := Lib.hid (below_then HB3.out hb); have HX4 := Lib.hid (HX3.out.below hb); have HR4 := Lib.hid (Kd.C_below HR3.out hb)
   clear hb c0 c1 c2 c3 cz
   obtain ⟨c0, c1, c2, c3, cz⟩ := HX4.out.cell
   obtain ⟨b2, hb2⟩ : ∃ b2, inB 0 4 [f] = b2 := ⟨_, rfl⟩
   rw [hb2] at HW ⊢
   clear hb2
   cases b2 with
   | false =>
    have HF := Lib.hid (show q = false by rw [HW.out, Bool.false_and])
    go_wp2_with fail
    go_ret
    exact ⟨by rw [HF.out]; rfl, HB4.out⟩
   | true =>
    go_wp2_with fail
    have HL := C_lit w4 [n] (by simp)
    simp only [List.length_singleton] at HL
    refine (G.record_count.calls _ 1 [n] (inB 0 1099511627776 [n]) _ HL (by simp) rfl).mono ?_
    rintro e w5 ⟨rfl, hb⟩
    have hb' := below_then ((Below.refl _ w4).alloc (Nat.le_refl _) _) hb
    have HB5 := Lib.hid (below_then HB4.out hb'); have HX5 := Lib.hid (HX4.out.below hb'); have HR5 := Lib.hid (Kd.C_below HR4.out hb')
    clear hb hb' HL c0 c1 c2 c3 cz
    obtain ⟨c0, c1, c2, c3, cz⟩ := HX5.out.cell
    obtain ⟨b3, hb3⟩ : ∃ b3, inB 0 1099511627776 [n] = b3 := ⟨_, rfl⟩
    rw [hb3] at HW ⊢
    clear hb3
    cases b3 with
    | false =>
     have HF := Lib.hid (show q = false by rw [HW.out, Bool.false_and, Bool.and_false])
     go_wp2_with fail
     go_ret
     exact ⟨by rw [HF.out]; rfl, HB5.out⟩
    | true =>
     cases b4 with
     | false =>
      have HF := Lib.hid (show q = false by rw [HW.out, Bool.false_and, Bool.and_false, Bool.and_false])
      go_wp2_with fail
      go_ret
      exact ⟨by rw [HF.out]; rfl, HB5.out⟩
     | true =>
      have HF := Lib.hid (show q = l.all mayT by rw [HW.out, Bool.true_and, Bool.true_and, Bool.true_and])
      go_wp2_with fail
      refine (tx_has A c l _ HR5.out).mono ?_
      rintro e w6 ⟨rfl, hb⟩
      have HB6 := Lib.hid (below_then HB5.out hb)
      clear hb
      go_wp2_with fail
      go_ret
      exact ⟨by rw [HF.out]; simp, HB6.out⟩
end Go.Proofs.Ytgmlpmdfkaadhaa.M
namespace Go.Proofs.Ytgmlpmdfkaadhaa.G
open Go.RowKit Go.Proofs.YtgmlpmdfkaadhaaW.PrintWords Go.Proofs.Ytgmlpmdfkaadhaa.M
def record_entry.f (a0_0 a0_1 a0_2 : Int) (l0_3 : List S32) : Option Bool := some (mayE a0_0 a0_1 a0_2 l0_3)
theorem record_entry.calls (a0_0 a0_1 a0_2 : Int) (A0_3 : Option Addr) (c0_3 : Nat) (l0_3 : List S32) (r : Bool) (w : World) (hr0_3 : Kd.C k32 w A0_3 l0_3.length l0_3) (hc0_3 : l0_3.length ≤ c0_3) (h : record_entry.f a0_0 a0_1 a0_2 l0_3 = some r) :
  Calls Try.prog 41 #[.agg #[.int .i64 a0_0, .int .i64 a0_1, .int .i64 a0_2, .slice A0_3 l0_3.length c0_3]] w fun e w' => e = .returned (.bool r) ∧ Below w.heap.size w w' := by
 obtain rfl := Option.some.inj h
 exact mayEn_is a0_0 a0_1 a0_2 A0_3 c0_3 l0_3 w hr0_3
end Go.Proofs.Ytgmlpmdfkaadhaa.G
end

section
-- Written by a program of this session's (wip/gprint.py over the kit's printer).
namespace Go.Proofs.Ytgmlpmdfkaadhaa.G
open Go.RowKit Go.Proofs.YtgmlpmdfkaadhaaW.PrintWords Go.Proofs.YtgmlpmdfkaadhaaW.PrintLast Go.Proofs.YtgmlpmdfkaadhaaW.PrintMore
attribute [local go_sem] max2_int min2_int max_two min_two max_three min_three max_four min_four   -- for this text's walks alone
end Go.Proofs.Ytgmlpmdfkaadhaa.G
end

section
-- Written by a program of this session's (wip/gprint.py over the kit's printer).
namespace Go.Proofs.Ytgmlpmdfkaadhaa.G
open Go.RowKit Go.Proofs.YtgmlpmdfkaadhaaW.PrintWords Go.Proofs.YtgmlpmdfkaadhaaW.PrintLast Go.Proofs.YtgmlpmdfkaadhaaW.PrintMore
attribute [local go_sem] max2_int min2_int max_two min_two max_three min_three max_four min_four   -- for this text's walks alone
end Go.Proofs.Ytgmlpmdfkaadhaa.G
end

section
/- The reference's entries in plain Lean: SameEntry, MayEntry. -/
namespace Go.Proofs.Ytgmlpmdfkaadhaa.M
open Go.RowKit Go.Proofs.YtgmlpmdfkaadhaaW.PrintWords Go.Proofs.YtgmlpmdfkaadhaaW.PrintLast Go.Proofs.YtgmlpmdfkaadhaaW.PrintMore Go.Proofs.Ytgmlpmdfkaadhaa.G
def TxLs (t : TxD) : Prop := t.f2.length ≤ 9223372036854775807 ∧ t.f3.length ≤ 9223372036854775807 ∧ t.f4.length ≤ 9223372036854775807 ∧ t.f5.length ≤ 9223372036854775807
end Go.Proofs.Ytgmlpmdfkaadhaa.M
end

section
/- A number's bytes: one form, taken back; bytes behind strOfNums (out of XMForm). -/
namespace Go.Proofs.Ytgmlpmdfkaadhaa.M
open Go.RowKit Go.Proofs.YtgmlpmdfkaadhaaW.PrintWords Go.Proofs.YtgmlpmdfkaadhaaW.PrintLast Go.Proofs.YtgmlpmdfkaadhaaW.PrintMore Go.Proofs.Ytgmlpmdfkaadhaa.G
open Go.Lib (strOfNums_toList)
end Go.Proofs.Ytgmlpmdfkaadhaa.M
end

section
-- Written by a program of this session's (wip/gprint.py over the kit's printer).
namespace Go.Proofs.Ytgmlpmdfkaadhaa.G
open Go.RowKit Go.Proofs.YtgmlpmdfkaadhaaW.PrintWords Go.Proofs.YtgmlpmdfkaadhaaW.PrintLast Go.Proofs.YtgmlpmdfkaadhaaW.PrintMore
attribute [local go_sem] max2_int min2_int max_two min_two max_three min_three max_four min_four   -- for this text's walks alone
def record_fits.f (l0 : List Int) : Option (List Int × Int) := if (l0.length : Int) > 1048576 then (some (([] : List Int), 3)) else (some (l0, 0))
set_option maxHeartbeats 8000000 in
set_option maxRecDepth 100000 in
theorem record_fits.calls (P0_ : Nat → Prop) (u9000_ : Value) (l0 : List Int) (r1 : List Int) (r2 : Int) (w0 w : World) (hB : Below w0.heap.size w0 w) (ho0 : Kd.R (Kd.int .u8) 5 w w0.heap.size P0_ u9000_ l0) (h : record_fits.f l0 = some (r1, r2)) :
  Calls Try.prog 44 #[u9000_] w fun e w' => ∃ v0_ : Value, e = .returned (.tuple #[v0_, .int .i64 r2]) ∧ Kd.R (Kd.int .u8) 5 w' w0.heap.size (fun k_ => (P0_ k_ ∨ w.heap.size ≤ k_)) v0_ r1 ∧ Below w0.heap.size w0 w' ∧ Kept w w' (fun k_ => P0_ k_) := by
 have HO0 := Aside0.mk (show Kd.R (Kd.int .u8) 5 w w0.heap.size (fun k_ => (P0_ k_ ∨ w.heap.size ≤ k_)) u9000_ l0 from Kd.R_mono ho0 (fun k_ hk => (.inl hk)))
 have HK := Aside0.mk (Kept.refl w (fun k_ => P0_ k_))
 have HW0 := Aside0.mk hB.size
 have HB := Aside0.mk hB
 clear hB
 have H : (if (l0.length : Int) > 1048576 then (some (([] : List Int), 3)) else (some (l0, 0))) = some (r1, r2) := h
 clear h
 by_cases c2 : (l0.length : Int) > 1048576
 ·rw [if_pos c2] at H
  have c2b0 : decide (1048576 < (l0.length : Int)) = true := decide_eq_true c2
  have c2b1 : decide (1048576 < l0.length) = true := decide_eq_true (by omega)
  clear c2
  simp only [Option.some.injEq, Prod.mk.injEq] at H
  obtain ⟨rfl, rfl⟩ := H
  obtain ⟨Ao3, co3, eo3⟩ := Kd.R_slice HO0.out
  subst eo3
  go_enter Try.func44, Try.ntmps44
  go_wp2
  go_ret2
  exact ⟨_, by first | rfl | (simp [errW_none, errW_some] <;> rfl) | (simp [*, errW_none, errW_some] <;> rfl), by first | exact Kd.R_nil _ _ _ _ _ | exact Kd.N_nil _ _ _ _ _ | exact Kd.V_nil _ _ _ _ _ | exact Kd.Q_nil _ _ _ _ _ | exact Kd.S_nil _ _ _ _ _, stB HB.out, by repeat (first | (with_reducible first | exact HK.out | apply Kept.alloc | apply Kept.drewN | apply Kept.drew) | exact HK.out)⟩
 ·rw [if_neg c2] at H
  have c2b0 : decide (1048576 < (l0.length : Int)) = false := decide_eq_false c2
  have c2b1 : decide (1048576 < l0.length) = false := decide_eq_false (by omega)
  clear c2
  simp only [Option.some.injEq, Prod.mk.injEq] at H
  obtain ⟨rfl, rfl⟩ := H
  obtain ⟨Ao4, co4, eo4⟩ := Kd.R_slice HO0.out
  subst eo4
  go_enter Try.func44, Try.ntmps44
  go_wp2
  go_ret2
  exact ⟨_, by first | rfl | (simp [errW_none, errW_some] <;> rfl) | (simp [*, errW_none, errW_some] <;> rfl), stR HO0.out, stB HB.out, by repeat (first | (with_reducible first | exact HK.out | apply Kept.alloc | apply Kept.drewN | apply Kept.drew) | exact HK.out)⟩
end Go.Proofs.Ytgmlpmdfkaadhaa.G
end

section
/- The pen: bytes that grow. -/
attribute [local irreducible] Go.wpStill
namespace Go.Proofs.Ytgmlpmdfkaadhaa.M
open Go.RowKit Go.Proofs.YtgmlpmdfkaadhaaW.PrintWords Go.Proofs.YtgmlpmdfkaadhaaW.PrintLast Go.Proofs.YtgmlpmdfkaadhaaW.PrintMore Go.Proofs.Ytgmlpmdfkaadhaa.G
def IsPen (W : World) (base p : Nat) (l : List Int) : Prop := ∃ (A : Option Addr) (c : Nat), W.heap[p]? = some (.cells #[.slice A l.length c] 88) ∧ base ≤ p ∧ l.length ≤ c ∧ Kd.R (Kd.int .u8) 5 W base (fun i => i ≠ p) (.slice A l.length c) l
theorem IsPen.lt {W : World} {base p : Nat} {l : List Int} (h : IsPen W base p l) : p < W.heap.size := by
 obtain ⟨A, c, h1, _⟩ := h
 exact (Array.getElem?_eq_some_iff.1 h1).1
theorem IsPen.ge {W : World} {base p : Nat} {l : List Int} (h : IsPen W base p l) : base ≤ p := by
 obtain ⟨A, c, h1, h2, _⟩ := h
 exact h2
theorem IsPen.below {W W' : World} {base p : Nat} {l : List Int} (h : IsPen W base p l) (hb : Below W.heap.size W W') : IsPen W' base p l := by
 have hl := h.lt
 obtain ⟨A, c, h1, h2, h3, h4⟩ := h
 exact ⟨A, c, (hb.block p hl).trans h1, h2, h3, Kd.R_step h4 (fun k _ hlt => hb.block k hlt)⟩
theorem isPen_put {W : World} {base p : Nat} {l l' : List Int} {v : Value} (h : IsPen W base p l) {base' : Nat} {ok : Nat → Prop} (hv : Kd.R (Kd.int .u8) 5 W base' ok v l') (hp : p < base') : ∃ (A : Option Addr) (c : Nat), v = .slice A l'.length c ∧ IsPen (W.setCell ⟨p, 0, none⟩ (.slice A l'.length c)) base p l' := by
 obtain ⟨A0, c0, h1, hbp, _, _⟩ := h
 have hv2 := Kd.R_mono (Kd.R_bound hv) (fun k hk => (by have := hk.2.1; omega : k ≠ p))
 obtain ⟨A, c, rfl⟩ := Kd.R_slice hv2
 refine ⟨A, c, rfl, A, c, ?_, hbp, (Kd.R_reads' hv2).2.1, ?_⟩
 ·have := heap_same W ⟨p, 0, none⟩ (.slice A l'.length c) h1 rfl
  simpa using this
 ·exact Kd.R_lower (Kd.R_step hv2 (fun i hi _ => Below.heap_setCell W ⟨p, 0, none⟩ _ i hi)) (by omega)
def PenP (w0 w : World) (p : Nat) (l' : List Int) (e : Ending) (w' : World) : Prop := e = .returned (.tuple #[]) ∧ IsPen w' w0.heap.size p l' ∧ Below w0.heap.size w0 w' ∧ KeepS (fun i => i = p) w w'
set_option maxHeartbeats 1000000 in
theorem nums_is {w0 w : World} {p : Nat} {l : List Int} (hI : IsPen w w0.heap.size p l) (hB : Below w0.heap.size w0 w) (hp : w0.heap.size ≤ p) (B : Option Addr) (c1 : Nat) (ns : List Int) (hr : Kd.C (Kd.int .i64) w B ns.length ns) (ho : okI ns = true) (hs : l.length + 9 * ns.length < 140737488355328) :
  Calls Try.prog 63 #[.pointer (some ⟨p, 0, none⟩), .slice B ns.length c1] w fun e w' => PenP w0 w p (l ++ numsB ns) e w' := by
 have HI := Lib.hid hI; have HB := Lib.hid hB; have HP := Lib.hid hp
 obtain ⟨A, c, h1, _, h2, h3⟩ := hI
 have HN := Lib.hid (num_calls A c l B c1 ns w (Kd.R_reads' h3).2.2 h2 hr ho hs)
 have c0 : w.cell? ⟨p, 0, none⟩ = some (.slice A l.length c) := by simp [World.cell?, h1]
 obtain ⟨l2, hl2⟩ : ∃ l2, l ++ numsB ns = l2 := ⟨_, rfl⟩
 rw [hl2] at HN ⊢
 clear h1 h2 h3 hr ho hs hB hp hl2
 go_enter Try.func63, Try.ntmps63
 go_wp2_with fail
 refine HN.out.mono ?_
 rintro e w1 ⟨v, rfl, hv, hb⟩
 have HI1 := Lib.hid (HI.out.below hb)
 have HB1 := Lib.hid (HB.out.trans (hb.mono HB.out.size))
 have HKK := Lib.hid ((KeepS.of_below (fun i => i = p) hb).set (p := ⟨p, 0, none⟩) (.inl rfl))
 obtain ⟨A', c', rfl, hP⟩ := isPen_put HI1.out hv HI.out.lt
 have HPP := Lib.hid hP
 have d0 : w1.cell? ⟨p, 0, none⟩ = some (.slice A l.length c) := (hb.cell (p := ⟨p, 0, none⟩) HI.out.lt).trans c0
 have d1 : w1.frozen? ⟨p, 0, none⟩ = false := by
  obtain ⟨A2, c2, h4, _⟩ := HI1.out
  simp [World.frozen?, h4]
 clear hb hv hP c0
 go_wp2_with fail
 go_end0
 exact ⟨rfl, HPP.out, HB1.out.setCell (by exact HP.out) _, HKK.out _⟩
theorem many_is {w0 w : World} {p : Nat} {l : List Int} (hI : IsPen w w0.heap.size p l) (hB : Below w0.heap.size w0 w) (hp : w0.heap.size ≤ p) (n : Int) (ho : isI64 n) (hs : l.length + 9 < 140737488355328) :
  Calls Try.prog 62 #[.pointer (some ⟨p, 0, none⟩), .int .i64 n] w fun e w' => PenP w0 w p (l ++ numB n) e w' := by
 have HB2 := (Below.refl w.heap.size w).alloc (Nat.le_refl _) (.cells #[.int .i64 n] 2)
 have HN := Lib.hid (nums_is (hI.below HB2) (hB.alloc hB.size _) hp _ 1 [n] (C_lit w [n] (by simp)) (by simp [okI, ho]) (by simpa using hs))
 simp only [List.length_singleton, numsB, List.flatMap_cons, List.flatMap_nil, List.append_nil] at HN
 clear hI hB hp ho hs HB2
 go_enter Try.func62, Try.ntmps62
 go_wp2_with fail
 refine HN.out.mono ?_
 rintro e w1 ⟨rfl, h1, h2, h3⟩
 have H1 := Lib.hid h1; have H2 := Lib.hid h2
 have H3 := Lib.hid (((KeepS.refl (fun i => i = p) w).alloc (.cells #[.int .i64 n] 2)).trans h3)
 clear h1 h2 h3
 go_wp2_with fail
 go_end0
 exact ⟨rfl, H1.out, H2.out, H3.out⟩
set_option maxHeartbeats 1000000 in
theorem data_is {w0 w : World} {p : Nat} {l : List Int} (hI : IsPen w w0.heap.size p l) (hB : Below w0.heap.size w0 w) (hp : w0.heap.size ≤ p) (B : Option Addr) (c1 : Nat) (bs : List Int) (hr : Kd.C (Kd.int .u8) w B bs.length bs) (hc1 : bs.length ≤ c1) (hs : l.length + bs.length + 9 < 140737488355328) :
  Calls Try.prog 75 #[.pointer (some ⟨p, 0, none⟩), .slice B bs.length c1] w fun e w' => PenP w0 w p (l ++ numB bs.length ++ bs) e w' := by
 have HI := Lib.hid hI; have HB := Lib.hid hB; have HP := Lib.hid hp
 obtain ⟨A, c, h1, _, h2, h3⟩ := hI
 have hi : isI64 (bs.length : Int) := by unfold isI64; omega
 have hf : G.shape_Blob.f l bs = some (l ++ numB bs.length ++ bs) := by
  unfold G.shape_Blob.f G.shape_Num.f
  have e1 : okI [(bs.length : Int)] = true := by simp [okI, hi]
  rw [if_pos ⟨e1, by simp; omega⟩]
  have e2 := (numB_len hi).2
  simp only [Option.bind_some, numsB, List.flatMap_cons, List.flatMap_nil, List.append_nil]
  rw [if_pos (by rw [List.length_append]; omega)]
 have HN := Lib.hid (G.shape_Blob.calls A c l B c1 bs _ w (Kd.R_reads' h3).2.2 h2 hr hc1 hf)
 have c0 : w.cell? ⟨p, 0, none⟩ = some (.slice A l.length c) := by simp [World.cell?, h1]
 obtain ⟨l2, hl2⟩ : ∃ l2, l ++ numB bs.length ++ bs = l2 := ⟨_, rfl⟩
 rw [hl2] at HN ⊢
 clear h1 h2 h3 hr hs hB hp hi hf hc1 hl2
 go_enter Try.func75, Try.ntmps75
 go_wp2_with fail
 refine HN.out.mono ?_
 rintro e w1 ⟨v, rfl, hv, hb⟩
 have HI1 := Lib.hid (HI.out.below hb)
 have HB1 := Lib.hid (HB.out.trans (hb.mono HB.out.size))
 have HKK := Lib.hid ((KeepS.of_below (fun i => i = p) hb).set (p := ⟨p, 0, none⟩) (.inl rfl))
 obtain ⟨A', c', rfl, hP⟩ := isPen_put HI1.out hv HI.out.lt
 have HPP := Lib.hid hP
 have d0 : w1.cell? ⟨p, 0, none⟩ = some (.slice A l.length c) := (hb.cell (p := ⟨p, 0, none⟩) HI.out.lt).trans c0
 have d1 : w1.frozen? ⟨p, 0, none⟩ = false := by
  obtain ⟨A2, c2, h4, _⟩ := HI1.out
  simp [World.frozen?, h4]
 clear hb hv hP c0
 go_wp2_with fail
 go_end0
 exact ⟨rfl, HPP.out, HB1.out.setCell (by exact HP.out) _, HKK.out _⟩
theorem newPen_is (A : Option Addr) (c : Nat) (l : List Int) (w : World) (hr : Kd.C (Kd.int .u8) w A l.length l) (hc : l.length ≤ c) (hl : l.length < 140737488355328) :
  Calls Try.prog 42 #[.slice A l.length c] w fun e w' => ∃ p, e = .returned (.pointer (some ⟨p, 0, none⟩)) ∧ IsPen w' w.heap.size p l ∧ Below w.heap.size w w' := by
 have HN := Lib.hid (clone_calls A c l w hr hc hl)
 clear hr hc hl
 go_enter Try.func42, Try.ntmps42
 go_wp2_with fail
 refine HN.out.mono ?_
 rintro e w1 ⟨v, rfl, hv, hb⟩
 have HB1 := Lib.hid hb
 have hv2 := Kd.R_mono (Kd.R_bound hv) (fun k hk => (by have := hk.2.2.1; omega : k ≠ w1.heap.size))
 obtain ⟨A', c', rfl⟩ := Kd.R_slice hv2
 have HV := Lib.hid hv2
 clear hb hv hv2
 go_wp2_with fail
 go_ret
 refine ⟨w1.heap.size, rfl, ⟨A', c', heap_alloc_new w1 _, HB1.out.size, (Kd.R_reads' HV.out).2.1, ?_⟩, HB1.out.alloc HB1.out.size _⟩
 exact Kd.R_step HV.out (fun k _ hlt => Below.heap_alloc w1 _ k hlt)
end Go.Proofs.Ytgmlpmdfkaadhaa.M
end

section
/- The pen writes keys and transactions. -/
attribute [local irreducible] Go.wpStill
namespace Go.Proofs.Ytgmlpmdfkaadhaa.M
open Go.RowKit Go.Proofs.YtgmlpmdfkaadhaaW.PrintWords Go.Proofs.YtgmlpmdfkaadhaaW.PrintLast Go.Proofs.YtgmlpmdfkaadhaaW.PrintMore Go.Proofs.Ytgmlpmdfkaadhaa.G
def keyB (k : KeyD) : List Int := numsB [k.f0, k.f1]
def keysB (l : List KeyD) : List Int := numB l.length ++ l.flatMap keyB
def txB (t : TxD) : List Int := numsB [t.f0, t.f1] ++ (numB t.f2.length ++ t.f2) ++ numB t.f3.length ++ numsB t.f3 ++ keysB t.f4 ++ keysB t.f5
def entB (k f n : Int) (l : List TxD) : List Int := if k = 0 then numB 0 else numB k ++ numsB [f, n] ++ numB l.length ++ l.flatMap txB
def okK (k : KeyD) : Bool := decide (-2147483648 ≤ k.f0 ∧ k.f0 ≤ 2147483647 ∧ isI64 k.f1)
def okT (t : TxD) : Bool := decide (isI64 t.f0) && (decide (isI64 t.f1) && (okB t.f2 && (okI t.f3 && (t.f4.all okK && t.f5.all okK))))
def okE (k f n : Int) (l : List TxD) : Bool := decide (isI64 k) && (decide (isI64 f) && (decide (isI64 n) && l.all okT))
theorem okK_i (k : KeyD) (h : okK k = true) : okI [k.f0, k.f1] = true := by
 unfold okK at h
 have h1 := of_decide_eq_true h
 have h2 : isI64 k.f0 := by unfold isI64; omega
 simp [okI, h2, h1.2.2]
theorem numsB2_len {x y : Int} (h : okI [x, y] = true) : (numsB [x, y]).length ≤ 18 := by
 have := numsB_len h
 simpa using this
theorem keyB_len {k : KeyD} (h : okK k = true) : (keyB k).length ≤ 18 := numsB2_len (okK_i k h)
theorem flat_len {α : Type} (f : α → List Int) (m : Nat) : ∀ l : List α, (∀ x ∈ l, (f x).length ≤ m) → (l.flatMap f).length ≤ m * l.length
 | [], _ => by simp
 | a :: l, h => by
  rw [List.flatMap_cons, List.length_append, List.length_cons, Nat.mul_succ]
  have := h a List.mem_cons_self
  have := flat_len f m l (fun x hx => h x (List.mem_cons_of_mem _ hx))
  omega
theorem keysB_len {l : List KeyD} (h : l.all okK = true) (hl : l.length ≤ 1000000) : (keysB l).length ≤ 9 + 18 * l.length := by
 unfold keysB
 rw [List.length_append]
 have h1 := (numB_len (n := (l.length : Int)) (by unfold isI64; omega)).2
 have h2 := flat_len keyB 18 l (fun x hx => keyB_len (List.all_eq_true.1 h x hx))
 omega
def KyL (w0 w : World) (p : Nat) (l : List Int) (ks : List KeyD) (i : Value) (wr : World) : Prop := ∃ j : Nat, i = .int .i64 j ∧ j ≤ ks.length ∧ IsPen wr w0.heap.size p (l ++ numB ks.length ++ (ks.take j).flatMap keyB) ∧ Below w0.heap.size w0 wr ∧ KeepS (fun i => i = p) w wr
set_option maxHeartbeats 1000000 in
theorem penKeys_is {w0 w : World} {p : Nat} {l : List Int} (hI : IsPen w w0.heap.size p l) (hB : Below w0.heap.size w0 w) (hp : w0.heap.size ≤ p) (B : Option Addr) (c1 : Nat) (ks : List KeyD) (hr : Kd.C G.k54 w0 B ks.length ks) (ho : ks.all okK = true) (hk : ks.length ≤ 1000000) (hs : l.length + 9 + 18 * ks.length < 140737488355328) :
  Calls Try.prog 76 #[.pointer (some ⟨p, 0, none⟩), .slice B ks.length c1] w fun e w' => PenP w0 w p (l ++ keysB ks) e w' := by
 have HR := Lib.hid hr; have HO := Lib.hid ho; have HP := Lib.hid hp; have HS := Lib.hid hs
 have HM := Lib.hid (many_is hI hB hp ks.length (by unfold isI64; omega) (by omega))
 have hnl := (numB_len (n := (ks.length : Int)) (by unfold isI64; omega)).2
 have HNL := Lib.hid hnl
 clear hI hB hr ho hp hs hnl
 go_enter Try.func76, Try.ntmps76
 go_wp2_with fail
 refine HM.out.mono ?_
 rintro e w1 ⟨rfl, h1, h2, h3⟩
 have H1 := Lib.hid h1; have H2 := Lib.hid h2; have H3 := Lib.hid h3
 clear h1 h2 h3 HM
 go_wp2_with fail
 go_loopw [14] (fun i wr => KyL w0 w p l ks i wr) (fun i _ => ks.length - (intOf i).toNat)
 case atStart => exact ⟨0, rfl, Nat.zero_le _, by simpa using H1.out, H2.out, H3.out⟩
 case round =>
  obtain ⟨j, rfl, hj, hI, hB, hK⟩ := hrel
  have HI := Lib.hid hI; have HB := Lib.hid hB; have HK := Lib.hid hK
  clear hI hB hK
  by_cases hlt : j < ks.length
  ·obtain ⟨x, hx⟩ : ∃ x, ks[j]? = some x := ⟨_, List.getElem?_eq_getElem hlt⟩
   obtain ⟨ad, rfl, x0, x1⟩ := keyd_get (Kd.C_below HR.out HB.out) hx
   have HX := Lib.hid (show ks.take (j + 1) = ks.take j ++ [x] by rw [List.take_add_one, hx]; rfl)
   have HOX := Lib.hid (List.all_eq_true.1 HO.out x (List.mem_of_getElem? hx))
   have hwx : IntKind.i64.wrap x.f0 = x.f0 := by
    have := HOX.out
    unfold okK at this
    have := of_decide_eq_true this
    rw [IntKind.wrap_i64]; omega
   have hbx := heap_alloc_new wr (.cells #[.int .i32 x.f0, .int .i64 x.f1] 54)
   have HB2 := Lib.hid (HB.out.alloc HB.out.size (.cells #[.int .i32 x.f0, .int .i64 x.f1] 54))
   have HI2 := Lib.hid (HI.out.below ((Below.refl _ wr).alloc (Nat.le_refl _) (.cells #[.int .i32 x.f0, .int .i64 x.f1] 54)))
   have HK2 := Lib.hid (HK.out.alloc (.cells #[.int .i32 x.f0, .int .i64 x.f1] 54))
   have HBX := Lib.hid hbx
   clear hx hbx
   go_wp2_with fail
   obtain ⟨w3, hw3⟩ : ∃ w3, wr.alloc (.cells #[.int .i32 x.f0, .int .i64 x.f1] 54) = w3 := ⟨_, rfl⟩
   rw [hw3] at HB2 HI2 HK2 HBX ⊢
   have b0 : w3.cell? ⟨wr.heap.size, 0, none⟩ = some (.int .i32 x.f0) := by simp [World.cell?, HBX.out]
   have b1 : w3.cell? ⟨wr.heap.size, 1, none⟩ = some (.int .i64 x.f1) := by simp [World.cell?, HBX.out]
   clear hw3 x0 x1
   have hl : Kd.C (Kd.int .i64) (w3.alloc (.cells #[.int .i64 x.f0, .int .i64 x.f1] 2)).drew (some ⟨w3.heap.size, 0, none⟩) 2 [x.f0, x.f1] := Kd.C_drew (C_lit w3 [x.f0, x.f1] (by simp))
   have HN := Lib.hid (nums_is (HI2.out.below (((Below.refl _ w3).alloc (Nat.le_refl _) (.cells #[.int .i64 x.f0, .int .i64 x.f1] 2)).drew)) (HB2.out.alloc HB2.out.size _).drew HP.out _ 2 [x.f0, x.f1] hl (okK_i x HOX.out) (by
    have h1 := flat_len keyB 18 (ks.take j) (fun y hy => keyB_len (List.all_eq_true.1 HO.out y (List.mem_of_mem_take hy)))
    have h2 := HNL.out; have h3 := HS.out
    rw [List.length_take] at h1
    simp only [List.length_append, List.length_cons, List.length_nil]
    omega))
   have HPL := Lib.hid (show wr.heap.size < w3.heap.size ∧ wr.heap.size ≠ p from ⟨(Array.getElem?_eq_some_iff.1 HBX.out).1, by have := HI.out.lt; omega⟩)
   clear hl
   go_region_held3 (fun w' => w'.cell? ⟨wr.heap.size, 0, none⟩ = some (.int .i32 x.f0) ∧ w'.cell? ⟨wr.heap.size, 1, none⟩ = some (.int .i64 x.f1)) (go_keep) (((refine HN.out.mono ?_; rintro e w5 ⟨rfl, h1, h2, h3⟩; have H5 := Lib.hid h1; have HB5 := Lib.hid h2; have HK5 := Lib.hid ((HK2.out.alloc (.cells #[.int .i64 x.f0, .int .i64 x.f1] 2)).drew.trans h3); have qh : w5.cell? ⟨wr.heap.size, 0, none⟩ = some (.int .i32 x.f0) := (h3.cell (p := ⟨wr.heap.size, 0, none⟩) (by have := HPL.out; simp; omega) (by exact HPL.out.2)).trans (by go_simp); have qh2 : w5.cell? ⟨wr.heap.size, 1, none⟩ = some (.int .i64 x.f1) := (h3.cell (p := ⟨wr.heap.size, 1, none⟩) (by have := HPL.out; simp; omega) (by exact HPL.out.2)).trans (by go_simp); clear h1 h2 h3)))
   clear qh qh2
   go_wp2_with fail
   go_roundw
   case rel =>
    refine ⟨j + 1, by go_num, hlt, ?_, HB5.out, HK5.out⟩
    have h1 := H5.out
    rw [HX.out, List.flatMap_append, List.flatMap_cons, List.flatMap_nil, List.append_nil, ← List.append_assoc]
    exact h1
   case measure => simp [intOf]; omega
  ·have hjn : j = ks.length := by omega
   have HF := Lib.hid (show IsPen wr w0.heap.size p (l ++ keysB ks) by
    have := HI.out
    rw [hjn, List.take_length, List.append_assoc] at this
    exact this)
   clear hjn
   go_wp2_with fail
   go_end0
   exact ⟨rfl, HF.out, HB.out, HK.out⟩
end Go.Proofs.Ytgmlpmdfkaadhaa.M
end

section
/- The pen writes a transaction. -/
attribute [local irreducible] Go.wpStill
namespace Go.Proofs.Ytgmlpmdfkaadhaa.M
open Go.RowKit Go.Proofs.YtgmlpmdfkaadhaaW.PrintWords Go.Proofs.YtgmlpmdfkaadhaaW.PrintLast Go.Proofs.YtgmlpmdfkaadhaaW.PrintMore Go.Proofs.Ytgmlpmdfkaadhaa.G
def TxBox (W : World) (b : Nat) (x : TxD) (A2 : Option Addr) (c2 : Nat) (A3 : Option Addr) (c3 : Nat) (A4 : Option Addr) (c4 : Nat) (A5 : Option Addr) (c5 : Nat) : Prop := W.heap[b]? = some (.cells #[.int .i64 x.f0, .int .i64 x.f1, .slice A2 x.f2.length c2, .slice A3 x.f3.length c3, .slice A4 x.f4.length c4, .slice A5 x.f5.length c5] 32)
theorem TxBox.cell {W : World} {b : Nat} {x : TxD} {A2 A3 A4 A5 : Option Addr} {c2 c3 c4 c5 : Nat} (h : TxBox W b x A2 c2 A3 c3 A4 c4 A5 c5) : W.cell? ⟨b, 0, none⟩ = some (.int .i64 x.f0) ∧ W.cell? ⟨b, 1, none⟩ = some (.int .i64 x.f1) ∧ W.cell? ⟨b, 2, none⟩ = some (.slice A2 x.f2.length c2) ∧ W.cell? ⟨b, 3, none⟩ = some (.slice A3 x.f3.length c3) ∧ W.cell? ⟨b, 4, none⟩ = some (.slice A4 x.f4.length c4) ∧ W.cell? ⟨b, 5, none⟩ = some (.slice A5 x.f5.length c5) ∧ b < W.heap.size := by
 unfold TxBox at h
 exact ⟨by simp [World.cell?, h], by simp [World.cell?, h], by simp [World.cell?, h], by simp [World.cell?, h], by simp [World.cell?, h], by simp [World.cell?, h], (Array.getElem?_eq_some_iff.1 h).1⟩
theorem TxBox.keep {W W' : World} {b p : Nat} {x : TxD} {A2 A3 A4 A5 : Option Addr} {c2 c3 c4 c5 : Nat} (h : TxBox W b x A2 c2 A3 c3 A4 c4 A5 c5) (hk : KeepS (fun i => i = p) W W') (hb : b ≠ p) : TxBox W' b x A2 c2 A3 c3 A4 c4 A5 c5 := (hk.block b h.cell.2.2.2.2.2.2 hb).trans h
theorem okT_parts {x : TxD} (h : okT x = true) : okI [x.f0, x.f1] = true ∧ okB x.f2 = true ∧ okI x.f3 = true ∧ x.f4.all okK = true ∧ x.f5.all okK = true := by
 unfold okT at h
 simp only [Bool.and_eq_true, decide_eq_true_eq] at h
 obtain ⟨h1, h2, h3, h4, h5, h6⟩ := h
 exact ⟨by simp [okI, h1, h2], h3, h4, h5, h6⟩
theorem mayT_parts {x : TxD} (h : mayT x = true) : x.f2.length ≤ 512 ∧ x.f3.length ≤ 8 ∧ x.f4.length ≤ 16 ∧ x.f5.length ≤ 16 := by
 unfold mayT mayK at h
 simp only [Bool.and_eq_true, decide_eq_true_eq] at h
 exact ⟨h.2.1, h.2.2.1, h.2.2.2.1.1, h.2.2.2.2.1⟩
theorem txB_len {x : TxD} (h : okT x = true) (hm : mayT x = true) : (txB x).length ≤ 1300 := by
 obtain ⟨h1, h2, h3, h4, h5⟩ := okT_parts h
 obtain ⟨m2, m3, m4, m5⟩ := mayT_parts hm
 have e1 := numsB2_len h1
 have e2 := (numB_len (n := (x.f2.length : Int)) (by unfold isI64; omega)).2
 have e3 := (numB_len (n := (x.f3.length : Int)) (by unfold isI64; omega)).2
 have e4 := numsB_len h3
 have e5 := keysB_len h4 (by omega)
 have e6 := keysB_len h5 (by omega)
 unfold txB
 simp only [List.length_append]
 omega
set_option maxHeartbeats 2000000 in
theorem penTxn_is {w0 w : World} {p : Nat} {l : List Int} (hI : IsPen w w0.heap.size p l) (hB : Below w0.heap.size w0 w) (hp : w0.heap.size ≤ p) (x : TxD) {A2 A3 A4 A5 : Option Addr} {c2 c3 c4 c5 : Nat} (hX : TxC w0 x A2 c2 A3 c3 A4 c4 A5 c5) (hok : okT x = true) (hm : mayT x = true) (hs : l.length + 2000 < 140737488355328) :
  Calls Try.prog 64 #[.pointer (some ⟨p, 0, none⟩), .agg #[.int .i64 x.f0, .int .i64 x.f1, .slice A2 x.f2.length c2, .slice A3 x.f3.length c3, .slice A4 x.f4.length c4, .slice A5 x.f5.length c5]] w fun e w' => PenP w0 w p (l ++ txB x) e w' := by
 obtain ⟨o1, o2, o3, o4, o5⟩ := okT_parts hok
 obtain ⟨m2, m3, m4, m5⟩ := mayT_parts hm
 have e1 := numsB2_len o1
 have e2 := (numB_len (n := (x.f2.length : Int)) (by unfold isI64; omega)).2
 have e3 := (numB_len (n := (x.f3.length : Int)) (by unfold isI64; omega)).2
 have e4 := numsB_len o3
 have e5 := keysB_len o4 (by omega)
 have e6 := keysB_len o5 (by omega)
 have i2 : isI64 (x.f3.length : Int) := by unfold isI64; omega
 have HE := Lib.hid (And.intro e1 (And.intro e2 (And.intro e3 (And.intro e4 (And.intro e5 e6)))))
 have HO := Lib.hid (And.intro o1 (And.intro o2 (And.intro o3 (And.intro o4 o5))))
 have HM := Lib.hid (And.intro m2 (And.intro m3 (And.intro m4 m5)))
 have HI2 := Lib.hid i2
 have HP := Lib.hid hp; have HS := Lib.hid hs
 have HX := Lib.hid hX
 have HNE := Lib.hid (show w.heap.size ≠ p by have := hI.lt; omega)
 have H0 := Lib.hid (hI.below ((Below.refl _ w).alloc (Nat.le_refl _) (.cells #[.int .i64 x.f0, .int .i64 x.f1, .slice A2 x.f2.length c2, .slice A3 x.f3.length c3, .slice A4 x.f4.length c4, .slice A5 x.f5.length c5] 32)))
 have HB0 := Lib.hid (hB.alloc hB.size (.cells #[.int .i64 x.f0, .int .i64 x.f1, .slice A2 x.f2.length c2, .slice A3 x.f3.length c3, .slice A4 x.f4.length c4, .slice A5 x.f5.length c5] 32))
 have HK0 := Lib.hid ((KeepS.refl (fun i => i = p) w).alloc (.cells #[.int .i64 x.f0, .int .i64 x.f1, .slice A2 x.f2.length c2, .slice A3 x.f3.length c3, .slice A4 x.f4.length c4, .slice A5 x.f5.length c5] 32))
 have HT0 := Lib.hid (show TxBox (w.alloc (.cells #[.int .i64 x.f0, .int .i64 x.f1, .slice A2 x.f2.length c2, .slice A3 x.f3.length c3, .slice A4 x.f4.length c4, .slice A5 x.f5.length c5] 32)) w.heap.size x A2 c2 A3 c3 A4 c4 A5 c5 from heap_alloc_new w _)
 clear hI hB hp hX hok hm hs o1 o2 o3 o4 o5 m2 m3 m4 m5 e1 e2 e3 e4 e5 e6 i2
 go_enter Try.func64, Try.ntmps64
 go_wp2_with fail
 obtain ⟨b, hb⟩ : ∃ b, w.heap.size = b := ⟨_, rfl⟩
 obtain ⟨v0, hv0⟩ : ∃ v0, w.alloc (.cells #[.int .i64 x.f0, .int .i64 x.f1, .slice A2 x.f2.length c2, .slice A3 x.f3.length c3, .slice A4 x.f4.length c4, .slice A5 x.f5.length c5] 32) = v0 := ⟨_, rfl⟩
 rw [hv0] at H0 HB0 HK0 HT0 ⊢
 rw [hb] at HNE HT0 ⊢
 clear hb hv0
 obtain ⟨d0, d1, d2, d3, d4, d5, dz⟩ := HT0.out.cell
 have HD := Lib.hid (show Below v0.heap.size v0 (v0.alloc (.cells #[.int .i64 x.f0, .int .i64 x.f1] 2)).drew from ((Below.refl _ v0).alloc (Nat.le_refl _) (.cells #[.int .i64 x.f0, .int .i64 x.f1] 2)).drew)
 have HN := Lib.hid (nums_is (H0.out.below HD.out) ((HB0.out.alloc HB0.out.size _).drew) HP.out _ 2 [x.f0, x.f1] (Kd.C_drew (C_lit v0 [x.f0, x.f1] (by simp))) HO.out.1 (by have := HS.out; simp only [List.length_append, List.length_cons, List.length_nil]; omega))
 go_region_held3 (fun w' => w'.cell? ⟨b, 0, none⟩ = some (.int .i64 x.f0) ∧ w'.cell? ⟨b, 1, none⟩ = some (.int .i64 x.f1)) (go_keep) (((refine HN.out.mono ?_; rintro e v1 ⟨rfl, h1, h2, h3⟩; have H1 := Lib.hid h1; have HB1 := Lib.hid h2; have HK1 := Lib.hid (((HK0.out.alloc (.cells #[.int .i64 x.f0, .int .i64 x.f1] 2)).drew).trans h3); have HT1 := Lib.hid (HT0.out.keep ((((KeepS.refl (fun i => i = p) v0).alloc (.cells #[.int .i64 x.f0, .int .i64 x.f1] 2)).drew).trans h3) HNE.out); clear h1 h2 h3; have qh0 : v1.cell? ⟨b, 0, none⟩ = some (.int .i64 x.f0) := HT1.out.cell.1; have qh1 : v1.cell? ⟨b, 1, none⟩ = some (.int .i64 x.f1) := HT1.out.cell.2.1)))
 clear HN HD d0 d1 d2 d3 d4 d5 dz qh0 qh1
 obtain ⟨d0, d1, d2, d3, d4, d5, dz⟩ := HT1.out.cell
 have HD := Lib.hid (show Below v1.heap.size v1 v1.drew from (Below.refl v1.heap.size v1).drew)
 have HN := Lib.hid (data_is (H1.out.below HD.out) HB1.out.drew HP.out _ c2 x.f2 (Kd.C_below HX.out.g2 HB1.out.drew) HX.out.l2 (by have := HS.out; have := HE.out; have := HM.out; simp only [List.length_append]; omega))
 go_wp2_with fail
 go_region_held3 (fun w' => w'.cell? ⟨b, 2, none⟩ = some (.slice A2 x.f2.length c2)) (go_keep) (((refine HN.out.mono ?_; rintro e v2 ⟨rfl, h1, h2, h3⟩; have H2 := Lib.hid h1; have HB2 := Lib.hid h2; have HK2 := Lib.hid ((HK1.out.drew).trans h3); have HT2 := Lib.hid (HT1.out.keep (((KeepS.refl (fun i => i = p) v1).drew).trans h3) HNE.out); clear h1 h2 h3; have qh2 : v2.cell? ⟨b, 2, none⟩ = some (.slice A2 x.f2.length c2) := HT2.out.cell.2.2.1)))
 clear HN HD d0 d1 d2 d3 d4 d5 dz qh2
 obtain ⟨d0, d1, d2, d3, d4, d5, dz⟩ := HT2.out.cell
 have HD := Lib.hid (show Below v2.heap.size v2 v2.drew from (Below.refl v2.heap.size v2).drew)
 have HN := Lib.hid (many_is (H2.out.below HD.out) HB2.out.drew HP.out x.f3.length HI2.out (by have := HS.out; have := HE.out; have := HM.out; simp only [List.length_append]; omega))
 go_wp2_with fail
 go_region_held3 (fun w' => w'.cell? ⟨b, 3, none⟩ = some (.slice A3 x.f3.length c3)) (go_keep) (((refine HN.out.mono ?_; rintro e v3 ⟨rfl, h1, h2, h3⟩; have H3 := Lib.hid h1; have HB3 := Lib.hid h2; have HK3 := Lib.hid ((HK2.out.drew).trans h3); have HT3 := Lib.hid (HT2.out.keep (((KeepS.refl (fun i => i = p) v2).drew).trans h3) HNE.out); clear h1 h2 h3; have qh3 : v3.cell? ⟨b, 3, none⟩ = some (.slice A3 x.f3.length c3) := HT3.out.cell.2.2.2.1)))
 clear HN HD d0 d1 d2 d3 d4 d5 dz qh3
 obtain ⟨d0, d1, d2, d3, d4, d5, dz⟩ := HT3.out.cell
 have HD := Lib.hid (show Below v3.heap.size v3 v3.drew from (Below.refl v3.heap.size v3).drew)
 have HN := Lib.hid (nums_is (H3.out.below HD.out) HB3.out.drew HP.out _ c3 x.f3 (Kd.C_below HX.out.g3 HB3.out.drew) HO.out.2.2.1 (by have := HS.out; have := HE.out; have := HM.out; simp only [List.length_append]; omega))
 go_wp2_with fail
 go_region_held3 (fun w' => w'.cell? ⟨b, 3, none⟩ = some (.slice A3 x.f3.length c3)) (go_keep) (((refine HN.out.mono ?_; rintro e v4 ⟨rfl, h1, h2, h3⟩; have H4 := Lib.hid h1; have HB4 := Lib.hid h2; have HK4 := Lib.hid ((HK3.out.drew).trans h3); have HT4 := Lib.hid (HT3.out.keep (((KeepS.refl (fun i => i = p) v3).drew).trans h3) HNE.out); clear h1 h2 h3; have qh3 : v4.cell? ⟨b, 3, none⟩ = some (.slice A3 x.f3.length c3) := HT4.out.cell.2.2.2.1)))
 clear HN HD d0 d1 d2 d3 d4 d5 dz qh3
 obtain ⟨d0, d1, d2, d3, d4, d5, dz⟩ := HT4.out.cell
 go_wp2_with fail
 refine (penKeys_is H4.out HB4.out HP.out _ c4 x.f4 HX.out.g4 HO.out.2.2.2.1 (by have := HM.out; omega) (by have := HS.out; have := HE.out; have := HM.out; simp only [List.length_append]; omega)).mono ?_
 rintro e v5 ⟨rfl, h1, h2, h3⟩
 have H5 := Lib.hid h1; have HB5 := Lib.hid h2; have HK5 := Lib.hid (HK4.out.trans h3); have HT5 := Lib.hid (HT4.out.keep h3 HNE.out)
 clear h1 h2 h3 d0 d1 d2 d3 d4 d5 dz
 obtain ⟨d0, d1, d2, d3, d4, d5, dz⟩ := HT5.out.cell
 go_wp2_with fail
 refine (penKeys_is H5.out HB5.out HP.out _ c5 x.f5 HX.out.g5 HO.out.2.2.2.2 (by have := HM.out; omega) (by have := HS.out; have := HE.out; have := HM.out; simp only [List.length_append]; omega)).mono ?_
 rintro e v6 ⟨rfl, h1, h2, h3⟩
 have H6 := Lib.hid h1; have HB6 := Lib.hid h2; have HK6 := Lib.hid (HK5.out.trans h3); have HT6 := Lib.hid (HT5.out.keep h3 HNE.out)
 clear h1 h2 h3 d0 d1 d2 d3 d4 d5 dz
 go_wp2_with fail
 go_end0
 refine ⟨rfl, ?_, HB6.out, HK6.out⟩
 have := H6.out
 unfold txB
 simp only [List.append_assoc] at this ⊢
 exact this
end Go.Proofs.Ytgmlpmdfkaadhaa.M
end

section
/- The pen writes an entry. -/
attribute [local irreducible] Go.wpStill
namespace Go.Proofs.Ytgmlpmdfkaadhaa.M
open Go.RowKit Go.Proofs.YtgmlpmdfkaadhaaW.PrintWords Go.Proofs.YtgmlpmdfkaadhaaW.PrintLast Go.Proofs.YtgmlpmdfkaadhaaW.PrintMore Go.Proofs.Ytgmlpmdfkaadhaa.G
theorem EnBox.keep {W W' : World} {b p : Nat} {k f n : Int} {A : Option Addr} {m c : Nat} (h : EnBox W b k f n A m c) (hk : KeepS (fun i => i = p) W W') (hb : b ≠ p) : EnBox W' b k f n A m c := (hk.block b h.cell.2.2.2.2 hb).trans h
theorem mayE_one {k f n : Int} {l : List TxD} (h : mayE k f n l = true) (hk : k ≠ 0) : k = 1 ∧ l.length ≤ 16 ∧ l.all mayT = true := by
 unfold mayE at h
 rw [if_neg hk] at h
 simp only [Bool.and_eq_true, beq_iff_eq] at h
 obtain ⟨h1, _, _, h4, h5⟩ := h
 unfold inB at h4
 simp only [List.all_cons, List.all_nil, Bool.and_true, Bool.and_eq_true, decide_eq_true_eq] at h4
 exact ⟨h1, by omega, h5⟩
theorem okE_parts {k f n : Int} {l : List TxD} (h : okE k f n l = true) : isI64 k ∧ okI [f, n] = true ∧ l.all okT = true := by
 unfold okE at h
 simp only [Bool.and_eq_true, decide_eq_true_eq] at h
 exact ⟨h.1, by simp [okI, h.2.1, h.2.2.1], h.2.2.2⟩
theorem entB_len {k f n : Int} {l : List TxD} (h : okE k f n l = true) (hm : mayE k f n l = true) : (entB k f n l).length ≤ 25000 := by
 obtain ⟨h1, h2, h3⟩ := okE_parts h
 unfold entB
 by_cases hk : k = 0
 ·rw [if_pos hk]
  have := (numB_len (n := 0) (by decide)).2
  omega
 ·obtain ⟨_, h5, h6⟩ := mayE_one hm hk
  rw [if_neg hk]
  have e1 := (numB_len h1).2
  have e2 := numsB2_len h2
  have e3 := (numB_len (n := (l.length : Int)) (by unfold isI64; omega)).2
  have e4 := flat_len txB 1300 l (fun x hx => txB_len (List.all_eq_true.1 h3 x hx) (List.all_eq_true.1 h6 x hx))
  simp only [List.length_append]
  omega
theorem TxAt.below {w w' : World} {p : Addr} {x : TxD} {A2 A3 A4 A5 : Option Addr} {c2 c3 c4 c5 : Nat} (h : TxAt w p x A2 c2 A3 c3 A4 c4 A5 c5) (hb : Below w.heap.size w w') : TxAt w' p x A2 c2 A3 c3 A4 c4 A5 c5 := by
 have hz : p.block < w.heap.size := World.block_lt_of_cell? _ _ h.e0
 exact ⟨(hb.cell (p := p) hz).trans h.e0, (hb.cell (p := ⟨p.block, _, none⟩) hz).trans h.e1, (hb.cell (p := ⟨p.block, _, none⟩) hz).trans h.e2, (hb.cell (p := ⟨p.block, _, none⟩) hz).trans h.e3, (hb.cell (p := ⟨p.block, _, none⟩) hz).trans h.e4, (hb.cell (p := ⟨p.block, _, none⟩) hz).trans h.e5⟩
def EnL (w0 w : World) (p : Nat) (l0 : List Int) (l : List TxD) (i : Value) (wr : World) : Prop := ∃ j : Nat, i = .int .i64 j ∧ j ≤ l.length ∧ IsPen wr w0.heap.size p (l0 ++ (l.take j).flatMap txB) ∧ Below w0.heap.size w0 wr ∧ KeepS (fun i => i = p) w wr
set_option maxHeartbeats 2000000 in
theorem penEntry_is {w0 w : World} {p : Nat} {l0 : List Int} (hI : IsPen w w0.heap.size p l0) (hB : Below w0.heap.size w0 w) (hp : w0.heap.size ≤ p) (k f n : Int) (A : Option Addr) (c : Nat) (l : List TxD) (hC : Kd.C G.k32 w0 A l.length l) (hok : okE k f n l = true) (hm : mayE k f n l = true) (hs : l0.length + 30000 < 140737488355328) :
  Calls Try.prog 43 #[.pointer (some ⟨p, 0, none⟩), .agg #[.int .i64 k, .int .i64 f, .int .i64 n, .slice A l.length c]] w fun e w' => PenP w0 w p (l0 ++ entB k f n l) e w' := by
 obtain ⟨o1, o2, o3⟩ := okE_parts hok
 have e1 := (numB_len o1).2
 have e2 := numsB2_len o2
 have HE := Lib.hid (And.intro e1 e2)
 have HO := Lib.hid (And.intro o1 (And.intro o2 o3))
 have HM := Lib.hid hm
 have HC := Lib.hid hC
 have HP := Lib.hid hp; have HS := Lib.hid hs
 have hlm : l.length ≤ 9223372036854775807 := hC.2.1
 have HNE := Lib.hid (show w.heap.size ≠ p by have := hI.lt; omega)
 have H0 := Lib.hid (hI.below ((Below.refl _ w).alloc (Nat.le_refl _) (.cells #[.int .i64 k, .int .i64 f, .int .i64 n, .slice A l.length c] 36)))
 have HB0 := Lib.hid (hB.alloc hB.size (.cells #[.int .i64 k, .int .i64 f, .int .i64 n, .slice A l.length c] 36))
 have HK0 := Lib.hid ((KeepS.refl (fun i => i = p) w).alloc (.cells #[.int .i64 k, .int .i64 f, .int .i64 n, .slice A l.length c] 36))
 have HT0 := Lib.hid (show EnBox (w.alloc (.cells #[.int .i64 k, .int .i64 f, .int .i64 n, .slice A l.length c] 36)) w.heap.size k f n A l.length c from heap_alloc_new w _)
 clear hI hB hp hC hok hm hs o1 o2 o3 e1 e2
 go_enter Try.func43, Try.ntmps43
 go_wp2_with fail
 obtain ⟨b, hb⟩ : ∃ b, w.heap.size = b := ⟨_, rfl⟩
 obtain ⟨v0, hv0⟩ : ∃ v0, w.alloc (.cells #[.int .i64 k, .int .i64 f, .int .i64 n, .slice A l.length c] 36) = v0 := ⟨_, rfl⟩
 rw [hv0] at H0 HB0 HK0 HT0 ⊢
 rw [hb] at HNE HT0 ⊢
 clear hb hv0
 obtain ⟨d0, d1, d2, d3, dz⟩ := HT0.out.cell
 have HD := Lib.hid (show Below v0.heap.size v0 v0.drew from (Below.refl _ _).drew)
 have HN := Lib.hid (many_is (H0.out.below HD.out) HB0.out.drew HP.out k HO.out.1 (by have := HS.out; omega))
 go_region_held3 (fun w' => w'.cell? ⟨b, 0, none⟩ = some (.int .i64 k)) (go_keep) (((refine HN.out.mono ?_; rintro e v1 ⟨rfl, h1, h2, h3⟩; have H1 := Lib.hid h1; have HB1 := Lib.hid h2; have HK1 := Lib.hid (HK0.out.drew.trans h3); have HT1 := Lib.hid (HT0.out.keep (((KeepS.refl (fun i => i = p) v0).drew).trans h3) HNE.out); clear h1 h2 h3; have qh0 : v1.cell? ⟨b, 0, none⟩ = some (.int .i64 k) := HT1.out.cell.1)))
 clear HN HD d0 d1 d2 d3 dz
 cases hk : (k == 0) with
 | true =>
  have hk0 : k = 0 := by simpa using hk
  have HF := Lib.hid (show IsPen v1 w0.heap.size p (l0 ++ entB k f n l) by unfold entB; rw [if_pos hk0, ← hk0]; exact H1.out)
  clear hk0
  go_wp2_with fail
  go_end0
  exact ⟨rfl, HF.out, HB1.out, HK1.out⟩
 | false =>
  have hk0 : k ≠ 0 := by simpa using hk
  obtain ⟨m1, m2, m3⟩ := mayE_one HM.out hk0
  have HMM := Lib.hid (And.intro m2 m3)
  have HK0 := Lib.hid hk0
  have i2 : isI64 (l.length : Int) := by unfold isI64; omega
  have HI2 := Lib.hid i2
  have e3 := (numB_len i2).2
  have HE3 := Lib.hid e3
  clear hk0 m1 m2 m3 i2 e3
  go_wp2_with fail
  obtain ⟨d0, d1, d2, d3, dz⟩ := HT1.out.cell
  have HD := Lib.hid (show Below v1.heap.size v1 (v1.alloc (.cells #[.int .i64 f, .int .i64 n] 2)).drew from ((Below.refl _ v1).alloc (Nat.le_refl _) _).drew)
  have HN := Lib.hid (nums_is (H1.out.below HD.out) ((HB1.out.alloc HB1.out.size _).drew) HP.out _ 2 [f, n] (Kd.C_drew (C_lit v1 [f, n] (by simp))) HO.out.2.1 (by have := HS.out; have := HE.out; simp only [List.length_append, List.length_cons, List.length_nil]; omega))
  go_region_held3 (fun w' => w'.cell? ⟨b, 1, none⟩ = some (.int .i64 f) ∧ w'.cell? ⟨b, 2, none⟩ = some (.int .i64 n)) (go_keep) (((refine HN.out.mono ?_; rintro e v2 ⟨rfl, h1, h2, h3⟩; have H2 := Lib.hid h1; have HB2 := Lib.hid h2; have HK2 := Lib.hid (((HK1.out.alloc (.cells #[.int .i64 f, .int .i64 n] 2)).drew).trans h3); have HT2 := Lib.hid (HT1.out.keep ((((KeepS.refl (fun i => i = p) v1).alloc (.cells #[.int .i64 f, .int .i64 n] 2)).drew).trans h3) HNE.out); clear h1 h2 h3; have qh1 : v2.cell? ⟨b, 1, none⟩ = some (.int .i64 f) := HT2.out.cell.2.1; have qh2 : v2.cell? ⟨b, 2, none⟩ = some (.int .i64 n) := HT2.out.cell.2.2.1)))
  clear HN HD d0 d1 d2 d3 dz qh1 qh2 qh0
  obtain ⟨d0, d1, d2, d3, dz⟩ := HT2.out.cell
  have HD := Lib.hid (show Below v2.heap.size v2 v2.drew from (Below.refl _ _).drew)
  have HN := Lib.hid (many_is (H2.out.below HD.out) HB2.out.drew HP.out l.length HI2.out (by have := HS.out; have := HE.out; simp only [List.length_append]; omega))
  go_wp2_with fail
  go_region_held3 (fun w' => w'.cell? ⟨b, 3, none⟩ = some (.slice A l.length c)) (go_keep) (((refine HN.out.mono ?_; rintro e v3 ⟨rfl, h1, h2, h3⟩; have H3 := Lib.hid h1; have HB3 := Lib.hid h2; have HK3 := Lib.hid (HK2.out.drew.trans h3); have HT3 := Lib.hid (HT2.out.keep (((KeepS.refl (fun i => i = p) v2).drew).trans h3) HNE.out); clear h1 h2 h3; have qh3 : v3.cell? ⟨b, 3, none⟩ = some (.slice A l.length c) := HT3.out.cell.2.2.2.1)))
  clear HN HD d0 d1 d2 d3 dz
  obtain ⟨la, hla⟩ : ∃ la, l0 ++ numB k ++ numsB [f, n] ++ numB l.length = la := ⟨_, rfl⟩
  rw [hla] at H3
  have HLA := Lib.hid hla
  have HLL := Lib.hid (show la.length ≤ l0.length + 40 by rw [← hla]; have := HE.out; have := HE3.out; simp only [List.length_append]; omega)
  clear hla
  go_wp2_with fail
  go_loopw [34] (fun i wr => EnL w0 w p la l i wr) (fun i _ => l.length - (intOf i).toNat)
  case atStart => exact ⟨0, rfl, Nat.zero_le _, by simpa using H3.out, HB3.out, HK3.out⟩
  case round =>
   obtain ⟨j, rfl, hj, hI, hB, hK⟩ := hrel
   have HI := Lib.hid hI; have HB := Lib.hid hB; have HKj := Lib.hid hK
   clear hI hB hK
   by_cases hlt : j < l.length
   ·obtain ⟨x, hx⟩ : ∃ x, l[j]? = some x := ⟨_, List.getElem?_eq_getElem hlt⟩
    obtain ⟨ad, A2, c2, A3, c3, A4, c4, A5, c5, rfl, hAt, hTC⟩ := tx_get HC.out hx
    obtain ⟨x0, x1, x2, x3, x4, x5⟩ := hAt.below HB.out
    have HTC := Lib.hid hTC
    have HX := Lib.hid (show l.take (j + 1) = l.take j ++ [x] by rw [List.take_add_one, hx]; rfl)
    have HOX := Lib.hid (And.intro (List.all_eq_true.1 HO.out.2.2 x (List.mem_of_getElem? hx)) (List.all_eq_true.1 HMM.out.2 x (List.mem_of_getElem? hx)))
    have HLJ := Lib.hid (show (la ++ (l.take j).flatMap txB).length + 2000 < 140737488355328 by
     have h1 := flat_len txB 1300 (l.take j) (fun y hy => txB_len (List.all_eq_true.1 HO.out.2.2 y (List.mem_of_mem_take hy)) (List.all_eq_true.1 HMM.out.2 y (List.mem_of_mem_take hy)))
     have h2 := HMM.out.1; have h3 := HLL.out; have h4 := HS.out
     rw [List.length_take] at h1
     rw [List.length_append]
     omega)
    have HI5 := Lib.hid (HI.out.below ((Below.refl _ wr).alloc (Nat.le_refl _) (.cells #[.int .i64 x.f0, .int .i64 x.f1, .slice A2 x.f2.length c2, .slice A3 x.f3.length c3, .slice A4 x.f4.length c4, .slice A5 x.f5.length c5] 32)))
    have HB5 := Lib.hid (HB.out.alloc HB.out.size (.cells #[.int .i64 x.f0, .int .i64 x.f1, .slice A2 x.f2.length c2, .slice A3 x.f3.length c3, .slice A4 x.f4.length c4, .slice A5 x.f5.length c5] 32))
    have HK5 := Lib.hid (HKj.out.alloc (.cells #[.int .i64 x.f0, .int .i64 x.f1, .slice A2 x.f2.length c2, .slice A3 x.f3.length c3, .slice A4 x.f4.length c4, .slice A5 x.f5.length c5] 32))
    clear hx hAt hTC
    go_wp2_with fail
    refine (penTxn_is HI5.out HB5.out HP.out x HTC.out HOX.out.1 HOX.out.2 HLJ.out).mono ?_
    rintro e w6 ⟨rfl, h1, h2, h3⟩
    have H6 := Lib.hid h1; have HB6 := Lib.hid h2; have HK6 := Lib.hid (HK5.out.trans h3)
    clear h1 h2 h3 x0 x1 x2 x3 x4 x5
    go_wp2_with fail
    go_roundw
    case rel =>
     refine ⟨j + 1, by go_num, hlt, ?_, HB6.out, HK6.out⟩
     have h1 := H6.out
     rw [HX.out, List.flatMap_append, List.flatMap_cons, List.flatMap_nil, List.append_nil, ← List.append_assoc]
     exact h1
    case measure => simp [intOf]; omega
   ·have hjn : j = l.length := by omega
    have HF := Lib.hid (show IsPen wr w0.heap.size p (l0 ++ entB k f n l) by
     have := HI.out
     rw [hjn, List.take_length, ← HLA.out] at this
     unfold entB
     rw [if_neg HK0.out]
     simp only [List.append_assoc] at this ⊢
     exact this)
    clear hjn
    go_wp2_with fail
    go_end0
    exact ⟨rfl, HF.out, HB.out, HKj.out⟩
end Go.Proofs.Ytgmlpmdfkaadhaa.M
end

section
/- record.Entry. -/
namespace Go.Proofs.Ytgmlpmdfkaadhaa.M
open Go.RowKit Go.Proofs.YtgmlpmdfkaadhaaW.PrintWords Go.Proofs.YtgmlpmdfkaadhaaW.PrintLast Go.Proofs.YtgmlpmdfkaadhaaW.PrintMore Go.Proofs.Ytgmlpmdfkaadhaa.G
def BytesP (w : World) (l : List Int) (x : Int) (e : Ending) (w' : World) : Prop := ∃ v0_ : Value, e = .returned (.tuple #[v0_, .int .i64 x]) ∧ Kd.R (Kd.int .u8) 5 w' w.heap.size (fun _ => True) v0_ l ∧ Below w.heap.size w w'
theorem fits_is {w0 w : World} {ok : Nat → Prop} {v : Value} {l : List Int} (hB : Below w0.heap.size w0 w) (hv : Kd.R (Kd.int .u8) 5 w w0.heap.size ok v l) :
  Calls Try.prog 44 #[v] w fun e w' => BytesP w0 (if 1048576 < l.length then [] else l) (if 1048576 < l.length then 3 else 0) e w' := by
 refine (G.record_fits.calls ok v l (if 1048576 < l.length then [] else l) (if 1048576 < l.length then 3 else 0) w0 w hB hv ?_).mono ?_
 ·unfold G.record_fits.f
  by_cases h : 1048576 < l.length
  ·rw [if_pos (by omega), if_pos h, if_pos h]
  ·rw [if_neg (by omega), if_neg h, if_neg h]
 ·rintro e w' ⟨v0, rfl, h1, h2, _⟩
  exact ⟨v0, rfl, Kd.R_mono h1 (fun _ _ => trivial), h2⟩
def entF (k f n : Int) (l : List TxD) : List Int × Int := if mayE k f n l = true then (if 1048576 < (entB k f n l).length then ([], 3) else (entB k f n l, 0)) else ([], 40)
set_option maxHeartbeats 1000000 in
theorem entry_is (k f n : Int) (A : Option Addr) (c : Nat) (l : List TxD) (w : World) (hr : Kd.C G.k32 w A l.length l) (ho : okE k f n l = true) :
  Calls Try.prog 29 #[.agg #[.int .i64 k, .int .i64 f, .int .i64 n, .slice A l.length c]] w fun e w' => BytesP w (entF k f n l).1 (entF k f n l).2 e w' := by
 have HO := Lib.hid ho
 have HB1 := Lib.hid (show Below w.heap.size w (w.alloc (.cells #[.int .i64 k, .int .i64 f, .int .i64 n, .slice A l.length c] 36)) from (Below.refl _ _).alloc (Nat.le_refl _) _)
 have HX1 := Lib.hid (show EnBox (w.alloc (.cells #[.int .i64 k, .int .i64 f, .int .i64 n, .slice A l.length c] 36)) w.heap.size k f n A l.length c from heap_alloc_new w _)
 have HR1 := Lib.hid (Kd.C_below hr HB1.out)
 have HR := Lib.hid hr
 clear hr ho
 go_enter Try.func29, Try.ntmps29
 go_wp2_with fail
 refine (mayEn_is k f n A c l _ HR1.out).mono ?_
 rintro e w2 ⟨rfl, hb⟩
 have HB2 := Lib.hid (below_then HB1.out hb); have HX2 := Lib.hid (HX1.out.below hb)
 clear hb
 cases hm : mayE k f n l with
 | false =>
  have HF := Lib.hid (show entF k f n l = ([], 40) by unfold entF; rw [if_neg (by rw [hm]; simp)])
  clear hm
  go_wp2_with fail
  go_ret2
  refine ⟨.slice none 0 0, by rw [HF.out]; rfl, by rw [HF.out]; exact Kd.R_nil _ _ _ _ _, HB2.out⟩
 | true =>
  have HM := Lib.hid hm
  have HF := Lib.hid (show entF k f n l = (if 1048576 < (entB k f n l).length then [] else entB k f n l, if 1048576 < (entB k f n l).length then 3 else 0) by
   unfold entF
   rw [if_pos hm]
   split <;> rfl)
  clear hm
  go_wp2_with fail
  refine (newPen_is none 0 [] w2 (Kd.C_nil _ _) (by simp) (by simp)).mono ?_
  rintro e w3 ⟨p, rfl, hI, hb⟩
  have HB3 := Lib.hid (below_then HB2.out hb); have HX3 := Lib.hid (HX2.out.below hb)
  have HI3 := Lib.hid (show IsPen w3 w.heap.size p [] by
   obtain ⟨A', c', h1, h2, h3, h4⟩ := hI
   have hz := HB2.out.size
   exact ⟨A', c', h1, by omega, h3, Kd.R_lower h4 hz⟩)
  obtain ⟨d0, d1, d2, d3, dz⟩ := HX3.out.cell
  clear hI hb
  go_wp2_with fail
  refine (penEntry_is HI3.out HB3.out HI3.out.ge k f n A c l HR.out HO.out HM.out (by simp)).mono ?_
  rintro e w4 ⟨rfl, h1, h2, h3⟩
  have HB4 := Lib.hid h2
  obtain ⟨A', c', hh, _, hc', hR⟩ := h1
  have HRR := Lib.hid hR
  rw [List.nil_append] at hh HRR
  obtain ⟨bs, hbs⟩ : ∃ bs, entB k f n l = bs := ⟨_, rfl⟩
  rw [hbs] at hh HRR HF
  have p0 : w4.cell? ⟨p, 0, none⟩ = some (.slice A' bs.length c') := by simp [World.cell?, hh]
  clear h2 h3 hh hc' hR hbs d0 d1 d2 d3 dz
  go_wp2_with fail
  refine (fits_is HB4.out HRR.out).mono ?_
  rintro e w5 ⟨v, rfl, hv, hb⟩
  have HV := Lib.hid hv; have HB5 := Lib.hid hb
  clear hv hb
  obtain ⟨q, hq⟩ : ∃ q : Int, (if 1048576 < bs.length then 3 else 0) = q := ⟨_, rfl⟩
  rw [hq] at HF ⊢
  clear hq
  go_wp2_with fail
  go_ret2
  exact ⟨v, by rw [HF.out]; rfl, by rw [HF.out]; exact HV.out, HB5.out⟩
end Go.Proofs.Ytgmlpmdfkaadhaa.M
namespace Go.Proofs.Ytgmlpmdfkaadhaa.G
open Go.RowKit Go.Proofs.YtgmlpmdfkaadhaaW.PrintWords Go.Proofs.Ytgmlpmdfkaadhaa.M
def record_Entry.f (a0_0 a0_1 a0_2 : Int) (l0_3 : List S32) : Option (List Int × Int) := if okE a0_0 a0_1 a0_2 l0_3 = true then some (entF a0_0 a0_1 a0_2 l0_3) else none
theorem record_Entry.calls (a0_0 a0_1 a0_2 : Int) (A0_3 : Option Addr) (c0_3 : Nat) (l0_3 : List S32) (r1 : List Int) (r2 : Int) (w : World) (hr0_3 : Kd.C k32 w A0_3 l0_3.length l0_3) (hc0_3 : l0_3.length ≤ c0_3) (h : record_Entry.f a0_0 a0_1 a0_2 l0_3 = some (r1, r2)) :
  Calls Try.prog 29 #[.agg #[.int .i64 a0_0, .int .i64 a0_1, .int .i64 a0_2, .slice A0_3 l0_3.length c0_3]] w fun e w' => ∃ v0_ : Value, e = .returned (.tuple #[v0_, .int .i64 r2]) ∧ Kd.R (Kd.int .u8) 5 w' w.heap.size (fun _ => True) v0_ r1 ∧ Below w.heap.size w w' := by
 unfold record_Entry.f at h
 split at h
 ·rename_i ho
  have h := Option.some.inj h
  have := entry_is a0_0 a0_1 a0_2 A0_3 c0_3 l0_3 w hr0_3 ho
  rw [h] at this
  exact this
 ·cases h
end Go.Proofs.Ytgmlpmdfkaadhaa.G
end

section
/- Entries' and transactions' bytes in plain Lean: from the front of them they are known. -/
namespace Go.Proofs.Ytgmlpmdfkaadhaa.M
open Go.RowKit Go.Proofs.YtgmlpmdfkaadhaaW.PrintWords Go.Proofs.YtgmlpmdfkaadhaaW.PrintLast Go.Proofs.YtgmlpmdfkaadhaaW.PrintMore Go.Proofs.Ytgmlpmdfkaadhaa.G
def TxP1 (t : TxD) : Prop := okT t = true ∧ mayT t = true
theorem mayT_len {t : TxD} (h : mayT t = true) : t.f2.length ≤ 512 ∧ t.f3.length ≤ 8 ∧ t.f4.length ≤ 16 ∧ t.f5.length ≤ 16 := by
 unfold mayT mayK at h
 simp only [Bool.and_eq_true, decide_eq_true_eq] at h
 omega
theorem okT_all {t : TxD} (h : okT t = true) : isI64 t.f0 ∧ isI64 t.f1 ∧ okB t.f2 = true ∧ (∀ x ∈ t.f3, isI64 x) ∧ (∀ x ∈ t.f4, okK x = true) ∧ (∀ x ∈ t.f5, okK x = true) := by
 unfold okT at h
 simp only [Bool.and_eq_true, decide_eq_true_eq] at h
 obtain ⟨h0, h1, h2, h3, h4, h5⟩ := h
 refine ⟨h0, h1, h2, fun x hx => ?_, List.all_eq_true.1 h4, List.all_eq_true.1 h5⟩
 unfold okI at h3
 have := List.all_eq_true.1 h3 x hx
 simpa using this
end Go.Proofs.Ytgmlpmdfkaadhaa.M
end

section
/- The arguments of law04's statements, opened. -/
namespace Go.Proofs.Ytgmlpmdfkaadhaa.M
open Go.RowKit Go.Proofs.YtgmlpmdfkaadhaaW.PrintWords Go.Proofs.YtgmlpmdfkaadhaaW.PrintLast Go.Proofs.YtgmlpmdfkaadhaaW.PrintMore Go.Proofs.Ytgmlpmdfkaadhaa.G
abbrev I64 (x : Int) : Prop := (Lit.int .i64 x).wf = true
abbrev I32 (x : Int) : Prop := (Lit.int .i32 x).wf = true
abbrev U8 (x : Int) : Prop := (Lit.int .u8 x).wf = true
abbrev LenP {α : Type} (ok : α → Prop) (l : List α) : Prop := l.length ≤ 9223372036854775807 ∧ ∀ x ∈ l, ok x
def okKd (k : KeyD) : Prop := I32 k.f0 ∧ I64 k.f1
def okTd (t : TxD) : Prop := I64 t.f0 ∧ I64 t.f1 ∧ LenP U8 t.f2 ∧ LenP I64 t.f3 ∧ LenP okKd t.f4 ∧ LenP okKd t.f5
abbrev szN (l : List Int) : Nat := szL (fun _ : Int => 1) l
abbrev szK (k : KeyD) : Nat := 1 + 1 + 1
abbrev szT (t : TxD) : Nat := 1 + (1 + (szN t.f2 + (szN t.f3 + (szL szK t.f4 + szL szK t.f5)))) + 1
theorem opens_i64 : Opens Try.prog 3 (Kd.int .i64) I64 (fun _ => 1) := opens_int Try.underlying3 (by kernel_rfl)
theorem opens_j64 : Opens Try.prog 2 (Kd.int .i64) I64 (fun _ => 1) := opens_int Try.underlying2 (by kernel_rfl)
theorem opens_i32 : Opens Try.prog 21 (Kd.int .i32) I32 (fun _ => 1) := opens_int Try.underlying21 (by kernel_rfl)
theorem opens_u8 : Opens Try.prog 5 (Kd.int .u8) U8 (fun _ => 1) := opens_int Try.underlying5 (by kernel_rfl)
theorem opens_bytes : Opens Try.prog 28 (Kd.slice 5 (Kd.int .u8)) (LenP U8) szN := opens_slice Try.underlying28 (by kernel_rfl) opens_u8
theorem opens_nums : Opens Try.prog 29 (Kd.slice 2 (Kd.int .i64)) (LenP I64) szN := opens_slice Try.underlying29 (by kernel_rfl) opens_j64
theorem opens_key : Opens Try.prog 54 G.k54 okKd szK := opens_struct (d := Kd.pair (Kd.int .i32) (Kd.int .i64)) (fun x : KeyD => (x.f0, x.f1)) (fun x => ⟨x.1, x.2⟩) (fun _ => rfl) Try.underlying54 (by kernel_rfl) (opensL_cons rfl opens_i32 (opensL_one rfl opens_j64))
theorem opens_keys : Opens Try.prog 30 (Kd.slice 54 G.k54) (LenP okKd) (szL szK) := opens_slice Try.underlying30 (by kernel_rfl) opens_key
theorem opens_txn : Opens Try.prog 32 G.k32 okTd szT := opens_struct (fun x : TxD => (x.f0, x.f1, x.f2, x.f3, x.f4, x.f5)) (fun x => ⟨x.1, x.2.1, x.2.2.1, x.2.2.2.1, x.2.2.2.2.1, x.2.2.2.2.2⟩) (fun _ => rfl) Try.underlying32 (by kernel_rfl)
 (opensL_cons rfl opens_j64 (opensL_cons rfl opens_j64 (opensL_cons rfl opens_bytes (opensL_cons rfl opens_nums (opensL_cons rfl opens_keys (opensL_one rfl opens_keys))))))
end Go.Proofs.Ytgmlpmdfkaadhaa.M
end

section
/- An entry as Lean data. -/
namespace Go.Proofs.Ytgmlpmdfkaadhaa.M
open Go.RowKit Go.Proofs.YtgmlpmdfkaadhaaW.PrintWords Go.Proofs.YtgmlpmdfkaadhaaW.PrintLast Go.Proofs.YtgmlpmdfkaadhaaW.PrintMore Go.Proofs.Ytgmlpmdfkaadhaa.G
structure EntD where
 f0 : Int
 f1 : Int
 f2 : Int
 f3 : List TxD
def zE : EntD := ⟨0, 0, 0, []⟩
end Go.Proofs.Ytgmlpmdfkaadhaa.M
end

section
/- A sequencer in plain Lean. -/
namespace Go.Proofs.Ytgmlpmdfkaadhaa.M
open Go.RowKit Go.Proofs.YtgmlpmdfkaadhaaW.PrintWords Go.Proofs.YtgmlpmdfkaadhaaW.PrintLast Go.Proofs.YtgmlpmdfkaadhaaW.PrintMore Go.Proofs.Ytgmlpmdfkaadhaa.G
structure SqS where
 r : Int
 l : List TxD
 n : Int
 t : Int
def keyTx (t : TxD) : Int × Int := (t.f0, t.f1)
def waitsB (l : List TxD) (k : Int × Int) : Bool := l.any fun t => keyTx t == k
structure OkQ (s : SqS) : Prop where
 r : 0 ≤ s.r ∧ s.r ≤ 4
 n : 0 ≤ s.n ∧ s.n ≤ 1099511627776
 t : 0 ≤ s.t ∧ s.t < 4
 m : s.l.length ≤ 64
 a : ∀ t ∈ s.l, TxP1 t
 u : (s.l.map keyTx).Nodup
def qFlush (s : SqS) : SqS × EntD × Bool := if s.l = [] ∨ 1099511627776 ≤ s.n then (s, zE, false) else ({ s with l := s.l.drop 16, n := s.n + 1 }, ⟨1, s.r, s.n, s.l.take 16⟩, true)
def qTick (s : SqS) : SqS × EntD × Bool := if s.t = 3 then qFlush { s with t := 0 } else ({ s with t := s.t + 1 }, zE, false)
theorem batch_ok {l : List TxD} {r n : Int} (h : ∀ t ∈ l, TxP1 t) (h0 : 1 ≤ l.length) (h1 : l.length ≤ 16) (hr : 0 ≤ r ∧ r ≤ 4) (hn : 0 ≤ n ∧ n ≤ 1099511627776) :
  okE 1 r n l = true ∧ mayE 1 r n l = true ∧ entF 1 r n l = (entB 1 r n l, 0) ∧ (entB 1 r n l).length ≤ 25000 := by
 have ho : okE 1 r n l = true := by
  unfold okE
  rw [decide_eq_true (by decide : isI64 1), decide_eq_true (by unfold isI64; omega : isI64 r), decide_eq_true (by unfold isI64; omega : isI64 n), List.all_eq_true.2 (fun t ht => (h t ht).1)]
  rfl
 have hm : mayE 1 r n l = true := by
  unfold mayE
  rw [if_neg (by decide), List.all_eq_true.2 (fun t ht => (h t ht).2)]
  simp [inB]
  omega
 have hl := entB_len ho hm
 refine ⟨ho, hm, ?_, hl⟩
 unfold entF
 rw [if_pos hm, if_neg (by omega)]
theorem one_err {t : TxD} (ho : okT t = true) : (entF 1 0 0 [t]).2 = if mayT t = true then 0 else 40 := by
 by_cases h : mayT t = true
 ·rw [if_pos h, (batch_ok (l := [t]) (r := 0) (n := 0) (fun x hx => by rw [List.mem_singleton.1 hx]; exact ⟨ho, h⟩) (by simp) (by simp) (by decide) (by decide)).2.2.1]
 ·rw [if_neg h]
  unfold entF
  rw [if_neg]
  unfold mayE
  rw [if_neg (by decide)]
  simp [h]
theorem OkQ.flush {s : SqS} (h : OkQ s) : OkQ (qFlush s).1 := by
 unfold qFlush
 split
 ·exact h
 ·next hc =>
  refine ⟨h.r, ⟨by have := h.n; show 0 ≤ s.n + 1; omega, by show s.n + 1 ≤ _; omega⟩, h.t, by have := h.m; show (s.l.drop 16).length ≤ 64; rw [List.length_drop]; omega, fun t ht => h.a t (List.mem_of_mem_drop ht), ?_⟩
  show ((s.l.drop 16).map keyTx).Nodup
  rw [List.map_drop]
  exact (List.drop_sublist 16 _).nodup h.u
def qTake (s : SqS) (t : TxD) : SqS × Int := if mayT t = false then (s, 1) else if waitsB s.l (keyTx t) = true then (s, 210) else if 64 ≤ s.l.length then (s, 6) else ({ s with l := s.l ++ [t] }, 0)
theorem waits_iff (l : List TxD) (k : Int × Int) : waitsB l k = true ↔ k ∈ l.map keyTx := by
 unfold waitsB
 rw [List.any_eq_true, List.mem_map]
 exact ⟨fun ⟨t, ht, he⟩ => ⟨t, ht, by simpa using he⟩, fun ⟨t, ht, he⟩ => ⟨t, ht, by simpa using he⟩⟩
theorem OkQ.take {s : SqS} (h : OkQ s) {t : TxD} (ho : okT t = true) : OkQ (qTake s t).1 := by
 unfold qTake
 split
 ·exact h
 split
 ·exact h
 split
 ·exact h
 ·next h1 h2 h3 =>
  refine ⟨h.r, h.n, h.t, by show (s.l ++ [t]).length ≤ 64; rw [List.length_append]; simp; omega, fun u hu => ?_, ?_⟩
  ·rcases List.mem_append.1 hu with hu | hu
   ·exact h.a u hu
   ·rw [List.mem_singleton.1 hu]
    exact ⟨ho, by simpa using h1⟩
  ·show ((s.l ++ [t]).map keyTx).Nodup
   rw [List.map_append, List.nodup_append]
   refine ⟨h.u, by simp, fun a ha b hb => ?_⟩
   rw [List.map_singleton, List.mem_singleton] at hb
   subst hb
   intro e
   subst e
   exact h2 ((waits_iff _ _).2 ha)
theorem qFlush_some {s : SqS} (h : OkQ s) (hl : s.l ≠ []) (hn : s.n < 1099511627776) : qFlush s = ({ s with l := s.l.drop 16, n := s.n + 1 }, ⟨1, s.r, s.n, s.l.take 16⟩, true) := by
 unfold qFlush
 rw [if_neg (by rintro (c | c); exact hl c; omega)]
end Go.Proofs.Ytgmlpmdfkaadhaa.M
end

section
/- A sequencer that no call made: what its methods answer. -/
namespace Go.Proofs.Ytgmlpmdfkaadhaa.M
open Go.RowKit Go.Proofs.YtgmlpmdfkaadhaaW.PrintWords Go.Proofs.YtgmlpmdfkaadhaaW.PrintLast Go.Proofs.YtgmlpmdfkaadhaaW.PrintMore Go.Proofs.Ytgmlpmdfkaadhaa.G
def NoSq (W : World) (v : Value) : Prop := v = .pointer none ∨ ∃ g, v = .pointer (some ⟨g, 0, none⟩) ∧ W.cell? ⟨g, 0, none⟩ = some (.bool false)
theorem none_no {w : World} {v : Value} (h : NoSq w v) : Calls Try.prog 28 #[v] w fun e w' => e = .returned (.bool true) ∧ w' = w := by
 rcases h with rfl | ⟨g, rfl, h0⟩
 ·go_enter Try.func28, Try.ntmps28
  go_wp2_with fail
  go_ret
  exact ⟨rfl, rfl⟩
 ·go_enter Try.func28, Try.ntmps28
  go_wp2_with fail
  go_ret
  exact ⟨rfl, rfl⟩
theorem len_no {w : World} {v : Value} (h : NoSq w v) : Calls Try.prog 11 #[v] w fun e w' => e = .returned (.int .i64 0) ∧ w' = w := by
 have H := Lib.hid (none_no h)
 clear h
 go_enter Try.func11, Try.ntmps11
 go_wp2_with fail
 refine H.out.mono ?_
 rintro e w' ⟨rfl, rfl⟩
 go_wp2_with fail
 go_ret
 exact ⟨rfl, rfl⟩
theorem number_no {w : World} {v : Value} (h : NoSq w v) : Calls Try.prog 25 #[v] w fun e w' => e = .returned (.int .i64 0) ∧ w' = w := by
 have H := Lib.hid (none_no h)
 clear h
 go_enter Try.func25, Try.ntmps25
 go_wp2_with fail
 refine H.out.mono ?_
 rintro e w' ⟨rfl, rfl⟩
 go_wp2_with fail
 go_ret
 exact ⟨rfl, rfl⟩
theorem epoch_no {w : World} {v : Value} (h : NoSq w v) : Calls Try.prog 26 #[v] w fun e w' => e = .returned (.int .i64 0) ∧ w' = w := by
 have H := Lib.hid (none_no h)
 clear h
 go_enter Try.func26, Try.ntmps26
 go_wp2_with fail
 refine H.out.mono ?_
 rintro e w' ⟨rfl, rfl⟩
 go_wp2_with fail
 go_ret
 exact ⟨rfl, rfl⟩
theorem clone_no {w : World} {v : Value} (h : NoSq w v) : Calls Try.prog 24 #[v] w fun e w' => e = .returned (.pointer none) ∧ w' = w := by
 have H := Lib.hid (none_no h)
 clear h
 go_enter Try.func24, Try.ntmps24
 go_wp2_with fail
 refine H.out.mono ?_
 rintro e w' ⟨rfl, rfl⟩
 go_wp2_with fail
 go_ret
 exact ⟨rfl, rfl⟩
theorem NoSq.below {w W : World} {v : Value} (h : NoSq w v) (hb : Below w.heap.size w W) : NoSq W v := by
 rcases h with h | ⟨g, h, h0⟩
 ·exact .inl h
 ·exact .inr ⟨g, h, (hb.cell (World.block_lt_of_cell? w _ h0)).trans h0⟩
theorem take_no {w : World} {v : Value} (h : NoSq w v) (x0 x1 : Int) (A2 A3 A4 A5 : Option Addr) (n2 n3 n4 n5 c2 c3 c4 c5 : Nat) :
  Calls Try.prog 10 #[v, .agg #[.int .i64 x0, .int .i64 x1, .slice A2 n2 c2, .slice A3 n3 c3, .slice A4 n4 c4, .slice A5 n5 c5]] w fun e w' => e = .returned (.int .i64 2) ∧ Below w.heap.size w w' := by
 have hb := (Below.refl w.heap.size w).alloc (Nat.le_refl _) (.cells #[.int .i64 x0, .int .i64 x1, .slice A2 n2 c2, .slice A3 n3 c3, .slice A4 n4 c4, .slice A5 n5 c5] 32)
 have H := Lib.hid (none_no (h.below hb))
 have HB := Lib.hid hb
 clear h hb
 go_enter Try.func10, Try.ntmps10
 go_wp2_with fail
 refine H.out.mono ?_
 rintro e w' ⟨rfl, rfl⟩
 go_wp2_with fail
 go_ret
 exact ⟨rfl, HB.out⟩
theorem flush_no {w : World} {v : Value} (h : NoSq w v) :
  Calls Try.prog 20 #[v] w fun e w' => e = .returned (.tuple #[.agg #[.int .i64 0, .int .i64 0, .int .i64 0, .slice none 0 0], .bool false]) ∧ Below w.heap.size w w' := by
 have hb := (Below.refl w.heap.size w).alloc (Nat.le_refl _) (.cells #[.int .i64 0, .int .i64 0, .int .i64 0, .slice none 0 0] 36)
 have H := Lib.hid (none_no (h.below hb))
 have HB := Lib.hid hb
 clear h hb
 go_enter Try.func20, Try.ntmps20
 go_wp2_with fail
 refine H.out.mono ?_
 rintro e w' ⟨rfl, rfl⟩
 go_wp2_with fail
 refine bodyPost_ret (v := .tuple #[.agg #[.int .i64 0, .int .i64 0, .int .i64 0, .slice none 0 0], .bool false]) ?_ rfl ⟨rfl, HB.out⟩
 rw [results_cell_tmp rfl]
 go_simp
theorem tick_no {w : World} {v : Value} (h : NoSq w v) :
  Calls Try.prog 12 #[v] w fun e w' => e = .returned (.tuple #[.agg #[.int .i64 0, .int .i64 0, .int .i64 0, .slice none 0 0], .bool false]) ∧ Below w.heap.size w w' := by
 have hb := (Below.refl w.heap.size w).alloc (Nat.le_refl _) (.cells #[.int .i64 0, .int .i64 0, .int .i64 0, .slice none 0 0] 36)
 have H := Lib.hid (none_no (h.below hb))
 have HB := Lib.hid hb
 clear h hb
 go_enter Try.func12, Try.ntmps12
 go_wp2_with fail
 refine H.out.mono ?_
 rintro e w' ⟨rfl, rfl⟩
 go_wp2_with fail
 refine bodyPost_ret (v := .tuple #[.agg #[.int .i64 0, .int .i64 0, .int .i64 0, .slice none 0 0], .bool false]) ?_ rfl ⟨rfl, HB.out⟩
 rw [results_cell_tmp rfl]
 go_simp
end Go.Proofs.Ytgmlpmdfkaadhaa.M
end

section
/- Maps of the call's own as partial functions: keys of any type, elements as the values they are. -/
namespace Go.Proofs.Ytgmlpmdfkaadhaa.M
open Go.RowKit Go.Maps
def idE (v : Value) : Option (DataW Value × List MemPlace) := some (.held v, [])
structure KeyT {α : Type} (P : Program) (k : TypeId) (mk : α → Value) (wf : α → Prop) : Prop where
 K : Keyed P k
 toK : ∀ x, wf x → ∃ kl, keyOf P k (mk x) = some kl
 from_ : ∀ v kl, keyOf P k v = some kl → ∃ x, wf x ∧ v = mk x
 inj : ∀ x y, mk x = mk y → x = y
def IsM {α : Type} (P : Program) (k : TypeId) (mk : α → Value) (w : World) (b n : Nat) (M : α → Option Value) (sz : Nat) : Prop :=
 ∃ D : DataW Value, w.ownsMap P k idE b n D ∧ Maps.size D = sz ∧ ∀ x kl, keyOf P k (mk x) = some kl → (∀ z, D.atKey kl (.held z) = .held ((M x).getD z)) ∧ Maps.has D kl = (M x).isSome
section
variable {α : Type} {P : Program} {k e t : TypeId} {mk : α → Value} {wf : α → Prop} {w w' : World} {b n sz : Nat} {M : α → Option Value}
theorem IsM.lt (h : IsM P k mk w b n M sz) : b < w.heap.size := by obtain ⟨D, h1, _⟩ := h; exact h1.lt
theorem IsM.move (h : IsM P k mk w b n M sz) (hb : w'.heap[b]? = w.heap[b]?) : IsM P k mk w' b n M sz := by
 obtain ⟨D, ⟨es, clock, h1, h2⟩, h3⟩ := h
 exact ⟨D, ⟨es, clock, hb.trans h1, h2⟩, h3⟩
theorem IsM.below (h : IsM P k mk w b n M sz) (hb : Below w.heap.size w w') : IsM P k mk w' b n M sz := h.move (hb.block b h.lt)
theorem IsM.alloc (h : IsM P k mk w b n M sz) (o : Obj) : IsM P k mk (w.alloc o) b n M sz := h.move (Below.heap_alloc w o b h.lt)
theorem IsM.mono (h : IsM P k mk w b n M sz) {n' : Nat} (hn : n ≤ n') : IsM P k mk w b n' M sz := by obtain ⟨D, h1, h2⟩ := h; exact ⟨D, h1.mono hn, h2⟩
theorem isM_made (w : World) (P : Program) (k : TypeId) (mk : α → Value) : IsM P k mk (w.alloc (.map #[] 0)) w.heap.size 0 (fun _ => none) 0 :=
 ⟨.map [], World.ownsMap_made w P k idE, rfl, fun x kl _ => ⟨fun z => rfl, rfl⟩⟩
theorem IsM.get (h : IsM P k mk w b n M sz) (hk : KeyT P k mk wf) (ht : P.underlying t = some (.map k e)) {z : Value} (hz : ∀ u : World, (zeroValue e).run P u = .ok z u) {x : α} (hx : wf x) :
  (Instr.lookup t (.map (some b)) (mk x) false).run P w = .ok ((M x).getD z) w := by
 obtain ⟨D, h1, h2, h3⟩ := h
 obtain ⟨kl, hkl⟩ := hk.toK x hx
 obtain ⟨v, ps, hrun, hv⟩ := h1.lookup hk.K ht (hz w) (zd := .held z) (zp := []) rfl hkl
 rw [(h3 x kl hkl).1 z] at hv
 simp only [idE, Option.some.injEq, Prod.mk.injEq, DataW.held.injEq] at hv
 rw [hrun, hv.1]
theorem KeyT.ne (hk : KeyT P k mk wf) {x y : α} {a c : Lit} (ha : keyOf P k (mk x) = some a) (hc : keyOf P k (mk y) = some c) (hne : x ≠ y) : a ≠ c := by
 rintro rfl
 exact hne (hk.inj x y (hk.K.inj ha hc))
theorem IsM.put [DecidableEq α] (h : IsM P k mk w b n M sz) (hk : KeyT P k mk wf) (ht : P.underlying t = some (.map k e)) (hn : n < maxLen) {x : α} (hx : wf x) (v : Value) :
  ∃ w', (Instr.mapUpdate t (.map (some b)) (mk x) v).run P w = .ok () w' ∧ IsM P k mk w' b (n + 1) (fun y => if y = x then some v else M y) (if (M x).isSome then sz else sz + 1) ∧ w.grownBy w' (some b) := by
 obtain ⟨D, h1, h2, h3⟩ := h
 obtain ⟨kl, hkl⟩ := hk.toK x hx
 obtain ⟨w', hrun, h4, h5⟩ := h1.update hk.K ht hn hkl (val := v) (d := .held v) (ps := []) rfl
 refine ⟨w', hrun, ⟨_, h4, ?_, fun y kl' hy => ?_⟩, h5⟩
 ·rw [Maps.size_put (h1.tidy hk.K), (h3 x kl hkl).2, h2]
 ·by_cases e : y = x
  ·subst e
   rw [hkl] at hy
   cases hy
   simp only [if_true]
   exact ⟨fun z => Maps.atKey_put_same h1.isMap (hk.K.key hkl) _ _, Maps.has_put_same h1.isMap (hk.K.key hkl) _⟩
  ·simp only [if_neg e]
   have hne := hk.ne hy hkl e
   exact ⟨fun z => by rw [Maps.atKey_put_other hne]; exact (h3 y kl' hy).1 z, by rw [Maps.has_put_other hne]; exact (h3 y kl' hy).2⟩
theorem IsM.del [DecidableEq α] (h : IsM P k mk w b n M sz) (hk : KeyT P k mk wf) (ht : P.underlying t = some (.map k e)) {x : α} (hx : wf x) (ty : TypeId) :
  ∃ w', (Builtin.delete_ #[t, k] ty #[.map (some b), mk x]).run P w = .ok (.tuple #[]) w' ∧ IsM P k mk w' b n (fun y => if y = x then none else M y) (if (M x).isSome then sz - 1 else sz) ∧ w.grownBy w' (some b) := by
 obtain ⟨D, h1, h2, h3⟩ := h
 obtain ⟨kl, hkl⟩ := hk.toK x hx
 obtain ⟨w', hrun, h4, h5⟩ := h1.drop hk.K ht hkl ty
 refine ⟨w', hrun, ⟨_, h4, ?_, fun y kl' hy => ?_⟩, h5.grown⟩
 ·have := Maps.size_del (k := kl) (h1.tidy hk.K)
  rw [(h3 x kl hkl).2, h2] at this
  split <;> simp_all <;> omega
 ·by_cases e : y = x
  ·subst e
   rw [hkl] at hy
   cases hy
   simp only [if_true]
   exact ⟨fun z => Maps.atKey_del_same _, Maps.has_del_same⟩
  ·simp only [if_neg e]
   have hne := hk.ne hy hkl e
   exact ⟨fun z => by rw [Maps.atKey_del_other hne]; exact (h3 y kl' hy).1 z, by rw [Maps.has_del_other hne]; exact (h3 y kl' hy).2⟩
theorem IsM.len (h : IsM P k mk w b n M sz) (ht : P.underlying t = some (.map k e)) (ty : TypeId) : (Builtin.len_ #[t] ty #[.map (some b)]).run P w = .ok (.int .i64 sz) w := by
 obtain ⟨D, h1, rfl, h3⟩ := h
 exact h1.len ht ty
end
section
variable {α : Type} {P : Program} {k e : TypeId} {mk : α → Value} {wf : α → Prop} {b n sz : Nat} {M : α → Option Value} (w : World) {ops : Array Oper} {rest : List Oper} {o : Oper} {a : Act} {Q : Exit → Act → World → Prop}
theorem m_get (h : IsM P k mk w b n M sz) (hk : KeyT P k mk wf) (t : TypeId) (ht : P.underlying t = some (.map k e)) {z : Value} (hz : ∀ u : World, (zeroValue e).run P u = .ok z u) (hg : o.guard = none) (m y : Operand) (hop : o.op = Op.lookup t m y false)
  (x : α) (hx : wf x) (hm : a.eval m = .map (some b)) (hy : a.eval y = mk x) (hK : wpList P ops Q rest (a.put o.dst ((M x).getD z)) w) : wpList P ops Q (o :: rest) a w := by
 refine wpList_plain hg fun K' hK' => ?_
 unfold Oper.wp
 simp [execOp, hop, hm, hy, h.get hk ht hz hx, Result.andThen]
 exact hK' _ _ hK
theorem m_put [DecidableEq α] (h : IsM P k mk w b n M sz) (hk : KeyT P k mk wf) (t : TypeId) (ht : P.underlying t = some (.map k e)) (hn : n < maxLen) (hg : o.guard = none) (m y v : Operand) (hop : o.op = Op.mapUpdate t m y v)
  (x : α) (hx : wf x) (val : Value) (hm : a.eval m = .map (some b)) (hy : a.eval y = mk x) (hv : a.eval v = val)
  (hK : ∀ w', IsM P k mk w' b (n + 1) (fun y => if y = x then some val else M y) (if (M x).isSome then sz else sz + 1) → w.grownBy w' (some b) → wpList P ops Q rest (a.put o.dst undef) w') : wpList P ops Q (o :: rest) a w := by
 refine wpList_plain hg fun K' hK' => ?_
 obtain ⟨w', hrun, h1, h2⟩ := h.put hk ht hn hx val
 unfold Oper.wp
 simp [execOp, hop, hm, hy, hv, hrun, Result.andThen]
 exact hK' _ _ (hK w' h1 h2)
theorem m_del [DecidableEq α] (h : IsM P k mk w b n M sz) (hk : KeyT P k mk wf) (t : TypeId) (ht : P.underlying t = some (.map k e)) (hg : o.guard = none) (m y : Operand) (hop : o.op = Op.call { callee := Callee.builtin Builtin.delete, args := #[m, y], argTypes := #[t, k] })
  (x : α) (hx : wf x) (hm : a.eval m = .map (some b)) (hy : a.eval y = mk x)
  (hK : ∀ w', IsM P k mk w' b n (fun y => if y = x then none else M y) (if (M x).isSome then sz - 1 else sz) → w.grownBy w' (some b) → wpList P ops Q rest (a.put o.dst (.tuple #[])) w') : wpList P ops Q (o :: rest) a w := by
 refine wpList_plain hg fun K' hK' => ?_
 obtain ⟨w', hrun, h1, h2⟩ := h.del hk ht hx o.type
 unfold Oper.wp
 simp [execOp, hop, resolve, invoke, builtin, hm, hy, hrun, Result.andThen]
 exact hK' _ _ (hK w' h1 h2)
end
def IsMR {α : Type} (P : Program) (k : TypeId) (mk : α → Value) (w : World) (b r n : Nat) (M : α → Option Value) (sz : Nat) (L : α → Bool) (cnt : Nat) : Prop :=
 ∃ (D : DataW Value) (left : Lit → Bool), w.ranges P k idE b r n D left cnt ∧ Maps.size D = sz ∧ ∀ x kl, keyOf P k (mk x) = some kl → ((∀ z, D.atKey kl (.held z) = .held ((M x).getD z)) ∧ Maps.has D kl = (M x).isSome) ∧ left kl = L x
section
variable {α : Type} {P : Program} {k e : TypeId} {mk : α → Value} {wf : α → Prop} {b r n sz cnt : Nat} {M : α → Option Value} {L : α → Bool} {w w' : World}
theorem IsMR.map (h : IsMR P k mk w b r n M sz L cnt) : IsM P k mk w b n M sz := by
 obtain ⟨D, left, h1, h2, h3⟩ := h
 exact ⟨D, h1.owns, h2, fun x kl hx => (h3 x kl hx).1⟩
theorem IsMR.lt (h : IsMR P k mk w b r n M sz L cnt) : r < w.heap.size := by obtain ⟨D, left, h1, _⟩ := h; exact h1.lt
theorem IsMR.ne (h : IsMR P k mk w b r n M sz L cnt) : r ≠ b := by obtain ⟨D, left, h1, _⟩ := h; exact h1.ne
theorem IsMR.kept (h : IsMR P k mk w b r n M sz L cnt) {row : Option Nat} (hg : w.grownBy w' row) (hb : some b ≠ row) (hr : some r ≠ row) : IsMR P k mk w' b r n M sz L cnt := by
 obtain ⟨D, left, h1, h2⟩ := h
 exact ⟨D, left, h1.kept hg hb hr, h2⟩
theorem IsMR.below (h : IsMR P k mk w b r n M sz L cnt) (hb : Below w.heap.size w w') : IsMR P k mk w' b r n M sz L cnt :=
 h.kept (row := none) ⟨hb.os, hb.tape, hb.output, hb.size, fun i hi _ => hb.block i hi⟩ (by simp) (by simp)
end
section
variable {α : Type} {P : Program} {k e : TypeId} {mk : α → Value} {wf : α → Prop} {b r n sz cnt : Nat} {M : α → Option Value} {L : α → Bool} (w : World) {ops : Array Oper} {rest : List Oper} {o : Oper} {a : Act} {Q : Exit → Act → World → Prop}
end
end Go.Proofs.Ytgmlpmdfkaadhaa.M
end

section
/- Of the eye's text: what every seat has. -/
namespace Go.Proofs.Ytgmlpmdfkaadhaa.M
open Go.RowKit Go.Proofs.YtgmlpmdfkaadhaaW.PrintWords Go.Proofs.YtgmlpmdfkaadhaaW.PrintLast Go.Proofs.YtgmlpmdfkaadhaaW.PrintMore Go.Proofs.Ytgmlpmdfkaadhaa.G
end Go.Proofs.Ytgmlpmdfkaadhaa.M
end
