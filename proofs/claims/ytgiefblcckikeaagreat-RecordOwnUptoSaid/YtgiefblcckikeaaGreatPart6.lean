/- RecordOwnUptoSaid: contracts of the functions that the law goes through, put together in build order (part 7 of 7). -/
import Derived.Test.YtgiefblcckikeaaGreatPart5
import Derived.Deep.RegionHeld3
import Derived.Laws.Tables
import Derived.Laws.BitsAllLaws
set_option linter.unusedVariables false
set_option linter.unusedSimpArgs false
set_option maxRecDepth 100000
section
-- Written by a program of this session's (wip/gprint.py over the kit's printer).
namespace Go.Proofs.YtgiefblcckikeaaGreat.G
open Go.RowKit Go.Proofs.YtgiefblcckikeaaGreatW.PrintWords Go.Proofs.YtgiefblcckikeaaGreatW.PrintLast Go.Proofs.YtgiefblcckikeaaGreatW.PrintMore
attribute [local go_sem] max2_int min2_int max_two min_two max_three min_three max_four min_four   -- for this text's walks alone
mutual
def shape_Check.l0 : Nat → Int → List (List Int) → Int → Int → Option (Int)
 | 0, _, _, _, _ => none
 | k + 1, x3, x8, x9, x10 => if x10 < x9 then (if 0 ≤ x10 then (if x10 < (x8.length : Int) then (shape_Check.l1 k x3 x8 x9 x10 (rd_L4 x8 x10) ((rd_L4 x8 x10).length : Int) 0) else (none)) else (none)) else (some x3)
def shape_Check.l1 : Nat → Int → List (List Int) → Int → Int → List Int → Int → Int → Option (Int)
 | 0, _, _, _, _, _, _, _ => none
 | k + 1, x3, x8, x9, x10, x14, x15, x16 => if x16 < x15 then (if 0 ≤ x16 then (if x16 < (x14.length : Int) then (shape_Check.l1 k (IntKind.u64.wrap ((Go.bits .xor .u64 x3 (IntKind.u64.wrap (rd x14 x16))) * 1099511628211)) x8 x9 x10 x14 x15 (wrap64 (x16 + 1))) else (none)) else (none)) else (shape_Check.l0 k x3 x8 x9 (wrap64 (x10 + 1)))
end
def shape_Check.f (k : Nat) (l0 : List (List Int)) : Option (Int) := shape_Check.l0 k 14695981039346656037 l0 (l0.length : Int) 0
set_option maxHeartbeats 8000000 in
set_option maxRecDepth 100000 in
theorem shape_Check.calls (k : Nat) (A0 : Option Addr) (c0 : Nat) (l0 : List (List Int)) (r : Int) (w : World) (hr0 : Kd.C (Kd.slice 5 (Kd.int .u8)) w A0 l0.length l0) (hc0 : l0.length ≤ c0) (h : shape_Check.f k l0 = some r) :
  Calls Tryz.prog 103 #[.slice A0 l0.length c0] w fun e w' => e = .returned (.int .u64 r) ∧ Drawn0 w w' := by
 have HR0 := Aside0.mk hr0
 have HC0 := Aside0.mk hc0
 clear hr0 hc0
 have H : (shape_Check.l0 k 14695981039346656037 l0 (l0.length : Int) 0) = some r := h
 clear h
 have H' := Aside0.mk H
 clear H
 go_enter Tryz.func103, Tryz.ntmps103
 go_wp2
 go_loopg [3, 10] k (fun kq v3 v10 w' => ∃ (x3_1 : Int) (x10_1 : Int), v3 = .int .u64 x3_1 ∧ v10 = .int .i64 x10_1 ∧ Aside0 (shape_Check.l0 kq x3_1 l0 (l0.length : Int) x10_1 = some r) ∧ Aside0 (kq ≤ k) ∧ Drawn0 w w')
 case atStart => exact ⟨(14695981039346656037), (0), (by first | rfl | (simp; done) | (simp [*]; done)), (by first | rfl | (simp; done) | (simp [*]; done)), H', ⟨Nat.le_refl _⟩, by repeat (first | exact Drawn0.refl _ | apply Drawn0.step)⟩
 case round =>
  clear H'
  try clear c1
  obtain ⟨x3_1, x10_1, rfl, rfl, HA, HK1, ⟨m1, rfl⟩⟩ := hrel
  cases gk with
  | zero => exact absurd HA.out (by simp [shape_Check.l0])
  | succ k1 =>
   have H := HA.out
   clear HA
   simp only [shape_Check.l0] at H
   by_cases c2 : x10_1 < (l0.length : Int)
   ·rw [if_pos c2] at H
    have c2b0 : decide (x10_1 < (l0.length : Int)) = true := decide_eq_true c2
    clear c2
    by_cases c3 : 0 ≤ x10_1
    ·rw [if_pos c3] at H
     have c3b0 : decide (0 ≤ x10_1) = true := decide_eq_true c3
     clear c3
     by_cases c4 : x10_1 < (l0.length : Int)
     ·rw [if_pos c4] at H
      have c4b0 : decide (x10_1 < (l0.length : Int)) = true := decide_eq_true c4
      clear c4
      have H' := Aside0.mk H
      clear H
      have p408 : 0 ≤ (x10_1 : Int) := of_decide_eq_true (by first | (with_reducible assumption) | assumption)
      have q408 : x10_1 < (l0.length : Int) := of_decide_eq_true (by first | (with_reducible assumption) | assumption)
      obtain ⟨ad408, A408_0, c408_0, e408, hx408_0, hl408_0, hi408_0⟩ := at_L4 HR0.out x10_1 p408 q408
      cases e408
      have HR408_0 := Aside0.mk hi408_0
      have HC408_0 := Aside0.mk hl408_0
      clear hi408_0 hl408_0
      replace p408 := eq_true p408
      replace q408 := eq_true q408
      go_wp2
      go_loopg [3, 16] k1 (fun kq v3 v16 w' => ∃ (x3_2 : Int) (x16_2 : Int), v3 = .int .u64 x3_2 ∧ v16 = .int .i64 x16_2 ∧ Aside0 (shape_Check.l1 kq x3_2 l0 (l0.length : Int) x10_1 (rd_L4 l0 x10_1) ((rd_L4 l0 x10_1).length : Int) x16_2 = some r) ∧ Aside0 (kq ≤ k1) ∧ Drawn0 w w')
      case atStart => exact ⟨(x3_1), (0), (by first | rfl | (simp; done) | (simp [*]; done)), (by first | rfl | (simp; done) | (simp [*]; done)), H', ⟨Nat.le_refl _⟩, by repeat (first | exact Drawn0.refl _ | apply Drawn0.step)⟩
      case round =>
       clear H'
       try clear c1
       try clear c2
       try clear c2b0
       try clear p2
       try clear c3
       try clear c3b0
       try clear c4
       try clear c4b0
       try clear p4
       try clear q4
       try clear hx4
       try clear hx408_0
       try clear p408
       try clear q408
       obtain ⟨x3_2, x16_2, rfl, rfl, HA, HK2, ⟨m2, rfl⟩⟩ := hrel
       cases gk with
       | zero => exact absurd HA.out (by simp [shape_Check.l1])
       | succ k2 =>
        have H := HA.out
        clear HA
        simp only [shape_Check.l1] at H
        by_cases c5 : x16_2 < ((rd_L4 l0 x10_1).length : Int)
        ·rw [if_pos c5] at H
         have c5b0 : decide (x16_2 < ((rd_L4 l0 x10_1).length : Int)) = true := decide_eq_true c5
         clear c5
         by_cases c6 : 0 ≤ x16_2
         ·rw [if_pos c6] at H
          have c6b0 : decide (0 ≤ x16_2) = true := decide_eq_true c6
          clear c6
          by_cases c7 : x16_2 < ((rd_L4 l0 x10_1).length : Int)
          ·rw [if_pos c7] at H
           have c7b0 : decide (x16_2 < ((rd_L4 l0 x10_1).length : Int)) = true := decide_eq_true c7
           clear c7
           have H' := Aside0.mk H
           clear H
           have p409 : 0 ≤ (x16_2 : Int) := of_decide_eq_true (by first | (with_reducible assumption) | assumption)
           have q409 : x16_2 < ((rd_L4 l0 x10_1).length : Int) := of_decide_eq_true (by first | (with_reducible assumption) | assumption)
           obtain ⟨ad409, e409, hx409_0⟩ := Kd.at_int HR408_0.out x16_2 p409 q409
           cases e409
           replace p409 := eq_true p409
           replace q409 := eq_true q409
           go_wp2
           go_roundg k2
           case measure => have := HK1.out; have := HK2.out; omega
           case rel => exact ⟨(IntKind.u64.wrap ((Go.bits .xor .u64 x3_2 (IntKind.u64.wrap (rd (rd_L4 l0 x10_1) x16_2))) * 1099511628211)), (wrap64 (x16_2 + 1)), (by first | rfl | (simp; done) | (simp [*]; done)), (by first | rfl | (simp; done) | (simp [*]; done)), H', ⟨by have := HK1.out; have := HK2.out; omega⟩, by repeat (first | exact Drawn0.refl _ | apply Drawn0.step)⟩
          ·rw [if_neg c7] at H
           exact absurd H (by simp)
         ·rw [if_neg c6] at H
          exact absurd H (by simp)
        ·rw [if_neg c5] at H
         have c5b0 : decide (x16_2 < ((rd_L4 l0 x10_1).length : Int)) = false := decide_eq_false c5
         clear c5
         have H' := Aside0.mk H
         clear H
         go_wp2
         go_roundg k2
         case measure => have := HK1.out; have := HK2.out; omega
         case rel => exact ⟨(x3_2), (wrap64 (x10_1 + 1)), (by first | rfl | (simp; done) | (simp [*]; done)), (by first | rfl | (simp; done) | (simp [*]; done)), H', ⟨by have := HK1.out; have := HK2.out; omega⟩, by repeat (first | exact Drawn0.refl _ | apply Drawn0.step)⟩
     ·rw [if_neg c4] at H
      exact absurd H (by simp)
    ·rw [if_neg c3] at H
     exact absurd H (by simp)
   ·rw [if_neg c2] at H
    have c2b0 : decide (x10_1 < (l0.length : Int)) = false := decide_eq_false c2
    clear c2
    obtain rfl := Option.some.inj H
    go_wp2
    go_ret
    exact ⟨by first | rfl | (simp; done) | (simp [*]; done), by repeat (first | exact Drawn0.refl _ | apply Drawn0.step)⟩
def shape_Seal.f (k : Nat) (l0 : List Int) : Option (List Int × Int) := if (l0.length : Int) > 1048576 then (some (([] : List Int), 3)) else ((shape_Blob.f ([] : List Int) l0).bind fun t410 => ((shape_Check.f k (([l0] : List (List Int)))).bind fun t416 => ((shape_eight.f t416).bind fun t417 => (if t410.length + t417.length < 140737488355328 then (some ((t410 ++ t417), 0)) else (none)))))
set_option maxHeartbeats 8000000 in
set_option maxRecDepth 100000 in
theorem shape_Seal.calls (k : Nat) (P0_ : Nat → Prop) (A0 : Option Addr) (c0 : Nat) (l0 : List Int) (r1 : List Int) (r2 : Int) (w : World) (hs0 : Kd.V (Kd.int .u8) 5 w w.heap.size (fun k_ => P0_ k_) (.slice A0 l0.length c0) l0) (h : shape_Seal.f k l0 = some (r1, r2)) :
  Calls Tryz.prog 51 #[.slice A0 l0.length c0] w fun e w' => ∃ v0_ : Value, e = .returned (.tuple #[v0_, .int .i64 r2]) ∧ Kd.R (Kd.int .u8) 5 w' w.heap.size (fun k_ => (w.heap.size ≤ k_)) v0_ r1 ∧ Below w.heap.size w w' := by
 have HO0 := Aside0.mk (show Kd.V (Kd.int .u8) 5 w w.heap.size (fun k_ => (P0_ k_ ∨ w.heap.size ≤ k_)) (.slice A0 l0.length c0) l0 from Kd.V_mono hs0 (fun k_ hk => .inl hk))
 have HB := Aside0.mk (Below.refl w.heap.size w)
 have H : (if (l0.length : Int) > 1048576 then (some (([] : List Int), 3)) else ((shape_Blob.f ([] : List Int) l0).bind fun t410 => ((shape_Check.f k (([l0] : List (List Int)))).bind fun t416 => ((shape_eight.f t416).bind fun t417 => (if t410.length + t417.length < 140737488355328 then (some ((t410 ++ t417), 0)) else (none)))))) = some (r1, r2) := h
 clear h
 by_cases c2 : (l0.length : Int) > 1048576
 ·rw [if_pos c2] at H
  have c2b0 : decide (1048576 < (l0.length : Int)) = true := decide_eq_true c2
  have c2b1 : decide (1048576 < l0.length) = true := decide_eq_true (by omega)
  clear c2
  simp only [Option.some.injEq, Prod.mk.injEq] at H
  obtain ⟨rfl, rfl⟩ := H
  go_enter Tryz.func51, Tryz.ntmps51
  go_wp2
  go_ret2
  exact ⟨_, by first | rfl | (simp [errW_none, errW_some] <;> rfl) | (simp [*, errW_none, errW_some] <;> rfl), by first | exact Kd.R_nil _ _ _ _ _ | exact Kd.N_nil _ _ _ _ _ | exact Kd.V_nil _ _ _ _ _ | exact Kd.Q_nil _ _ _ _ _ | exact Kd.S_nil _ _ _ _ _, stB HB.out⟩
 ·rw [if_neg c2] at H
  have c2b0 : decide (1048576 < (l0.length : Int)) = false := decide_eq_false c2
  have c2b1 : decide (1048576 < l0.length) = false := decide_eq_false (by omega)
  clear c2
  replace H := Option.bind_eq_some_iff.mp H
  obtain ⟨t410, A30, H⟩ := H
  replace H : ((shape_Check.f k (([l0] : List (List Int)))).bind fun t416 => ((shape_eight.f t416).bind fun t417 => (if t410.length + t417.length < 140737488355328 then (some ((t410 ++ t417), 0)) else (none)))) = some (r1, r2) := H
  have A3 := Aside0.mk A30
  clear A30
  obtain ⟨y413, hy413⟩ : ∃ y_ : List (List Int), y_ = (([l0] : List (List Int))) := ⟨_, rfl⟩
  replace H : ((shape_Check.f k y413).bind fun t416 => ((shape_eight.f t416).bind fun t417 => (if t410.length + t417.length < 140737488355328 then (some ((t410 ++ t417), 0)) else (none)))) = some (r1, r2) := by first | (rw [hy413]; with_reducible exact H) | (have H2_ := (Option.bind_some _ _).symm.trans H; rw [hy413]; with_reducible exact H2_) | (have H2_ := (Option.bind_some _ _).symm.trans H; with_reducible exact H2_) | with_reducible exact H | (rw [hy413]; exact H) | exact H
  have Ny413 := Aside0.mk hy413
  clear hy413
  replace H := Option.bind_eq_some_iff.mp H
  obtain ⟨t416, A40, H⟩ := H
  replace H : ((shape_eight.f t416).bind fun t417 => (if t410.length + t417.length < 140737488355328 then (some ((t410 ++ t417), 0)) else (none))) = some (r1, r2) := H
  have A4 := Aside0.mk A40
  clear A40
  replace H := Option.bind_eq_some_iff.mp H
  obtain ⟨t417, A50, H⟩ := H
  replace H : (if t410.length + t417.length < 140737488355328 then (some ((t410 ++ t417), 0)) else (none)) = some (r1, r2) := H
  have A5 := Aside0.mk A50
  clear A50
  by_cases c6 : t410.length + t417.length < 140737488355328
  ·rw [if_pos c6] at H
   have LMc6 := Aside0.mk c6
   clear c6
   obtain ⟨y420, hy420⟩ : ∃ y_ : List Int, y_ = (t410 ++ t417) := ⟨_, rfl⟩
   replace H : (some (y420, 0)) = some (r1, r2) := by first | (rw [hy420]; with_reducible exact H) | (have H2_ := (Option.bind_some _ _).symm.trans H; rw [hy420]; with_reducible exact H2_) | (have H2_ := (Option.bind_some _ _).symm.trans H; with_reducible exact H2_) | with_reducible exact H | (rw [hy420]; exact H) | exact H
   have Ny420 := Aside0.mk hy420
   clear hy420
   simp only [Option.some.injEq, Prod.mk.injEq] at H
   obtain ⟨rfl, rfl⟩ := H
   go_enter Tryz.func51, Tryz.ntmps51
   go_wp2_with (first | ((with_reducible refine gate_callee (f := 101) rfl ?_); refine goesL_ (some 8) rfl rfl Tryz.func101 (by kernel_rfl) rfl #[.slice none 0 0, .slice A0 l0.length c0] rfl (by (try simp only [List.map_toArray, List.map_cons, List.map_nil]); first | done | rfl | (simp only [List.length_drop, List.length_take]; rfl)) ?_; (refine (shape_Blob.calls _ _ ([] : List Int) _ _ l0 t410 _ ?side1 ?side2 ?side3 ?side4 A3.out).mono ?_); (case side1 => exact Kd.C_nil _ _); (case side2 => exact Nat.le_refl _); (case side3 => exact stC ((Kd.V_reads' HO0.out).2.2)); (case side4 => exact (Kd.V_reads' HO0.out).2.1); rintro e w7 ⟨v411, rfl, ho0, hb⟩; refine ⟨_, rfl, ?_⟩; have n0_ := Aside0.mk (Kd.V_elder' (stV HO0.out) (Kd.R_base ho0) hb); have n1_ := Aside0.mk (Kd.R_lower (Kd.R_newM (M := fun k_ => (w.heap.size ≤ k_)) ho0 (below_size (stB HB.out)) (fun k_ h_ => h_)) (below_size (stB HB.out))); have n2_ := Aside0.mk (below_step (stB HB.out) hb); clear HO0; clear HB; have HO0 := n0_; have HO412 := n1_; have HB := n2_; clear n0_ n1_ n2_; (try clear hb); (try clear hb2); (try clear hk); (try clear hi); (try clear ho0)) | ((with_reducible refine gate_dst (N := 10) rfl ?_); refine Kd.N_lit (Kd.slice 5 (Kd.int .u8)) _ 23 ?hg (N' := 10) ?hd (xs := ([l0] : List (List Int))) (inner := [.slice A0 l0.length c0]) (ok := (fun k_ => (P0_ k_ ∨ w.heap.size ≤ k_) ∧ some k_ ≠ (v411 : Value).ownBlock)) (okp := (fun k_ => (P0_ k_ ∨ w.heap.size ≤ k_) ∧ some k_ ≠ (v411 : Value).ownBlock)) ?hr ?hp (fun _ hk => hk) ((show ∀ k_, w7.heap.size ≤ k_ → (fun k_ => (P0_ k_ ∨ w.heap.size ≤ k_) ∧ some k_ ≠ (v411 : Value).ownBlock) k_ from fun k_ hk => ⟨(.inr (Nat.le_trans (below_size (stB HB.out)) hk)), Kd.fresh' (Kd.R_lt (stR HO412.out)) k_ hk⟩) _ (Nat.le_refl _)) (Below.refl _ _) (Nat.le_refl _) (by simp) ?_; (case hd => rfl); (case hg => rfl); (case hr => first | (go_simp; done) | (go_simp; rfl)); (case hp => exact (Reps.one (show Kd.FK (Kd.slice 5 (Kd.int .u8)) _ _ l0 [.slice A0 l0.length c0] from (Kd.FK_slice_mk (Kd.V_reads' (Kd.V_mono (ok' := (fun k_ => (P0_ k_ ∨ w.heap.size ≤ k_) ∧ some k_ ≠ (v411 : Value).ownBlock)) (HO0.out) (fun k_ hk => ⟨hk.1, hk.2⟩))).2.1 (Kd.V_F (Kd.V_mono (ok' := (fun k_ => (P0_ k_ ∨ w.heap.size ≤ k_) ∧ some k_ ≠ (v411 : Value).ownBlock)) (HO0.out) (fun k_ hk => ⟨hk.1, hk.2⟩))))) (Reps.none _ _))); intro v414 w8 ho9 hb hg_ hnew_; clear hg_ hnew_; (first | rw [← Ny413.out] at ho9 | (simp only [Int.reduceToNat] at ho9; rw [← Ny413.out] at ho9)); have n0_ := Aside0.mk (Kd.V_elder' (stV HO0.out) (Kd.N_base ho9) hb); have n1_ := Aside0.mk (Kd.R_below (stR HO412.out) hb); have n2_ := Aside0.mk (Kd.N_lower ho9 (below_size (stB HB.out))); have n3_ := Aside0.mk (below_step (stB HB.out) hb); clear HO0; clear HO412; clear HB; have HO0 := n0_; have HO412 := n1_; have HO415 := n2_; have HB := n3_; clear n0_ n1_ n2_ n3_; clear hb ho9; obtain ⟨Ao10, co10, eo10⟩ := Kd.N_slice HO415.out; subst eo10) | ((with_reducible refine gate_callee (f := 103) rfl ?_); refine goesL_ (some 11) rfl rfl Tryz.func103 (by kernel_rfl) rfl #[.slice Ao10 y413.length co10] rfl (by (try simp only [List.map_toArray, List.map_cons, List.map_nil]); first | done | rfl | (simp only [List.length_drop, List.length_take]; rfl)) ?_; (with_reducible refine (shape_Check.calls k _ _ y413 t416 _ ?side1 ?side2 A4.out).mono ?_); (case side1 => exact stC ((Kd.N_reads' HO415.out).2.2)); (case side2 => exact (Kd.N_reads' HO415.out).2.1); rintro e w' ⟨rfl, ⟨nd, rfl⟩⟩; refine ⟨_, rfl, ?_⟩) | ((with_reducible refine gate_callee (f := 102) rfl ?_); refine goesL_ (some 12) rfl rfl Tryz.func102 (by kernel_rfl) rfl #[.int .u64 t416] rfl (by (try simp only [List.map_toArray, List.map_cons, List.map_nil]); first | done | rfl | (simp only [List.length_drop, List.length_take]; rfl)) ?_; (with_reducible refine (shape_eight.calls t416 t417 _ A5.out).mono ?_); rintro e w11 ⟨v418, rfl, ho0, hb⟩; refine ⟨_, rfl, ?_⟩; have n0_ := Aside0.mk (Kd.V_elder' (stV HO0.out) (Kd.R_base ho0) hb); have n1_ := Aside0.mk (Kd.R_elder' (stR HO412.out) (Kd.R_base ho0) hb); have n2_ := Aside0.mk (Kd.N_elder' (stN HO415.out) (Kd.R_base ho0) hb); have n3_ := Aside0.mk (Kd.R_lower (Kd.R_new' (Kd.R_newM (M := fun k_ => (w.heap.size ≤ k_)) ho0 (below_size (stB HB.out)) (fun k_ h_ => h_)) (Kd.R_lt (stR HO412.out))) (below_size (stB HB.out))); have n4_ := Aside0.mk (below_step (stB HB.out) hb); clear HO0; clear HO412; clear HO415; clear HB; have HO0 := n0_; have HO412 := n1_; have HO415 := n2_; have HO419 := n3_; have HB := n4_; clear n0_ n1_ n2_ n3_ n4_; (try clear hb); (try clear hb2); (try clear hk); (try clear hi); (try clear ho0); obtain ⟨Ao13, co13, eo13⟩ := Kd.R_slice HO419.out; subst eo13) | ((with_reducible refine gate_builtin (b := .append) (xs := #[.tmp 8, .tmp 12]) rfl ?_); at_builtin; refine Kd.R_append_rows (Kd.int .u8) (w0 := w) w.heap.size rfl (.tmp 8) (.tmp 12) 23 5 (.int .u8 0) 1 rfl Tryz.underlying23 info5 rfl (by decide) (by omega) v411 t410 t417 _ _ _ (fun k_ => (w.heap.size ≤ k_) ∧ some k_ ≠ (.slice Ao13 t417.length co13 : Value).ownBlock) (fun _ => False) rfl rfl ?aO ?aR (fun _ _ h => h) (fun _ h => h.elim) ?aF ?aB ?aS ?aL ?_; (case aR => exact stC ((Kd.R_reads' HO419.out).2.2)); (case aB => exact (stB HB.out)); (case aF => exact (fun k_ hk => ⟨(Nat.le_trans (below_size (stB HB.out)) hk), Kd.fresh' (Kd.R_lt (stR HO419.out)) k_ hk⟩)); (case aO => exact (by (with_reducible repeat (first|apply Kd.R_alloc | apply Kd.R_drewN | apply Kd.R_drew)); exact Kd.R_mono HO412.out (fun _ hk => ⟨hk.1.1, hk.2⟩))); (case aS => exact (below_size (stB HB.out))); (case aL => have := LMc6.out; omega); intro v421 w12 ho hb hg hat; rw [← Ny420.out] at ho; have n0_ := Aside0.mk (Kd.V_afterv (ok := (fun k_ => (P0_ k_ ∨ w.heap.size ≤ k_) ∧ some k_ ≠ (.slice Ao10 y413.length co10 : Value).ownBlock ∧ some k_ ≠ (.slice Ao13 t417.length co13 : Value).ownBlock)) (by (with_reducible repeat (first|apply Kd.V_alloc | apply Kd.V_drewN | apply Kd.V_drew)); exact Kd.V_mono HO0.out (fun _ hk => ⟨⟨hk.1.1.1, ⟨hk.1.2, hk.2⟩⟩, hk.1.1.2⟩)) hg hat); have n1_ := Aside0.mk (Kd.N_afterv (ok := (fun k_ => (P0_ k_ ∨ w.heap.size ≤ k_) ∧ some k_ ≠ (.slice Ao13 t417.length co13 : Value).ownBlock)) (by (with_reducible repeat (first|apply Kd.N_alloc | apply Kd.N_drewN | apply Kd.N_drew)); exact Kd.N_mono HO415.out (fun _ hk => ⟨⟨hk.1.1, hk.2⟩, hk.1.2⟩)) hg hat); have n2_ := Aside0.mk (Kd.R_after (ok := (fun k_ => (w.heap.size ≤ k_))) (by (with_reducible repeat (first|apply Kd.R_alloc | apply Kd.R_drewN | apply Kd.R_drew)); exact Kd.R_mono HO419.out (fun _ hk => ⟨hk.1.1, hk.2⟩)) hg hat); have n3_ := Aside0.mk (hb); have n4_ := Aside0.mk (ho); clear HO0; clear HO415; clear HO419; clear HB; clear HO412; have HO0 := n0_; have HO415 := n1_; have HO419 := n2_; have HB := n3_; have HO422 := n4_; clear n0_ n1_ n2_ n3_ n4_; clear ho hb hg hat))
   go_ret2
   exact ⟨_, by first | rfl | (simp [errW_none, errW_some] <;> rfl) | (simp [*, errW_none, errW_some] <;> rfl), by (with_reducible repeat (first|apply Kd.R_alloc | apply Kd.R_drewN | apply Kd.R_drew)); exact Kd.R_mono HO422.out (fun _ hk => hk.1), stB HB.out⟩
  ·rw [if_neg c6] at H
   exact absurd H (by simp)
end Go.Proofs.YtgiefblcckikeaaGreat.G
end

section
-- Written by a program of this session's (wip/gprint.py over the kit's printer).
namespace Go.Proofs.YtgiefblcckikeaaGreat.G
open Go.RowKit Go.Proofs.YtgiefblcckikeaaGreatW.PrintWords Go.Proofs.YtgiefblcckikeaaGreatW.PrintLast Go.Proofs.YtgiefblcckikeaaGreatW.PrintMore
attribute [local go_sem] max2_int min2_int max_two min_two max_three min_three max_four min_four   -- for this text's walks alone
end Go.Proofs.YtgiefblcckikeaaGreat.G
end

section
-- Written by a program of this session's (wip/gprint.py over the kit's printer).
namespace Go.Proofs.YtgiefblcckikeaaGreat.G
open Go.RowKit Go.Proofs.YtgiefblcckikeaaGreatW.PrintWords Go.Proofs.YtgiefblcckikeaaGreatW.PrintLast Go.Proofs.YtgiefblcckikeaaGreatW.PrintMore
attribute [local go_sem] max2_int min2_int max_two min_two max_three min_three max_four min_four   -- for this text's walks alone
end Go.Proofs.YtgiefblcckikeaaGreat.G
end

section
/- An entry's and a message's form (the reference's) are entB, msgB. -/
namespace Go.Proofs.YtgiefblcckikeaaGreat.M
open Go.RowKit Go.Proofs.YtgiefblcckikeaaGreatW.PrintWords Go.Proofs.YtgiefblcckikeaaGreatW.PrintLast Go.Proofs.YtgiefblcckikeaaGreatW.PrintMore Go.Proofs.YtgiefblcckikeaaGreat.G
end Go.Proofs.YtgiefblcckikeaaGreat.M
end

section
/- Seals, in plain Lean: what both Seals write (printed by genseal04.py out of law01's rows). -/
namespace Go.Proofs.YtgiefblcckikeaaGreat.M
open Go.RowKit Go.Proofs.YtgiefblcckikeaaGreatW.PrintWords Go.Proofs.YtgiefblcckikeaaGreatW.PrintLast Go.Proofs.YtgiefblcckikeaaGreatW.PrintMore Go.Proofs.YtgiefblcckikeaaGreat.G
def chkFrom (h : Int) (l : List Int) : Int := l.foldl (fun h c => IntKind.u64.wrap ((Go.bits .xor .u64 h (IntKind.u64.wrap c)) * 1099511628211)) h
def chk (l : List Int) : Int := chkFrom 14695981039346656037 l
theorem chkFrom_cons (h c : Int) (l : List Int) : chkFrom h (c :: l) = chkFrom (IntKind.u64.wrap ((Go.bits .xor .u64 h (IntKind.u64.wrap c)) * 1099511628211)) l := rfl
theorem chkFrom_append (h : Int) (l m : List Int) : chkFrom h (l ++ m) = chkFrom (chkFrom h l) m := List.foldl_append ..
theorem check_l1 (d : Nat) : ∀ (k : Nat) (h : Int) (L : List (List Int)) (n i : Int) (x : List Int) (j : Nat), x.length - j = d → j ≤ x.length → (x.length : Int) ≤ 140737488355328 → d < k →
  shape_Check.l1 k h L n i x (x.length : Int) (j : Int) = shape_Check.l0 (k - d - 1) (chkFrom h (x.drop j)) L n (wrap64 (i + 1)) := by
 induction d with
 | zero =>
  intro k h L n i x j hd hj hx hk
  obtain ⟨k, rfl⟩ : ∃ m, k = m + 1 := ⟨k - 1, by omega⟩
  simp only [shape_Check.l1]
  rw [if_neg (by omega), List.drop_eq_nil_of_le (by omega)]
  rfl
 | succ d ih =>
  intro k h L n i x j hd hj hx hk
  obtain ⟨k, rfl⟩ : ∃ m, k = m + 1 := ⟨k - 1, by omega⟩
  have hlt : j < x.length := by omega
  simp only [shape_Check.l1]
  rw [if_pos (by omega), if_pos (by omega), if_pos (by omega)]
  have hw : wrap64 ((j : Int) + 1) = ((j + 1 : Nat) : Int) := by unfold wrap64; omega
  rw [hw, ih k _ L n i x (j + 1) (by omega) (by omega) hx (by omega), List.drop_eq_getElem_cons hlt, chkFrom_cons]
  have hr : rd x (j : Int) = x[j] := by simp [rd, List.getD_eq_getElem?_getD, List.getElem?_eq_getElem hlt]
  rw [hr]
  congr 1
  omega
theorem check_l0 (L : List (List Int)) (hL : (L.length : Int) ≤ 140737488355328) (hx : ∀ x ∈ L, (x.length : Int) ≤ 140737488355328) (d : Nat) : ∀ (i : Nat) (h : Int), L.length - i = d → i ≤ L.length →
  ∃ K, ∀ k, K ≤ k → shape_Check.l0 k h L (L.length : Int) (i : Int) = some (chkFrom h (L.drop i).flatten) := by
 induction d with
 | zero =>
  intro i h hd hi
  refine ⟨1, fun k hk => ?_⟩
  obtain ⟨k, rfl⟩ : ∃ m, k = m + 1 := ⟨k - 1, by omega⟩
  simp only [shape_Check.l0]
  rw [if_neg (by omega), List.drop_eq_nil_of_le (by omega)]
  rfl
 | succ d ih =>
  intro i h hd hi
  have hlt : i < L.length := by omega
  have hr : rd_L4 L (i : Int) = L[i] := by simp [rd_L4, List.getD_eq_getElem?_getD, List.getElem?_eq_getElem hlt]
  obtain ⟨K, hK⟩ := ih (i + 1) (chkFrom h L[i]) (by omega) (by omega)
  refine ⟨K + L[i].length + 2, fun k hk => ?_⟩
  obtain ⟨k, rfl⟩ : ∃ m, k = m + 1 := ⟨k - 1, by omega⟩
  simp only [shape_Check.l0]
  rw [if_pos (by omega), if_pos (by omega), if_pos (by omega), hr]
  have h1 := check_l1 L[i].length k h L (L.length : Int) (i : Int) L[i] 0 (by omega) (by omega) (hx _ (List.getElem_mem hlt)) (by omega)
  rw [show ((0 : Nat) : Int) = 0 from rfl] at h1
  rw [h1]
  have hw : wrap64 ((i : Int) + 1) = ((i + 1 : Nat) : Int) := by unfold wrap64; omega
  rw [hw, List.drop_zero, hK _ (by omega), List.drop_eq_getElem_cons hlt, List.flatten_cons, chkFrom_append]
theorem chk_f (L : List (List Int)) (hL : (L.length : Int) ≤ 140737488355328) (hx : ∀ x ∈ L, (x.length : Int) ≤ 140737488355328) : ∃ K, ∀ k, K ≤ k → shape_Check.f k L = some (chk L.flatten) := by
 obtain ⟨K, hK⟩ := check_l0 L hL hx L.length 0 14695981039346656037 (by omega) (by omega)
 exact ⟨K, fun k hk => by unfold shape_Check.f; exact hK k hk⟩
theorem chkFrom_range (h : Int) (l : List Int) (hh : 0 ≤ h ∧ h ≤ 18446744073709551615) : 0 ≤ chkFrom h l ∧ chkFrom h l ≤ 18446744073709551615 := by
 induction l generalizing h with
 | nil => exact hh
 | cons c l ih => rw [chkFrom_cons]; exact ih _ (by rw [IntKind.wrap_u64]; omega)
theorem chk_range (l : List Int) : 0 ≤ chk l ∧ chk l ≤ 18446744073709551615 := chkFrom_range _ l (by decide)
def sealB (l : List Int) : List Int := eightB (chk l).toNat
theorem sealB_len (l : List Int) : (sealB l).length = 8 := by
 have h := chk_range l
 have := lowB_len (chk l).toNat 8 (by omega)
 unfold sealB eightB pad8
 rw [List.length_append, List.length_replicate]
 omega
def blobB (l d : List Int) : List Int := l ++ numB (d.length : Int) ++ d
theorem isI64_len {d : List Int} (h : d.length < 140737488355328) : isI64 (d.length : Int) := by unfold isI64; omega
theorem blob_f (l d : List Int) (h : l.length + d.length + 9 < 140737488355328) : shape_Blob.f l d = some (blobB l d) := by
 have hi := isI64_len (d := d) (by omega)
 have hn := numB_len hi
 unfold shape_Blob.f shape_Num.f
 rw [if_pos ⟨by simp [okI]; exact hi, by simp; omega⟩, Option.bind_some]
 simp only [numsB, List.flatMap_cons, List.flatMap_nil, List.append_nil]
 rw [if_pos (by simp only [List.length_append]; omega)]
 rfl
def sealedB (l : List Int) : List Int := blobB [] l ++ sealB l
theorem blob_len (l : List Int) : (blobB [] l).length = (numB (l.length : Int)).length + l.length := by unfold blobB; simp
theorem sealed_len (l : List Int) : (sealedB l).length = (numB (l.length : Int)).length + l.length + 8 := by unfold sealedB; rw [List.length_append, blob_len, sealB_len]
theorem shape_seal (l : List Int) (hl : l.length ≤ 1048576) : ∃ K, ∀ k, K ≤ k → shape_Seal.f k l = some (sealedB l, 0) := by
 obtain ⟨K, hK⟩ := chk_f [l] (by simp) (by simp; omega)
 rw [show ([l] : List (List Int)).flatten = l by simp] at hK
 refine ⟨K, fun k hk => ?_⟩
 have hb := blob_f [] l (by simp; omega)
 have hc := hK k hk
 have he : shape_eight.f (chk l) = some (sealB l) := by unfold shape_eight.f sealB; rw [if_pos (chk_range _)]
 have hn := numB_len (isI64_len (d := l) (by omega))
 have hx := sealB_len l
 have hy := blob_len l
 unfold shape_Seal.f
 rw [if_neg (by omega), hb, Option.bind_some, hc, Option.bind_some, he, Option.bind_some, if_pos (by omega)]
 rfl
end Go.Proofs.YtgiefblcckikeaaGreat.M
end

section
/- slices.Equal of bytes, shape.Unseal (printed by genuns04.py out of law01's rows). -/
namespace Go.Proofs.YtgiefblcckikeaaGreat.M
open Go.RowKit Go.Proofs.YtgiefblcckikeaaGreatW.PrintWords Go.Proofs.YtgiefblcckikeaaGreatW.PrintLast Go.Proofs.YtgiefblcckikeaaGreatW.PrintMore Go.Proofs.YtgiefblcckikeaaGreat.G
set_option maxHeartbeats 1000000 in
theorem equal_calls (A : Option Addr) (c0 : Nat) (l0 : List Int) (B : Option Addr) (c1 : Nat) (l1 : List Int) (w : World) (hr0 : Kd.C (Kd.int .u8) w A l0.length l0) (hr1 : Kd.C (Kd.int .u8) w B l1.length l1) :
  Calls Tryz.prog 124 #[.slice A l0.length c0, .slice B l1.length c1] w fun e w' => e = .returned (.bool (decide (l0 = l1))) ∧ Drawn0 w w' := by
 have HR0 := Aside0.mk hr0
 have HR1 := Aside0.mk hr1
 have hm0 : (l0.length : Int) ≤ 9223372036854775807 := by have := Kd.C_max hr0; omega
 clear hr0 hr1
 by_cases hl : l0.length = l1.length
 ·have hl1 : ((l0.length : Int) != (l1.length : Int)) = false := by rw [bne_eq_false_iff_eq]; omega
  have HL := Aside0.mk hl
  clear hl
  go_enter Tryz.func124, Tryz.ntmps124
  go_wp2
  go_loopw [5, 13] (fun _ i wr => ∃ j : Nat, j ≤ l0.length ∧ i = .int .i64 (j : Int) ∧ Aside0 (l0.take j = l1.take j) ∧ Aside0 (Drawn0 w wr)) (fun _ i _ => l0.length - (intOf i).toNat)
  case atStart => exact ⟨0, Nat.zero_le _, rfl, ⟨rfl⟩, ⟨Drawn0.refl _⟩⟩
  case round =>
   obtain ⟨j, hj, rfl, HE, HD⟩ := hrel
   by_cases hlt : j < l0.length
   ·have hlt0 : (j : Int) < (l0.length : Int) := by omega
    have hlt1 : (j : Int) < (l1.length : Int) := by have := HL.out; omega
    have hj0 : (0 : Int) ≤ (j : Int) := by omega
    obtain ⟨ad0, hA, hx0⟩ := Kd.at_int (Kd.C_below HR0.out HD.out.below) (j : Int) hj0 hlt0
    obtain ⟨ad1, hB, hx1⟩ := Kd.at_int (Kd.C_below HR1.out HD.out.below) (j : Int) hj0 hlt1
    subst hA hB
    rw [Int.toNat_natCast] at hx0 hx1
    have HT0 := Aside0.mk (take_snoc_int l0 j hlt)
    have HT1 := Aside0.mk (take_snoc_int l1 j (by omega))
    by_cases he : rd l0 j = rd l1 j
    ·have he1 : (rd l0 j != rd l1 j) = false := bne_eq_false_iff_eq.2 he
     have HEE := Aside0.mk he
     clear he
     go_wp2
     go_quiet (fail)
     go_wp2
     go_roundw
     case rel => exact ⟨j + 1, by omega, by go_num, ⟨by rw [HT0.out, HT1.out, HE.out, HEE.out]⟩, ⟨HD.out.step _⟩⟩
     case measure => simp [intOf]; omega
    ·have he1 : (rd l0 j != rd l1 j) = true := bne_iff_ne.2 he
     have HF := Aside0.mk (show decide (l0 = l1) = false from decide_eq_false (fun e => he (by rw [e])))
     clear he
     go_wp2
     go_quiet (fail)
     go_wp2
     go_ret
     exact ⟨by rw [HF.out]; rfl, HD.out.step _⟩
   ·obtain rfl : j = l0.length := by omega
    have HF := Aside0.mk (show decide (l0 = l1) = true from decide_eq_true (by
     have := HE.out
     rw [List.take_length] at this
     rw [this, HL.out, List.take_length]))
    clear hlt
    go_wp2
    go_ret
    exact ⟨by rw [HF.out]; rfl, HD.out⟩
 ·have hl1 : ((l0.length : Int) != (l1.length : Int)) = true := by rw [bne_iff_ne]; omega
  have HF := Aside0.mk (show decide (l0 = l1) = false from decide_eq_false (fun e => hl (by rw [e])))
  clear hl
  go_enter Tryz.func124, Tryz.ntmps124
  go_wp2
  go_ret
  exact ⟨by rw [HF.out]; rfl, Drawn0.refl _⟩
def tail8 (l : List Int) : List Int := (l.take (blHi l + 8).toNat).drop (blHi l).toNat
def unE (l : List Int) : Int := if ¬ blE l 1048576 8 = 0 then blE l 1048576 8 else if sealB (blD l) = tail8 l then 0 else 12
def takeSeal (l : List Int) : List Int × Int × Int := if unE l = 0 then (blD l, blHi l + 8, 0) else ([], 0, unE l)
theorem C_row1 {w : World} {A : Option Addr} {c : Nat} {l : List Int} (h : Kd.C (Kd.int .u8) w A l.length l) (hc : l.length ≤ c) (e : TypeId) :
  Kd.C (Kd.slice 5 (Kd.int .u8)) (w.alloc (.cells #[.slice A l.length c] e)) (some ⟨w.heap.size, 0, none⟩) 1 [l] := by
 refine ⟨rfl, by omega, fun _ => ⟨_, rfl, fun j p hj => ?_⟩⟩
 cases j with
 | zero =>
  simp at hj
  subst hj
  refine ⟨[.slice A l.length c], rfl, ⟨A, c, rfl, hc, Kd.C_alloc h _⟩, fun i u hu => ?_⟩
  cases i with
  | zero => simp at hu; subst hu; rw [add_plain]; simp
  | succ i => simp at hu
 | succ j => simp at hj
theorem tail8_length {l : List Int} (h : 0 ≤ blHi l) (h8 : blHi l + 8 ≤ (l.length : Int)) : (tail8 l).length = (blHi l + 8).toNat - (blHi l).toNat := by
 unfold tail8
 rw [List.length_drop, List.length_take]
 omega
theorem tail_form {A : Option Addr} {c : Nat} {l : List Int} {w : World} (hr : Kd.C (Kd.int .u8) w A l.length l) (hc : l.length ≤ c) (h : 0 ≤ blHi l) (h8 : blHi l + 8 ≤ (l.length : Int)) :
  ∃ At ct, Value.slice (if c = (blHi l).toNat then A else A.map (·.add ((blHi l).toNat * 1))) ((blHi l + 8).toNat - (blHi l).toNat) (c - (blHi l).toNat) = .slice At (tail8 l).length ct ∧ (tail8 l).length ≤ ct ∧ Kd.C (Kd.int .u8) w At (tail8 l).length (tail8 l) := by
 refine ⟨_, c - (blHi l).toNat, ?_, ?_, Kd.C_mid (c := c) hr (by omega : (blHi l).toNat ≤ (blHi l + 8).toNat) (by omega) hc⟩
 ·rw [tail8_length h h8]
  rfl
 ·rw [tail8_length h h8]; omega
set_option maxHeartbeats 2000000 in
theorem takeseal1 (A : Option Addr) (c : Nat) (l : List Int) (w : World) (hr : Kd.C (Kd.int .u8) w A l.length l) (hc : l.length ≤ c) (hb : okB l = true) (hlen : l.length < 140737488355328) (b : Nat) (hx : Boxes b A c l.length (.slice none 0 0) (.int .i64 0) w) (hbs : b + 3 ≤ w.heap.size) :
  Calls Tryz.prog 121 #[.pointer (some ⟨b, 0, none⟩), .pointer (some ⟨b + 1, 0, none⟩), .pointer (some ⟨b + 2, 0, none⟩)] w fun e W => Keep2 b w W ∧
   (∃ v, W.cell? ⟨b + 1, 0, none⟩ = some v ∧ W.cell? ⟨b + 2, 0, none⟩ = some (.int .i64 (takeSeal l).2.1) ∧ W.frozen? ⟨b + 1, 0, none⟩ = false ∧ W.frozen? ⟨b + 2, 0, none⟩ = false ∧ Own W w.heap.size v (takeSeal l).1) ∧
   ((e = .returned (.tuple #[]) ∧ unE l = 0) ∨ e = .panicked [{ v := wrongV (unE l), recovered := false }]) := by
 have hT := blob_any A c l 1048576 8 w hr hc hb (by decide) (by decide) hlen
 obtain ⟨hb0, hn0, hn1, hs0, hs1⟩ := hx
 by_cases he : blE l 1048576 8 = 0
 ·obtain ⟨g1, g2, g3, g4, g5, g6⟩ := blE_good he
  obtain ⟨A', c', hV, hc', hr'⟩ := blobV_form hr hc ⟨g6, g5, by omega⟩
  have hl' : (blD l).length < 140737488355328 := by rw [blD_length ⟨g6, g5, by omega⟩]; omega
  have HT := Lib.hid (hT.mono (R' := fun e w' => w = w' ∧ e = .returned (.tuple #[.slice A' (blD l).length c', .int .i64 (blHi l)])) (by
   rintro e w' ⟨rfl, ⟨_, rfl⟩ | ⟨h, _⟩⟩
   ·exact ⟨rfl, by rw [hV]⟩
   ·exact absurd he h))
  have HR := Aside0.mk hr'
  have HRL := Aside0.mk hr
  have HU := Aside0.mk (show unE l = if sealB (blD l) = tail8 l then 0 else 12 by unfold unE; rw [if_neg (by omega)])
  obtain ⟨hi, HHI⟩ : ∃ hi, Aside0 (blHi l = hi) := ⟨_, ⟨rfl⟩⟩
  rw [HHI.out] at g4 g5 HT
  obtain ⟨K', hK⟩ := chk_f [blD l] (by simp) (by simp; omega)
  have HK := Aside0.mk (hK K' (Nat.le_refl _))
  rw [show ([blD l] : List (List Int)).flatten = blD l by simp] at HK
  obtain ⟨i0, hi0, hz0, hz1, hz2⟩ := info_parts infoU8
  have hcut := cut_mid (P := Tryz.prog) 23 5 .i64 .i64 Tryz.underlying23 hi0 1 hz1 A l.length c hi (hi + 8) (by omega) (by omega) (by omega) hc
  obtain ⟨At, ct, hVt, hct, hrt⟩ := tail_form (A := A) (c := c) (l := l) (w := w) hr hc (by rw [HHI.out]; omega) (by rw [HHI.out]; omega)
  have HRT := Aside0.mk hrt
  rw [HHI.out] at hVt
  rw [hVt] at hcut
  have HEI := Aside0.mk (show shape_eight.f (chk (blD l)) = some (sealB (blD l)) by unfold shape_eight.f sealB; rw [if_pos (chk_range _)])
  have hbl : b < w.heap.size := by omega
  have hw8 : IntKind.i64.wrap (hi + 8) = hi + 8 := by rw [IntKind.wrap_i64]; omega
  clear he hV hr' g1 g2 g3 hr hT hK hi0 hz0 hz1 hz2 hVt hrt
  go_enter Tryz.func121, Tryz.ntmps121
  go_wp2_with (go_at_call 122; refine HT.out.mono ?_; rintro e w' ⟨rfl, rfl⟩)
  by_cases heq : sealB (blD l) = tail8 l
  ·have HEQ := Aside0.mk (show decide (sealB (blD l) = tail8 l) = true from decide_eq_true heq)
   clear heq
   go_region_held3 (fun w' => w'.cell? ⟨b, 0, none⟩ = some (.slice A l.length c)) (go_keep) (first
    | (go_at_call 103; refine (shape_Check.calls K' _ 1 [blD l] _ _ (Kd.C_drew (C_row1 HR.out hc' _)) (Nat.le_refl 1) HK.out).mono ?_; rintro e w1 ⟨rfl, hd⟩; have q1 : w1.cell? ⟨b, 0, none⟩ = some (.slice A l.length c) := (hd.below.cell (by simp; omega)).trans (by simp [go_sem, hb0, hbl]); have HB1 := Aside0.mk (show Below w.heap.size w w1 from (((Below.refl _ _).alloc (Nat.le_refl _) _).drew.trans (hd.below.mono (by simp)))); clear hd)
    | (go_at_call 102; refine (shape_eight.calls (chk (blD l)) (sealB (blD l)) _ HEI.out).mono ?_; rintro e w2 ⟨v, rfl, ho, hb2⟩; obtain ⟨Av, cv, rfl, hcv, hrv⟩ := Kd.R_reads ho; have HRV := Aside0.mk hrv; have q2 : w2.cell? ⟨b, 0, none⟩ = some (.slice A l.length c) := (hb2.cell (by have := HB1.out.size; simp; omega)).trans q1; have HB2 := Aside0.mk (below_step HB1.out hb2); clear hb2 ho hrv)
    | (go_at_call 124; refine (equal_calls Av cv (sealB (blD l)) At ct (tail8 l) _ HRV.out (Kd.C_below HRT.out HB2.out)).mono ?_; rintro e w3 ⟨rfl, hd3⟩; rw [HEQ.out]; have q3 : w3.cell? ⟨b, 0, none⟩ = some (.slice A l.length c) := (hd3.below.cell (by have := HB2.out.size; simp; omega)).trans q2; have HB3 := Aside0.mk (below_step HB2.out hd3.below); clear hd3)
    | (go_at_call 123; refine (give_no _ _).mono ?_; rintro e w' ⟨rfl, rfl⟩))
   have HN := Aside0.mk (show takeSeal l = (blD l, hi + 8, 0) by
    unfold takeSeal; rw [HU.out, if_pos (of_decide_eq_true HEQ.out), if_pos rfl, HHI.out])
   have HZ := Aside0.mk (show unE l = 0 by rw [HU.out, if_pos (of_decide_eq_true HEQ.out)])
   have kn0 : w3.cell? ⟨b + 1, 0, none⟩ = some (.slice none 0 0) := (HB3.out.cell (by simp; omega)).trans hn0
   have ks0 : w3.cell? ⟨b + 2, 0, none⟩ = some (.int .i64 0) := (HB3.out.cell (by simp; omega)).trans hs0
   have kn1 : w3.frozen? ⟨b + 1, 0, none⟩ = false := (HB3.out.frozen (by simp; omega)).trans hn1
   have ks1 : w3.frozen? ⟨b + 2, 0, none⟩ = false := (HB3.out.frozen (by simp; omega)).trans hs1
   clear hn0 hs0 hn1 hs1 q1 q2 hw8 hcut
   go_wp2_with fail
   refine (clone_calls A' c' (blD l) _ (Kd.C_below HR.out HB3.out) hc' hl').mono ?_
   rintro e w4 ⟨v4, rfl, ho4, hb4⟩
   obtain ⟨A4, c4, rfl⟩ := Own.form ho4
   have HO4 := Aside0.mk ho4
   have HB4 := Aside0.mk (below_step HB3.out hb4)
   have hsz3 := HB3.out.size
   have k1 : w4.cell? ⟨b + 1, 0, none⟩ = some (.slice none 0 0) := (hb4.cell (by simp; omega)).trans kn0
   have k2 : w4.cell? ⟨b + 2, 0, none⟩ = some (.int .i64 0) := (hb4.cell (by simp; omega)).trans ks0
   have k3 : w4.frozen? ⟨b + 1, 0, none⟩ = false := (hb4.frozen (by simp; omega)).trans kn1
   have k4 : w4.frozen? ⟨b + 2, 0, none⟩ = false := (hb4.frozen (by simp; omega)).trans ks1
   have hw8 : IntKind.i64.wrap (hi + 8) = hi + 8 := by rw [IntKind.wrap_i64]; omega
   clear ho4 hb4 kn0 ks0 kn1 ks1 q3
   go_wp2
   go_end0
   rw [HN.out]
   refine ⟨((Keep2.of_below HB4.out).set1 _).set2 _, ⟨.slice A4 (blD l).length c4, ?_, ?_, ?_, ?_, ?_⟩, .inl ⟨rfl, HZ.out⟩⟩
   ·rw [World.cell?_setCell_other _ _ _ _ (by simp)]; exact World.cell?_setCell_same' _ _ _ (by rw [k1]; rfl)
   ·exact World.cell?_setCell_same' _ _ _ (by rw [World.cell?_setCell_other _ _ _ _ (by simp), k2]; rfl)
   ·simp [k3]
   ·simp [k4]
   ·exact ((HO4.out.lower hsz3).set (p := ⟨b + 1, 0, none⟩) (by show b + 1 < _; omega) _).set (p := ⟨b + 2, 0, none⟩) (by show b + 2 < _; omega) _
  ·have HEQ := Aside0.mk (show decide (sealB (blD l) = tail8 l) = false from decide_eq_false heq)
   have HN := Aside0.mk (show takeSeal l = ([], 0, 12) by unfold takeSeal; rw [HU.out, if_neg heq, if_neg (by decide)])
   have HZ := Aside0.mk (show unE l = 12 by rw [HU.out, if_neg heq])
   clear heq
   refine start_ (n := 12) (S := fun w' => w'.cell? ⟨b, 0, none⟩ = some (.slice A l.length c)) (ds := []) #[false, false, false, false, false, false, false, false, false, false, false, false] (by kernel_rfl) rfl rfl (by simpa using hb0) (fun hHeld => ?_)
   refine pure_ (i := 0) (N := some 10) (v := ?_) (a' := ?_) #[true, false, false, false, false, false, false, false, false, false, false, false] rfl rfl (by kernel_rfl) (fun _ _ _ h => h) (Or.inl ⟨by rfl, ?_⟩) ?_ ?_
   rotate_left
   ·intro w'
    go_simp
    try with_reducible rfl
   rotate_left
   ·simp only [Act.put, sq1, sq2, sq3, i64_w, i32_w]
    rfl
   refine pure_ (i := 5) (N := some 15) (v := ?_) (a' := ?_) #[true, false, false, false, false, true, false, false, false, false, false, false] rfl rfl (by kernel_rfl) (fun _ _ _ h => h) (Or.inl ⟨by rfl, ?_⟩) ?_ ?_
   rotate_left
   ·intro w'
    go_simp
    try with_reducible rfl
   rotate_left
   ·simp only [Act.put, sq1, sq2, sq3, i64_w, i32_w]
    rfl
   refine pure_ (i := 6) (N := some 16) (v := ?_) (a' := ?_) #[true, false, false, false, false, true, true, false, false, false, false, false] rfl rfl (by kernel_rfl) (fun _ _ _ h => h) (Or.inl ⟨by rfl, ?_⟩) ?_ ?_
   rotate_left
   ·intro w'
    go_simp
    try with_reducible rfl
   rotate_left
   ·simp only [Act.put, sq1, sq2, sq3, i64_w, i32_w]
    rfl
   refine pure_ (i := 7) (N := some 17) (v := ?_) (a' := ?_) #[true, false, false, false, false, true, true, true, false, false, false, false] rfl rfl (by kernel_rfl) (fun _ _ _ h => h) (Or.inl ⟨by rfl, ?_⟩) ?_ ?_
   rotate_left
   ·intro w'
    go_simp
    try with_reducible rfl
   rotate_left
   ·simp only [Act.put, sq1, sq2, sq3, i64_w, i32_w]
    rfl
   refine take_ (i := 4) (N := some 14) (v := ?_) (a' := ?_) #[true, false, false, false, true, true, true, true, false, false, false, false] rfl rfl (by kernel_rfl) (fun _ _ _ h => h) (Or.inl ⟨by rfl, ?_⟩) hHeld ?_ ?_
   rotate_left
   ·intro w' hS
    go_simp
    try with_reducible rfl
   rotate_left
   ·simp only [Act.put, sq1, sq2, sq3, i64_w, i32_w]
    rfl
   refine pure_ (i := 8) (N := some 18) (v := ?_) (a' := ?_) #[true, false, false, false, true, true, true, true, true, false, false, false] rfl rfl (by kernel_rfl) (fun _ _ _ h => h) (Or.inl ⟨by rfl, ?_⟩) ?_ ?_
   rotate_left
   ·intro w'
    go_simp
    try with_reducible rfl
   rotate_left
   ·simp only [Act.put, sq1, sq2, sq3, i64_w, i32_w]
    rfl
   refine one_ (i := 1) (N := some 11) #[true, true, false, false, true, true, true, true, true, false, false, false] rfl rfl (by kernel_rfl) (by decide) (fun K hK => ?_)
   go_simp
   refine hK.out _ _ (by simpa [go_sem, hbl] using hHeld) (fun hHeld => ?_)
   refine one_ (i := 2) (N := some 12) #[true, true, true, false, true, true, true, true, true, false, false, false] rfl rfl (by kernel_rfl) (by decide) (fun K hK => ?_)
   go_simp
   refine (shape_Check.calls K' _ 1 [blD l] _ _ (C_row1 (Kd.C_drew HR.out) hc' _) (Nat.le_refl 1) HK.out).mono ?_
   rintro e w1 ⟨rfl, hd⟩
   have HB1 := Aside0.mk (show Below w.heap.size w w1 from (((Below.refl _ _).drew.alloc (Nat.le_refl _) _).trans (hd.below.mono (by simp))))
   refine hK.out _ _ ((hd.below.cell (by simp; omega)).trans hHeld) (fun hHeld => ?_)
   refine one_ (i := 3) (N := some 13) #[true, true, true, true, true, true, true, true, true, false, false, false] rfl rfl (by kernel_rfl) (by decide) (fun K hK => ?_)
   go_simp
   refine (shape_eight.calls (chk (blD l)) (sealB (blD l)) _ HEI.out).mono ?_
   rintro e w2 ⟨v, rfl, ho, hb2⟩
   obtain ⟨Av, cv, rfl, hcv, hrv⟩ := Kd.R_reads ho
   have HRV := Aside0.mk hrv
   have HB2 := Aside0.mk (below_step HB1.out hb2)
   refine hK.out _ _ ((hb2.cell (by have := HB1.out.size; simp; omega)).trans hHeld) (fun hHeld => ?_)
   refine one_ (i := 9) (N := some 19) #[true, true, true, true, true, true, true, true, true, true, false, false] rfl rfl (by kernel_rfl) (by decide) (fun K hK => ?_)
   go_simp
   refine (equal_calls Av cv (sealB (blD l)) At ct (tail8 l) _ HRV.out (Kd.C_below HRT.out HB2.out)).mono ?_
   rintro e w3 ⟨rfl, hd3⟩
   rw [HEQ.out]
   have HB3 := Aside0.mk (below_step HB2.out hd3.below)
   refine hK.out _ _ ((hd3.below.cell (by have := HB2.out.size; simp; omega)).trans hHeld) (fun hHeld => ?_)
   refine pure_ (i := 10) (N := some 20) (v := ?_) (a' := ?_) #[true, true, true, true, true, true, true, true, true, true, true, false] rfl rfl (by kernel_rfl) (fun _ _ _ h => h) (Or.inl ⟨by rfl, ?_⟩) ?_ ?_
   rotate_left
   ·intro w'
    go_simp
    try with_reducible rfl
   rotate_left
   ·simp only [Act.put, sq1, sq2, sq3, i64_w, i32_w]
    rfl
   refine one_ (i := 11) (N := some 21) #[true, true, true, true, true, true, true, true, true, true, true, true] rfl rfl (by kernel_rfl) (by decide) (fun K hK => ?_)
   go_simp
   refine (give_yes _ _).mono ?_
   rintro e w' ⟨rfl, rfl⟩
   all_goals
    have kn0 : w3.cell? ⟨b + 1, 0, none⟩ = some (.slice none 0 0) := (HB3.out.cell (by simp; omega)).trans hn0
    have ks0 : w3.cell? ⟨b + 2, 0, none⟩ = some (.int .i64 0) := (HB3.out.cell (by simp; omega)).trans hs0
    have kn1 : w3.frozen? ⟨b + 1, 0, none⟩ = false := (HB3.out.frozen (by simp; omega)).trans hn1
    have ks1 : w3.frozen? ⟨b + 2, 0, none⟩ = false := (HB3.out.frozen (by simp; omega)).trans hs1
    dsimp only
    go_wp2
    rw [HN.out, HZ.out]
    exact ⟨rfl, Keep2.of_below HB3.out, ⟨_, kn0, ks0, kn1, ks1, Own.nil _ _⟩, .inr rfl⟩
 ·have HN := Aside0.mk (show takeSeal l = ([], 0, blE l 1048576 8) by
   have hu : unE l = blE l 1048576 8 := by unfold unE; rw [if_pos he]
   unfold takeSeal; rw [hu, if_neg he])
  have HU := Aside0.mk (show unE l = blE l 1048576 8 by unfold unE; rw [if_pos he])
  have HT := Lib.hid (hT.mono (R' := fun e w' => w = w' ∧ e = .panicked [{ v := wrongV (blE l 1048576 8), recovered := false }]) (by
   rintro e w' ⟨rfl, ⟨h, _⟩ | ⟨_, rfl⟩⟩
   ·exact absurd h he
   ·exact ⟨rfl, rfl⟩))
  clear he hr hT
  obtain ⟨er, HER⟩ : ∃ er, Aside0 (blE l 1048576 8 = er) := ⟨_, ⟨rfl⟩⟩
  rw [HER.out] at HT HN HU
  rw [HU.out]
  go_enter Tryz.func121, Tryz.ntmps121
  go_wp2_with (go_at_call 122; refine HT.out.mono ?_; rintro e w' ⟨rfl, rfl⟩)
  rw [HN.out]
  exact ⟨rfl, Keep2.refl _ _, ⟨_, hn0, hs0, hn1, hs1, Own.nil _ _⟩, .inr rfl⟩
end Go.Proofs.YtgiefblcckikeaaGreat.M
namespace Go.Proofs.YtgiefblcckikeaaGreat.M
open Go.RowKit Go.Proofs.YtgiefblcckikeaaGreatW.PrintWords
theorem takeSeal_calls (A : Option Addr) (c : Nat) (l : List Int) (w : World) (hr : Kd.C (Kd.int .u8) w A l.length l) (hc : l.length ≤ c) (hb : okB l = true) (hlen : l.length < 140737488355328) :
  Calls Tryz.prog 59 #[.slice A l.length c] w fun e w' => ∃ v0_ : Value, e = .returned (.tuple #[v0_, .int .i64 (takeSeal l).2.1, .int .i64 (takeSeal l).2.2]) ∧ Own w' w.heap.size v0_ (takeSeal l).1 ∧ Below w.heap.size w w' := by
 have HR := Aside0.mk hr
 have HC := Aside0.mk hc
 have HB := Aside0.mk hb
 have HL := Aside0.mk hlen
 clear hr hc hb hlen
 have hmf : ∀ (fn : Fn) (first cap : Array Value) (w : World), (Instr.makeFunc fn first cap).run Tryz.prog w = .ok (.func fn first cap) w := fun _ _ _ _ => rfl
 go_enter Tryz.func59, Tryz.ntmps59
 go_wp2_with fail
 have HX : Boxes w.heap.size A c l.length (.slice none 0 0) (.int .i64 0) ((((w.alloc (.cells #[.slice A l.length c] 23)).alloc (.cells #[.slice none 0 0] 23)).alloc (.cells #[.int .i64 0] 3)).alloc (.cells #[.int .i64 0] 36)) := by
  constructor <;> simp [go_sem]
 refine (try_calls 121 _ w.heap.size _ _ (unE l) (by simp) (enter_any _ _ _ Tryz.func121 rfl (by kernel_rfl))
  (takeseal1 A c l _ (Kd.C_alloc (Kd.C_alloc (Kd.C_alloc (Kd.C_alloc HR.out _) _) _) _) HC.out HB.out HL.out w.heap.size HX (by simp))).mono ?_
 rintro e w1 ⟨W, ⟨v, hn, hs, hnf, hsf, ho⟩, rfl, hk, hz, hbl, hg⟩
 simp only [World.size_alloc] at hz hbl hg ho
 obtain ⟨Av, cv, rfl⟩ := ho.form
 have hn1 : w1.cell? ⟨w.heap.size + 1, 0, none⟩ = some (.slice Av (takeSeal l).1.length cv) := (hbl.cell (by simp)).trans hn
 have hs1 : w1.cell? ⟨w.heap.size + 1 + 1, 0, none⟩ = some (.int .i64 (takeSeal l).2.1) := (hbl.cell (by simp)).trans hs
 have hnf1 : w1.frozen? ⟨w.heap.size + 1, 0, none⟩ = false := (hbl.frozen (by simp)).trans hnf
 have hsf1 : w1.frozen? ⟨w.heap.size + 1 + 1, 0, none⟩ = false := (hbl.frozen (by simp)).trans hsf
 have HO1 := Aside0.mk (show Own w1 (w.heap.size + 1 + 1 + 1 + 1) (.slice Av (takeSeal l).1.length cv) (takeSeal l).1 from
  Kd.R_mono (Kd.R_grown (Kd.R_bound ho) hg (fun k hk e => by have := hk.2.1; have := Option.some.inj e; omega)) (fun _ _ => trivial))
 have HBL := Aside0.mk (show Below w.heap.size w w1 from
  (((((Below.refl w.heap.size w).alloc (Nat.le_refl _) _).alloc (by simp) _).alloc (by simp; omega) _).trans (hk.below (by omega) (by simp; omega))).trans (hbl.mono (by omega)))
 have HT := Aside0.mk (show unE l = (takeSeal l).2.2 by unfold takeSeal; split <;> simp [*])
 obtain ⟨er, her⟩ : ∃ er, unE l = er := ⟨_, rfl⟩
 rw [her] at HT ⊢
 clear hn hs hnf hsf hk hz hbl HX hg ho her
 go_wp2
 go_region
 all_goals
  go_wp2
  refine bodyPost_ret (v := .tuple #[.slice Av (takeSeal l).1.length cv, .int .i64 (takeSeal l).2.1, .int .i64 er]) (by simp [results, Tryz.results59, go_sem, hn1, hs1]) rfl ⟨_, by rw [HT.out], ?_, ?_⟩
  ·refine Own.lower (base := w.heap.size + 1 + 1 + 1 + 1) ?_ (by omega)
   repeat first | exact HO1.out | apply Own.drew | refine Own.set ?_ (by first | (simp; done) | (simp; omega)) _
  ·repeat first | exact HBL.out | exact (by assumption) | apply Below.drew | refine Below.setCell ?_ (by first | (simp; done) | (simp; omega)) _
end Go.Proofs.YtgiefblcckikeaaGreat.M
namespace Go.Proofs.YtgiefblcckikeaaGreat.G
open Go.RowKit Go.Proofs.YtgiefblcckikeaaGreatW.PrintWords Go.Proofs.YtgiefblcckikeaaGreat.M
def shape_Unseal.f (l0 : List Int) : Option (List Int × Int × Int) := if okB l0 = true ∧ l0.length < 140737488355328 then some (takeSeal l0) else none
theorem shape_Unseal.calls (A0 : Option Addr) (c0 : Nat) (l0 : List Int) (r1 : List Int) (r2 : Int) (r3 : Int) (w : World) (hr0 : Kd.C (Kd.int .u8) w A0 l0.length l0) (hc0 : l0.length ≤ c0) (h : shape_Unseal.f l0 = some (r1, r2, r3)) :
  Calls Tryz.prog 59 #[.slice A0 l0.length c0] w fun e w' => ∃ v0_ : Value, e = .returned (.tuple #[v0_, .int .i64 r2, .int .i64 r3]) ∧ Kd.R (Kd.int .u8) 5 w' w.heap.size (fun _ => True) v0_ r1 ∧ Below w.heap.size w w' := by
 unfold shape_Unseal.f at h
 split at h
 ·rename_i hb
  have h := Option.some.inj h
  have h1 : r1 = (takeSeal l0).1 := by rw [h]
  have h2 : r2 = (takeSeal l0).2.1 := by rw [h]
  have h3 : r3 = (takeSeal l0).2.2 := by rw [h]
  rw [h1, h2, h3]
  exact takeSeal_calls A0 c0 l0 w hr0 hc0 hb.1 hb.2
 ·cases h
end Go.Proofs.YtgiefblcckikeaaGreat.G
end

section
/- record.Unmarshal (printed by genunm04.py). -/
attribute [local irreducible] Go.wpStill
namespace Go.Proofs.YtgiefblcckikeaaGreat.M
open Go.RowKit Go.Proofs.YtgiefblcckikeaaGreatW.PrintWords Go.Proofs.YtgiefblcckikeaaGreatW.PrintLast Go.Proofs.YtgiefblcckikeaaGreatW.PrintMore Go.Proofs.YtgiefblcckikeaaGreat.G
def unm (l : List Int) : MsgD × Int := if ¬ (takeSeal l).2.2 = 0 then (zM, (takeSeal l).2.2) else if (takeSeal l).2.1 < (l.length : Int) then (zM, 13) else takeMs (takeSeal l).1
def MsT (w : World) (y : MsgD) (er : Int) (e : Ending) (w' : World) : Prop := ∃ v8 v12 v16 : Value, e = .returned (.tuple #[.agg #[.int .i64 y.f0, .int .i64 y.f1, .int .i64 y.f2, .int .i64 y.f3, .int .i64 y.f4, .int .i64 y.f5, .int .i64 y.f6, .bool y.f7, v8, .int .i64 y.f9.f0, .int .i64 y.f9.f1, .int .i64 y.f9.f2, v12, .int .i64 y.f10.f0, .int .i64 y.f10.f1, .int .i64 y.f10.f2, v16], .int .i64 er]) ∧ Kd.R G.k63 63 w' w.heap.size (fun _ => True) v8 y.f8 ∧ Kd.R G.k26 26 w' w.heap.size (fun _ => True) v12 y.f9.f3 ∧ Kd.R (Kd.int .u8) 5 w' w.heap.size (fun _ => True) v16 y.f10.f3 ∧ Below w.heap.size w w'
theorem takeSeal_ok {l : List Int} (hb : okB l = true) (hl : l.length < 140737488355328) : okS ⟨(takeSeal l).1, 0, false⟩ := by
 unfold takeSeal
 split
 ·unfold blD
  refine ⟨okB_drop (okB_take hb _) _, ?_⟩
  show (List.drop _ (List.take _ l)).length < _
  rw [List.length_drop, List.length_take]
  omega
 ·exact (⟨rfl, by decide⟩ : okS ⟨[], 0, false⟩)
theorem setRow_below {w0 w : World} {b : Nat} {cs cs' : Array Value} {t : Nat} (hB : Below w0.heap.size w0 w) (hb : w0.heap.size ≤ b) : Below w0.heap.size w0 (w.setRow b cs') := by
 have hk : KeepS (fun k => k = b) w (w.setRow b cs') := ⟨rfl, rfl, rfl, by simp, fun i _ hi => setRow_other w b i cs' (fun e => hi e)⟩
 exact hB.trans (hk.below hB.size (by rintro i rfl; exact hb))
set_option maxHeartbeats 4000000 in
theorem unm_is (A : Option Addr) (c : Nat) (l : List Int) (w : World) (hr : Kd.C (Kd.int .u8) w A l.length l) (hc : l.length ≤ c) (hb : okB l = true) (hl : l.length < 140737488355328) :
  Calls Tryz.prog 25 #[.slice A l.length c] w fun e w' => MsT w (unm l).1 (unm l).2 e w' := by
 obtain ⟨d, hd⟩ : ∃ d, (takeSeal l).1 = d := ⟨_, rfl⟩
 obtain ⟨n, hn⟩ : ∃ n, (takeSeal l).2.1 = n := ⟨_, rfl⟩
 obtain ⟨er, her⟩ : ∃ er, (takeSeal l).2.2 = er := ⟨_, rfl⟩
 have hok := takeSeal_ok hb hl
 rw [hd] at hok
 have HOK := Lib.hid hok
 have HU := Lib.hid (show unm l = if ¬ er = 0 then (zM, er) else if n < (l.length : Int) then (zM, 13) else takeMs d by unfold unm; rw [hd, hn, her])
 have HS := Lib.hid (takeSeal_calls A c l (w.alloc (.cells #[.int .i64 0, .int .i64 0, .int .i64 0, .int .i64 0, .int .i64 0, .int .i64 0, .int .i64 0, .bool false, .slice none 0 0, .int .i64 0, .int .i64 0, .int .i64 0, .slice none 0 0, .int .i64 0, .int .i64 0, .int .i64 0, .slice none 0 0] 34)) (Kd.C_alloc hr _) hc hb hl)
 rw [hd, hn, her] at HS
 have hg := heap_alloc_new w (.cells #[.int .i64 0, .int .i64 0, .int .i64 0, .int .i64 0, .int .i64 0, .int .i64 0, .int .i64 0, .bool false, .slice none 0 0, .int .i64 0, .int .i64 0, .int .i64 0, .slice none 0 0, .int .i64 0, .int .i64 0, .int .i64 0, .slice none 0 0] 34)
 have hbz := (Below.refl _ w).alloc (Nat.le_refl _) (.cells #[.int .i64 0, .int .i64 0, .int .i64 0, .int .i64 0, .int .i64 0, .int .i64 0, .int .i64 0, .bool false, .slice none 0 0, .int .i64 0, .int .i64 0, .int .i64 0, .slice none 0 0, .int .i64 0, .int .i64 0, .int .i64 0, .slice none 0 0] 34)
 have hz : (w.alloc (.cells #[.int .i64 0, .int .i64 0, .int .i64 0, .int .i64 0, .int .i64 0, .int .i64 0, .int .i64 0, .bool false, .slice none 0 0, .int .i64 0, .int .i64 0, .int .i64 0, .slice none 0 0, .int .i64 0, .int .i64 0, .int .i64 0, .slice none 0 0] 34)).heap.size = w.heap.size + 1 := by simp
 clear hd hn her hok hr hc hb hl
 go_enter Tryz.func25, Tryz.ntmps25
 go_upto_region 1 with fail
 obtain ⟨wA, hw⟩ : ∃ W, w.alloc (.cells #[.int .i64 0, .int .i64 0, .int .i64 0, .int .i64 0, .int .i64 0, .int .i64 0, .int .i64 0, .bool false, .slice none 0 0, .int .i64 0, .int .i64 0, .int .i64 0, .slice none 0 0, .int .i64 0, .int .i64 0, .int .i64 0, .slice none 0 0] 34) = W := ⟨_, rfl⟩
 rw [hw] at HS hg hbz hz ⊢
 clear hw
 go_wp2_with fail
 refine HS.out.mono ?_
 rintro e w1 ⟨v, rfl, ho, hb1⟩
 obtain ⟨Ad, cd, rfl⟩ := Own.form ho
 have HO := Lib.hid (Kd.R_reads' ho)
 have HG := Lib.hid ((hb1.block w.heap.size (by omega)).trans hg)
 have HZ := Lib.hid (show w.heap.size < w1.heap.size by have := hb1.size; omega)
 have HB := Lib.hid (hbz.trans (hb1.mono (by omega)))
 clear ho hb1 hg hbz hz HS
 by_cases he : er = 0
 case neg =>
  have HR := Lib.hid (show unm l = (zM, er) by rw [HU.out, if_pos he])
  have q : (er != 0) = true := bne_iff_ne.2 he
  clear he HU
  go_upto_region 3 with fail
  refine wp_region_list ?_
  refine wpList_cut 2 ?_
  simp only [List.take_succ_cons, List.take_zero, List.drop_succ_cons, List.drop_zero]
  go_wp2_with fail
  refine Halt.mk ?_
  refine wpList_store_row rfl 34 (.tmp 2) (.tmp 18) rfl w.heap.size #[.int .i64 0, .int .i64 0, .int .i64 0, .int .i64 0, .int .i64 0, .int .i64 0, .int .i64 0, .bool false, .slice none 0 0, .int .i64 0, .int .i64 0, .int .i64 0, .slice none 0 0, .int .i64 0, .int .i64 0, .int .i64 0, .slice none 0 0] rfl rfl 34 #[.int .i64 0, .int .i64 0, .int .i64 0, .int .i64 0, .int .i64 0, .int .i64 0, .int .i64 0, .bool false, .slice none 0 0, .int .i64 0, .int .i64 0, .int .i64 0, .slice none 0 0, .int .i64 0, .int .i64 0, .int .i64 0, .slice none 0 0] HG.out (by kernel_rfl) rfl (by simp [Value.oneCell']) ?_
  have HEB := Lib.hid (setRow_heap w1 w.heap.size #[.int .i64 0, .int .i64 0, .int .i64 0, .int .i64 0, .int .i64 0, .int .i64 0, .int .i64 0, .bool false, .slice none 0 0, .int .i64 0, .int .i64 0, .int .i64 0, .slice none 0 0, .int .i64 0, .int .i64 0, .int .i64 0, .slice none 0 0] #[.int .i64 0, .int .i64 0, .int .i64 0, .int .i64 0, .int .i64 0, .int .i64 0, .int .i64 0, .bool false, .slice none 0 0, .int .i64 0, .int .i64 0, .int .i64 0, .slice none 0 0, .int .i64 0, .int .i64 0, .int .i64 0, .slice none 0 0] 34 (0, 0) HG.out)
  have HBE := Lib.hid (setRow_below (cs := #[.int .i64 0, .int .i64 0, .int .i64 0, .int .i64 0, .int .i64 0, .int .i64 0, .int .i64 0, .bool false, .slice none 0 0, .int .i64 0, .int .i64 0, .int .i64 0, .slice none 0 0, .int .i64 0, .int .i64 0, .int .i64 0, .slice none 0 0]) (cs' := #[.int .i64 0, .int .i64 0, .int .i64 0, .int .i64 0, .int .i64 0, .int .i64 0, .int .i64 0, .bool false, .slice none 0 0, .int .i64 0, .int .i64 0, .int .i64 0, .slice none 0 0, .int .i64 0, .int .i64 0, .int .i64 0, .slice none 0 0]) (t := 34) HB.out (Nat.le_refl _))
  obtain ⟨W, hW⟩ : ∃ W, w1.setRow w.heap.size #[.int .i64 0, .int .i64 0, .int .i64 0, .int .i64 0, .int .i64 0, .int .i64 0, .int .i64 0, .bool false, .slice none 0 0, .int .i64 0, .int .i64 0, .int .i64 0, .slice none 0 0, .int .i64 0, .int .i64 0, .int .i64 0, .slice none 0 0] = W := ⟨_, rfl⟩
  rw [hW] at HEB HBE ⊢
  clear hW
  go_wp2_with fail
  refine bodyPost_ret (results_ct rfl _ _ w.heap.size 34 #[.int .i64 0, .int .i64 0, .int .i64 0, .int .i64 0, .int .i64 0, .int .i64 0, .int .i64 0, .bool false, .slice none 0 0, .int .i64 0, .int .i64 0, .int .i64 0, .slice none 0 0, .int .i64 0, .int .i64 0, .int .i64 0, .slice none 0 0] (0, 0) _ rfl HEB.out Tryz.underlying34 rfl (by kernel_rfl)) rfl ?_
  rw [HR.out]
  exact ⟨_, _, _, rfl, Kd.R_nil _ _ _ _ _, Kd.R_nil _ _ _ _ _, Kd.R_nil _ _ _ _ _, HBE.out⟩
 case pos =>
  have q : (er != 0) = false := by rw [he]; rfl
  by_cases hn : n < (l.length : Int)
  case pos =>
   have HR := Lib.hid (show unm l = (zM, 13) by rw [HU.out, if_neg (fun q => q he), if_pos hn])
   have q2 : decide (n < (l.length : Int)) = true := decide_eq_true hn
   clear he hn HU
   go_upto_region 5 with fail
   refine wp_region_list ?_
   refine wpList_cut 1 ?_
   simp only [List.take_succ_cons, List.take_zero, List.drop_succ_cons, List.drop_zero]
   go_wp2_with fail
   refine Halt.mk ?_
   refine wpList_store_row rfl 34 (.tmp 2) (.tmp 24) rfl w.heap.size #[.int .i64 0, .int .i64 0, .int .i64 0, .int .i64 0, .int .i64 0, .int .i64 0, .int .i64 0, .bool false, .slice none 0 0, .int .i64 0, .int .i64 0, .int .i64 0, .slice none 0 0, .int .i64 0, .int .i64 0, .int .i64 0, .slice none 0 0] rfl rfl 34 #[.int .i64 0, .int .i64 0, .int .i64 0, .int .i64 0, .int .i64 0, .int .i64 0, .int .i64 0, .bool false, .slice none 0 0, .int .i64 0, .int .i64 0, .int .i64 0, .slice none 0 0, .int .i64 0, .int .i64 0, .int .i64 0, .slice none 0 0] HG.out (by kernel_rfl) rfl (by simp [Value.oneCell']) ?_
   have HEB := Lib.hid (setRow_heap w1 w.heap.size #[.int .i64 0, .int .i64 0, .int .i64 0, .int .i64 0, .int .i64 0, .int .i64 0, .int .i64 0, .bool false, .slice none 0 0, .int .i64 0, .int .i64 0, .int .i64 0, .slice none 0 0, .int .i64 0, .int .i64 0, .int .i64 0, .slice none 0 0] #[.int .i64 0, .int .i64 0, .int .i64 0, .int .i64 0, .int .i64 0, .int .i64 0, .int .i64 0, .bool false, .slice none 0 0, .int .i64 0, .int .i64 0, .int .i64 0, .slice none 0 0, .int .i64 0, .int .i64 0, .int .i64 0, .slice none 0 0] 34 (0, 0) HG.out)
   have HBE := Lib.hid (setRow_below (cs := #[.int .i64 0, .int .i64 0, .int .i64 0, .int .i64 0, .int .i64 0, .int .i64 0, .int .i64 0, .bool false, .slice none 0 0, .int .i64 0, .int .i64 0, .int .i64 0, .slice none 0 0, .int .i64 0, .int .i64 0, .int .i64 0, .slice none 0 0]) (cs' := #[.int .i64 0, .int .i64 0, .int .i64 0, .int .i64 0, .int .i64 0, .int .i64 0, .int .i64 0, .bool false, .slice none 0 0, .int .i64 0, .int .i64 0, .int .i64 0, .slice none 0 0, .int .i64 0, .int .i64 0, .int .i64 0, .slice none 0 0]) (t := 34) HB.out (Nat.le_refl _))
   obtain ⟨W, hW⟩ : ∃ W, w1.setRow w.heap.size #[.int .i64 0, .int .i64 0, .int .i64 0, .int .i64 0, .int .i64 0, .int .i64 0, .int .i64 0, .bool false, .slice none 0 0, .int .i64 0, .int .i64 0, .int .i64 0, .slice none 0 0, .int .i64 0, .int .i64 0, .int .i64 0, .slice none 0 0] = W := ⟨_, rfl⟩
   rw [hW] at HEB HBE ⊢
   clear hW
   go_wp2_with fail
   refine bodyPost_ret (results_ct rfl _ _ w.heap.size 34 #[.int .i64 0, .int .i64 0, .int .i64 0, .int .i64 0, .int .i64 0, .int .i64 0, .int .i64 0, .bool false, .slice none 0 0, .int .i64 0, .int .i64 0, .int .i64 0, .slice none 0 0, .int .i64 0, .int .i64 0, .int .i64 0, .slice none 0 0] (0, 0) _ rfl HEB.out Tryz.underlying34 rfl (by kernel_rfl)) rfl ?_
   rw [HR.out]
   exact ⟨_, _, _, rfl, Kd.R_nil _ _ _ _ _, Kd.R_nil _ _ _ _ _, Kd.R_nil _ _ _ _ _, HBE.out⟩
  case neg =>
   have q2 : decide (n < (l.length : Int)) = false := decide_eq_false hn
   have HR0 := Lib.hid (show unm l = takeMs d by rw [HU.out, if_neg (fun q => q he), if_neg hn])
   clear he hn HU
   obtain ⟨y, hy⟩ : ∃ y, (eMsg ⟨d, 0, false⟩).1 = y := ⟨_, rfl⟩
   obtain ⟨s', hs⟩ : ∃ t, (eMsg ⟨d, 0, false⟩).2 = t := ⟨_, rfl⟩
   have h0 := heap_alloc_new w1 (.cells #[.slice Ad d.length cd, .int .i64 0, .bool false] 81)
   have hb2 := (Below.refl _ w1).alloc (Nat.le_refl _) (.cells #[.slice Ad d.length cd, .int .i64 0, .bool false] 81)
   have hI : IsEye w1 (w1.alloc (.cells #[.slice Ad d.length cd, .int .i64 0, .bool false] 81)) w1.heap.size ⟨d, 0, false⟩ := ⟨Ad, cd, h0, Nat.le_refl _, HO.out.2.1, HO.out.2.2⟩
   have HN := Lib.hid (eMsg_is hI hb2 HOK.out)
   rw [hy, hs] at HN
   have HPI := Lib.hid (show isI64 y.f10.f2 by rw [← hy]; exact (okM_eMsg HOK.out).2.1)
   obtain ⟨e2, he2⟩ : ∃ e2, eEnds s' (mayMs y) true = e2 := ⟨_, rfl⟩
   have HR1 := Lib.hid (show unm l = if e2 = 0 then (y, 0) else (zM, e2) by rw [HR0.out]; unfold takeMs; unfold wholeOf; rw [hy, hs, he2])
   have HE2 := Lib.hid he2
   clear h0 hI hy hs he2 HR0
   go_wp2_with fail
   obtain ⟨w2, hw⟩ : ∃ W, w1.alloc (.cells #[.slice Ad d.length cd, .int .i64 0, .bool false] 81) = W := ⟨_, rfl⟩
   rw [hw] at HN hb2 ⊢
   refine HN.out.mono ?_
   rintro e w3 ⟨v8, v12, v16, rfl, r8, r12, r16, hI, hB, hK⟩
   obtain ⟨A8, c8, rfl⟩ := Kd.R_slice r8
   obtain ⟨A12, c12, rfl⟩ := Kd.R_slice r12
   obtain ⟨A16, c16, rfl⟩ := Kd.R_slice r16
   have HI := Lib.hid hI
   have HB3 := Lib.hid hB
   have HX2 := Lib.hid (show w1.heap.size < w2.heap.size by rw [← hw]; simp)
   have HX3 := Lib.hid (Nat.lt_of_lt_of_le HX2.out hK.size)
   have HZ2 := Lib.hid (show w.heap.size < w2.heap.size from Nat.lt_trans HZ.out HX2.out)
   clear hw
   have HSZ := Lib.hid (show w.heap.size ≤ w2.heap.size from Nat.le_trans (Nat.le_of_lt HZ.out) hb2.size)
   have HV8 := Lib.hid r8
   have HV12 := Lib.hid r12
   have HV16 := Lib.hid r16
   clear r8 r12 r16 hI hB hK hb2 HN q q2
   go_upto_region 8 with fail
   have hby := heap_alloc_new w3 (.cells #[.int .i64 y.f0, .int .i64 y.f1, .int .i64 y.f2, .int .i64 y.f3, .int .i64 y.f4, .int .i64 y.f5, .int .i64 y.f6, .bool y.f7, .slice A8 y.f8.length c8, .int .i64 y.f9.f0, .int .i64 y.f9.f1, .int .i64 y.f9.f2, .slice A12 y.f9.f3.length c12, .int .i64 y.f10.f0, .int .i64 y.f10.f1, .int .i64 y.f10.f2, .slice A16 y.f10.f3.length c16] 34)
   have hay := (Below.refl _ w3).alloc (Nat.le_refl _) (.cells #[.int .i64 y.f0, .int .i64 y.f1, .int .i64 y.f2, .int .i64 y.f3, .int .i64 y.f4, .int .i64 y.f5, .int .i64 y.f6, .bool y.f7, .slice A8 y.f8.length c8, .int .i64 y.f9.f0, .int .i64 y.f9.f1, .int .i64 y.f9.f2, .slice A12 y.f9.f3.length c12, .int .i64 y.f10.f0, .int .i64 y.f10.f1, .int .i64 y.f10.f2, .slice A16 y.f10.f3.length c16] 34)
   obtain ⟨w4, hw⟩ : ∃ W, w3.alloc (.cells #[.int .i64 y.f0, .int .i64 y.f1, .int .i64 y.f2, .int .i64 y.f3, .int .i64 y.f4, .int .i64 y.f5, .int .i64 y.f6, .bool y.f7, .slice A8 y.f8.length c8, .int .i64 y.f9.f0, .int .i64 y.f9.f1, .int .i64 y.f9.f2, .slice A12 y.f9.f3.length c12, .int .i64 y.f10.f0, .int .i64 y.f10.f1, .int .i64 y.f10.f2, .slice A16 y.f10.f3.length c16] 34) = W := ⟨_, rfl⟩
   rw [hw] at hby hay ⊢
   clear hw
   have HI4 := Lib.hid (HI.out.below hay)
   have HB4 := Lib.hid (HB3.out.trans (hay.mono HB3.out.size))
   have HW8 := Lib.hid (Kd.R_below HV8.out hay)
   have HW12 := Lib.hid (Kd.R_below HV12.out hay)
   have HW16 := Lib.hid (Kd.R_below HV16.out hay)
   obtain ⟨g, hg⟩ : ∃ g, w3.heap.size = g := ⟨_, rfl⟩
   have hxg : w1.heap.size < g := by rw [← hg]; exact HX3.out
   have hgz : g < w4.heap.size := by rw [← hg]; exact (Array.getElem?_eq_some_iff.1 hby).1
   rw [hg] at hby ⊢
   have HY4 := Lib.hid hby
   have HGZ := Lib.hid hgz
   clear hby hay hg hgz HI HB3 HV8 HV12 HV16
   have HXG := Lib.hid hxg
   clear hxg
   have HY5 := HY4; have HI5 := HI4; have HB5 := HB4; have HGZ5 := HGZ
   have HX8 := HW8
   have HX12 := HW12
   have HX16 := HW16
   clear HI4 HB4 HY4 HW8 HW12 HW16 HGZ
   refine wp_region_list ?_
   refine wpList_cut 1 ?_
   simp only [List.take_succ_cons, List.take_zero, List.drop_succ_cons, List.drop_zero]
   go_wp2_with fail
   refine Halt.mk ?_
   refine wpList_load_row rfl 34 (.tmp 8) rfl g rfl 34 #[.int .i64 y.f0, .int .i64 y.f1, .int .i64 y.f2, .int .i64 y.f3, .int .i64 y.f4, .int .i64 y.f5, .int .i64 y.f6, .bool y.f7, .slice A8 y.f8.length c8, .int .i64 y.f9.f0, .int .i64 y.f9.f1, .int .i64 y.f9.f2, .slice A12 y.f9.f3.length c12, .int .i64 y.f10.f0, .int .i64 y.f10.f1, .int .i64 y.f10.f2, .slice A16 y.f10.f3.length c16] (0, 0) _ HY5.out Tryz.underlying34 rfl (by kernel_rfl) ?_
   go_wp2_with fail
   have hm : MsgC w4 y A8 c8 A12 c12 A16 c16 := ⟨(Kd.R_reads' HX8.out).2.1, (Kd.R_reads' HX8.out).2.2, (Kd.R_reads' HX12.out).2.1, (Kd.R_reads' HX12.out).2.2, (Kd.R_reads' HX16.out).2.1, (Kd.R_reads' HX16.out).2.2⟩
   refine (msg_is y hm HPI.out).mono ?_
   rintro e w6 ⟨rfl, hb⟩
   have HI6 := Lib.hid (HI5.out.below hb)
   have HB6 := Lib.hid (HB5.out.trans (hb.mono HB5.out.size))
   have HY6 := Lib.hid ((hb.block g HGZ5.out).trans HY5.out)
   have HU8 := Lib.hid (Kd.R_below HX8.out hb)
   have HU12 := Lib.hid (Kd.R_below HX12.out hb)
   have HU16 := Lib.hid (Kd.R_below HX16.out hb)
   have HG6 := Lib.hid ((HB6.out.block w.heap.size HZ.out).trans HG.out)
   have HBW := Lib.hid (HB.out.trans (HB6.out.mono (Nat.le_of_lt HZ.out)))
   clear hm hb HI5 HB5 HY5 HX8 HX12 HX16 HGZ5
   have HE := eEnds_is HI6.out (mayMs y) true
   rw [HE2.out] at HE
   have HE := Lib.hid HE
   go_wp2_with fail
   refine HE.out.mono ?_
   rintro e w7 ⟨rfl, rfl⟩
   clear HE
   by_cases he : e2 = 0
   case pos =>
    have HR := Lib.hid (show unm l = (y, 0) by rw [HR1.out, if_pos he])
    have q : (e2 != 0) = false := by rw [he]; rfl
    clear he HR1
    go_upto_region 11 with fail
    refine wp_region_list ?_
    refine wpList_load_row rfl 34 (.tmp 8) rfl g rfl 34 #[.int .i64 y.f0, .int .i64 y.f1, .int .i64 y.f2, .int .i64 y.f3, .int .i64 y.f4, .int .i64 y.f5, .int .i64 y.f6, .bool y.f7, .slice A8 y.f8.length c8, .int .i64 y.f9.f0, .int .i64 y.f9.f1, .int .i64 y.f9.f2, .slice A12 y.f9.f3.length c12, .int .i64 y.f10.f0, .int .i64 y.f10.f1, .int .i64 y.f10.f2, .slice A16 y.f10.f3.length c16] (0, 0) _ HY6.out Tryz.underlying34 rfl (by kernel_rfl) ?_
    refine wpList_store_row rfl 34 (.tmp 2) (.tmp 38) rfl w.heap.size #[.int .i64 y.f0, .int .i64 y.f1, .int .i64 y.f2, .int .i64 y.f3, .int .i64 y.f4, .int .i64 y.f5, .int .i64 y.f6, .bool y.f7, .slice A8 y.f8.length c8, .int .i64 y.f9.f0, .int .i64 y.f9.f1, .int .i64 y.f9.f2, .slice A12 y.f9.f3.length c12, .int .i64 y.f10.f0, .int .i64 y.f10.f1, .int .i64 y.f10.f2, .slice A16 y.f10.f3.length c16] rfl rfl 34 #[.int .i64 0, .int .i64 0, .int .i64 0, .int .i64 0, .int .i64 0, .int .i64 0, .int .i64 0, .bool false, .slice none 0 0, .int .i64 0, .int .i64 0, .int .i64 0, .slice none 0 0, .int .i64 0, .int .i64 0, .int .i64 0, .slice none 0 0] HG6.out (by kernel_rfl) rfl (by simp [Value.oneCell']) ?_
    have HEB := Lib.hid (setRow_heap w7 w.heap.size #[.int .i64 0, .int .i64 0, .int .i64 0, .int .i64 0, .int .i64 0, .int .i64 0, .int .i64 0, .bool false, .slice none 0 0, .int .i64 0, .int .i64 0, .int .i64 0, .slice none 0 0, .int .i64 0, .int .i64 0, .int .i64 0, .slice none 0 0] #[.int .i64 y.f0, .int .i64 y.f1, .int .i64 y.f2, .int .i64 y.f3, .int .i64 y.f4, .int .i64 y.f5, .int .i64 y.f6, .bool y.f7, .slice A8 y.f8.length c8, .int .i64 y.f9.f0, .int .i64 y.f9.f1, .int .i64 y.f9.f2, .slice A12 y.f9.f3.length c12, .int .i64 y.f10.f0, .int .i64 y.f10.f1, .int .i64 y.f10.f2, .slice A16 y.f10.f3.length c16] 34 (0, 0) HG6.out)
    have HBE := Lib.hid (setRow_below (cs := #[.int .i64 0, .int .i64 0, .int .i64 0, .int .i64 0, .int .i64 0, .int .i64 0, .int .i64 0, .bool false, .slice none 0 0, .int .i64 0, .int .i64 0, .int .i64 0, .slice none 0 0, .int .i64 0, .int .i64 0, .int .i64 0, .slice none 0 0]) (cs' := #[.int .i64 y.f0, .int .i64 y.f1, .int .i64 y.f2, .int .i64 y.f3, .int .i64 y.f4, .int .i64 y.f5, .int .i64 y.f6, .bool y.f7, .slice A8 y.f8.length c8, .int .i64 y.f9.f0, .int .i64 y.f9.f1, .int .i64 y.f9.f2, .slice A12 y.f9.f3.length c12, .int .i64 y.f10.f0, .int .i64 y.f10.f1, .int .i64 y.f10.f2, .slice A16 y.f10.f3.length c16]) (t := 34) HBW.out (Nat.le_refl _))
    obtain ⟨W, hW⟩ : ∃ W, w7.setRow w.heap.size #[.int .i64 y.f0, .int .i64 y.f1, .int .i64 y.f2, .int .i64 y.f3, .int .i64 y.f4, .int .i64 y.f5, .int .i64 y.f6, .bool y.f7, .slice A8 y.f8.length c8, .int .i64 y.f9.f0, .int .i64 y.f9.f1, .int .i64 y.f9.f2, .slice A12 y.f9.f3.length c12, .int .i64 y.f10.f0, .int .i64 y.f10.f1, .int .i64 y.f10.f2, .slice A16 y.f10.f3.length c16] = W := ⟨_, rfl⟩
    rw [hW] at HEB HBE ⊢
    have hkp : ∀ k, k < w7.heap.size → k ≠ w.heap.size → W.heap[k]? = w7.heap[k]? := fun k _ hne => by rw [← hW]; exact setRow_other w7 w.heap.size k _ hne
    have HQ8 := Lib.hid (Kd.R_mono (Kd.R_step (Kd.R_lower (Kd.R_bound HU8.out) HSZ.out) (fun k hk hlt => hkp k hlt (by have h1 := hk.2.1; have h2 := HZ2.out; omega))) (fun _ _ => trivial) : Kd.R G.k63 63 W w.heap.size (fun _ => True) _ _)
    have HQ12 := Lib.hid (Kd.R_mono (Kd.R_step (Kd.R_lower (Kd.R_bound HU12.out) HSZ.out) (fun k hk hlt => hkp k hlt (by have h1 := hk.2.1; have h2 := HZ2.out; omega))) (fun _ _ => trivial) : Kd.R G.k26 26 W w.heap.size (fun _ => True) _ _)
    have HQ16 := Lib.hid (Kd.R_mono (Kd.R_step (Kd.R_lower (Kd.R_bound HU16.out) HSZ.out) (fun k hk hlt => hkp k hlt (by have h1 := hk.2.1; have h2 := HZ2.out; omega))) (fun _ _ => trivial) : Kd.R (Kd.int .u8) 5 W w.heap.size (fun _ => True) _ _)
    clear hkp
    clear hW
    go_wp2_with fail
    refine bodyPost_ret (results_ct rfl _ _ w.heap.size 34 #[.int .i64 y.f0, .int .i64 y.f1, .int .i64 y.f2, .int .i64 y.f3, .int .i64 y.f4, .int .i64 y.f5, .int .i64 y.f6, .bool y.f7, .slice A8 y.f8.length c8, .int .i64 y.f9.f0, .int .i64 y.f9.f1, .int .i64 y.f9.f2, .slice A12 y.f9.f3.length c12, .int .i64 y.f10.f0, .int .i64 y.f10.f1, .int .i64 y.f10.f2, .slice A16 y.f10.f3.length c16] (0, 0) _ rfl HEB.out Tryz.underlying34 rfl (by kernel_rfl)) rfl ?_
    rw [HR.out]
    exact ⟨_, _, _, rfl, HQ8.out, HQ12.out, HQ16.out, HBE.out⟩
   case neg =>
    have HR := Lib.hid (show unm l = (zM, e2) by rw [HR1.out, if_neg he])
    have q : (e2 != 0) = true := bne_iff_ne.2 he
    clear he HR1
    go_upto_region 10 with fail
    refine wp_region_list ?_
    refine wpList_cut 2 ?_
    simp only [List.take_succ_cons, List.take_zero, List.drop_succ_cons, List.drop_zero]
    go_wp2_with fail
    refine Halt.mk ?_
    refine wpList_store_row rfl 34 (.tmp 2) (.tmp 36) rfl w.heap.size #[.int .i64 0, .int .i64 0, .int .i64 0, .int .i64 0, .int .i64 0, .int .i64 0, .int .i64 0, .bool false, .slice none 0 0, .int .i64 0, .int .i64 0, .int .i64 0, .slice none 0 0, .int .i64 0, .int .i64 0, .int .i64 0, .slice none 0 0] rfl rfl 34 #[.int .i64 0, .int .i64 0, .int .i64 0, .int .i64 0, .int .i64 0, .int .i64 0, .int .i64 0, .bool false, .slice none 0 0, .int .i64 0, .int .i64 0, .int .i64 0, .slice none 0 0, .int .i64 0, .int .i64 0, .int .i64 0, .slice none 0 0] HG6.out (by kernel_rfl) rfl (by simp [Value.oneCell']) ?_
    have HEB := Lib.hid (setRow_heap w7 w.heap.size #[.int .i64 0, .int .i64 0, .int .i64 0, .int .i64 0, .int .i64 0, .int .i64 0, .int .i64 0, .bool false, .slice none 0 0, .int .i64 0, .int .i64 0, .int .i64 0, .slice none 0 0, .int .i64 0, .int .i64 0, .int .i64 0, .slice none 0 0] #[.int .i64 0, .int .i64 0, .int .i64 0, .int .i64 0, .int .i64 0, .int .i64 0, .int .i64 0, .bool false, .slice none 0 0, .int .i64 0, .int .i64 0, .int .i64 0, .slice none 0 0, .int .i64 0, .int .i64 0, .int .i64 0, .slice none 0 0] 34 (0, 0) HG6.out)
    have HBE := Lib.hid (setRow_below (cs := #[.int .i64 0, .int .i64 0, .int .i64 0, .int .i64 0, .int .i64 0, .int .i64 0, .int .i64 0, .bool false, .slice none 0 0, .int .i64 0, .int .i64 0, .int .i64 0, .slice none 0 0, .int .i64 0, .int .i64 0, .int .i64 0, .slice none 0 0]) (cs' := #[.int .i64 0, .int .i64 0, .int .i64 0, .int .i64 0, .int .i64 0, .int .i64 0, .int .i64 0, .bool false, .slice none 0 0, .int .i64 0, .int .i64 0, .int .i64 0, .slice none 0 0, .int .i64 0, .int .i64 0, .int .i64 0, .slice none 0 0]) (t := 34) HBW.out (Nat.le_refl _))
    obtain ⟨W, hW⟩ : ∃ W, w7.setRow w.heap.size #[.int .i64 0, .int .i64 0, .int .i64 0, .int .i64 0, .int .i64 0, .int .i64 0, .int .i64 0, .bool false, .slice none 0 0, .int .i64 0, .int .i64 0, .int .i64 0, .slice none 0 0, .int .i64 0, .int .i64 0, .int .i64 0, .slice none 0 0] = W := ⟨_, rfl⟩
    rw [hW] at HEB HBE ⊢
    clear hW
    go_wp2_with fail
    refine bodyPost_ret (results_ct rfl _ _ w.heap.size 34 #[.int .i64 0, .int .i64 0, .int .i64 0, .int .i64 0, .int .i64 0, .int .i64 0, .int .i64 0, .bool false, .slice none 0 0, .int .i64 0, .int .i64 0, .int .i64 0, .slice none 0 0, .int .i64 0, .int .i64 0, .int .i64 0, .slice none 0 0] (0, 0) _ rfl HEB.out Tryz.underlying34 rfl (by kernel_rfl)) rfl ?_
    rw [HR.out]
    exact ⟨_, _, _, rfl, Kd.R_nil _ _ _ _ _, Kd.R_nil _ _ _ _ _, Kd.R_nil _ _ _ _ _, HBE.out⟩
end Go.Proofs.YtgiefblcckikeaaGreat.M
end

section
/- Sealed bytes are taken back; a beginning of them, and changed ones, are not (printed by genuns04.py out of law01's rows). -/
namespace Go.Proofs.YtgiefblcckikeaaGreat.M
open Go.RowKit Go.Proofs.YtgiefblcckikeaaGreatW.PrintWords Go.Proofs.YtgiefblcckikeaaGreatW.PrintLast Go.Proofs.YtgiefblcckikeaaGreatW.PrintMore Go.Proofs.YtgiefblcckikeaaGreat.G
theorem blob_back {d : List Int} (h : d.length < 140737488355328) (rest : List Int) (most more : Int) (hm : (d.length : Int) ≤ most) (hr : more ≤ (rest.length : Int)) (h0 : 0 ≤ more) :
  blE (blobB [] d ++ rest) most more = 0 ∧ blLo (blobB [] d ++ rest) = ((numB (d.length : Int)).length : Int) ∧ blHi (blobB [] d ++ rest) = ((numB (d.length : Int)).length : Int) + (d.length : Int) ∧ blD (blobB [] d ++ rest) = d := by
 have e : blobB [] d ++ rest = numB (d.length : Int) ++ (d ++ rest) := by unfold blobB; simp
 obtain ⟨h1, h2, h3⟩ := form_back (isI64_len h) (d ++ rest)
 rw [e]
 have hlo : blLo (numB (d.length : Int) ++ (d ++ rest)) = ((numB (d.length : Int)).length : Int) := by unfold blLo; exact h3
 have hhi : blHi (numB (d.length : Int) ++ (d ++ rest)) = ((numB (d.length : Int)).length : Int) + (d.length : Int) := by unfold blHi; rw [h2, h3]
 refine ⟨?_, hlo, hhi, ?_⟩
 ·unfold blE
  rw [h1, h2, h3, if_neg (by omega), if_neg (by omega), if_neg (by omega), if_neg (by simp only [List.length_append]; omega)]
 ·unfold blD
  rw [hlo, hhi, show (((numB (d.length : Int)).length : Int) + (d.length : Int)).toNat = (numB (d.length : Int)).length + d.length from by omega, Int.toNat_natCast, List.take_length_add_append, List.drop_left]
  simp
theorem blobB_ok {l d : List Int} (hl : okB l = true) (hd : okB d = true) (h : d.length < 140737488355328) : okB (blobB l d) = true :=
 okB_append (okB_append hl (numB_ok (isI64_len h))) hd
theorem zeros_ok (n : Nat) : okB (List.replicate n 0) = true := by
 unfold okB
 rw [List.all_eq_true]
 intro x hx
 rw [(List.mem_replicate.1 hx).2]
 rfl
theorem sealB_ok (l : List Int) : okB (sealB l) = true := okB_append (lowB_ok _) (zeros_ok _)
theorem unE_of {d t rest : List Int} (hd : d.length ≤ 1048576) (ht : t.length = 8) : unE (blobB [] d ++ (t ++ rest)) = (if sealB d = t then 0 else 12) ∧ takeSeal (blobB [] d ++ (t ++ rest)) = (if sealB d = t then (d, ((numB (d.length : Int)).length : Int) + (d.length : Int) + 8, 0) else ([], 0, 12)) := by
 obtain ⟨c1, c2, c3, c4⟩ := blob_back (d := d) (by omega) (t ++ rest) 1048576 8 (by omega) (by simp; omega) (by omega)
 have hy := blob_len d
 have htail : tail8 (blobB [] d ++ (t ++ rest)) = t := by
  unfold tail8
  rw [c3]
  have e1 : (((numB (d.length : Int)).length : Int) + (d.length : Int) + 8).toNat = (blobB [] d).length + t.length := by omega
  have e2 : (((numB (d.length : Int)).length : Int) + (d.length : Int)).toNat = (blobB [] d).length := by omega
  rw [e1, e2, List.take_length_add_append, List.drop_left]
  simp
 have hu : unE (blobB [] d ++ (t ++ rest)) = (if sealB d = t then 0 else 12) := by
  unfold unE
  rw [c1, c4, htail, if_neg (by simp)]
 refine ⟨hu, ?_⟩
 unfold takeSeal
 rw [hu, c3, c4]
 split <;> simp
theorem seal_back {d : List Int} (rest : List Int) (hd : d.length ≤ 1048576) : takeSeal (sealedB d ++ rest) = (d, ((sealedB d).length : Int), 0) := by
 have h := (unE_of (d := d) (t := sealB d) (rest := rest) hd (sealB_len d)).2
 have hl := sealed_len d
 rw [if_pos rfl] at h
 unfold sealedB at hl ⊢
 rw [List.append_assoc, h]
 congr 2
 omega
theorem sealed_ok {d : List Int} (h : okB d = true) (hd : d.length ≤ 1048576) : okB (sealedB d) = true := okB_append (blobB_ok rfl h (by omega)) (sealB_ok d)
end Go.Proofs.YtgiefblcckikeaaGreat.M
end

section
/- One byte of a sealed message changed, or a beginning of it: refused. In plain Lean. -/
namespace Go.Proofs.YtgiefblcckikeaaGreat.M
open Go.RowKit Go.Proofs.YtgiefblcckikeaaGreatW.PrintWords Go.Proofs.YtgiefblcckikeaaGreatW.PrintLast Go.Proofs.YtgiefblcckikeaaGreatW.PrintMore Go.Proofs.YtgiefblcckikeaaGreat.G
end Go.Proofs.YtgiefblcckikeaaGreat.M
end

section
/- A message without what its kind does not have: record.bare, the reference's plain (printed by genbare04.py). -/
attribute [local irreducible] Go.wpStill
namespace Go.Proofs.YtgiefblcckikeaaGreat.M
open Go.RowKit Go.Proofs.YtgiefblcckikeaaGreatW.PrintWords Go.Proofs.YtgiefblcckikeaaGreatW.PrintLast Go.Proofs.YtgiefblcckikeaaGreatW.PrintMore Go.Proofs.YtgiefblcckikeaaGreat.G
end Go.Proofs.YtgiefblcckikeaaGreat.M
end

section
/- Which messages are the same: record.SameMsg, the reference's SameMsg (printed by gensame04.py). -/
attribute [local irreducible] Go.wpStill
namespace Go.Proofs.YtgiefblcckikeaaGreat.M
open Go.RowKit Go.Proofs.YtgiefblcckikeaaGreatW.PrintWords Go.Proofs.YtgiefblcckikeaaGreatW.PrintLast Go.Proofs.YtgiefblcckikeaaGreatW.PrintMore Go.Proofs.YtgiefblcckikeaaGreat.G
set_option maxHeartbeats 1000000 in
theorem refSamePt_is {w : World} (a b : PartD) {A B : Option Addr} {c d : Nat} (hc : a.f3.length ≤ c) (ha : Kd.C (Kd.int .u8) w A a.f3.length a.f3) (hd : b.f3.length ≤ d) (hb : Kd.C (Kd.int .u8) w B b.f3.length b.f3) :
  Calls Tryz.prog 65 #[.agg #[.int .i64 a.f0, .int .i64 a.f1, .int .i64 a.f2, .slice A a.f3.length c], .agg #[.int .i64 b.f0, .int .i64 b.f1, .int .i64 b.f2, .slice B b.f3.length d]] w fun e w' => e = .returned (.bool (eqPt a b)) ∧ Below w.heap.size w w' := by
 have HBX := Lib.hid (show Below w.heap.size w ((w.alloc (.cells #[.int .i64 a.f0, .int .i64 a.f1, .int .i64 a.f2, .slice A a.f3.length c] 32)).alloc (.cells #[.int .i64 b.f0, .int .i64 b.f1, .int .i64 b.f2, .slice B b.f3.length d] 32)) from ((Below.refl _ _).alloc (Nat.le_refl _) _).alloc (by simp) _)
 have HA := Lib.hid (Kd.C_below ha HBX.out); have HB := Lib.hid (Kd.C_below hb HBX.out)
 have hz1 : (w.alloc (.cells #[.int .i64 a.f0, .int .i64 a.f1, .int .i64 a.f2, .slice A a.f3.length c] 32)).heap.size = w.heap.size + 1 := by simp
 have hx : ((w.alloc (.cells #[.int .i64 a.f0, .int .i64 a.f1, .int .i64 a.f2, .slice A a.f3.length c] 32)).alloc (.cells #[.int .i64 b.f0, .int .i64 b.f1, .int .i64 b.f2, .slice B b.f3.length d] 32)).heap[w.heap.size]? = some (.cells #[.int .i64 a.f0, .int .i64 a.f1, .int .i64 a.f2, .slice A a.f3.length c] 32) := (((Below.refl _ (w.alloc (.cells #[.int .i64 a.f0, .int .i64 a.f1, .int .i64 a.f2, .slice A a.f3.length c] 32))).alloc (Nat.le_refl _) _).block w.heap.size (by omega)).trans (heap_alloc_new w _)
 have hy : ((w.alloc (.cells #[.int .i64 a.f0, .int .i64 a.f1, .int .i64 a.f2, .slice A a.f3.length c] 32)).alloc (.cells #[.int .i64 b.f0, .int .i64 b.f1, .int .i64 b.f2, .slice B b.f3.length d] 32)).heap[w.heap.size + 1]? = some (.cells #[.int .i64 b.f0, .int .i64 b.f1, .int .i64 b.f2, .slice B b.f3.length d] 32) := by rw [← hz1]; exact heap_alloc_new _ _
 have HX := Lib.hid hx; have HY := Lib.hid hy
 obtain ⟨q0, hq0⟩ : ∃ q0 : Bool, (a.f0 == b.f0) = q0 := ⟨_, rfl⟩
 obtain ⟨q1, hq1⟩ : ∃ q1 : Bool, (a.f1 == b.f1) = q1 := ⟨_, rfl⟩
 obtain ⟨q2, hq2⟩ : ∃ q2 : Bool, (a.f2 == b.f2) = q2 := ⟨_, rfl⟩
 obtain ⟨q3, hq3⟩ : ∃ q3 : Bool, ((strOfNums a.f3).toList == (strOfNums b.f3).toList) = q3 := ⟨_, rfl⟩
 obtain ⟨r, hr⟩ : ∃ r, eqPt a b = r := ⟨_, rfl⟩
 rw [hr]
 have HR := Lib.hid (show r = (q0 && (q1 && (q2 && q3))) by rw [← hr, ← hq0, ← hq1, ← hq2, ← hq3]; rfl)
 clear hr ha hb hc hd hx hy hz1
 go_enter Tryz.func65, Tryz.ntmps65
 go_upto_region 1 with fail
 obtain ⟨w1, hw1⟩ : ∃ w1, (w.alloc (.cells #[.int .i64 a.f0, .int .i64 a.f1, .int .i64 a.f2, .slice A a.f3.length c] 32)).alloc (.cells #[.int .i64 b.f0, .int .i64 b.f1, .int .i64 b.f2, .slice B b.f3.length d] 32) = w1 := ⟨_, rfl⟩
 obtain ⟨g, hg⟩ : ∃ g, w.heap.size = g := ⟨_, rfl⟩
 rw [hw1]
 rw [hw1] at HBX HX HY HA HB
 rw [hg] at HX HY ⊢
 have HG := Lib.hid hg
 clear hw1 hg
 have hcv3 := Kd.C_string (P := Tryz.prog) (A := A) (c := c) Tryz.underlying23 Tryz.underlying5 Tryz.underlying9 HA.out
 have hcv4 := Kd.C_string (P := Tryz.prog) (A := B) (c := d) Tryz.underlying23 Tryz.underlying5 Tryz.underlying9 HB.out
 have a0 : w1.cell? ⟨g, 0, none⟩ = some (.int .i64 a.f0) := (blk_cell HX.out 0).trans rfl
 have b0 : w1.cell? ⟨g + 1, 0, none⟩ = some (.int .i64 b.f0) := (blk_cell HY.out 0).trans rfl
 have a1 : w1.cell? ⟨g, 1, none⟩ = some (.int .i64 a.f1) := (blk_cell HX.out 1).trans rfl
 have b1 : w1.cell? ⟨g + 1, 1, none⟩ = some (.int .i64 b.f1) := (blk_cell HY.out 1).trans rfl
 have a2 : w1.cell? ⟨g, 2, none⟩ = some (.int .i64 a.f2) := (blk_cell HX.out 2).trans rfl
 have b2 : w1.cell? ⟨g + 1, 2, none⟩ = some (.int .i64 b.f2) := (blk_cell HY.out 2).trans rfl
 have a3 : w1.cell? ⟨g, 3, none⟩ = some (.slice A a.f3.length c) := (blk_cell HX.out 3).trans rfl
 have b3 : w1.cell? ⟨g + 1, 3, none⟩ = some (.slice B b.f3.length d) := (blk_cell HY.out 3).trans rfl
 refine wp_region_list ?_
 refine with_fin (fun a' W => a'.tmps[4]? = some (.bool r) ∧ a'.defers = [] ∧ Below w.heap.size w W) (fun a' W h => ?_) (fun HF => ?_)
 ·obtain ⟨h1, h2, h3⟩ := h
  refine ‹∀ (a : Act) (w : World), Code.wp Tryz.prog Code.ret _ a w → _› _ _ ?_
  exact wp_ret (bodyPost_ret (v := .bool r) (results_slot rfl h1) h2 ⟨by first | rfl | (rw [HG.out]; rfl), by first | exact h3 | (rw [HG.out]; exact h3)⟩)
 simp only [List.append_eq, List.cons_append, List.nil_append, List.take_succ_cons, List.take_zero, List.drop_succ_cons, List.drop_zero]
 refine wpList_cut 5 ?_
 simp only [List.append_eq, List.cons_append, List.nil_append, List.take_succ_cons, List.take_zero, List.drop_succ_cons, List.drop_zero]
 go_wp2_with fail
 refine Halt.mk ?_
 cases q0 with
 | false => exact chain_to 33 4 false [(9, some false)] (by kernel_rfl) (Knows.cons rfl (Knows.nil _)) (Nat.le_refl 33) (fun a' h1 h2 => HF.out a' _ ⟨by rw [h1, HR.out]; simp, h2, HBX.out⟩)
 | true =>
  refine wpList_cut 6 ?_
  simp only [List.append_eq, List.cons_append, List.nil_append, List.take_succ_cons, List.take_zero, List.drop_succ_cons, List.drop_zero]
  go_wp2_with fail
  refine Halt.mk ?_
  cases q1 with
  | false => exact chain_to 33 4 false [(10, some true), (15, some false)] (by kernel_rfl) (Knows.cons rfl (Knows.cons rfl (Knows.nil _))) (Nat.le_refl 33) (fun a' h1 h2 => HF.out a' _ ⟨by rw [h1, HR.out]; simp, h2, HBX.out⟩)
  | true =>
   refine wpList_cut 7 ?_
   simp only [List.append_eq, List.cons_append, List.nil_append, List.take_succ_cons, List.take_zero, List.drop_succ_cons, List.drop_zero]
   go_wp2_with fail
   refine Halt.mk ?_
   cases q2 with
   | false => exact chain_to 33 4 false [(17, some true), (22, some false)] (by kernel_rfl) (Knows.cons rfl (Knows.cons rfl (Knows.nil _))) (Nat.le_refl 33) (fun a' h1 h2 => HF.out a' _ ⟨by rw [h1, HR.out]; simp, h2, HBX.out⟩)
   | true =>
    refine wpList_cut 9 ?_
    simp only [List.append_eq, List.cons_append, List.nil_append, List.take_succ_cons, List.take_zero, List.drop_succ_cons, List.drop_zero]
    go_wp2_with fail
    refine Halt.mk ?_
    cases q3 with
    | false => exact chain_to 33 4 false [(24, some true), (31, some false)] (by kernel_rfl) (Knows.cons rfl (Knows.cons rfl (Knows.nil _))) (Nat.le_refl 33) (fun a' h1 h2 => HF.out a' _ ⟨by rw [h1, HR.out]; simp, h2, HBX.out⟩)
    | true => exact chain_to 33 4 true [(24, some true), (31, some true)] (by kernel_rfl) (Knows.cons rfl (Knows.cons rfl (Knows.nil _))) (Nat.le_refl 33) (fun a' h1 h2 => HF.out a' _ ⟨by rw [h1, HR.out]; simp, h2, HBX.out⟩)
set_option maxHeartbeats 4000000 in
theorem refSameMs_is {w : World} (m n : MsgD) {A8 A12 A16 B8 B12 B16 : Option Addr} {c8 c12 c16 d8 d12 d16 : Nat} (hm : MsgC w m A8 c8 A12 c12 A16 c16) (hn : MsgC w n B8 d8 B12 d12 B16 d16) :
  Calls Tryz.prog 28 #[.agg (msgCells m A8 c8 A12 c12 A16 c16), .agg (msgCells n B8 d8 B12 d12 B16 d16)] w fun e w' => e = .returned (.bool (eqMs m n)) ∧ Below w.heap.size w w' := by
 have hb1 : Below w.heap.size w ((w.alloc (.cells (msgCells m A8 c8 A12 c12 A16 c16) 34)).alloc (.cells (msgCells n B8 d8 B12 d12 B16 d16) 34)) := ((Below.refl _ _).alloc (Nat.le_refl _) _).alloc (by simp) _
 have hz1 : (w.alloc (.cells (msgCells m A8 c8 A12 c12 A16 c16) 34)).heap.size = w.heap.size + 1 := by simp
 have hx : MsBox ((w.alloc (.cells (msgCells m A8 c8 A12 c12 A16 c16) 34)).alloc (.cells (msgCells n B8 d8 B12 d12 B16 d16) 34)) w.heap.size m A8 c8 A12 c12 A16 c16 := (((Below.refl _ (w.alloc (.cells (msgCells m A8 c8 A12 c12 A16 c16) 34))).alloc (Nat.le_refl _) _).block w.heap.size (by omega)).trans (heap_alloc_new w _)
 have hy : MsBox ((w.alloc (.cells (msgCells m A8 c8 A12 c12 A16 c16) 34)).alloc (.cells (msgCells n B8 d8 B12 d12 B16 d16) 34)) (w.heap.size + 1) n B8 d8 B12 d12 B16 d16 := by rw [← hz1]; exact heap_alloc_new _ _
 have HB := Lib.hid hb1; have HX := Lib.hid hx; have HY := Lib.hid hy; have HM := Lib.hid (hm.below hb1); have HN := Lib.hid (hn.below hb1)
 clear hm hn hb1 hz1 hx hy
 obtain ⟨r, hr⟩ : ∃ r, eqMs m n = r := ⟨_, rfl⟩
 have HR0 := Lib.hid hr.symm
 rw [hr]
 clear hr
 obtain ⟨q0, hq0⟩ : ∃ q0 : Bool, (m.f0 == n.f0) = q0 := ⟨_, rfl⟩
 obtain ⟨q1, hq1⟩ : ∃ q1 : Bool, (m.f1 == n.f1) = q1 := ⟨_, rfl⟩
 obtain ⟨q2, hq2⟩ : ∃ q2 : Bool, (m.f2 == n.f2) = q2 := ⟨_, rfl⟩
 obtain ⟨q3, hq3⟩ : ∃ q3 : Bool, (m.f3 == n.f3) = q3 := ⟨_, rfl⟩
 obtain ⟨q4, hq4⟩ : ∃ q4 : Bool, (m.f4 == n.f4) = q4 := ⟨_, rfl⟩
 obtain ⟨q5, hq5⟩ : ∃ q5 : Bool, (m.f5 == n.f5) = q5 := ⟨_, rfl⟩
 obtain ⟨q6, hq6⟩ : ∃ q6 : Bool, (m.f6 == n.f6) = q6 := ⟨_, rfl⟩
 obtain ⟨q7, hq7⟩ : ∃ q7 : Bool, (m.f7 == n.f7) = q7 := ⟨_, rfl⟩
 obtain ⟨q8, hq8⟩ : ∃ q8 : Bool, eqTrs m.f8 n.f8 = q8 := ⟨_, rfl⟩
 obtain ⟨q9, hq9⟩ : ∃ q9 : Bool, eqEn m.f9.f0 m.f9.f1 m.f9.f2 m.f9.f3 n.f9.f0 n.f9.f1 n.f9.f2 n.f9.f3 = q9 := ⟨_, rfl⟩
 obtain ⟨q10, hq10⟩ : ∃ q10 : Bool, eqPt m.f10 n.f10 = q10 := ⟨_, rfl⟩
 have HR := Lib.hid (show r = (q0 && (q1 && (q2 && (q3 && (q4 && (q5 && (q6 && (q7 && (q8 && (q9 && q10)))))))))) by rw [HR0.out, ← hq0, ← hq1, ← hq2, ← hq3, ← hq4, ← hq5, ← hq6, ← hq7, ← hq8, ← hq9, ← hq10]; rfl)
 have HQ8 := Lib.hid hq8; have HQ9 := Lib.hid hq9; have HQ10 := Lib.hid hq10
 clear hq8 hq9 hq10 HR0
 go_enter Tryz.func28, Tryz.ntmps28
 go_upto_region 1 with fail
 obtain ⟨w1, hw1⟩ : ∃ w1, (w.alloc (.cells (msgCells m A8 c8 A12 c12 A16 c16) 34)).alloc (.cells (msgCells n B8 d8 B12 d12 B16 d16) 34) = w1 := ⟨_, rfl⟩
 obtain ⟨g, hg⟩ : ∃ g, w.heap.size = g := ⟨_, rfl⟩
 rw [hw1]
 rw [hw1] at HB HX HY HM HN
 rw [hg] at HX HY ⊢
 have HG := Lib.hid hg
 clear hw1 hg
 obtain ⟨a0, a1, a2, a3, a4, a5, a6, a7, a8, a9, a10, a11, a12, a13, a14, a15, a16⟩ := HX.out.cell
 obtain ⟨b0, b1, b2, b3, b4, b5, b6, b7, b8, b9, b10, b11, b12, b13, b14, b15, b16⟩ := HY.out.cell
 refine wp_region_list ?_
 refine with_fin (fun a' W => a'.tmps[4]? = some (.bool r) ∧ a'.defers = [] ∧ Below w.heap.size w W) (fun a' W h => ?_) (fun HF => ?_)
 ·obtain ⟨h1, h2, h3⟩ := h
  refine ‹∀ (a : Act) (w : World), Code.wp Tryz.prog Code.ret _ a w → _› _ _ ?_
  exact wp_ret (bodyPost_ret (v := .bool r) (results_slot rfl h1) h2 ⟨by first | rfl | (rw [HG.out]; rfl), by first | exact h3 | (rw [HG.out]; exact h3)⟩)
 simp only [List.append_eq, List.cons_append, List.nil_append, List.take_succ_cons, List.take_zero, List.drop_succ_cons, List.drop_zero]
 refine wpList_cut 5 ?_
 simp only [List.append_eq, List.cons_append, List.nil_append, List.take_succ_cons, List.take_zero, List.drop_succ_cons, List.drop_zero]
 go_wp2_with fail
 refine Halt.mk ?_
 cases q0 with
 | false => exact chain_to 80 4 false [(9, some false)] (by kernel_rfl) (Knows.cons rfl (Knows.nil _)) (Nat.le_refl 80) (fun a' h1 h2 => HF.out a' _ ⟨by rw [h1, HR.out]; simp, h2, HB.out⟩)
 | true =>
  refine wpList_cut 6 ?_
  simp only [List.append_eq, List.cons_append, List.nil_append, List.take_succ_cons, List.take_zero, List.drop_succ_cons, List.drop_zero]
  go_wp2_with fail
  refine Halt.mk ?_
  cases q1 with
  | false => exact chain_to 80 4 false [(10, some true), (15, some false)] (by kernel_rfl) (Knows.cons rfl (Knows.cons rfl (Knows.nil _))) (Nat.le_refl 80) (fun a' h1 h2 => HF.out a' _ ⟨by rw [h1, HR.out]; simp, h2, HB.out⟩)
  | true =>
   refine wpList_cut 7 ?_
   simp only [List.append_eq, List.cons_append, List.nil_append, List.take_succ_cons, List.take_zero, List.drop_succ_cons, List.drop_zero]
   go_wp2_with fail
   refine Halt.mk ?_
   cases q2 with
   | false => exact chain_to 80 4 false [(17, some true), (22, some false)] (by kernel_rfl) (Knows.cons rfl (Knows.cons rfl (Knows.nil _))) (Nat.le_refl 80) (fun a' h1 h2 => HF.out a' _ ⟨by rw [h1, HR.out]; simp, h2, HB.out⟩)
   | true =>
    refine wpList_cut 7 ?_
    simp only [List.append_eq, List.cons_append, List.nil_append, List.take_succ_cons, List.take_zero, List.drop_succ_cons, List.drop_zero]
    go_wp2_with fail
    refine Halt.mk ?_
    cases q3 with
    | false => exact chain_to 80 4 false [(24, some true), (29, some false)] (by kernel_rfl) (Knows.cons rfl (Knows.cons rfl (Knows.nil _))) (Nat.le_refl 80) (fun a' h1 h2 => HF.out a' _ ⟨by rw [h1, HR.out]; simp, h2, HB.out⟩)
    | true =>
     refine wpList_cut 7 ?_
     simp only [List.append_eq, List.cons_append, List.nil_append, List.take_succ_cons, List.take_zero, List.drop_succ_cons, List.drop_zero]
     go_wp2_with fail
     refine Halt.mk ?_
     cases q4 with
     | false => exact chain_to 80 4 false [(31, some true), (36, some false)] (by kernel_rfl) (Knows.cons rfl (Knows.cons rfl (Knows.nil _))) (Nat.le_refl 80) (fun a' h1 h2 => HF.out a' _ ⟨by rw [h1, HR.out]; simp, h2, HB.out⟩)
     | true =>
      refine wpList_cut 7 ?_
      simp only [List.append_eq, List.cons_append, List.nil_append, List.take_succ_cons, List.take_zero, List.drop_succ_cons, List.drop_zero]
      go_wp2_with fail
      refine Halt.mk ?_
      cases q5 with
      | false => exact chain_to 80 4 false [(38, some true), (43, some false)] (by kernel_rfl) (Knows.cons rfl (Knows.cons rfl (Knows.nil _))) (Nat.le_refl 80) (fun a' h1 h2 => HF.out a' _ ⟨by rw [h1, HR.out]; simp, h2, HB.out⟩)
      | true =>
       refine wpList_cut 7 ?_
       simp only [List.append_eq, List.cons_append, List.nil_append, List.take_succ_cons, List.take_zero, List.drop_succ_cons, List.drop_zero]
       go_wp2_with fail
       refine Halt.mk ?_
       cases q6 with
       | false => exact chain_to 80 4 false [(45, some true), (50, some false)] (by kernel_rfl) (Knows.cons rfl (Knows.cons rfl (Knows.nil _))) (Nat.le_refl 80) (fun a' h1 h2 => HF.out a' _ ⟨by rw [h1, HR.out]; simp, h2, HB.out⟩)
       | true =>
        refine wpList_cut 7 ?_
        simp only [List.append_eq, List.cons_append, List.nil_append, List.take_succ_cons, List.take_zero, List.drop_succ_cons, List.drop_zero]
        go_wp2_with fail
        refine Halt.mk ?_
        cases q7 with
        | false => exact chain_to 80 4 false [(52, some true), (57, some false)] (by kernel_rfl) (Knows.cons rfl (Knows.cons rfl (Knows.nil _))) (Nat.le_refl 80) (fun a' h1 h2 => HF.out a' _ ⟨by rw [h1, HR.out]; simp, h2, HB.out⟩)
        | true =>
         refine wpList_cut 7 ?_
         simp only [List.append_eq, List.cons_append, List.nil_append, List.take_succ_cons, List.take_zero, List.drop_succ_cons, List.drop_zero]
         go_wp2_with fail
         refine (refSameTrs_is A8 B8 c8 d8 m.f8 n.f8 w1 HM.out.g8 HN.out.g8).mono ?_
         rw [HQ8.out]
         rintro e w2 ⟨rfl, hb⟩
         have HB2 := Lib.hid (HB.out.trans (hb.mono HB.out.size)); have HX2 := Lib.hid (HX.out.below hb); have HY2 := Lib.hid (HY.out.below hb); have HM2 := Lib.hid (HM.out.below hb); have HN2 := Lib.hid (HN.out.below hb)
         clear hb HB HX HY HM HN a0 a1 a2 a3 a4 a5 a6 a7 a8 a9 a10 a11 a12 a13 a14 a15 a16 b0 b1 b2 b3 b4 b5 b6 b7 b8 b9 b10 b11 b12 b13 b14 b15 b16
         obtain ⟨a0, a1, a2, a3, a4, a5, a6, a7, a8, a9, a10, a11, a12, a13, a14, a15, a16⟩ := HX2.out.cell
         obtain ⟨b0, b1, b2, b3, b4, b5, b6, b7, b8, b9, b10, b11, b12, b13, b14, b15, b16⟩ := HY2.out.cell
         go_wp2_with fail
         refine Halt.mk ?_
         cases q8 with
         | false => exact chain_to 80 4 false [(59, some true), (64, some false)] (by kernel_rfl) (Knows.cons rfl (Knows.cons rfl (Knows.nil _))) (Nat.le_refl 80) (fun a' h1 h2 => HF.out a' _ ⟨by rw [h1, HR.out]; simp, h2, HB2.out⟩)
         | true =>
          refine wpList_cut 7 ?_
          simp only [List.append_eq, List.cons_append, List.nil_append, List.take_succ_cons, List.take_zero, List.drop_succ_cons, List.drop_zero]
          go_wp2_with fail
          refine (refSameEn_is m.f9.f0 m.f9.f1 m.f9.f2 A12 c12 m.f9.f3 n.f9.f0 n.f9.f1 n.f9.f2 B12 d12 n.f9.f3 w2 HM2.out.g12 HM2.out.l12 HN2.out.g12 HN2.out.l12).mono ?_
          rw [HQ9.out]
          rintro e w3 ⟨rfl, hb⟩
          have HB3 := Lib.hid (HB2.out.trans (hb.mono HB2.out.size)); have HX3 := Lib.hid (HX2.out.below hb); have HY3 := Lib.hid (HY2.out.below hb); have HM3 := Lib.hid (HM2.out.below hb); have HN3 := Lib.hid (HN2.out.below hb)
          clear hb HB2 HX2 HY2 HM2 HN2 a0 a1 a2 a3 a4 a5 a6 a7 a8 a9 a10 a11 a12 a13 a14 a15 a16 b0 b1 b2 b3 b4 b5 b6 b7 b8 b9 b10 b11 b12 b13 b14 b15 b16
          obtain ⟨a0, a1, a2, a3, a4, a5, a6, a7, a8, a9, a10, a11, a12, a13, a14, a15, a16⟩ := HX3.out.cell
          obtain ⟨b0, b1, b2, b3, b4, b5, b6, b7, b8, b9, b10, b11, b12, b13, b14, b15, b16⟩ := HY3.out.cell
          go_wp2_with fail
          refine Halt.mk ?_
          cases q9 with
          | false => exact chain_to 80 4 false [(66, some true), (71, some false)] (by kernel_rfl) (Knows.cons rfl (Knows.cons rfl (Knows.nil _))) (Nat.le_refl 80) (fun a' h1 h2 => HF.out a' _ ⟨by rw [h1, HR.out]; simp, h2, HB3.out⟩)
          | true =>
           refine wpList_cut 7 ?_
           simp only [List.append_eq, List.cons_append, List.nil_append, List.take_succ_cons, List.take_zero, List.drop_succ_cons, List.drop_zero]
           go_wp2_with fail
           refine (refSamePt_is m.f10 n.f10 HM3.out.l16 HM3.out.g16 HN3.out.l16 HN3.out.g16).mono ?_
           rw [HQ10.out]
           rintro e w4 ⟨rfl, hb⟩
           have HB4 := Lib.hid (HB3.out.trans (hb.mono HB3.out.size)); have HX4 := Lib.hid (HX3.out.below hb); have HY4 := Lib.hid (HY3.out.below hb); have HM4 := Lib.hid (HM3.out.below hb); have HN4 := Lib.hid (HN3.out.below hb)
           clear hb HB3 HX3 HY3 HM3 HN3 a0 a1 a2 a3 a4 a5 a6 a7 a8 a9 a10 a11 a12 a13 a14 a15 a16 b0 b1 b2 b3 b4 b5 b6 b7 b8 b9 b10 b11 b12 b13 b14 b15 b16
           go_wp2_with fail
           refine Halt.mk ?_
           cases q10 with
           | false => exact chain_to 80 4 false [(73, some true), (78, some false)] (by kernel_rfl) (Knows.cons rfl (Knows.cons rfl (Knows.nil _))) (Nat.le_refl 80) (fun a' h1 h2 => HF.out a' _ ⟨by rw [h1, HR.out]; simp, h2, HB4.out⟩)
           | true => exact chain_to 80 4 true [(73, some true), (78, some true)] (by kernel_rfl) (Knows.cons rfl (Knows.cons rfl (Knows.nil _))) (Nat.le_refl 80) (fun a' h1 h2 => HF.out a' _ ⟨by rw [h1, HR.out]; simp, h2, HB4.out⟩)
end Go.Proofs.YtgiefblcckikeaaGreat.M
end

section
/- The reference's words on which messages may be. -/
attribute [local irreducible] Go.wpStill
namespace Go.Proofs.YtgiefblcckikeaaGreat.M
open Go.RowKit Go.Proofs.YtgiefblcckikeaaGreatW.PrintWords Go.Proofs.YtgiefblcckikeaaGreatW.PrintLast Go.Proofs.YtgiefblcckikeaaGreatW.PrintMore Go.Proofs.YtgiefblcckikeaaGreat.G
end Go.Proofs.YtgiefblcckikeaaGreat.M
end

section
/- The reference's MayMsg, CheckMsg (printed by genmsg04b.py). -/
attribute [local irreducible] Go.wpStill
namespace Go.Proofs.YtgiefblcckikeaaGreat.M
open Go.RowKit Go.Proofs.YtgiefblcckikeaaGreatW.PrintWords Go.Proofs.YtgiefblcckikeaaGreatW.PrintLast Go.Proofs.YtgiefblcckikeaaGreatW.PrintMore Go.Proofs.YtgiefblcckikeaaGreat.G
end Go.Proofs.YtgiefblcckikeaaGreat.M
end

section
/- The reference's Marshal. -/
attribute [local irreducible] Go.wpStill
namespace Go.Proofs.YtgiefblcckikeaaGreat.M
open Go.RowKit Go.Proofs.YtgiefblcckikeaaGreatW.PrintWords Go.Proofs.YtgiefblcckikeaaGreatW.PrintLast Go.Proofs.YtgiefblcckikeaaGreatW.PrintMore Go.Proofs.YtgiefblcckikeaaGreat.G
def marF (S : List Int → List Int) (m : MsgD) : List Int × Int := if mayMs m = true then (if 1048576 < (msgB m).length then ([], 3) else (S (msgB m), 0)) else ([], 40)
end Go.Proofs.YtgiefblcckikeaaGreat.M
end

section
/- What is written is read as it was, and what is read is written as it stood. In plain Lean. -/
namespace Go.Proofs.YtgiefblcckikeaaGreat.M
open Go.RowKit Go.Proofs.YtgiefblcckikeaaGreatW.PrintWords Go.Proofs.YtgiefblcckikeaaGreatW.PrintLast Go.Proofs.YtgiefblcckikeaaGreatW.PrintMore Go.Proofs.YtgiefblcckikeaaGreat.G
structure Cod {α : Type} (g : EyeS → α × EyeS) (f : α → List Int) (P : α → Prop) : Prop where
 st : ∀ s : EyeS, ¬ s.e = 0 → (g s).2.e = s.e
 mo : ∀ s : EyeS, s.o = true → (g s).2.o = true
 fw : ∀ (x : α) (r : List Int) (o : Bool), P x → g ⟨f x ++ r, 0, o⟩ = (x, ⟨r, 0, o⟩)
 bk : ∀ s : EyeS, okB s.l = true → (g s).2.e = 0 → (g s).2.o = false → f (g s).1 ++ (g s).2.l = s.l
section
variable {α β γ : Type} {g : EyeS → α × EyeS} {k : EyeS → β × EyeS} {f : α → List Int} {q : β → List Int} {P : α → Prop} {Q : β → Prop}
theorem Cod.e (h : Cod g f P) {s : EyeS} (he : (g s).2.e = 0) : s.e = 0 := by
 by_cases hs : s.e = 0
 ·exact hs
 ·exact absurd ((h.st s hs).symm.trans he) hs
theorem Cod.o (h : Cod g f P) {s : EyeS} (he : (g s).2.o = false) : s.o = false := by
 cases hs : s.o with
 | false => rfl
 | true => rw [h.mo s hs] at he; exact he
theorem Cod.okB (h : Cod g f P) {s : EyeS} (hb : okB s.l = true) (he : (g s).2.e = 0) (ho : (g s).2.o = false) : M.okB (g s).2.l = true := by
 have := h.bk s hb he ho
 rw [← this, okB_app, Bool.and_eq_true] at hb
 exact hb.2
theorem Cod.pr (h : Cod g f P) (z : Cod k q Q) : Cod (PR g k) (fun x => f x.1 ++ q x.2) (fun x => P x.1 ∧ Q x.2) where
 st s hs := (z.st _ (by rw [h.st s hs]; exact hs)).trans (h.st s hs)
 mo s hs := z.mo _ (h.mo s hs)
 fw x r o hx := by
  unfold PR
  rw [List.append_assoc, h.fw x.1 _ o hx.1]
  dsimp only
  rw [z.fw x.2 r o hx.2]
 bk s hb he ho := by
  have h1 : (g s).2.e = 0 := z.e he
  have h2 : (g s).2.o = false := z.o ho
  have h3 := z.bk (g s).2 (h.okB hb h1 h2) he ho
  have h4 := h.bk s hb h1 h2
  show (f (g s).1 ++ q (k (g s).2).1) ++ (k (g s).2).2.l = s.l
  rw [List.append_assoc, h3, h4]
theorem Cod.fm (h : Cod g f P) (F : α → γ) (f' : γ → List Int) (P' : γ → Prop) (inv : γ → α) (h1 : ∀ y, P' y → P (inv y) ∧ F (inv y) = y) (h2 : ∀ x, f' (F x) = f x) : Cod (FM F g) f' P' where
 st := h.st
 mo := h.mo
 fw y r o hy := by
  obtain ⟨a, b⟩ := h1 y hy
  have := h.fw (inv y) r o a
  rw [← h2, b] at this
  show (F (g ⟨f' y ++ r, 0, o⟩).1, (g ⟨f' y ++ r, 0, o⟩).2) = _
  rw [this, b]
 bk s hb he ho := by
  show f' (F (g s).1) ++ _ = _
  rw [h2]
  exact h.bk s hb he ho
end
theorem cod_num : Cod eNum numB isI64 where
 st s hs := (sim_num.st s hs).2
 mo := sim_num.mo
 fw x r o hx := by
  obtain ⟨a, b, c⟩ := form_back hx r
  unfold eNum takeNum
  rw [if_pos rfl]
  dsimp only
  rw [if_pos a, b, c]
  dsimp only
  rw [Int.toNat_natCast, List.drop_left]
 bk s hb he ho := by
  have hs : s.e = 0 := by
   by_cases hs : s.e = 0
   ·exact hs
   ·exact absurd ((sim_num.st s hs).2.symm.trans he) hs
  unfold eNum at he ⊢
  rw [if_pos hs] at he ⊢
  dsimp only at he ⊢
  unfold takeNum at he ⊢
  by_cases hk : tkE s.l = 0
  ·rw [if_pos hk]
   dsimp only
   rw [(form_one hb hk).1, List.take_append_drop]
  ·rw [if_neg hk] at he
   exact absurd he hk
theorem eSmall_o {s : EyeS} (h : (eSmall s).2.o = false) : eSmall s = eNum s := by
 unfold eSmall at h ⊢
 split
 ·rfl
 ·next hn => rw [if_neg hn] at h; cases h
def sm32 (x : Int) : Prop := -2147483648 ≤ x ∧ x ≤ 2147483647
theorem cod_small : Cod eSmall numB sm32 where
 st s hs := (sim_small0.st s hs).2
 mo := sim_small0.mo
 fw x r o hx := by
  have h := cod_num.fw x r o (by unfold sm32 at hx; unfold isI64; omega)
  unfold eSmall
  rw [h]
  dsimp only
  rw [if_pos]
  unfold sm32 at hx
  rw [IntKind.wrap_i32]
  omega
 bk s hb he ho := by
  have e := eSmall_o ho
  rw [e] at he ho ⊢
  exact cod_num.bk s hb he ho
theorem cod_data : Cod eData (fun l => numB l.length ++ l) (fun l => l.length ≤ 1000000) where
 st s hs := (sim_data.st s hs).2
 mo := sim_data.mo
 fw x r o hx := by
  have hi : isI64 (x.length : Int) := by unfold isI64; omega
  obtain ⟨a, b, c⟩ := form_back hi (x ++ r)
  have hn := (numB_len hi).1
  have e1 : blHi (numB x.length ++ (x ++ r)) = (((numB (x.length : Int)).length + x.length : Nat) : Int) := by unfold blHi; rw [b, c]; omega
  have e2 : blLo (numB x.length ++ (x ++ r)) = ((numB (x.length : Int)).length : Int) := c
  have e3 : blE (numB x.length ++ (x ++ r)) big62 0 = 0 := by
   unfold blE
   rw [if_neg (by simp [a]), b, c, if_neg (by omega), if_neg (by unfold big62; omega), if_neg (by simp; omega)]
  have e4 : blD (numB x.length ++ (x ++ r)) = x := by
   unfold blD
   rw [e1, e2, Int.toNat_natCast, Int.toNat_natCast, ← List.append_assoc, ← List.length_append, List.take_left, List.drop_left]
  unfold eData
  rw [if_pos rfl]
  dsimp only
  rw [List.append_assoc]
  unfold takeBlob
  rw [if_pos e3, e1, e4]
  dsimp only
  rw [Int.toNat_natCast, ← List.append_assoc, ← List.length_append, List.drop_left]
 bk s hb he ho := by
  have hs : s.e = 0 := by
   by_cases hs : s.e = 0
   ·exact hs
   ·exact absurd ((sim_data.st s hs).2.symm.trans he) hs
  unfold eData at he ⊢
  rw [if_pos hs] at he ⊢
  dsimp only at he ⊢
  unfold takeBlob at he ⊢
  by_cases hk : blE s.l big62 0 = 0
  ·rw [if_pos hk]
   dsimp only
   obtain ⟨g1, g2, g3, g4, g5, g6⟩ := blE_good hk
   have hl : ((blD s.l).length : Int) = tkN s.l := by
    unfold blD
    rw [List.length_drop, List.length_take]
    unfold blHi blLo at *
    omega
   have h1 := (form_one hb g1).1
   rw [hl, h1]
   unfold blD
   have : s.l.take (tkS s.l).toNat = (s.l.take (blHi s.l).toNat).take (blLo s.l).toNat := by
    rw [List.take_take]
    congr 1
    unfold blHi blLo at *
    omega
   rw [this, List.take_append_drop, List.take_append_drop]
  ·rw [if_neg hk] at he
   exact absurd he hk
section
variable {α : Type} {g : EyeS → α × EyeS} {f : α → List Int} {P : α → Prop}
theorem many_fw (h : Cod g f P) : ∀ (l : List α) (r : List Int) (o : Bool), (∀ x ∈ l, P x) → eMany g l.length ⟨l.flatMap f ++ r, 0, o⟩ = (l, ⟨r, 0, o⟩)
 | [], r, o, _ => rfl
 | x :: l, r, o, hp => by
  rw [List.length_cons, List.flatMap_cons, List.append_assoc]
  unfold eMany
  rw [if_pos rfl, h.fw x _ o (hp x List.mem_cons_self)]
  dsimp only
  rw [many_fw h l r o (fun y hy => hp y (List.mem_cons_of_mem _ hy))]
theorem many_bk (h : Cod g f P) : ∀ (n : Nat) (s : EyeS), okB s.l = true → s.e = 0 → (eMany g n s).2.e = 0 → (eMany g n s).2.o = false → (eMany g n s).1.flatMap f ++ (eMany g n s).2.l = s.l ∧ (eMany g n s).1.length = n ∧ s.o = false
 | 0, s, hb, hs, he, ho => ⟨rfl, rfl, ho⟩
 | n + 1, s, hb, hs, he, ho => by
  unfold eMany at he ho ⊢
  rw [if_pos hs] at he ho ⊢
  dsimp only at he ho ⊢
  by_cases h1 : (g s).2.e = 0
  ·cases h2 : (g s).2.o with
   | true => exact absurd ((many_mo h n _ h2).symm.trans ho) (by simp)
   | false =>
    obtain ⟨a, b, _⟩ := many_bk h n (g s).2 (h.okB hb h1 h2) h1 he ho
    rw [List.flatMap_cons, List.append_assoc, a, List.length_cons, b]
    exact ⟨h.bk s hb h1 h2, rfl, h.o h2⟩
  ·rw [eMany_stop h1] at he
   exact absurd he h1
where
 many_mo (h : Cod g f P) : ∀ (n : Nat) (s : EyeS), s.o = true → (eMany g n s).2.o = true
  | 0, s, hs => hs
  | n + 1, s, hs => by
   unfold eMany
   split
   ·exact many_mo h n _ (h.mo s hs)
   ·exact hs
theorem eCount_cases (s : EyeS) : ((eCount s).e = 0 ∧ eCount s = (eNum s).2 ∧ 0 ≤ (eNum s).1 ∧ (eNum s).1 ≤ 4096) ∨ (¬ (eCount s).e = 0) := by
 unfold eCount eWrong
 by_cases he : (eNum s).2.e = 0
 ·by_cases hn : (eNum s).1 < 0 ∨ 4096 < (eNum s).1
  ·right
   rw [if_pos ⟨he, by simpa using hn⟩]
   simp
  ·left
   rw [if_neg (fun c => hn (by simpa using c.2))]
   exact ⟨he, rfl, by omega, by omega⟩
 ·right
  rw [if_neg (fun c => he c.1)]
  exact he
theorem cod_list (h : Cod g f P) : Cod (eList g) (fun l => numB l.length ++ l.flatMap f) (fun l => l.length ≤ 4096 ∧ ∀ x ∈ l, P x) where
 st s hs := by
  have h1 : (eNum s).2.e = s.e := (sim_num.st s hs).2
  have h2 : eCount s = (eNum s).2 := by unfold eCount; exact eWrong_st _ (by rw [h1]; exact hs)
  unfold eList
  rw [eMany_stop (by rw [h2, h1]; exact hs), h2, h1]
 mo s hs := by
  unfold eList
  exact many_bk.many_mo h _ _ (by rw [eCount_o]; exact hs)
 fw x r o hx := by
  have hn := cod_num.fw (x.length : Int) (x.flatMap f ++ r) o (by unfold isI64; omega)
  rw [← List.append_assoc] at hn
  unfold eList eCount eWrong
  rw [hn]
  dsimp only
  rw [if_neg (fun c => by have := c.2; simp at this; omega), Int.toNat_natCast]
  exact many_fw h x r o hx.2
 bk s hb he ho := by
  unfold eList at he ho ⊢
  rcases eCount_cases s with ⟨h1, h2, h3, h4⟩ | h1
  ·rw [h2] at he ho h1 ⊢
   have h5 : (eNum s).2.o = false := by
    cases h5 : (eNum s).2.o with
    | false => rfl
    | true => rw [many_bk.many_mo h _ _ h5] at ho; exact ho
   obtain ⟨a, b, c⟩ := many_bk h (eNum s).1.toNat (eNum s).2 (cod_num.okB hb h1 h5) h1 he ho
   rw [b, List.append_assoc, a, show (((eNum s).1.toNat : Nat) : Int) = (eNum s).1 by omega]
   exact cod_num.bk s hb h1 h5
  ·rw [eMany_stop h1] at he
   exact absurd he h1
end
theorem okK_parts {x : KeyD} (h : okK x = true) : sm32 x.f0 ∧ isI64 x.f1 := by
 have := of_decide_eq_true h
 exact ⟨⟨this.1, this.2.1⟩, this.2.2⟩
theorem cod_key : Cod eKey keyB (fun x => okK x = true) :=
 (cod_small.pr cod_num).fm (fun x : Int × Int => (⟨x.1, x.2⟩ : KeyD)) keyB (fun x => okK x = true) (fun y => (y.f0, y.f1)) (fun y hy => ⟨okK_parts hy, rfl⟩) (fun x => by simp [keyB, numsB])
theorem cod_txn : Cod eTxn txB TxP1 :=
 (cod_num.pr (cod_num.pr (cod_data.pr ((cod_list cod_num).pr ((cod_list cod_key).pr (cod_list cod_key)))))).fm txW txB TxP1 (fun t => (t.f0, t.f1, t.f2, t.f3, t.f4, t.f5))
  (fun t ht => by
   obtain ⟨a0, a1, a2, a3, a4, a5⟩ := okT_all ht.1
   obtain ⟨b2, b3, b4, b5⟩ := mayT_len ht.2
   exact ⟨⟨a0, a1, (by show t.f2.length ≤ 1000000; omega), ⟨(by show t.f3.length ≤ 4096; omega), a3⟩, ⟨(by show t.f4.length ≤ 4096; omega), a4⟩, ⟨(by show t.f5.length ≤ 4096; omega), a5⟩⟩, rfl⟩)
  (fun x => by simp [txB, numsB, keysB, List.append_assoc])
def EnG (x : EnD) : Prop := okE x.1 x.2.1 x.2.2.1 x.2.2.2 = true ∧ mayE x.1 x.2.1 x.2.2.1 x.2.2.2 = true
abbrev boB (x : EnD) : List Int := numsB [x.2.1, x.2.2.1] ++ numB x.2.2.2.length ++ x.2.2.2.flatMap txB
abbrev enB (x : EnD) : List Int := entB x.1 x.2.1 x.2.2.1 x.2.2.2
theorem in04 {x : Int} (h : inB 0 4 [x] = true) : sm32 x := by
 unfold inB at h
 simp at h
 unfold sm32
 omega
theorem cod_bentry : Cod (bEntry eSmall) boB (fun x => x.1 = 1 ∧ EnG x) :=
 (cod_small.pr (cod_num.pr (cod_list cod_txn))).fm _ boB _ (fun y => (y.2.1, y.2.2.1, y.2.2.2))
  (fun y hy => by
   obtain ⟨y0, y1, y2, y3⟩ := y
   obtain ⟨h0, h1, h2⟩ := hy
   dsimp only at h0 h1 h2
   subst h0
   obtain ⟨_, _, a2, a3⟩ := okE_all h1
   have h2' := h2
   unfold mayE at h2'
   rw [if_neg (by decide)] at h2'
   simp only [Bool.and_eq_true] at h2'
   rcases mayE_parts h2 with h | h
   ·exact absurd h.1 (by decide)
   ·exact ⟨⟨in04 h2'.2.1, a2, (by show y3.length ≤ 4096; omega), fun t ht => ⟨a3 t ht, h.2.2 t ht⟩⟩, rfl⟩)
  (fun x => by simp [boB, numsB, List.append_assoc])
theorem eKind_cases (s : EyeS) : ((eKind s).e = 0 ∧ eKind s = (eNum s).2 ∧ ((eNum s).1 = 0 ∨ (eNum s).1 = 1)) ∨ (¬ (eKind s).e = 0) := by
 unfold eKind eWrong
 by_cases he : (eNum s).2.e = 0
 ·by_cases hn : (eNum s).1 = 0 ∨ (eNum s).1 = 1
  ·left
   rw [if_neg (fun c => by have := c.2; simp at this; rcases hn with h | h <;> omega)]
   exact ⟨he, rfl, hn⟩
  ·right
   rw [if_pos ⟨he, by simp; omega⟩]
   simp
 ·right
  rw [if_neg (fun c => he c.1)]
  exact he
theorem eKind_st (s : EyeS) (hs : ¬ s.e = 0) : (eKind s).e = s.e := by
 have h1 : (eNum s).2.e = s.e := (sim_num.st s hs).2
 unfold eKind
 rw [eWrong_st _ (by rw [h1]; exact hs), h1]
theorem cod_entry : Cod eEntry enB EnG where
 st s hs := by
  unfold eEntry
  rw [if_pos (.inl (by rw [eKind_st s hs]; exact hs))]
  exact eKind_st s hs
 mo := sim_entry.mo
 fw x r o hx := by
  obtain ⟨y0, y1, y2, y3⟩ := x
  obtain ⟨h1, h2⟩ := hx
  dsimp only at h1 h2
  rcases mayE_parts h2 with ⟨rfl, rfl, rfl, rfl⟩ | h
  ·have hn := cod_num.fw 0 r o (by decide)
   have e : enB (0, 0, 0, []) = numB 0 := rfl
   rw [e]
   have hk : eKind ⟨numB 0 ++ r, 0, o⟩ = ⟨r, 0, o⟩ := by
    unfold eKind eWrong
    rw [hn]
    rfl
   unfold eEntry
   rw [if_pos (.inr (by rw [hn])), hk]
  ·obtain ⟨rfl, ha, hb⟩ := h
   have e : enB (1, y1, y2, y3) ++ r = numB 1 ++ (boB (1, y1, y2, y3) ++ r) := by simp [enB, entB, boB, List.append_assoc]
   have hn := cod_num.fw 1 (boB (1, y1, y2, y3) ++ r) o (by decide)
   rw [e]
   have hk : eKind ⟨numB 1 ++ (boB (1, y1, y2, y3) ++ r), 0, o⟩ = ⟨boB (1, y1, y2, y3) ++ r, 0, o⟩ := by
    unfold eKind eWrong
    rw [hn]
    rfl
   unfold eEntry
   rw [if_neg (by rw [hk, hn]; simp), hk, eBody_b]
   exact cod_bentry.fw (1, y1, y2, y3) r o ⟨rfl, h1, h2⟩
 bk s hb he ho := by
  unfold eEntry at he ho ⊢
  rcases eKind_cases s with ⟨h1, h2, h3 | h3⟩ | h1
  ·rw [if_pos (.inr h3)] at he ho ⊢
   dsimp only at he ho ⊢
   rw [h2] at ho h1 ⊢
   have := cod_num.bk s hb h1 ho
   rw [h3] at this
   exact this
  ·have hc : ¬ (¬ (eKind s).e = 0 ∨ (eNum s).1 = 0) := by omega
   rw [if_neg hc] at he ho ⊢
   rw [eBody_b] at he ho ⊢
   rw [h2] at he ho h1 ⊢
   have h5 := cod_bentry.o ho
   have := cod_bentry.bk (eNum s).2 (cod_num.okB hb h1 h5) he ho
   have h6 := cod_num.bk s hb h1 h5
   rw [h3, ← this] at h6
   have e : ∀ x : EnD, x.1 = 1 → enB x = numB 1 ++ boB x := by
    rintro ⟨x0, x1, x2, x3⟩ rfl
    simp [enB, entB, boB, List.append_assoc]
   rw [e _ rfl, List.append_assoc]
   exact h6
  ·rw [if_pos (.inl h1)] at he
   exact absurd he h1
abbrev TrG (x : TrD) : Prop := isI64 x.f0 ∧ okE x.f1.f0 x.f1.f1 x.f1.f2 x.f1.f3 = true ∧ mayE x.f1.f0 x.f1.f1 x.f1.f2 x.f1.f3 = true
theorem cod_tr : Cod eTr trB TrG :=
 (cod_num.pr cod_entry).fm _ trB TrG (fun y => (y.f0, y.f1.f0, y.f1.f1, y.f1.f2, y.f1.f3)) (fun y hy => ⟨⟨hy.1, hy.2⟩, rfl⟩) (fun x => rfl)
theorem cod_yes : Cod eYes yesB (fun _ => True) where
 st s hs := eKind_st s hs
 mo := sim_yes.mo
 fw x r o _ := by
  have hn := cod_num.fw (if x = true then 1 else 0) r o (by cases x <;> decide)
  unfold eYes eKind eWrong yesB
  rw [hn]
  cases x <;> rfl
 bk s hb he ho := by
  unfold eYes at he ho ⊢
  dsimp only at he ho ⊢
  rcases eKind_cases s with ⟨h1, h2, h3⟩ | h1
  ·rw [h2] at he ho ⊢
   have := cod_num.bk s hb he ho
   rcases h3 with h3 | h3
   ·rw [h3] at this ⊢
    exact this
   ·rw [h3] at this ⊢
    exact this
  ·exact absurd he h1
abbrev ptB (p : PartD) : List Int := numsB [p.f0, p.f1, p.f2] ++ numB p.f3.length ++ p.f3
theorem cod_part : Cod (ptOf eSmall) ptB (fun p => isI64 p.f0 ∧ sm32 p.f1 ∧ sm32 p.f2 ∧ p.f3.length ≤ 1000000) :=
 (cod_num.pr (cod_small.pr (cod_small.pr cod_data))).fm _ ptB _ (fun p => (p.f0, p.f1, p.f2, p.f3)) (fun p hp => ⟨hp, rfl⟩) (fun x => by simp [ptB, numsB, List.append_assoc])
structure MayM (m : MsgD) : Prop where
 k : isKind m.f0 = true
 e : eqMs (bareM m) m = true
 f1 : sm32 m.f1
 f2 : sm32 m.f2
 n : m.f8.length ≤ 4096
 l : ∀ x ∈ m.f8, mayTr x = true
 p : m.f0 = 5 → mayPt m.f10 = true
 t : m.f0 = 6 → mayE m.f9.f0 m.f9.f1 m.f9.f2 m.f9.f3 = true
theorem mayM_of {m : MsgD} (h : mayMs m = true) : MayM m := by
 unfold mayMs at h
 simp only [Bool.and_eq_true, decide_eq_true_eq, List.all_eq_true] at h
 obtain ⟨h1, h2, _, hk, he, hl, hm, hp, ht⟩ := h
 exact ⟨hk, he, in04 h1, in04 h2, by omega, hm, fun q => by rw [q] at hp; simpa using hp, fun q => by rw [q] at ht; simpa using ht⟩
theorem trs_nil {l : List TrD} (h : eqTrs [] l = true) : [] = l := by
 cases l with
 | nil => rfl
 | cons a l => simp [eqTrs] at h
theorem en_nil {e : EntD} (h : eqEn zE.f0 zE.f1 zE.f2 zE.f3 e.f0 e.f1 e.f2 e.f3 = true) : zE = e := by
 obtain ⟨a, b, c, l⟩ := e
 unfold eqEn at h
 simp only [Bool.and_eq_true, beq_iff_eq] at h
 obtain ⟨h0, h1, h2, h3⟩ := h
 cases l with
 | nil => rw [← h0, ← h1, ← h2]; rfl
 | cons x l => simp [zE, eqTs] at h3
theorem pt_nil {p : PartD} (hp : okB p.f3 = true) (h : eqPt zP p = true) : zP = p := by
 obtain ⟨a, b, c, l⟩ := p
 unfold eqPt at h
 rw [eqS_ok rfl hp] at h
 simp only [Bool.and_eq_true, beq_iff_eq, decide_eq_true_eq] at h
 obtain ⟨h0, h1, h2, h3⟩ := h
 rw [← h0, ← h1, ← h2, ← h3]
theorem bare8 (m : MsgD) : (bareM m).f8 = [] ∨ (bareM m).f8 = m.f8 := by
 unfold bareM
 repeat' split
 all_goals simp
theorem bare9 (m : MsgD) : (bareM m).f9 = zE ∨ (bareM m).f9 = m.f9 := by
 unfold bareM
 repeat' split
 all_goals simp
theorem bare10 (m : MsgD) : (bareM m).f10 = zP ∨ (bareM m).f10 = m.f10 := by
 unfold bareM
 repeat' split
 all_goals simp
theorem msg_ext {a b : MsgD} (h0 : a.f0 = b.f0) (h1 : a.f1 = b.f1) (h2 : a.f2 = b.f2) (h3 : a.f3 = b.f3) (h4 : a.f4 = b.f4) (h5 : a.f5 = b.f5) (h6 : a.f6 = b.f6) (h7 : a.f7 = b.f7) (h8 : a.f8 = b.f8) (h9 : a.f9 = b.f9) (h10 : a.f10 = b.f10) : a = b := by cases a; cases b; simp_all
theorem bare_eq {m : MsgD} (hd : okB m.f10.f3 = true) (hm : mayMs m = true) : bareM m = m := by
 have h := (mayM_of hm).e
 unfold eqMs at h
 simp only [Bool.and_eq_true, beq_iff_eq] at h
 obtain ⟨h0, h1, h2, h3, h4, h5, h6, h7, h8, h9, h10⟩ := h
 refine msg_ext h0 h1 h2 h3 h4 h5 h6 h7 ?_ ?_ ?_
 ·rcases bare8 m with e | e
  ·rw [e] at h8 ⊢; exact trs_nil h8
  ·exact e
 ·rcases bare9 m with e | e
  ·rw [e] at h9 ⊢; exact en_nil h9
  ·exact e
 ·rcases bare10 m with e | e
  ·rw [e] at h10 ⊢; exact pt_nil hd h10
  ·exact e
def bdB (m : MsgD) : List Int := numsB [m.f1, m.f2] ++ tailB m
structure GoodM (m : MsgD) : Prop where
 b : bareM m = m
 o : OkM m
 y : MayM m
theorem GoodM.t {m : MsgD} (h : GoodM m) : isI64 m.f3 ∧ isI64 m.f4 ∧ isI64 m.f5 ∧ isI64 m.f6 := by
 obtain ⟨a, b⟩ := okI_cons.1 h.o.t
 obtain ⟨c, d⟩ := okI_cons.1 b
 obtain ⟨e, f⟩ := okI_cons.1 d
 exact ⟨a, c, e, (okI_cons.1 f).1⟩
theorem cod_mbody (k : Int) (hk : isKind k = true) : Cod (mBody eSmall eEntry (eList eTr) k) bdB (fun m => m.f0 = k ∧ GoodM m) := by
 have hkk : k = 1 ∨ k = 2 ∨ k = 3 ∨ k = 4 ∨ k = 5 ∨ k = 6 := by
  unfold isKind at hk
  simp only [Bool.and_eq_true, decide_eq_true_eq] at hk
  omega
 rcases hkk with rfl | rfl | rfl | rfl | rfl | rfl
 ·unfold mBody
  rw [if_pos rfl]
  exact (cod_small.pr (cod_small.pr (cod_num.pr (cod_num.pr cod_num)))).fm _ bdB _ (fun m => (m.f1, m.f2, m.f3, m.f4, m.f5))
   (fun m ⟨h0, hg⟩ => by
    obtain ⟨i3, i4, i5, i6⟩ := hg.t
    have hy := hg.y
    refine ⟨⟨hy.f1, hy.f2, i3, i4, i5⟩, ?_⟩
    have hb := hg.b
    unfold bareM at hb
    simp only [h0] at hb
    simpa using hb)
   (fun x => by simp [bdB, tailB, numsB, List.append_assoc])
 ·unfold mBody
  rw [if_neg (by decide), if_pos rfl]
  exact (cod_small.pr (cod_small.pr (cod_num.pr cod_yes))).fm _ bdB _ (fun m => (m.f1, m.f2, m.f3, m.f7))
   (fun m ⟨h0, hg⟩ => by
    obtain ⟨i3, i4, i5, i6⟩ := hg.t
    have hy := hg.y
    refine ⟨⟨hy.f1, hy.f2, i3, trivial⟩, ?_⟩
    have hb := hg.b
    unfold bareM at hb
    simp only [h0] at hb
    simpa using hb)
   (fun x => by simp [bdB, tailB, numsB, List.append_assoc])
 ·unfold mBody
  rw [if_neg (by decide), if_neg (by decide), if_pos rfl]
  exact (cod_small.pr (cod_small.pr (cod_num.pr (cod_num.pr (cod_num.pr (cod_num.pr (cod_list cod_tr))))))).fm _ bdB _ (fun m => (m.f1, m.f2, m.f3, m.f4, m.f5, m.f6, m.f8))
   (fun m ⟨h0, hg⟩ => by
    obtain ⟨i3, i4, i5, i6⟩ := hg.t
    have hy := hg.y
    refine ⟨⟨hy.f1, hy.f2, i3, i4, i5, i6, hy.n, fun x hx => ⟨(hg.o.l x hx).1, (hg.o.l x hx).2, mayTr_e (hy.l x hx)⟩⟩, ?_⟩
    have hb := hg.b
    unfold bareM at hb
    simp only [h0] at hb
    simpa using hb)
   (fun x => by simp [bdB, tailB, numsB, List.append_assoc])
 ·unfold mBody
  rw [if_neg (by decide), if_neg (by decide), if_neg (by decide), if_pos rfl]
  exact (cod_small.pr (cod_small.pr (cod_num.pr (cod_yes.pr cod_num)))).fm _ bdB _ (fun m => (m.f1, m.f2, m.f3, m.f7, m.f4))
   (fun m ⟨h0, hg⟩ => by
    obtain ⟨i3, i4, i5, i6⟩ := hg.t
    have hy := hg.y
    refine ⟨⟨hy.f1, hy.f2, i3, trivial, i4⟩, ?_⟩
    have hb := hg.b
    unfold bareM at hb
    simp only [h0] at hb
    simpa using hb)
   (fun x => by simp [bdB, tailB, numsB, List.append_assoc])
 ·unfold mBody
  rw [if_neg (by decide), if_neg (by decide), if_neg (by decide), if_neg (by decide), if_pos rfl]
  exact (cod_small.pr (cod_small.pr (cod_num.pr (cod_num.pr (cod_num.pr cod_part))))).fm _ bdB _ (fun m => (m.f1, m.f2, m.f3, m.f4, m.f5, m.f10))
   (fun m ⟨h0, hg⟩ => by
    obtain ⟨i3, i4, i5, i6⟩ := hg.t
    have hy := hg.y
    have hp := hy.p h0
    unfold mayPt at hp
    simp only [Bool.and_eq_true, decide_eq_true_eq] at hp
    obtain ⟨p0, p2, p1, p3⟩ := hp
    unfold inB at p2 p1
    simp at p2 p1
    refine ⟨⟨hy.f1, hy.f2, i3, i4, i5, (okI_cons.1 hg.o.p).1, ?_, ?_, ?_⟩, ?_⟩
    ·unfold sm32; show _ ≤ m.f10.f1 ∧ m.f10.f1 ≤ _; omega
    ·unfold sm32; show _ ≤ m.f10.f2 ∧ m.f10.f2 ≤ _; omega
    ·show m.f10.f3.length ≤ 1000000; omega
    have hb := hg.b
    unfold bareM at hb
    simp only [h0] at hb
    simpa using hb)
   (fun x => by simp [bdB, tailB, ptB, numsB, List.append_assoc])
 ·unfold mBody
  rw [if_neg (by decide), if_neg (by decide), if_neg (by decide), if_neg (by decide), if_neg (by decide), if_pos rfl]
  exact (cod_small.pr (cod_small.pr cod_entry)).fm _ bdB _ (fun m => (m.f1, m.f2, m.f9.f0, m.f9.f1, m.f9.f2, m.f9.f3))
   (fun m ⟨h0, hg⟩ => by
    have hy := hg.y
    refine ⟨⟨hy.f1, hy.f2, hg.o.e, hy.t h0⟩, ?_⟩
    have hb := hg.b
    unfold bareM at hb
    simp only [h0] at hb
    simpa using hb)
   (fun x => by simp [bdB, tailB, enB, numsB, List.append_assoc])
theorem msgB_split (m : MsgD) (r : List Int) : msgB m ++ r = numB m.f0 ++ (bdB m ++ r) := by simp [msgB, bdB, numsB, List.append_assoc]
theorem msg_fw {m : MsgD} (hg : GoodM m) (r : List Int) (o : Bool) : eMsg ⟨msgB m ++ r, 0, o⟩ = (m, ⟨r, 0, o⟩) := by
 have h0 : isI64 m.f0 := (okI_cons.1 hg.o.h).1
 rw [msgB_split]
 have hn := cod_num.fw m.f0 (bdB m ++ r) o h0
 have hk : eMk ⟨numB m.f0 ++ (bdB m ++ r), 0, o⟩ = ⟨bdB m ++ r, 0, o⟩ := by
  unfold eMk eWrong
  rw [hn]
  dsimp only
  rw [if_neg (fun c => by have := c.2; rw [notKind_is, hg.y.k] at this; cases this)]
 unfold eMsg
 rw [hk, if_neg (by simp), hn]
 exact (cod_mbody m.f0 hg.y.k).fw m r o ⟨rfl, hg⟩
theorem takeMs_fw {m : MsgD} (ho : OkM m) (hd : okB m.f10.f3 = true) (hm : mayMs m = true) : takeMs (msgB m) = (m, 0) := by
 have h := msg_fw ⟨bare_eq hd hm, ho, mayM_of hm⟩ [] false
 rw [List.append_nil] at h
 unfold takeMs wholeOf
 rw [h]
 dsimp only
 rw [hm]
 exact if_pos (by unfold eEnds; simp)
theorem unm_fw {m : MsgD} (ho : OkM m) (hd : okB m.f10.f3 = true) (hm : mayMs m = true) (hl : (msgB m).length ≤ 1048576) : unm (sealedB (msgB m)) = (m, 0) := by
 have h := seal_back (d := msgB m) [] hl
 rw [List.append_nil] at h
 unfold unm
 rw [h]
 dsimp only
 rw [if_neg (fun c => c rfl), if_neg (by omega), takeMs_fw ho hd hm]
end Go.Proofs.YtgiefblcckikeaaGreat.M
end

section
/- record.Marshal. -/
attribute [local irreducible] Go.wpStill
namespace Go.Proofs.YtgiefblcckikeaaGreat.M
open Go.RowKit Go.Proofs.YtgiefblcckikeaaGreatW.PrintWords Go.Proofs.YtgiefblcckikeaaGreatW.PrintLast Go.Proofs.YtgiefblcckikeaaGreatW.PrintMore Go.Proofs.YtgiefblcckikeaaGreat.G
def SealC (S : List Int → List Int) : Prop := ∀ (ok : Nat → Prop) (A : Option Addr) (c : Nat) (l : List Int) (w : World), Kd.V (Kd.int .u8) 5 w w.heap.size ok (.slice A l.length c) l → l.length ≤ 1048576 → Calls Tryz.prog 51 #[.slice A l.length c] w fun e w' => BytesP w (S l) 0 e w'
set_option maxHeartbeats 4000000 in
theorem mar_is {w : World} (m : MsgD) {A8 A12 A16 : Option Addr} {c8 c12 c16 : Nat} (hm : MsgC w m A8 c8 A12 c12 A16 c16) (ho : OkM m) (S : List Int → List Int) (hS : SealC S) :
  Calls Tryz.prog 20 #[.agg #[.int .i64 m.f0, .int .i64 m.f1, .int .i64 m.f2, .int .i64 m.f3, .int .i64 m.f4, .int .i64 m.f5, .int .i64 m.f6, .bool m.f7, .slice A8 m.f8.length c8, .int .i64 m.f9.f0, .int .i64 m.f9.f1, .int .i64 m.f9.f2, .slice A12 m.f9.f3.length c12, .int .i64 m.f10.f0, .int .i64 m.f10.f1, .int .i64 m.f10.f2, .slice A16 m.f10.f3.length c16]] w fun e w' => BytesP w (marF S m).1 (marF S m).2 e w' := by
 have hb := (Below.refl _ w).alloc (Nat.le_refl _) (.cells #[.int .i64 m.f0, .int .i64 m.f1, .int .i64 m.f2, .int .i64 m.f3, .int .i64 m.f4, .int .i64 m.f5, .int .i64 m.f6, .bool m.f7, .slice A8 m.f8.length c8, .int .i64 m.f9.f0, .int .i64 m.f9.f1, .int .i64 m.f9.f2, .slice A12 m.f9.f3.length c12, .int .i64 m.f10.f0, .int .i64 m.f10.f1, .int .i64 m.f10.f2, .slice A16 m.f10.f3.length c16] 34)
 have HB0 := Lib.hid hb; have HX0 := Lib.hid (show MsBox (w.alloc (.cells #[.int .i64 m.f0, .int .i64 m.f1, .int .i64 m.f2, .int .i64 m.f3, .int .i64 m.f4, .int .i64 m.f5, .int .i64 m.f6, .bool m.f7, .slice A8 m.f8.length c8, .int .i64 m.f9.f0, .int .i64 m.f9.f1, .int .i64 m.f9.f2, .slice A12 m.f9.f3.length c12, .int .i64 m.f10.f0, .int .i64 m.f10.f1, .int .i64 m.f10.f2, .slice A16 m.f10.f3.length c16] 34)) w.heap.size m A8 c8 A12 c12 A16 c16 from heap_alloc_new w _); have HM0 := Lib.hid (hm.below hb); have HM := Lib.hid hm; have HO := Lib.hid ho; have HS := Lib.hid hS
 have hi2 := ho.p
 simp only [okI_cons] at hi2
 have HI2 := Lib.hid hi2.2.2.1
 clear hm hb ho hS hi2
 go_enter Tryz.func20, Tryz.ntmps20
 go_upto_region 1 with fail
 obtain ⟨v0, hw⟩ : ∃ v, w.alloc (.cells #[.int .i64 m.f0, .int .i64 m.f1, .int .i64 m.f2, .int .i64 m.f3, .int .i64 m.f4, .int .i64 m.f5, .int .i64 m.f6, .bool m.f7, .slice A8 m.f8.length c8, .int .i64 m.f9.f0, .int .i64 m.f9.f1, .int .i64 m.f9.f2, .slice A12 m.f9.f3.length c12, .int .i64 m.f10.f0, .int .i64 m.f10.f1, .int .i64 m.f10.f2, .slice A16 m.f10.f3.length c16] 34) = v := ⟨_, rfl⟩
 obtain ⟨g, hg⟩ : ∃ g, w.heap.size = g := ⟨_, rfl⟩
 have HG := Lib.hid hg
 rw [hw] at HB0 HX0 HM0 ⊢
 rw [hg] at HX0 ⊢
 clear hw hg
 refine wp_region_list ?_
 refine wpList_load_row rfl 34 (.tmp 1) rfl g rfl 34 #[.int .i64 m.f0, .int .i64 m.f1, .int .i64 m.f2, .int .i64 m.f3, .int .i64 m.f4, .int .i64 m.f5, .int .i64 m.f6, .bool m.f7, .slice A8 m.f8.length c8, .int .i64 m.f9.f0, .int .i64 m.f9.f1, .int .i64 m.f9.f2, .slice A12 m.f9.f3.length c12, .int .i64 m.f10.f0, .int .i64 m.f10.f1, .int .i64 m.f10.f2, .slice A16 m.f10.f3.length c16] (0, 0) _ HX0.out Tryz.underlying34 rfl (by kernel_rfl) ?_
 go_wp2_with fail
 refine (msg_is m HM0.out HI2.out).mono ?_
 rintro e v1 ⟨rfl, hb⟩
 have HB1 := Lib.hid (HB0.out.trans (hb.mono HB0.out.size)); have HX1 := Lib.hid (HX0.out.below hb)
 clear hb
 cases hy : mayMs m with
 | false =>
  have HF := Lib.hid (show marF S m = ([], 40) by unfold marF; rw [if_neg (by rw [hy]; simp)])
  clear hy
  go_wp2_with fail
  go_ret2
  refine ⟨.slice none 0 0, by rw [HF.out]; rfl, by rw [HF.out]; exact Kd.R_nil _ _ _ _ _, HB1.out⟩
 | true =>
  have HY := Lib.hid hy
  have HF := Lib.hid (show marF S m = (if 1048576 < (msgB m).length then ([], 3) else (S (msgB m), 0)) by unfold marF; rw [if_pos hy])
  clear hy
  go_wp2_with fail
  refine (newPen_is none 0 [] v1 (Kd.C_nil _ _) (by simp) (by simp)).mono ?_
  rintro e v2 ⟨p, rfl, hI, hb⟩
  have HB2 := Lib.hid (HB1.out.trans (hb.mono HB1.out.size)); have HX2 := Lib.hid (HX1.out.below hb)
  have HI2 := Lib.hid (show IsPen v2 w.heap.size p [] by
   obtain ⟨A', c', h1, h2, h3, h4⟩ := hI
   have hz := HB1.out.size
   exact ⟨A', c', h1, by omega, h3, Kd.R_lower h4 hz⟩)
  clear hI hb
  go_upto_region 4 with fail
  refine wp_region_list ?_
  refine wpList_cut 1 ?_
  simp only [List.take_succ_cons, List.take_zero, List.drop_succ_cons, List.drop_zero]
  go_wp2_with fail
  refine Halt.mk ?_
  refine wpList_load_row rfl 34 (.tmp 1) rfl g rfl 34 #[.int .i64 m.f0, .int .i64 m.f1, .int .i64 m.f2, .int .i64 m.f3, .int .i64 m.f4, .int .i64 m.f5, .int .i64 m.f6, .bool m.f7, .slice A8 m.f8.length c8, .int .i64 m.f9.f0, .int .i64 m.f9.f1, .int .i64 m.f9.f2, .slice A12 m.f9.f3.length c12, .int .i64 m.f10.f0, .int .i64 m.f10.f1, .int .i64 m.f10.f2, .slice A16 m.f10.f3.length c16] (0, 0) _ HX2.out Tryz.underlying34 rfl (by kernel_rfl) ?_
  go_wp2_with fail
  refine (penMsg_is HI2.out HB2.out HI2.out.ge m HM.out HO.out HY.out (by simp)).mono ?_
  rintro e v3 ⟨rfl, h1, h2, h3⟩
  have HB3 := Lib.hid h2
  obtain ⟨A', c', hh, _, hc', hR⟩ := h1
  have HRR := Lib.hid hR
  rw [List.nil_append] at hh HRR
  obtain ⟨bs, hbs⟩ : ∃ bs, msgB m = bs := ⟨_, rfl⟩
  rw [hbs] at hh HRR HF
  have p0 : v3.cell? ⟨p, 0, none⟩ = some (.slice A' bs.length c') := by simp [World.cell?, hh]
  clear h2 h3 hh hc' hR hbs
  go_wp2_with fail
  refine (fits_is HB3.out HRR.out).mono ?_
  by_cases hlen : 1048576 < bs.length
  ·have HFF := Lib.hid (show marF S m = ([], 3) by rw [HF.out, if_pos hlen])
   rw [if_pos hlen, if_pos hlen]
   rintro e v4 ⟨v, rfl, hv, hb⟩
   have HB4 := Lib.hid hb
   obtain ⟨Av, cv, rfl⟩ := Kd.R_slice hv
   clear hv hb hlen
   go_wp2_with fail
   go_ret2
   exact ⟨.slice none 0 0, by rw [HFF.out]; rfl, by rw [HFF.out]; exact Kd.R_nil _ _ _ _ _, HB4.out⟩
  ·have HFF := Lib.hid (show marF S m = (S bs, 0) by rw [HF.out, if_neg hlen])
   rw [if_neg hlen, if_neg hlen]
   rintro e v4 ⟨v, rfl, hv, hb⟩
   have HB4 := Lib.hid hb
   obtain ⟨Av, cv, rfl⟩ := Kd.R_slice hv
   have HV := Lib.hid (Kd.R_reads' hv)
   have HSC := Lib.hid (HS.out _ Av cv bs v4 (Kd.R_V hv) (by omega))
   clear hv hb hlen
   go_wp2_with fail
   refine HSC.out.mono ?_
   rintro e v5 ⟨v, rfl, hv, hb⟩
   have HB5 := Lib.hid (HB4.out.trans (hb.mono HB4.out.size))
   have HR := Lib.hid (Kd.R_lower hv HB4.out.size)
   obtain ⟨Aw, cw, rfl⟩ := Kd.R_slice hv
   clear hb hv
   go_wp2_with fail
   go_ret2
   exact ⟨.slice Aw (S bs).length cw, by rw [HFF.out]; rfl, by rw [HFF.out]; exact HR.out, HB5.out⟩
end Go.Proofs.YtgiefblcckikeaaGreat.M
end

section
-- Written by a program of this session's (wip/gprint.py over the kit's printer).
namespace Go.Proofs.YtgiefblcckikeaaGreat.G
open Go.RowKit Go.Proofs.YtgiefblcckikeaaGreatW.PrintWords Go.Proofs.YtgiefblcckikeaaGreatW.PrintLast Go.Proofs.YtgiefblcckikeaaGreatW.PrintMore
attribute [local go_sem] max2_int min2_int max_two min_two max_three min_three max_four min_four   -- for this text's walks alone
def trivetlaw04_simple.f  : Option (Int × Int × Int × (List (S26)) × List Int) := some (1, 2, 5, (([(⟨1, 3, ([] : List Int), ([] : List Int), ([] : List (S101)), ([] : List (S101))⟩ : S26)] : List (S26))), (([2, 1, 2, 2, 2, 5, 2, 1, 2, 1, 2, 3, 0, 0, 0, 0] : List Int)))
set_option maxHeartbeats 8000000 in
set_option maxRecDepth 100000 in
theorem trivetlaw04_simple.calls  (r1 : Int) (r2 : Int) (r3 : Int) (r4 : List (S26)) (r5 : List Int) (w : World) (h : trivetlaw04_simple.f  = some (r1, r2, r3, r4, r5)) :
  Calls Tryz.prog 37 #[] w fun e w' => ∃ v3_ v4_ : Value, e = .returned (.tuple #[.agg #[.int .i64 r1, .int .i64 r2, .int .i64 r3, v3_], v4_]) ∧ Kd.S k26 26 w' w.heap.size (fun k_ => some k_ ≠ (v4_ : Value).ownBlock) v3_ r4 ∧ Kd.R (Kd.int .u8) 5 w' w.heap.size (fun _ => True) v4_ r5 ∧ Below w.heap.size w w' := by
 have hu29 := Tryz.underlying29
 have hu26 := Tryz.underlying26
 have HB := Aside0.mk (Below.refl w.heap.size w)
 have H : (some (1, 2, 5, (([(⟨1, 3, ([] : List Int), ([] : List Int), ([] : List (S101)), ([] : List (S101))⟩ : S26)] : List (S26))), (([2, 1, 2, 2, 2, 5, 2, 1, 2, 1, 2, 3, 0, 0, 0, 0] : List Int)))) = some (r1, r2, r3, r4, r5) := h
 clear h
 obtain ⟨y153, hy153⟩ : ∃ y_ : List (S26), y_ = (([(⟨1, 3, ([] : List Int), ([] : List Int), ([] : List (S101)), ([] : List (S101))⟩ : S26)] : List (S26))) := ⟨_, rfl⟩
 replace H : (some (1, 2, 5, y153, (([2, 1, 2, 2, 2, 5, 2, 1, 2, 1, 2, 3, 0, 0, 0, 0] : List Int)))) = some (r1, r2, r3, r4, r5) := by first | (rw [hy153]; with_reducible exact H) | (have H2_ := (Option.bind_some _ _).symm.trans H; rw [hy153]; with_reducible exact H2_) | (have H2_ := (Option.bind_some _ _).symm.trans H; with_reducible exact H2_) | with_reducible exact H | (rw [hy153]; exact H) | exact H
 have Ny153 := Aside0.mk hy153
 clear hy153
 obtain ⟨y156, hy156⟩ : ∃ y_ : List Int, y_ = (([2, 1, 2, 2, 2, 5, 2, 1, 2, 1, 2, 3, 0, 0, 0, 0] : List Int)) := ⟨_, rfl⟩
 replace H : (some (1, 2, 5, y153, y156)) = some (r1, r2, r3, r4, r5) := by first | (rw [hy156]; with_reducible exact H) | (have H2_ := (Option.bind_some _ _).symm.trans H; rw [hy156]; with_reducible exact H2_) | (have H2_ := (Option.bind_some _ _).symm.trans H; with_reducible exact H2_) | with_reducible exact H | (rw [hy156]; exact H) | exact H
 have Ny156 := Aside0.mk hy156
 clear hy156
 simp only [Option.some.injEq, Prod.mk.injEq] at H
 obtain ⟨rfl, rfl, rfl, rfl, rfl⟩ := H
 go_enter Tryz.func37, Tryz.ntmps37
 go_wp2_with (first | ((with_reducible refine gate_dst (N := 0) rfl ?_); refine box_event ?hg (N := 0) ?hd (cs := #[.int .i64 0, .int .i64 0, .int .i64 0, .slice none 0 0]) (t := 29) ?hr ?_; (case hd => rfl); (case hg => rfl); (case hr => first | (go_simp; done) | (go_simp; rfl)); intro gb152 hg w1 hbox hb; have n0_ := Aside0.mk (below_step (stB HB.out) hb); have n1_ := Aside0.mk (hbox); have n2_ := Aside0.mk ((by rw [hg]; exact (below_size (stB HB.out)) : w.heap.size ≤ gb152)); have n3_ := Aside0.mk ((by rw [hg]; exact (below_size (stB HB.out)) : w.heap.size ≤ gb152)); clear HB; have HB := n0_; have BK152 := n1_; have GW152 := n2_; have GE152 := n3_; clear n0_ n1_ n2_ n3_; clear hb hbox hg) | ((with_reducible refine gate_dst (N := 3) rfl ?_); refine Kd.S_lit k26 _ 26 ?hg (N := 3) ?hd (xs := ([(⟨1, 3, ([] : List Int), ([] : List Int), ([] : List (S101)), ([] : List (S101))⟩ : S26)] : List (S26))) (inner := [.int .i64 1, .int .i64 3, .slice none 0 0, .slice none 0 0, .slice none 0 0, .slice none 0 0]) (ok := fun _ => True) (okp := fun _ => True) ?hr ?hp (fun _ hk => hk) trivial (Below.refl _ _) (Nat.le_refl _) (by simp) ?_; (case hd => rfl); (case hg => rfl); (case hr => first | (go_simp; done) | (go_simp; rfl)); (case hp => exact (Reps.c6 (show Kd.M k26 _ _ _ (⟨1, 3, ([] : List Int), ([] : List Int), ([] : List (S101)), ([] : List (S101))⟩ : S26) [.int .i64 1, .int .i64 3, .slice none 0 0, .slice none 0 0, .slice none 0 0, .slice none 0 0] from (k26_mkM _ _ _ (⟨1, 3, ([] : List Int), ([] : List Int), ([] : List (S101)), ([] : List (S101))⟩ : S26) (Kd.R_nil _ _ _ _ _) (Kd.R_nil _ _ _ _ _) (Kd.R_nil _ _ _ _ _) (Kd.R_nil _ _ _ _ _))) (Reps.none _ _))); intro v154 w2 ho3 hb hg_ hnew_; clear hg_ hnew_; (first | rw [← Ny153.out] at ho3 | (simp only [Int.reduceToNat] at ho3; rw [← Ny153.out] at ho3)); have n0_ := Aside0.mk (Kd.S_lower ho3 (below_size (by repeat (first | (with_reducible first | exact HB.out | apply below_alloc | apply pw_below_drewN | apply below_drew1 | refine below_set ?_ GE152.out) | exact HB.out)))); have n1_ := Aside0.mk (blk_below (g := gb152) (o := .cells #[.int .i64 0, .int .i64 0, .int .i64 0, .slice none 0 0] 29 (0, 0)) (stK BK152.out) hb); have n2_ := Aside0.mk (below_step (by repeat (first | (with_reducible first | exact HB.out | apply below_alloc | apply pw_below_drewN | apply below_drew1 | refine below_set ?_ GE152.out) | exact HB.out)) hb); clear BK152; clear HB; have HO155 := n0_; have BK152 := n1_; have HB := n2_; clear n0_ n1_ n2_; clear hb ho3; obtain ⟨Ao4, co4, eo4⟩ := Kd.S_slice HO155.out; subst eo4) | ((with_reducible refine gate_dst (N := 5) rfl ?_); refine Kd.R_lit (Kd.int .u8) _ 5 ?hg (N := 5) ?hd (xs := ([2, 1, 2, 2, 2, 5, 2, 1, 2, 1, 2, 3, 0, 0, 0, 0] : List Int)) (inner := [.int .u8 2, .int .u8 1, .int .u8 2, .int .u8 2, .int .u8 2, .int .u8 5, .int .u8 2, .int .u8 1, .int .u8 2, .int .u8 1, .int .u8 2, .int .u8 3, .int .u8 0, .int .u8 0, .int .u8 0, .int .u8 0]) (ok := fun _ => True) (okp := fun _ => True) ?hr ?hp (fun _ hk => hk) trivial (Below.refl _ _) (Nat.le_refl _) (by simp) ?_; (case hd => rfl); (case hg => rfl); (case hr => first | (go_simp; done) | (go_simp; rfl)); (case hp => exact (Reps.one (show Kd.M (Kd.int .u8) _ _ _ 2 [.int .u8 2] from rfl) (Reps.one (show Kd.M (Kd.int .u8) _ _ _ 1 [.int .u8 1] from rfl) (Reps.one (show Kd.M (Kd.int .u8) _ _ _ 2 [.int .u8 2] from rfl) (Reps.one (show Kd.M (Kd.int .u8) _ _ _ 2 [.int .u8 2] from rfl) (Reps.one (show Kd.M (Kd.int .u8) _ _ _ 2 [.int .u8 2] from rfl) (Reps.one (show Kd.M (Kd.int .u8) _ _ _ 5 [.int .u8 5] from rfl) (Reps.one (show Kd.M (Kd.int .u8) _ _ _ 2 [.int .u8 2] from rfl) (Reps.one (show Kd.M (Kd.int .u8) _ _ _ 1 [.int .u8 1] from rfl) (Reps.one (show Kd.M (Kd.int .u8) _ _ _ 2 [.int .u8 2] from rfl) (Reps.one (show Kd.M (Kd.int .u8) _ _ _ 1 [.int .u8 1] from rfl) (Reps.one (show Kd.M (Kd.int .u8) _ _ _ 2 [.int .u8 2] from rfl) (Reps.one (show Kd.M (Kd.int .u8) _ _ _ 3 [.int .u8 3] from rfl) (Reps.one (show Kd.M (Kd.int .u8) _ _ _ 0 [.int .u8 0] from rfl) (Reps.one (show Kd.M (Kd.int .u8) _ _ _ 0 [.int .u8 0] from rfl) (Reps.one (show Kd.M (Kd.int .u8) _ _ _ 0 [.int .u8 0] from rfl) (Reps.one (show Kd.M (Kd.int .u8) _ _ _ 0 [.int .u8 0] from rfl) (Reps.none _ _)))))))))))))))))); intro v157 w5 ho6 hb hg_ hnew_; clear hg_ hnew_; (first | rw [← Ny156.out] at ho6 | (simp only [Int.reduceToNat] at ho6; rw [← Ny156.out] at ho6)); have n0_ := Aside0.mk (Kd.S_elder' (stS HO155.out) (Kd.R_base ho6) hb); have n1_ := Aside0.mk (Kd.R_lower ho6 (below_size (by repeat (first | (with_reducible first | exact HB.out | apply below_alloc | apply pw_below_drewN | apply below_drew1 | refine below_set ?_ GE152.out) | exact HB.out)))); have n2_ := Aside0.mk (blk_below (g := gb152) (o := .cells #[.int .i64 0, .int .i64 0, .int .i64 0, .slice none 0 0] 29 (0, 0)) (stK BK152.out) hb); have n3_ := Aside0.mk (below_step (by repeat (first | (with_reducible first | exact HB.out | apply below_alloc | apply pw_below_drewN | apply below_drew1 | refine below_set ?_ GE152.out) | exact HB.out)) hb); clear HO155; clear BK152; clear HB; have HO155 := n0_; have HO158 := n1_; have BK152 := n2_; have HB := n3_; clear n0_ n1_ n2_ n3_; clear hb ho6; obtain ⟨hcz7_0, hcz7_1, hcz7_2, hcz7_3⟩ := bc4 BK152.out; obtain ⟨hfz7_0, hfz7_1, hfz7_2, hfz7_3⟩ := bf4 BK152.out))
 refine bodyPost_ret (results_ct rfl _ _ gb152 29 #[.int .i64 1, .int .i64 2, .int .i64 5, .slice Ao4 y153.length co4] (0, 0) _ rfl (by (with_reducible repeat (first | refine blk_drewN ?_ _ | refine blk_drew ?_ | refine blk_alloc ?_ _)); refine blk_put (cs := #[.int .i64 1, .int .i64 2, .int .i64 5, .slice none 0 0]) ?_ 3 _ rfl; (with_reducible repeat (first | refine blk_drewN ?_ _ | refine blk_drew ?_ | refine blk_alloc ?_ _)); refine blk_put (cs := #[.int .i64 1, .int .i64 2, .int .i64 0, .slice none 0 0]) ?_ 2 _ rfl; (with_reducible repeat (first | refine blk_drewN ?_ _ | refine blk_drew ?_ | refine blk_alloc ?_ _)); refine blk_put (cs := #[.int .i64 1, .int .i64 0, .int .i64 0, .slice none 0 0]) ?_ 1 _ rfl; (with_reducible repeat (first | refine blk_drewN ?_ _ | refine blk_drew ?_ | refine blk_alloc ?_ _)); refine blk_put (cs := #[.int .i64 0, .int .i64 0, .int .i64 0, .slice none 0 0]) ?_ 0 _ rfl; (with_reducible repeat (first | refine blk_drewN ?_ _ | refine blk_drew ?_ | refine blk_alloc ?_ _)); exact BK152.out) Tryz.underlying29 rfl (by kernel_rfl)) rfl ?_
 exact ⟨_, _, by first | rfl | (simp [errW_none, errW_some] <;> rfl) | (simp [*, errW_none, errW_some] <;> rfl), by (with_reducible repeat (first|apply Kd.S_alloc | apply Kd.S_drewN | apply Kd.S_drew)); exact Kd.S_mono (Kd.S_far (p := ⟨gb152, 3, none⟩) (Kd.S_far (p := ⟨gb152, 2, none⟩) (Kd.S_far (p := ⟨gb152, 1, none⟩) (Kd.S_far (p := ⟨gb152, 0, none⟩) (Kd.S_types HO155.out BK152.out (by decide)) (fun _ hk => hk.2) (.int .i64 1)) (fun _ hk => hk.2) (.int .i64 2)) (fun _ hk => hk.2) (.int .i64 5)) (fun _ hk => hk.2) (.slice Ao4 y153.length co4)) (fun _ hk => hk.1.2), by (with_reducible repeat (first|apply Kd.R_alloc | apply Kd.R_drewN | apply Kd.R_drew)); exact Kd.R_mono (Kd.R_far (p := ⟨gb152, 3, none⟩) (Kd.R_far (p := ⟨gb152, 2, none⟩) (Kd.R_far (p := ⟨gb152, 1, none⟩) (Kd.R_far (p := ⟨gb152, 0, none⟩) (Kd.R_types HO158.out BK152.out (by decide)) (fun _ hk => hk.2) (.int .i64 1)) (fun _ hk => hk.2) (.int .i64 2)) (fun _ hk => hk.2) (.int .i64 5)) (fun _ hk => hk.2) (.slice Ao4 y153.length co4)) (fun _ hk => trivial), by repeat (first | (with_reducible first | exact HB.out | apply below_alloc | apply pw_below_drewN | apply below_drew1 | refine below_set ?_ GE152.out) | exact HB.out)⟩
end Go.Proofs.YtgiefblcckikeaaGreat.G
end

section
/- law04's begun returns true (by hand: the printed walk is long). -/
attribute [local irreducible] Go.wpStill
namespace Go.Proofs.YtgiefblcckikeaaGreat.M
open Go.RowKit Go.Proofs.YtgiefblcckikeaaGreatW.PrintWords Go.Proofs.YtgiefblcckikeaaGreatW.PrintLast Go.Proofs.YtgiefblcckikeaaGreatW.PrintMore Go.Proofs.YtgiefblcckikeaaGreat.G
abbrev bgT : List TxD := [(⟨1, 3, [], [], [], []⟩ : TxD)]
abbrev bgB : List Int := [2, 1, 2, 2, 2, 5, 2, 1, 2, 1, 2, 3, 0, 0, 0, 0]
theorem bg_entF : entF 1 2 5 bgT = (bgB, 0) := by decide +kernel
theorem bg_take : takeEn bgB = ((1, 2, 5, bgT), 0) := by kernel_rfl
theorem bg_same : ∃ k, G.trivetref04_SameEntry.f k 1 2 5 bgT 1 2 5 bgT = some true := by
 refine ⟨20, ?_⟩
 rw [sameEn_r 20 1 2 5 bgT 1 2 5 bgT (fun t ht => by rw [List.mem_singleton.1 ht]; decide) (by decide) (by decide) (fun t ht => by rw [List.mem_singleton.1 ht]; exact ⟨by decide, by decide, by decide, by decide⟩)]
 have : eqEn 1 2 5 bgT 1 2 5 bgT = true := by kernel_rfl
 rw [this]
set_option maxHeartbeats 1000000 in
theorem begun_is (w : World) : Calls Tryz.prog 9 #[] w fun e w' => e = .returned (.bool true) ∧ Below w.heap.size w w' := by
 go_enter Tryz.func9, Tryz.ntmps9
 go_wp2_with fail
 refine (G.trivetlaw04_simple.calls 1 2 5 bgT bgB w rfl).mono ?_
 rintro e w1 ⟨v3, v4, rfl, hs, hr, hb⟩
 obtain ⟨A, c, rfl, hc, hC⟩ := Kd.S_reads hs
 obtain ⟨B, d, rfl⟩ := Kd.R_slice hr
 obtain ⟨-, hd, hD⟩ := Kd.R_reads' hr
 obtain ⟨l, hl⟩ : ∃ l, bgT = l := ⟨_, rfl⟩
 obtain ⟨bs, hbs⟩ : ∃ bs, bgB = bs := ⟨_, rfl⟩
 have hEF := bg_entF; have hTK := bg_take; obtain ⟨K, hSM⟩ := bg_same
 have ho : okE 1 2 5 bgT = true := by kernel_rfl
 have hok : okB bgB = true := by decide
 have hbl : bgB.length < 140737488355328 := by decide
 rw [hl, hbs] at hEF hTK
 rw [hl] at hSM ho hc hC
 rw [hbs] at hok hbl hd hD
 rw [show (bgT).length = l.length by rw [hl], show (bgB).length = bs.length by rw [hbs]]
 have HC := Lib.hid hC; have HD := Lib.hid hD; have HB := Lib.hid hb; have HCC := Lib.hid (And.intro hc hd)
 have HEF := Lib.hid hEF; have HTK := Lib.hid hTK; have HSM := Lib.hid hSM; have HO := Lib.hid (And.intro ho (And.intro hok hbl))
 clear hs hr hb hC hD hc hd hl hbs hEF hTK hSM ho hok hbl
 go_wp2_with fail
 have hbx := heap_alloc_new w1 (.cells #[.int .i64 1, .int .i64 2, .int .i64 5, .slice A l.length c] 29)
 have hay := (Below.refl _ w1).alloc (Nat.le_refl _) (.cells #[.int .i64 1, .int .i64 2, .int .i64 5, .slice A l.length c] 29)
 have hz : (w1.alloc (.cells #[.int .i64 1, .int .i64 2, .int .i64 5, .slice A l.length c] 29)).heap.size = w1.heap.size + 1 := by simp
 obtain ⟨w2, hw2⟩ : ∃ w2, w1.alloc (.cells #[.int .i64 1, .int .i64 2, .int .i64 5, .slice A l.length c] 29) = w2 := ⟨_, rfl⟩
 rw [hw2] at hbx hay hz ⊢
 obtain ⟨g, hg⟩ : ∃ g, w1.heap.size = g := ⟨_, rfl⟩
 have HC2 := Lib.hid (Kd.C_below HC.out hay); have HD2 := Lib.hid (Kd.C_below HD.out hay); have HB2 := Lib.hid (HB.out.trans (hay.mono HB.out.size))
 rw [hg] at hbx hz ⊢
 have HX2 := Lib.hid (And.intro hbx (show g < w2.heap.size by omega))
 clear hw2 hbx hay hz hg HC HD HB
 have a0 : w2.cell? ⟨g, 0, none⟩ = some (.int .i64 1) := by simp [World.cell?, HX2.out.1]
 have a1 : w2.cell? ⟨g, 1, none⟩ = some (.int .i64 2) := by simp [World.cell?, HX2.out.1]
 have a2 : w2.cell? ⟨g, 2, none⟩ = some (.int .i64 5) := by simp [World.cell?, HX2.out.1]
 have a3 : w2.cell? ⟨g, 3, none⟩ = some (.slice A l.length c) := by simp [World.cell?, HX2.out.1]
 go_wp2_with fail
 refine (entry_is 1 2 5 A c l w2 HC2.out HO.out.1).mono ?_
 rw [HEF.out]
 rintro e w3 ⟨v, rfl, hv, hb⟩
 obtain ⟨V, cv, rfl⟩ := Kd.R_slice hv
 obtain ⟨-, hvl, hV⟩ := Kd.R_reads' hv
 have HV := Lib.hid (show Kd.C (Kd.int .u8) w3 V bs.length bs from hV); have HVL := Lib.hid (show bs.length ≤ cv from hvl)
 have HC3 := Lib.hid (Kd.C_below HC2.out hb); have HD3 := Lib.hid (Kd.C_below HD2.out hb); have HB3 := Lib.hid (HB2.out.trans (hb.mono HB2.out.size))
 have HX3 := Lib.hid (And.intro ((hb.block g HX2.out.2).trans HX2.out.1) (Nat.lt_of_lt_of_le HX2.out.2 hb.size))
 clear hv hvl hV hb a0 a1 a2 a3 HC2 HD2 HB2 HX2
 go_wp2_with fail
 refine (takeEn_is B d bs w3 HD3.out HCC.out.2 HO.out.2.1 HO.out.2.2).mono ?_
 rw [HTK.out]
 rintro e w4 ⟨v, rfl, hv, hb⟩
 obtain ⟨Y, cy, rfl, hyc, hY⟩ := Kd.S_reads hv
 have HY := Lib.hid (show Kd.C G.k26 w4 Y l.length l from hY); have HYC := Lib.hid (show l.length ≤ cy from hyc)
 have HC4 := Lib.hid (Kd.C_below HC3.out hb); have HD4 := Lib.hid (Kd.C_below HD3.out hb); have HV4 := Lib.hid (Kd.C_below HV.out hb); have HB4 := Lib.hid (HB3.out.trans (hb.mono HB3.out.size))
 have HX4 := Lib.hid (And.intro ((hb.block g HX3.out.2).trans HX3.out.1) (Nat.lt_of_lt_of_le HX3.out.2 hb.size))
 clear hv hyc hY hb HC3 HD3 HB3 HX3 HV
 go_wp2_with fail
 have hbx := heap_alloc_new w4 (.cells #[.int .i64 1, .int .i64 2, .int .i64 5, .slice Y l.length cy] 29)
 have hay := (Below.refl _ w4).alloc (Nat.le_refl _) (.cells #[.int .i64 1, .int .i64 2, .int .i64 5, .slice Y l.length cy] 29)
 obtain ⟨w5, hw5⟩ : ∃ w5, w4.alloc (.cells #[.int .i64 1, .int .i64 2, .int .i64 5, .slice Y l.length cy] 29) = w5 := ⟨_, rfl⟩
 rw [hw5] at hbx hay ⊢
 obtain ⟨g2, hg2⟩ : ∃ g2, w4.heap.size = g2 := ⟨_, rfl⟩
 have HC5 := Lib.hid (Kd.C_below HC4.out hay); have HD5 := Lib.hid (Kd.C_below HD4.out hay); have HV5 := Lib.hid (Kd.C_below HV4.out hay); have HY5 := Lib.hid (Kd.C_below HY.out hay); have HB5 := Lib.hid (HB4.out.trans (hay.mono HB4.out.size))
 have HX5 := Lib.hid ((hay.block g HX4.out.2).trans HX4.out.1)
 rw [hg2] at hbx ⊢
 have HG5 := Lib.hid hbx
 clear hw5 hbx hay hg2 HC4 HD4 HB4 HX4 HV4 HY
 have a0 : w5.cell? ⟨g, 0, none⟩ = some (.int .i64 1) := by simp [World.cell?, HX5.out]
 have a1 : w5.cell? ⟨g, 1, none⟩ = some (.int .i64 2) := by simp [World.cell?, HX5.out]
 have a2 : w5.cell? ⟨g, 2, none⟩ = some (.int .i64 5) := by simp [World.cell?, HX5.out]
 have a3 : w5.cell? ⟨g, 3, none⟩ = some (.slice A l.length c) := by simp [World.cell?, HX5.out]
 have b0 : w5.cell? ⟨g2, 0, none⟩ = some (.int .i64 1) := by simp [World.cell?, HG5.out]
 have b1 : w5.cell? ⟨g2, 1, none⟩ = some (.int .i64 2) := by simp [World.cell?, HG5.out]
 have b2 : w5.cell? ⟨g2, 2, none⟩ = some (.int .i64 5) := by simp [World.cell?, HG5.out]
 have b3 : w5.cell? ⟨g2, 3, none⟩ = some (.slice Y l.length cy) := by simp [World.cell?, HG5.out]
 go_wp2_with fail
 refine (G.bytes_Equal.calls V cv bs B d bs true w5 HV5.out HVL.out HD5.out HCC.out.2 (by unfold G.bytes_Equal.f; simp)).mono ?_
 rintro e w6 ⟨rfl, ⟨n, rfl⟩⟩
 go_wp2_with fail
 refine (G.trivetref04_SameEntry.calls K 1 2 5 A c l 1 2 5 Y cy l true _ (Kd.C_drewN HC5.out n) HCC.out.1 (Kd.C_drewN HY5.out n) HYC.out HSM.out).mono ?_
 rintro e w7 ⟨rfl, hb⟩
 have HB7 := Lib.hid (below_then (pw_below_drewN HB5.out n) hb)
 clear hb
 go_wp2_with fail
 go_ret
 exact ⟨rfl, HB7.out⟩
end Go.Proofs.YtgiefblcckikeaaGreat.M
namespace Go.Proofs.YtgiefblcckikeaaGreat.G
open Go.RowKit Go.Proofs.YtgiefblcckikeaaGreatW.PrintWords Go.Proofs.YtgiefblcckikeaaGreat.M
def trivetlaw04_begun.f : Option Bool := some true
theorem trivetlaw04_begun.calls (r : Bool) (w : World) (h : trivetlaw04_begun.f = some r) :
  Calls Tryz.prog 9 #[] w fun e w' => e = .returned (.bool r) ∧ Below w.heap.size w w' := by
 obtain rfl := Option.some.inj h
 exact begun_is w
end Go.Proofs.YtgiefblcckikeaaGreat.G
end

section
/- RecordWrites returns true, given what both Seals write. -/
attribute [local irreducible] Go.wpStill
namespace Go.Proofs.YtgiefblcckikeaaGreat.M
open Go.RowKit Go.Proofs.YtgiefblcckikeaaGreatW.PrintWords Go.Proofs.YtgiefblcckikeaaGreatW.PrintLast Go.Proofs.YtgiefblcckikeaaGreatW.PrintMore Go.Proofs.YtgiefblcckikeaaGreat.G
end Go.Proofs.YtgiefblcckikeaaGreat.M
end

section
/- RecordWrites returns true, whatever it is handed. -/
namespace Go.Proofs.YtgiefblcckikeaaGreat.M
open Go.RowKit Go.Proofs.YtgiefblcckikeaaGreatW.PrintWords Go.Proofs.YtgiefblcckikeaaGreatW.PrintLast Go.Proofs.YtgiefblcckikeaaGreatW.PrintMore Go.Proofs.YtgiefblcckikeaaGreat.G
theorem okM_of {m : MsgD} (h : okMd m) : OkM m := by
 obtain ⟨h0, h1, h2, h3, h4, h5, h6, _, h8, h9, h10⟩ := h
 refine ⟨?_, ?_, ?_, (okE_of h9).1, fun x hx => ?_⟩
 ·exact okI_cons.2 ⟨i64_of h0, okI_cons.2 ⟨i64_of h1, okI_cons.2 ⟨i64_of h2, rfl⟩⟩⟩
 ·exact okI_cons.2 ⟨i64_of h3, okI_cons.2 ⟨i64_of h4, okI_cons.2 ⟨i64_of h5, okI_cons.2 ⟨i64_of h6, rfl⟩⟩⟩⟩
 ·exact okI_cons.2 ⟨i64_of h10.1, okI_cons.2 ⟨i64_of h10.2.1, okI_cons.2 ⟨i64_of h10.2.2.1, rfl⟩⟩⟩
 ·have hx := h8.2 x hx
  exact ⟨i64_of hx.1, (okE_of hx.2).1⟩
theorem sealC : SealC sealedB := by
 intro ok A c l w hr hl
 obtain ⟨K, hK⟩ := shape_seal l hl
 refine (G.shape_Seal.calls K ok A c l (sealedB l) 0 w hr (hK K (Nat.le_refl _))).mono ?_
 rintro e w' ⟨v, rfl, h1, h2⟩
 exact ⟨v, rfl, Kd.R_mono h1 (fun _ _ => trivial), h2⟩
end Go.Proofs.YtgiefblcckikeaaGreat.M
end

section
/- Each is the same as itself. -/
namespace Go.Proofs.YtgiefblcckikeaaGreat.M
open Go.RowKit Go.Proofs.YtgiefblcckikeaaGreatW.PrintWords Go.Proofs.YtgiefblcckikeaaGreatW.PrintLast Go.Proofs.YtgiefblcckikeaaGreatW.PrintMore Go.Proofs.YtgiefblcckikeaaGreat.G
theorem eqTs_refl : ∀ l : List TxD, eqTs l l = true
 | [] => rfl
 | t :: l => by unfold eqTs; rw [show eqTx t t = true by unfold eqTx; simp [eqS_refl], eqTs_refl l]; rfl
theorem eqEn_refl (k f n : Int) (l : List TxD) : eqEn k f n l k f n l = true := by unfold eqEn; simp [eqTs_refl]
theorem eqTrs_refl : ∀ l : List TrD, eqTrs l l = true
 | [] => rfl
 | t :: l => by unfold eqTrs; rw [show eqTr t t = true by unfold eqTr; simp [eqEn_refl], eqTrs_refl l]; rfl
theorem eqMs_refl (m : MsgD) : eqMs m m = true := by unfold eqMs eqPt; simp [eqTrs_refl, eqEn_refl, eqS_refl]
end Go.Proofs.YtgiefblcckikeaaGreat.M
end

section
/- RecordTurned returns true (printed by genunm04.py). -/
attribute [local irreducible] Go.wpStill
namespace Go.Proofs.YtgiefblcckikeaaGreat.M
open Go.RowKit Go.Proofs.YtgiefblcckikeaaGreatW.PrintWords Go.Proofs.YtgiefblcckikeaaGreatW.PrintLast Go.Proofs.YtgiefblcckikeaaGreatW.PrintMore Go.Proofs.YtgiefblcckikeaaGreat.G
theorem entB_okm {k f n : Int} {l : List TxD} (ho : okE k f n l = true) (hm : mayE k f n l = true) : okB (entB k f n l) = true := by
 have h := mayE_parts hm
 refine entB_ok ho ?_ ?_
 ·rcases h with ⟨_, _, _, rfl⟩ | ⟨_, h, _⟩
  ·simp
  ·omega
 ·intro t ht
  rcases h with ⟨_, _, _, rfl⟩ | ⟨_, _, h⟩
  ·cases ht
  ·obtain ⟨a, b, c, d⟩ := mayT_len (h t ht)
   exact ⟨by omega, by omega, by omega, by omega⟩
theorem trB_ok {x : TrD} (ho : isI64 x.f0 ∧ okE x.f1.f0 x.f1.f1 x.f1.f2 x.f1.f3 = true) (hm : mayE x.f1.f0 x.f1.f1 x.f1.f2 x.f1.f3 = true) : okB (trB x) = true := by
 unfold trB
 rw [okB_app, numB_ok ho.1, entB_okm ho.2 hm]
 rfl
theorem yesB_ok (b : Bool) : okB (yesB b) = true := by cases b <;> exact numB_ok (by decide)
theorem okI_3 {a b c d : Int} (h : okI [a, b, c, d] = true) : okI [a, b, c] = true := by
 obtain ⟨x, h⟩ := okI_cons.1 h
 obtain ⟨y, h⟩ := okI_cons.1 h
 obtain ⟨z, h⟩ := okI_cons.1 h
 exact okI_cons.2 ⟨x, okI_cons.2 ⟨y, okI_cons.2 ⟨z, rfl⟩⟩⟩
theorem msgB_ok {m : MsgD} (ho : OkM m) (hy : mayMs m = true) (hd : okB m.f10.f3 = true) : okB (msgB m) = true := by
 have h3 := (okI_cons.1 ho.t).1
 have h4 := (okI_cons.1 (okI_cons.1 ho.t).2).1
 have hy' := hy
 unfold mayMs at hy'
 simp only [Bool.and_eq_true, decide_eq_true_eq, List.all_eq_true] at hy'
 obtain ⟨_, _, _, hkd, _, hl8, hml, h5, h6⟩ := hy'
 unfold msgB
 rw [okB_app, numsB_ok ho.h, Bool.true_and]
 unfold tailB
 split
 ·exact numsB_ok (okI_3 ho.t)
 split
 ·rw [okB_app, numB_ok h3, yesB_ok]; rfl
 split
 ·rw [okB_app, okB_app, numsB_ok ho.t, numB_ok (nat_i64 _ (by omega)), okB_flat (fun x hx => trB_ok (ho.l x hx) (mayTr_e (hml x hx)))]; rfl
 split
 ·rw [okB_app, okB_app, numB_ok h3, yesB_ok, numB_ok h4]; rfl
 split
 ·next hk =>
  have hp : m.f10.f3.length ≤ 16384 := by
   have : mayPt m.f10 = true := by
    rw [hk] at h5
    simpa using h5
   unfold mayPt at this
   simp only [Bool.and_eq_true, decide_eq_true_eq] at this
   omega
  have hi : okI [m.f3, m.f4, m.f5, m.f10.f0, m.f10.f1, m.f10.f2] = true := by
   obtain ⟨a, t⟩ := okI_cons.1 ho.t
   obtain ⟨b, t⟩ := okI_cons.1 t
   obtain ⟨c, t⟩ := okI_cons.1 t
   exact okI_cons.2 ⟨a, okI_cons.2 ⟨b, okI_cons.2 ⟨c, ho.p⟩⟩⟩
  rw [okB_app, okB_app, numsB_ok hi, numB_ok (nat_i64 _ (by omega)), hd]; rfl
 ·next n1 n2 n3 n4 n5 =>
  have h6' : m.f0 = 6 := by
   unfold isKind at hkd
   simp only [Bool.and_eq_true, decide_eq_true_eq] at hkd
   omega
  rw [h6'] at h6
  exact entB_okm ho.e (by simpa using h6)
end Go.Proofs.YtgiefblcckikeaaGreat.M
end

section
/- RecordOwn returns true (printed by genunm04.py). -/
attribute [local irreducible] Go.wpStill
namespace Go.Proofs.YtgiefblcckikeaaGreat.M
open Go.RowKit Go.Proofs.YtgiefblcckikeaaGreatW.PrintWords Go.Proofs.YtgiefblcckikeaaGreatW.PrintLast Go.Proofs.YtgiefblcckikeaaGreatW.PrintMore Go.Proofs.YtgiefblcckikeaaGreat.G
theorem mar_unm {m : MsgD} (ho : OkM m) (hd : okB m.f10.f3 = true) {r : List Int} {er : Int} {y : MsgD} {f : Int} (hf : marF sealedB m = (r, er)) (hu : unm r = (y, f)) : okB r = true ∧ r.length < 140737488355328 ∧ (er = 0 → y = m ∧ f = 0) := by
 unfold marF at hf
 cases hy : mayMs m with
 | false =>
  rw [if_neg (by rw [hy]; simp)] at hf
  injection hf with h1 h2
  subst h1 h2
  exact ⟨rfl, by decide, fun h => absurd h (by decide)⟩
 | true =>
  rw [if_pos hy] at hf
  by_cases hl : 1048576 < (msgB m).length
  ·rw [if_pos hl] at hf
   injection hf with h1 h2
   subst h1 h2
   exact ⟨rfl, by decide, fun h => absurd h (by decide)⟩
  ·rw [if_neg hl] at hf
   injection hf with h1 h2
   subst h1 h2
   have hsl := sealed_len (msgB m)
   have hns := numB_len (isI64_len (d := msgB m) (by omega))
   rw [unm_fw ho hd hy (by omega)] at hu
   injection hu with h3 h4
   exact ⟨sealed_ok (msgB_ok ho hy hd) (by omega), by omega, fun _ => ⟨h3.symm, h4.symm⟩⟩
set_option maxHeartbeats 8000000 in
theorem own_walk (w : World) (x : EntD) (m : MsgD) {E : Option Addr} {ce : Nat} {A8 A12 A16 : Option Addr} {c8 c12 c16 : Nat} (he : Kd.C G.k26 w E x.f3.length x.f3) (hel : x.f3.length ≤ ce) (hxs : SmE x) (hm : MsgC w m A8 c8 A12 c12 A16 c16) (hms : SmM m) (ho : OkM m) (hd : okB m.f10.f3 = true) :
  Calls Tryz.prog 8 #[.agg #[.int .i64 x.f0, .int .i64 x.f1, .int .i64 x.f2, .slice E x.f3.length ce], .agg #[.int .i64 m.f0, .int .i64 m.f1, .int .i64 m.f2, .int .i64 m.f3, .int .i64 m.f4, .int .i64 m.f5, .int .i64 m.f6, .bool m.f7, .slice A8 m.f8.length c8, .int .i64 m.f9.f0, .int .i64 m.f9.f1, .int .i64 m.f9.f2, .slice A12 m.f9.f3.length c12, .int .i64 m.f10.f0, .int .i64 m.f10.f1, .int .i64 m.f10.f2, .slice A16 m.f10.f3.length c16]] w fun e w' => e = .returned (.bool true) ∧ Below w.heap.size w w' := by
 obtain ⟨hx, hy, hb⟩ := box2 w #[.int .i64 x.f0, .int .i64 x.f1, .int .i64 x.f2, .slice E x.f3.length ce] 29 #[.int .i64 m.f0, .int .i64 m.f1, .int .i64 m.f2, .int .i64 m.f3, .int .i64 m.f4, .int .i64 m.f5, .int .i64 m.f6, .bool m.f7, .slice A8 m.f8.length c8, .int .i64 m.f9.f0, .int .i64 m.f9.f1, .int .i64 m.f9.f2, .slice A12 m.f9.f3.length c12, .int .i64 m.f10.f0, .int .i64 m.f10.f1, .int .i64 m.f10.f2, .slice A16 m.f10.f3.length c16] 34
 obtain ⟨w0, hw⟩ : ∃ W, (w.alloc (.cells #[.int .i64 x.f0, .int .i64 x.f1, .int .i64 x.f2, .slice E x.f3.length ce] 29)).alloc (.cells #[.int .i64 m.f0, .int .i64 m.f1, .int .i64 m.f2, .int .i64 m.f3, .int .i64 m.f4, .int .i64 m.f5, .int .i64 m.f6, .bool m.f7, .slice A8 m.f8.length c8, .int .i64 m.f9.f0, .int .i64 m.f9.f1, .int .i64 m.f9.f2, .slice A12 m.f9.f3.length c12, .int .i64 m.f10.f0, .int .i64 m.f10.f1, .int .i64 m.f10.f2, .slice A16 m.f10.f3.length c16] 34) = W := ⟨_, rfl⟩
 rw [hw] at hx hy hb
 have B0 := Lib.hid hb; have X0 := Lib.hid hx; have Y0 := Lib.hid (show MsBox w0 (w.heap.size + 1) m A8 c8 A12 c12 A16 c16 from hy); have XC0 := Lib.hid (Kd.C_below he hb); have M0 := Lib.hid (hm.below hb)
 have XL := Lib.hid hel; have XS := Lib.hid hxs; have MS := Lib.hid hms; have HO := Lib.hid ho; have HD := Lib.hid hd
 clear hx hy hb he hel hxs hms hm ho hd
 go_enter Tryz.func8, Tryz.ntmps8
 go_upto_region 1 with fail
 obtain ⟨gx, hgx⟩ : ∃ g, w.heap.size = g := ⟨_, rfl⟩
 obtain ⟨gm, hgm⟩ : ∃ g, w.heap.size + 1 = g := ⟨_, rfl⟩
 rw [hgm] at Y0 ⊢
 rw [hgx] at X0 ⊢
 clear hw hgx hgm
 go_wp2_with fail
 refine (begun_is w0).mono ?_
 rintro e w1 ⟨rfl, hb⟩
 have X1 := Lib.hid ((hb.block _ (Array.getElem?_eq_some_iff.1 X0.out).1).trans X0.out)
 have Y1 := Lib.hid (Y0.out.below hb)
 have XC1 := Lib.hid (Kd.C_below XC0.out hb)
 have M1 := Lib.hid (M0.out.below hb)
 have B1 := Lib.hid (B0.out.trans (hb.mono B0.out.size))
 clear hb X0 Y0 XC0 M0 B0
 go_upto_region 3 with fail
 refine wp_region_list ?_
 refine wpList_load_row rfl 29 (.tmp 2) rfl gx rfl 29 #[.int .i64 x.f0, .int .i64 x.f1, .int .i64 x.f2, .slice E x.f3.length ce] (0, 0) _ X1.out Tryz.underlying29 rfl (by kernel_rfl) ?_
 go_wp2_with fail
 refine (refCloneEn_is x XL.out XC1.out XS.out).mono ?_
 rintro e w2 ⟨v, rfl, hv, hb⟩
 obtain ⟨U, cw, rfl⟩ := Kd.R_slice (Kd.S_R hv)
 have WC2 := Lib.hid (Kd.R_reads' (Kd.S_R hv)).2.2; have WL := Lib.hid (Kd.R_reads' (Kd.S_R hv)).2.1
 clear hv
 have X2 := Lib.hid ((hb.block _ (Array.getElem?_eq_some_iff.1 X1.out).1).trans X1.out)
 have Y2 := Lib.hid (Y1.out.below hb)
 have XC2 := Lib.hid (Kd.C_below XC1.out hb)
 have M2 := Lib.hid (M1.out.below hb)
 have B2 := Lib.hid (B1.out.trans (hb.mono B1.out.size))
 clear hb X1 Y1 XC1 M1 B1
 go_upto_region 4 with fail
 obtain ⟨xb, hb⟩ := box1 w2 #[.int .i64 x.f0, .int .i64 x.f1, .int .i64 x.f2, .slice U x.f3.length cw] 29
 obtain ⟨w3, hw⟩ : ∃ W, w2.alloc (.cells #[.int .i64 x.f0, .int .i64 x.f1, .int .i64 x.f2, .slice U x.f3.length cw] 29) = W := ⟨_, rfl⟩
 obtain ⟨gw, hg⟩ : ∃ g, w2.heap.size = g := ⟨_, rfl⟩
 first | rw [hw] at xb hb ⊢ | rw [hw] at xb hb
 rw [hg] at xb ⊢
 have WB3 := Lib.hid xb
 clear hw hg xb
 have X3 := Lib.hid ((hb.block _ (Array.getElem?_eq_some_iff.1 X2.out).1).trans X2.out)
 have Y3 := Lib.hid (Y2.out.below hb)
 have XC3 := Lib.hid (Kd.C_below XC2.out hb)
 have M3 := Lib.hid (M2.out.below hb)
 have WC3 := Lib.hid (Kd.C_below WC2.out hb)
 have B3 := Lib.hid (B2.out.trans (hb.mono B2.out.size))
 clear hb X2 Y2 XC2 M2 WC2 B2
 refine wp_region_list ?_
 refine wpList_load_row rfl 34 (.tmp 3) rfl gm rfl 34 #[.int .i64 m.f0, .int .i64 m.f1, .int .i64 m.f2, .int .i64 m.f3, .int .i64 m.f4, .int .i64 m.f5, .int .i64 m.f6, .bool m.f7, .slice A8 m.f8.length c8, .int .i64 m.f9.f0, .int .i64 m.f9.f1, .int .i64 m.f9.f2, .slice A12 m.f9.f3.length c12, .int .i64 m.f10.f0, .int .i64 m.f10.f1, .int .i64 m.f10.f2, .slice A16 m.f10.f3.length c16] (0, 0) _ Y3.out Tryz.underlying34 rfl (by kernel_rfl) ?_
 go_wp2_with fail
 refine (refCloneMs_is m M3.out MS.out).mono ?_
 rintro e w4 ⟨v8, v12, v16, h1, h2, rfl, hle, r8, r12, r16, hb⟩
 obtain ⟨O8, o8, rfl⟩ := Kd.R_slice (Kd.S_R r8)
 obtain ⟨O12, o12, rfl⟩ := Kd.R_slice (Kd.S_R r12)
 obtain ⟨O16, o16, rfl⟩ := Kd.R_slice r16
 have OC4 := Lib.hid (show MsgC w4 m O8 o8 O12 o12 O16 o16 from ⟨(Kd.R_reads' (Kd.S_R r8)).2.1, (Kd.R_reads' (Kd.S_R r8)).2.2, (Kd.R_reads' (Kd.S_R r12)).2.1, (Kd.R_reads' (Kd.S_R r12)).2.2, (Kd.R_reads' r16).2.1, (Kd.R_reads' r16).2.2⟩)
 clear r8 r12 r16 hle
 have X4 := Lib.hid ((hb.block _ (Array.getElem?_eq_some_iff.1 X3.out).1).trans X3.out)
 have Y4 := Lib.hid (Y3.out.below hb)
 have XC4 := Lib.hid (Kd.C_below XC3.out hb)
 have M4 := Lib.hid (M3.out.below hb)
 have WC4 := Lib.hid (Kd.C_below WC3.out hb)
 have WB4 := Lib.hid ((hb.block _ (Array.getElem?_eq_some_iff.1 WB3.out).1).trans WB3.out)
 have B4 := Lib.hid (B3.out.trans (hb.mono B3.out.size))
 clear hb X3 Y3 XC3 M3 WC3 WB3 B3
 go_upto_region 5 with fail
 obtain ⟨xb, hb⟩ := box1 w4 #[.int .i64 m.f0, .int .i64 m.f1, .int .i64 m.f2, .int .i64 m.f3, .int .i64 m.f4, .int .i64 m.f5, .int .i64 m.f6, .bool m.f7, .slice O8 m.f8.length o8, .int .i64 m.f9.f0, .int .i64 m.f9.f1, .int .i64 m.f9.f2, .slice O12 m.f9.f3.length o12, .int .i64 m.f10.f0, .int .i64 m.f10.f1, .int .i64 m.f10.f2, .slice O16 m.f10.f3.length o16] 34
 obtain ⟨w5, hw⟩ : ∃ W, w4.alloc (.cells #[.int .i64 m.f0, .int .i64 m.f1, .int .i64 m.f2, .int .i64 m.f3, .int .i64 m.f4, .int .i64 m.f5, .int .i64 m.f6, .bool m.f7, .slice O8 m.f8.length o8, .int .i64 m.f9.f0, .int .i64 m.f9.f1, .int .i64 m.f9.f2, .slice O12 m.f9.f3.length o12, .int .i64 m.f10.f0, .int .i64 m.f10.f1, .int .i64 m.f10.f2, .slice O16 m.f10.f3.length o16] 34) = W := ⟨_, rfl⟩
 obtain ⟨go_, hg⟩ : ∃ g, w4.heap.size = g := ⟨_, rfl⟩
 first | rw [hw] at xb hb ⊢ | rw [hw] at xb hb
 rw [hg] at xb ⊢
 have OB5 := Lib.hid (show MsBox w5 go_ m O8 o8 O12 o12 O16 o16 from xb)
 clear hw hg xb
 have X5 := Lib.hid ((hb.block _ (Array.getElem?_eq_some_iff.1 X4.out).1).trans X4.out)
 have Y5 := Lib.hid (Y4.out.below hb)
 have XC5 := Lib.hid (Kd.C_below XC4.out hb)
 have M5 := Lib.hid (M4.out.below hb)
 have WC5 := Lib.hid (Kd.C_below WC4.out hb)
 have WB5 := Lib.hid ((hb.block _ (Array.getElem?_eq_some_iff.1 WB4.out).1).trans WB4.out)
 have OC5 := Lib.hid (OC4.out.below hb)
 have B5 := Lib.hid (B4.out.trans (hb.mono B4.out.size))
 clear hb X4 Y4 XC4 M4 WC4 WB4 OC4 B4
 refine wp_region_list ?_
 refine wpList_load_row rfl 29 (.tmp 2) rfl gx rfl 29 #[.int .i64 x.f0, .int .i64 x.f1, .int .i64 x.f2, .slice E x.f3.length ce] (0, 0) _ X5.out Tryz.underlying29 rfl (by kernel_rfl) ?_
 go_wp2_with fail
 refine (cloneEn_is x XL.out XC5.out XS.out).mono ?_
 rintro e w6 ⟨v, rfl, hv, hb⟩
 obtain ⟨V, cv, rfl⟩ := Kd.R_slice (Kd.S_R hv)
 have T6 := Lib.hid (Txs.of (Kd.S_R hv) (Nat.le_refl _))
 have D6 := Lib.hid hb
 clear hv hb
 go_wp2_with fail
 refine (spoil_is x.f0 x.f1 x.f2 V x.f3.length cv T6.out D6.out.size).mono ?_
 rintro e w7 ⟨rfl, hs⟩
 have D7 := Lib.hid (D6.out.trans hs.b)
 clear hs T6 D6
 go_upto_region 6 with fail
 refine wp_region_list ?_
 refine wpList_load_row rfl 34 (.tmp 3) rfl gm rfl 34 #[.int .i64 m.f0, .int .i64 m.f1, .int .i64 m.f2, .int .i64 m.f3, .int .i64 m.f4, .int .i64 m.f5, .int .i64 m.f6, .bool m.f7, .slice A8 m.f8.length c8, .int .i64 m.f9.f0, .int .i64 m.f9.f1, .int .i64 m.f9.f2, .slice A12 m.f9.f3.length c12, .int .i64 m.f10.f0, .int .i64 m.f10.f1, .int .i64 m.f10.f2, .slice A16 m.f10.f3.length c16] (0, 0) _ ((Y5.out.below D7.out)) Tryz.underlying34 rfl (by kernel_rfl) ?_
 go_wp2_with fail
 refine (cloneMs_is m (M5.out.below D7.out) MS.out).mono ?_
 rintro e w8 ⟨v8, v12, v16, h1, h2, rfl, hle, r8, r12, r16, hb⟩
 obtain ⟨N8, n8, rfl⟩ := Kd.R_slice (Kd.S_R r8)
 obtain ⟨N12, n12, rfl⟩ := Kd.R_slice (Kd.S_R r12)
 obtain ⟨N16, n16, rfl⟩ := Kd.R_slice r16
 have LB := Lib.hid D7.out.size
 have L8 := Lib.hid (Trs.of (Kd.S_R r8) LB.out); have T8 := Lib.hid (Txs.of (Kd.S_R r12) LB.out); have I8 := Lib.hid (Ints.of r16 LB.out)
 have D8 := Lib.hid (D7.out.trans (hb.mono LB.out))
 clear r8 r12 r16 hle hb D7
 go_upto_region 7 with fail
 obtain ⟨xb, hb⟩ := box1 w8 #[.int .i64 m.f0, .int .i64 m.f1, .int .i64 m.f2, .int .i64 m.f3, .int .i64 m.f4, .int .i64 m.f5, .int .i64 m.f6, .bool m.f7, .slice N8 m.f8.length n8, .int .i64 m.f9.f0, .int .i64 m.f9.f1, .int .i64 m.f9.f2, .slice N12 m.f9.f3.length n12, .int .i64 m.f10.f0, .int .i64 m.f10.f1, .int .i64 m.f10.f2, .slice N16 m.f10.f3.length n16] 34
 obtain ⟨w9, hw⟩ : ∃ W, w8.alloc (.cells #[.int .i64 m.f0, .int .i64 m.f1, .int .i64 m.f2, .int .i64 m.f3, .int .i64 m.f4, .int .i64 m.f5, .int .i64 m.f6, .bool m.f7, .slice N8 m.f8.length n8, .int .i64 m.f9.f0, .int .i64 m.f9.f1, .int .i64 m.f9.f2, .slice N12 m.f9.f3.length n12, .int .i64 m.f10.f0, .int .i64 m.f10.f1, .int .i64 m.f10.f2, .slice N16 m.f10.f3.length n16] 34) = W := ⟨_, rfl⟩
 obtain ⟨gn, hg⟩ : ∃ g, w8.heap.size = g := ⟨_, rfl⟩
 first | rw [hw] at xb hb ⊢ | rw [hw] at xb hb
 rw [hg] at xb ⊢
 have sn := Sp.below hb D8.out.size
 have GN := Lib.hid (show w5.heap.size ≤ gn by rw [← hg]; exact D8.out.size)
 have Q8 := Lib.hid (show w9.cell? ⟨gn, 8, none⟩ = some (.slice N8 m.f8.length n8) from (blk_cell xb 8).trans rfl)
 have Q9 := Lib.hid (show w9.cell? ⟨gn, 9, none⟩ = some (.int .i64 m.f9.f0) from (blk_cell xb 9).trans rfl)
 have Q10 := Lib.hid (show w9.cell? ⟨gn, 10, none⟩ = some (.int .i64 m.f9.f1) from (blk_cell xb 10).trans rfl)
 have Q11 := Lib.hid (show w9.cell? ⟨gn, 11, none⟩ = some (.int .i64 m.f9.f2) from (blk_cell xb 11).trans rfl)
 have Q12 := Lib.hid (show w9.cell? ⟨gn, 12, none⟩ = some (.slice N12 m.f9.f3.length n12) from (blk_cell xb 12).trans rfl)
 have Q16 := Lib.hid (show w9.cell? ⟨gn, 16, none⟩ = some (.slice N16 m.f10.f3.length n16) from (blk_cell xb 16).trans rfl)
 have L9 := Lib.hid (L8.out.step sn); have T9 := Lib.hid (T8.out.step sn); have I9 := Lib.hid (I8.out.step sn); have D9 := Lib.hid (D8.out.trans sn.b)
 clear hw hg xb hb sn L8 T8 I8 D8
 have q9 := Q9.out; have q10 := Q10.out; have q11 := Q11.out; have q12 := Q12.out
 go_wp2_with fail
 refine (spoil_is m.f9.f0 m.f9.f1 m.f9.f2 N12 m.f9.f3.length n12 T9.out D9.out.size).mono ?_
 rintro e w10 ⟨rfl, hs⟩
 have S10 := Lib.hid hs
 have LM8 : m.f8.length ≤ 9223372036854775807 := L9.out.m; have LM16 : m.f10.f3.length ≤ 9223372036854775807 := I9.out.m
 clear hs q9 q10 q11 q12 T9
 have q8 := S10.out.slice GN.out Q8.out
 go_upto_block 0 with fail
 clear q8
 go_wp2_with fail
 go_loopw [32] (fun i W => ∃ j : Nat, i = .int .i64 (j : Int) ∧ j ≤ m.f8.length ∧ Sp w5.heap.size w9 W) (fun i _ => m.f8.length - (intOf i).toNat)
 case atStart => exact ⟨0, rfl, Nat.zero_le _, S10.out⟩
 case round =>
  obtain ⟨j, rfl, hj, hS⟩ := hrel
  have HS := Lib.hid hS
  clear hS
  by_cases hjl : j < m.f8.length
  ·obtain ⟨gl, rfl, hgl, y0, y1, y2, y3, A, nn, cc, e0, e1, e2, e3, e4, ef, hT⟩ := (L9.out.step HS.out).at_ j hjl
   have q8 := HS.out.slice GN.out Q8.out
   have sp := Sp.put hgl e0 (-9)
   have hq8 := sp.slice GN.out q8
   obtain ⟨z1, f1⟩ := sp.int hgl ⟨_, e1⟩
   obtain ⟨z2, f2⟩ := sp.int hgl ⟨_, e2⟩
   obtain ⟨z3, f3⟩ := sp.int hgl ⟨_, e3⟩
   have f4 := sp.slice hgl e4
   have HT := Lib.hid (hT.step sp)
   have SP := Lib.hid sp
   have HF := Lib.hid (And.intro hq8 (And.intro f1 (And.intro f2 (And.intro f3 f4))))
   clear hT sp hq8 f1 f2 f3 f4 e1 e2 e3 e4
   go_upto_region 12 with fail
   obtain ⟨wp_, hw⟩ : ∃ W, wr.setCell ⟨gl, j * 5, none⟩ (.int .i64 (-9)) = W := ⟨_, rfl⟩
   rw [hw] at HT SP HF ⊢
   clear hw q8 e0 ef
   obtain ⟨q8, f1, f2, f3, f4⟩ := HF.out
   have LZ := Lib.hid (show w5.heap.size ≤ wp_.heap.size from Nat.le_trans D9.out.size (Nat.le_trans HS.out.b.size SP.out.b.size))
   go_wp2_with fail
   refine (spoil_is z1 z2 z3 A nn cc HT.out LZ.out).mono ?_
   rintro e w11 ⟨rfl, hs⟩
   have HZ := Lib.hid hs
   clear hs
   go_wp2_with fail
   go_roundw
   case rel => exact ⟨j + 1, by go_num, hjl, (HS.out.trans SP.out).trans HZ.out⟩
   case measure => simp [intOf]; omega
  ·have hjl : j = m.f8.length := by omega
   subst hjl
   clear hj
   have S11 := Lib.hid HS.out
   clear HS S10
   have q16 := S11.out.slice GN.out Q16.out
   go_upto_block 2 with fail
   clear q16
   go_wp2_with fail
   go_loopw [52] (fun i W => ∃ j : Nat, i = .int .i64 (j : Int) ∧ j ≤ m.f10.f3.length ∧ Sp w5.heap.size w9 W) (fun i _ => m.f10.f3.length - (intOf i).toNat)
   case atStart => exact ⟨0, rfl, Nat.zero_le _, S11.out⟩
   case round =>
    obtain ⟨j, rfl, hj, hS⟩ := hrel
    have HS := Lib.hid hS
    clear hS
    by_cases hjl : j < m.f10.f3.length
    ·obtain ⟨ga, rfl, hga, ⟨x_, hx⟩, hf⟩ := (I9.out.step HS.out).at_ j hjl
     have q16 := HS.out.slice GN.out Q16.out
     have HX := Lib.hid (And.intro hga hx)
     go_wp2_with fail
     go_roundw
     case rel => exact ⟨j + 1, by go_num, hjl, HS.out.trans (Sp.put HX.out.1 HX.out.2 _)⟩
     case measure => simp [intOf]; omega
    ·have hjl : j = m.f10.f3.length := by omega
     subst hjl
     clear hj
     have D12 := Lib.hid (D9.out.trans HS.out.b)
     clear HS S11 L9 I9 Q8 Q9 Q10 Q11 Q12 Q16 GN D9
     obtain ⟨r, er, hf⟩ : ∃ r er, marF sealedB m = (r, er) := ⟨_, _, rfl⟩
     obtain ⟨y, f, hu⟩ : ∃ y f, unm r = (y, f) := ⟨_, _, rfl⟩
     have HR := Lib.hid (mar_unm HO.out HD.out hf hu)
     have HF := Lib.hid (And.intro hf hu)
     clear hf hu
     go_upto_region 19 with fail
     obtain ⟨w12, rfl⟩ : ∃ W, W = wr := ⟨_, rfl⟩
     refine wp_region_list ?_
     refine wpList_load_row rfl 34 (.tmp 3) rfl gm rfl 34 #[.int .i64 m.f0, .int .i64 m.f1, .int .i64 m.f2, .int .i64 m.f3, .int .i64 m.f4, .int .i64 m.f5, .int .i64 m.f6, .bool m.f7, .slice A8 m.f8.length c8, .int .i64 m.f9.f0, .int .i64 m.f9.f1, .int .i64 m.f9.f2, .slice A12 m.f9.f3.length c12, .int .i64 m.f10.f0, .int .i64 m.f10.f1, .int .i64 m.f10.f2, .slice A16 m.f10.f3.length c16] (0, 0) _ ((Y5.out.below D12.out)) Tryz.underlying34 rfl (by kernel_rfl) ?_
     go_wp2_with fail
     have h4 := mar_is m (M5.out.below D12.out) HO.out sealedB sealC
     rw [HF.out.1] at h4
     refine h4.mono ?_
     rintro e w13 ⟨v, rfl, hv, hb⟩
     obtain ⟨V, cV, rfl⟩ := Kd.R_slice hv
     have LB12 := Lib.hid D12.out.size
     have IB := Lib.hid (Ints.of hv (Nat.le_refl _)); have V13 := Lib.hid (Kd.R_reads' hv)
     have D13 := Lib.hid (D12.out.trans (hb.mono LB12.out)); have LW := Lib.hid hb.size
     clear h4 hv hb D12
     go_wp2_with fail
     have h4 := unm_is V cV r w13 V13.out.2.2 V13.out.2.1 HR.out.1 HR.out.2.1
     rw [HF.out.2] at h4
     refine h4.mono ?_
     rintro e w14 ⟨v8, v12, v16, rfl, r8, r12, r16, hb⟩
     obtain ⟨K8, k8, rfl⟩ := Kd.R_slice r8
     obtain ⟨K12, k12, rfl⟩ := Kd.R_slice r12
     obtain ⟨K16, k16, rfl⟩ := Kd.R_slice r16
     have R8 := Lib.hid (show Kd.R G.k63 63 w14 w13.heap.size (fun k => w13.heap.size ≤ k) _ _ from Kd.R_mono (Kd.R_bound r8) (fun k hk => hk.2.1))
     have R12 := Lib.hid (show Kd.R G.k26 26 w14 w13.heap.size (fun k => w13.heap.size ≤ k) _ _ from Kd.R_mono (Kd.R_bound r12) (fun k hk => hk.2.1))
     have R16 := Lib.hid (show Kd.R (Kd.int .u8) 5 w14 w13.heap.size (fun k => w13.heap.size ≤ k) _ _ from Kd.R_mono (Kd.R_bound r16) (fun k hk => hk.2.1))
     have s1 := Sp.below hb LW.out
     have D14 := Lib.hid (D13.out.trans (hb.mono D13.out.size))
     have LK := Lib.hid hb.size
     clear h4 r8 r12 r16 hb D13
     go_upto_region 21 with fail
     obtain ⟨xb, hb⟩ := box1 w14 #[.int .i64 y.f0, .int .i64 y.f1, .int .i64 y.f2, .int .i64 y.f3, .int .i64 y.f4, .int .i64 y.f5, .int .i64 y.f6, .bool y.f7, .slice K8 y.f8.length k8, .int .i64 y.f9.f0, .int .i64 y.f9.f1, .int .i64 y.f9.f2, .slice K12 y.f9.f3.length k12, .int .i64 y.f10.f0, .int .i64 y.f10.f1, .int .i64 y.f10.f2, .slice K16 y.f10.f3.length k16] 34
     obtain ⟨w15, hw⟩ : ∃ W, w14.alloc (.cells #[.int .i64 y.f0, .int .i64 y.f1, .int .i64 y.f2, .int .i64 y.f3, .int .i64 y.f4, .int .i64 y.f5, .int .i64 y.f6, .bool y.f7, .slice K8 y.f8.length k8, .int .i64 y.f9.f0, .int .i64 y.f9.f1, .int .i64 y.f9.f2, .slice K12 y.f9.f3.length k12, .int .i64 y.f10.f0, .int .i64 y.f10.f1, .int .i64 y.f10.f2, .slice K16 y.f10.f3.length k16] 34) = W := ⟨_, rfl⟩
     obtain ⟨gk, hg⟩ : ∃ g, w14.heap.size = g := ⟨_, rfl⟩
     first | rw [hw] at xb hb ⊢ | rw [hw] at xb hb
     rw [hg] at xb ⊢
     have GK := Lib.hid (show w13.heap.size ≤ gk by rw [← hg]; exact LK.out)
     have P8 := Lib.hid (Kd.R_step R8.out (fun k _ hlt => hb.block k hlt))
     have P12 := Lib.hid (Kd.R_step R12.out (fun k _ hlt => hb.block k hlt))
     have P16 := Lib.hid (Kd.R_step R16.out (fun k _ hlt => hb.block k hlt))
     have s2 := s1.trans (Sp.below hb (Nat.le_trans LW.out LK.out))
     have IB15 := Lib.hid (IB.out.step s2)
     have KB := Lib.hid xb
     have D15 := Lib.hid (D14.out.trans (hb.mono D14.out.size))
     have LR : r.length ≤ 9223372036854775807 := IB.out.m
     clear hw hg xb hb s1 s2 R8 R12 R16 D14
     go_upto_block 4 with fail
     go_wp2_with fail
     go_loopw [76] (fun i W => ∃ j : Nat, i = .int .i64 (j : Int) ∧ j ≤ r.length ∧ Sp w12.heap.size w15 W ∧ KeepS (fun i => w12.heap.size ≤ i ∧ i < w13.heap.size) w15 W) (fun i _ => r.length - (intOf i).toNat)
     case atStart => exact ⟨0, rfl, Nat.zero_le _, Sp.refl _ _, KeepS.refl _ _⟩
     case round =>
      obtain ⟨j, rfl, hj, hS, hK⟩ := hrel
      have HS := Lib.hid hS; have HK := Lib.hid hK
      clear hS hK
      by_cases hjl : j < r.length
      ·obtain ⟨ga, rfl, hga, ⟨x_, hx⟩, hf⟩ := (IB15.out.step HS.out).at_ j hjl
       have hgb : ga < w13.heap.size := by
        obtain ⟨ga', hA', _, ⟨x', hx'⟩, _⟩ := IB.out.at_ j hjl
        injection hA' with hA'
        injection hA' with hA'
        rw [hA']
        exact World.block_lt_of_cell? w13 _ hx'
       have HX := Lib.hid (And.intro hga (And.intro hx hgb))
       go_wp2_with fail
       go_roundw
       case rel => exact ⟨j + 1, by go_num, hjl, HS.out.trans (Sp.put HX.out.1 HX.out.2.1 _), HK.out.set (p := ⟨ga, j, none⟩) (.inl ⟨HX.out.1, HX.out.2.2⟩) _⟩
       case measure => simp [intOf]; omega
      ·have hjl : j = r.length := by omega
       subst hjl
       clear hj
       have DZ := Lib.hid (D15.out.trans (HS.out.b.mono LB12.out))
       have Z8 := Lib.hid (Kd.R_reads' (R_keepO (S := fun i => w12.heap.size ≤ i ∧ i < w13.heap.size) (fun i h1 h2 => by have := h2.2; have := h1; omega) P8.out HK.out)).2
       have Z12 := Lib.hid (Kd.R_reads' (R_keepO (S := fun i => w12.heap.size ≤ i ∧ i < w13.heap.size) (fun i h1 h2 => by have := h2.2; have := h1; omega) P12.out HK.out)).2
       have Z16 := Lib.hid (Kd.R_reads' (R_keepO (S := fun i => w12.heap.size ≤ i ∧ i < w13.heap.size) (fun i h1 h2 => by have := h2.2; have := h1; omega) P16.out HK.out)).2
       have KB2 := Lib.hid ((HK.out.block gk (Array.getElem?_eq_some_iff.1 KB.out).1 (fun h => by have := h.2; have := GK.out; omega)).trans KB.out)
       have Xz := Lib.hid (((DZ.out.block _ (Array.getElem?_eq_some_iff.1 X5.out).1).trans X5.out))
       have Yz := Lib.hid ((Y5.out.below DZ.out))
       have XCz := Lib.hid ((Kd.C_below XC5.out DZ.out))
       have Mz := Lib.hid ((M5.out.below DZ.out))
       have WBz := Lib.hid (((DZ.out.block _ (Array.getElem?_eq_some_iff.1 WB5.out).1).trans WB5.out))
       have WCz := Lib.hid ((Kd.C_below WC5.out DZ.out))
       have OBz := Lib.hid ((OB5.out.below DZ.out))
       have OCz := Lib.hid ((OC5.out.below DZ.out))
       have BZ := Lib.hid (B5.out.trans (DZ.out.mono B5.out.size))
       clear HS HK P8 P12 P16 KB D15 IB IB15
       by_cases her : er = 0
       ·subst her
        obtain ⟨rfl, rfl⟩ := HR.out.2.2 rfl
        have KC := Lib.hid (show MsgC _ y K8 k8 K12 k12 K16 k16 from ⟨Z8.out.1, Z8.out.2, Z12.out.1, Z12.out.2, Z16.out.1, Z16.out.2⟩)
        go_upto_region 26 with fail
        refine wp_region_list ?_
        refine wpList_cut 6 ?_
        simp only [List.take_succ_cons, List.take_zero, List.drop_succ_cons, List.drop_zero]
        go_wp2_with fail
        refine Halt.mk ?_
        refine gate_guard (by rfl) ?_
        dsimp only
        refine wpList_load_row rfl 34 (.tmp 12) rfl gk rfl 34 #[.int .i64 y.f0, .int .i64 y.f1, .int .i64 y.f2, .int .i64 y.f3, .int .i64 y.f4, .int .i64 y.f5, .int .i64 y.f6, .bool y.f7, .slice K8 y.f8.length k8, .int .i64 y.f9.f0, .int .i64 y.f9.f1, .int .i64 y.f9.f2, .slice K12 y.f9.f3.length k12, .int .i64 y.f10.f0, .int .i64 y.f10.f1, .int .i64 y.f10.f2, .slice K16 y.f10.f3.length k16] (0, 0) _ KB2.out Tryz.underlying34 rfl (by kernel_rfl) ?_
        refine gate_guard (by rfl) ?_
        dsimp only
        refine wpList_load_row rfl 34 (.tmp 6) rfl go_ rfl 34 #[.int .i64 y.f0, .int .i64 y.f1, .int .i64 y.f2, .int .i64 y.f3, .int .i64 y.f4, .int .i64 y.f5, .int .i64 y.f6, .bool y.f7, .slice O8 y.f8.length o8, .int .i64 y.f9.f0, .int .i64 y.f9.f1, .int .i64 y.f9.f2, .slice O12 y.f9.f3.length o12, .int .i64 y.f10.f0, .int .i64 y.f10.f1, .int .i64 y.f10.f2, .slice O16 y.f10.f3.length o16] (0, 0) _ OBz.out Tryz.underlying34 rfl (by kernel_rfl) ?_
        go_wp2_with fail
        have h4 := refSameMs_is y y KC.out OCz.out
        rw [eqMs_refl] at h4
        refine h4.mono ?_
        rintro e w16 ⟨rfl, hb⟩
        have Xz := Lib.hid (((hb.block _ (Array.getElem?_eq_some_iff.1 Xz.out).1).trans Xz.out)); have Yz := Lib.hid (Yz.out.below hb); have XCz := Lib.hid (Kd.C_below XCz.out hb); have Mz := Lib.hid (Mz.out.below hb); have WBz := Lib.hid (((hb.block _ (Array.getElem?_eq_some_iff.1 WBz.out).1).trans WBz.out)); have WCz := Lib.hid (Kd.C_below WCz.out hb); have OBz := Lib.hid (OBz.out.below hb); have OCz := Lib.hid (OCz.out.below hb); have BZ := Lib.hid (BZ.out.trans (hb.mono BZ.out.size))
        clear h4 hb
        go_upto_region 28 with fail
        refine wp_region_list ?_
        refine wpList_cut 4 ?_
        simp only [List.take_succ_cons, List.take_zero, List.drop_succ_cons, List.drop_zero]
        refine wpList_load_row rfl 29 (.tmp 2) rfl gx rfl 29 #[.int .i64 x.f0, .int .i64 x.f1, .int .i64 x.f2, .slice E x.f3.length ce] (0, 0) _ Xz.out Tryz.underlying29 rfl (by kernel_rfl) ?_
        refine wpList_load_row rfl 29 (.tmp 5) rfl gw rfl 29 #[.int .i64 x.f0, .int .i64 x.f1, .int .i64 x.f2, .slice U x.f3.length cw] (0, 0) _ WBz.out Tryz.underlying29 rfl (by kernel_rfl) ?_
        go_wp2_with fail
        have h4 := refSameEn_is x.f0 x.f1 x.f2 E ce x.f3 x.f0 x.f1 x.f2 U cw x.f3 _ XCz.out XL.out WCz.out WL.out
        rw [eqEn_refl] at h4
        refine h4.mono ?_
        rintro e w17 ⟨rfl, hb⟩
        have BY := Lib.hid (BZ.out.trans (hb.mono BZ.out.size))
        have Yy := Lib.hid (Yz.out.below hb); have My := Lib.hid (Mz.out.below hb); have OBy := Lib.hid (OBz.out.below hb); have OCy := Lib.hid (OCz.out.below hb)
        clear h4 hb
        go_wp2_with fail
        refine Halt.mk ?_
        refine gate_guard (by rfl) ?_
        dsimp only
        refine wpList_load_row rfl 34 (.tmp 3) rfl gm rfl 34 #[.int .i64 y.f0, .int .i64 y.f1, .int .i64 y.f2, .int .i64 y.f3, .int .i64 y.f4, .int .i64 y.f5, .int .i64 y.f6, .bool y.f7, .slice A8 y.f8.length c8, .int .i64 y.f9.f0, .int .i64 y.f9.f1, .int .i64 y.f9.f2, .slice A12 y.f9.f3.length c12, .int .i64 y.f10.f0, .int .i64 y.f10.f1, .int .i64 y.f10.f2, .slice A16 y.f10.f3.length c16] (0, 0) _ Yy.out Tryz.underlying34 rfl (by kernel_rfl) ?_
        refine gate_guard (by rfl) ?_
        dsimp only
        refine wpList_load_row rfl 34 (.tmp 6) rfl go_ rfl 34 #[.int .i64 y.f0, .int .i64 y.f1, .int .i64 y.f2, .int .i64 y.f3, .int .i64 y.f4, .int .i64 y.f5, .int .i64 y.f6, .bool y.f7, .slice O8 y.f8.length o8, .int .i64 y.f9.f0, .int .i64 y.f9.f1, .int .i64 y.f9.f2, .slice O12 y.f9.f3.length o12, .int .i64 y.f10.f0, .int .i64 y.f10.f1, .int .i64 y.f10.f2, .slice O16 y.f10.f3.length o16] (0, 0) _ OBy.out Tryz.underlying34 rfl (by kernel_rfl) ?_
        go_wp2_with fail
        have h4 := refSameMs_is y y My.out OCy.out
        rw [eqMs_refl] at h4
        refine h4.mono ?_
        rintro e w18 ⟨rfl, hb⟩
        have BX := Lib.hid (BY.out.trans (hb.mono BY.out.size))
        clear h4 hb
        go_wp2_with fail
        go_ret
        exact ⟨rfl, BX.out⟩
       ·have q1 : (er == (0 : Int)) = false := beq_eq_false_iff_ne.2 her
        clear her
        go_upto_region 28 with fail
        refine wp_region_list ?_
        refine wpList_cut 4 ?_
        simp only [List.take_succ_cons, List.take_zero, List.drop_succ_cons, List.drop_zero]
        refine wpList_load_row rfl 29 (.tmp 2) rfl gx rfl 29 #[.int .i64 x.f0, .int .i64 x.f1, .int .i64 x.f2, .slice E x.f3.length ce] (0, 0) _ Xz.out Tryz.underlying29 rfl (by kernel_rfl) ?_
        refine wpList_load_row rfl 29 (.tmp 5) rfl gw rfl 29 #[.int .i64 x.f0, .int .i64 x.f1, .int .i64 x.f2, .slice U x.f3.length cw] (0, 0) _ WBz.out Tryz.underlying29 rfl (by kernel_rfl) ?_
        go_wp2_with fail
        have h4 := refSameEn_is x.f0 x.f1 x.f2 E ce x.f3 x.f0 x.f1 x.f2 U cw x.f3 _ XCz.out XL.out WCz.out WL.out
        rw [eqEn_refl] at h4
        refine h4.mono ?_
        rintro e w17 ⟨rfl, hb⟩
        have BY := Lib.hid (BZ.out.trans (hb.mono BZ.out.size))
        have Yy := Lib.hid (Yz.out.below hb); have My := Lib.hid (Mz.out.below hb); have OBy := Lib.hid (OBz.out.below hb); have OCy := Lib.hid (OCz.out.below hb)
        clear h4 hb
        go_wp2_with fail
        refine Halt.mk ?_
        refine gate_guard (by rfl) ?_
        dsimp only
        refine wpList_load_row rfl 34 (.tmp 3) rfl gm rfl 34 #[.int .i64 m.f0, .int .i64 m.f1, .int .i64 m.f2, .int .i64 m.f3, .int .i64 m.f4, .int .i64 m.f5, .int .i64 m.f6, .bool m.f7, .slice A8 m.f8.length c8, .int .i64 m.f9.f0, .int .i64 m.f9.f1, .int .i64 m.f9.f2, .slice A12 m.f9.f3.length c12, .int .i64 m.f10.f0, .int .i64 m.f10.f1, .int .i64 m.f10.f2, .slice A16 m.f10.f3.length c16] (0, 0) _ Yy.out Tryz.underlying34 rfl (by kernel_rfl) ?_
        refine gate_guard (by rfl) ?_
        dsimp only
        refine wpList_load_row rfl 34 (.tmp 6) rfl go_ rfl 34 #[.int .i64 m.f0, .int .i64 m.f1, .int .i64 m.f2, .int .i64 m.f3, .int .i64 m.f4, .int .i64 m.f5, .int .i64 m.f6, .bool m.f7, .slice O8 m.f8.length o8, .int .i64 m.f9.f0, .int .i64 m.f9.f1, .int .i64 m.f9.f2, .slice O12 m.f9.f3.length o12, .int .i64 m.f10.f0, .int .i64 m.f10.f1, .int .i64 m.f10.f2, .slice O16 m.f10.f3.length o16] (0, 0) _ OBy.out Tryz.underlying34 rfl (by kernel_rfl) ?_
        go_wp2_with fail
        have h4 := refSameMs_is m m My.out OCy.out
        rw [eqMs_refl] at h4
        refine h4.mono ?_
        rintro e w18 ⟨rfl, hb⟩
        have BX := Lib.hid (BY.out.trans (hb.mono BY.out.size))
        clear h4 hb
        go_wp2_with fail
        go_ret
        exact ⟨rfl, BX.out⟩
end Go.Proofs.YtgiefblcckikeaaGreat.M
end

section
/- What is of small bulk has no long list. -/
namespace Go.Proofs.YtgiefblcckikeaaGreat.M
open Go.RowKit Go.Proofs.YtgiefblcckikeaaGreatW.PrintWords Go.Proofs.YtgiefblcckikeaaGreatW.PrintLast Go.Proofs.YtgiefblcckikeaaGreatW.PrintMore Go.Proofs.YtgiefblcckikeaaGreat.G
theorem szL_len {α : Type} {sz : α → Nat} (h : ∀ x, 1 ≤ sz x) : ∀ l : List α, l.length ≤ szL sz l
 | [] => by simp
 | x :: l => by
  have h1 := h x; have h2 := szL_len h l
  unfold szL at h2 ⊢
  simp only [List.length_cons, List.map_cons, List.sum_cons]
  omega
theorem szL_mem {α : Type} {sz : α → Nat} : ∀ {l : List α} {x : α}, x ∈ l → sz x ≤ szL sz l
 | y :: l, x, h => by
  unfold szL
  simp only [List.map_cons, List.sum_cons]
  rcases List.mem_cons.1 h with rfl | h
  ·omega
  ·have := szL_mem (sz := sz) h
   unfold szL at this
   omega
theorem smT_of {t : TxD} (h : szT t ≤ 1048576) : SmT t := by
 unfold szT at h
 have h2 : t.f2.length ≤ szN t.f2 := szL_len (sz := fun _ : Int => 1) (fun _ => Nat.le_refl _) t.f2
 have h3 : t.f3.length ≤ szN t.f3 := szL_len (sz := fun _ : Int => 1) (fun _ => Nat.le_refl _) t.f3
 have h4 := szL_len (sz := szK) (fun _ => by unfold szK; omega) t.f4
 have h5 := szL_len (sz := szK) (fun _ => by unfold szK; omega) t.f5
 exact ⟨by omega, by omega, by omega, by omega⟩
theorem smE_of {e : EntD} (h : szE e ≤ 1048576) : SmE e := by
 unfold szE at h
 refine ⟨?_, fun t ht => smT_of ?_⟩
 ·have := szL_len (sz := szT) (fun _ => by unfold szT; omega) e.f3
  omega
 ·have := szL_mem (sz := szT) ht
  omega
theorem smM_of {m : MsgD} (h : szM m ≤ 1048576) : SmM m := by
 unfold szM at h
 refine ⟨?_, fun x hx => smE_of ?_, smE_of (by omega), ?_⟩
 ·have := szL_len (sz := fun x : TrD => 1 + szE x.f1 + 1) (fun _ => by omega) m.f8
  omega
 ·have := szL_mem (sz := fun x : TrD => 1 + szE x.f1 + 1) hx
  omega
 ·have h2 : m.f10.f3.length ≤ szN m.f10.f3 := szL_len (sz := fun _ : Int => 1) (fun _ => Nat.le_refl _) m.f10.f3
  unfold szP at h
  omega
end Go.Proofs.YtgiefblcckikeaaGreat.M
end
