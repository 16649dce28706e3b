-- Written by a program of this session's (wip/gprint.py over the kit's printer).
import Derived.Test.YtdapnponlmimaaaGx0
import Derived.Test.YtdapnponlmimaaaGx2
import Derived.Test.YtdapnponlmimaaaGx3
import Derived.Test.YtdapnponlmimaaaGx8
import Derived.Test.YtdapnponlmimaaaMClone
import Derived.Test.YtdapnponlmimaaaMUnseal
namespace Go.Proofs.Ytdapnponlmimaaa.G
open Go.RowKit Go.Proofs.YtdapnponlmimaaaW.PrintWords Go.Proofs.YtdapnponlmimaaaW.PrintLast Go.Proofs.YtdapnponlmimaaaW.PrintMore
attribute [local go_sem] max2_int min2_int max_two min_two max_three min_three max_four min_four   -- for this text's walks alone
set_option linter.unusedVariables false
set_option linter.unusedSimpArgs false

/-! ### trivetlaw01_FormWhole: function 9 -/
mutual
def trivetlaw01_FormWhole.j0 : Nat → List Int → List Int → Int → List Int → Bool → Option (Bool)
  | 0, _, _, _, _, _ => none
  | k + 1, x0, x1, x2, x9, x48 => if x48 = true then (some false) else ((bytes_Clone.f x9).bind fun t371 => (if t371.length + x1.length < 140737488355328 then ((shape_Unseal.f (t371 ++ x1)).bind fun bt377 => (if bt377.2.2 = 0 then (if bt377.2.1 = (x9.length : Int) then ((bytes_Equal.f bt377.1 x0).bind fun t382 => (trivetlaw01_FormWhole.j1 k x0 x2 x9 (!t382))) else (trivetlaw01_FormWhole.j1 k x0 x2 x9 true)) else (trivetlaw01_FormWhole.j1 k x0 x2 x9 true))) else (none)))
def trivetlaw01_FormWhole.j1 : Nat → List Int → Int → List Int → Bool → Option (Bool)
  | 0, _, _, _, _ => none
  | k + 1, x0, x2, x9, x71 => if x71 = true then (some false) else (if (x9.length : Int) = 0 then (none) else (if 0 ≤ (Int.tmod (wrap64 (x2)) (x9.length : Int)) then (if (Int.tmod (wrap64 (x2)) (x9.length : Int)) ≤ (x9.length : Int) then ((shape_Unseal.f (x9.take ((Int.tmod (wrap64 (x2)) (x9.length : Int)) : Int).toNat)).bind fun bt387 => (if bt387.2.2 = 10 then (if (wrap64 ((x0.length : Int) + 8)) = 0 then (none) else (if 0 ≤ (wrap64 ((wrap64 ((wrap64 ((x9.length : Int) - (x0.length : Int))) - 8)) + (Int.tmod (wrap64 (x2)) (wrap64 ((x0.length : Int) + 8))))) then (if (wrap64 ((wrap64 ((wrap64 ((x9.length : Int) - (x0.length : Int))) - 8)) + (Int.tmod (wrap64 (x2)) (wrap64 ((x0.length : Int) + 8))))) < (x9.length : Int) then ((shape_Unseal.f (x9.set ((wrap64 ((wrap64 ((wrap64 ((x9.length : Int) - (x0.length : Int))) - 8)) + (Int.tmod (wrap64 (x2)) (wrap64 ((x0.length : Int) + 8))))) : Int).toNat (Go.bits .xor .u8 (rd x9 (wrap64 ((wrap64 ((wrap64 ((x9.length : Int) - (x0.length : Int))) - 8)) + (Int.tmod (wrap64 (x2)) (wrap64 ((x0.length : Int) + 8)))))) ((1 + ((Int.tmod x2 255) % 256)) % 256)))).bind fun bt394 => (some (bt394.2.2 == 12))) else (none)) else (none))) else (some false))) else (none)) else (none)))
end
def trivetlaw01_FormWhole.f (k : Nat) (l0 : List Int) (l1 : List Int) (a2 : Int) : Option (Bool) := if (l0.length : Int) > 1048576 then ((shape_Seal.f k l0).bind fun bt361 => ((trivetlaw01_live.f k).bind fun t365 => (if t365 = true then (some (bt361.2 == 3)) else (some false)))) else ((shape_Seal.f k l0).bind fun bt366 => (if bt366.2 = 0 then ((trivetlaw01_live.f k).bind fun t370 => (if t370 = true then (trivetlaw01_FormWhole.j0 k l0 l1 a2 bt366.1 (decide ((bt366.1.length : Int) < (wrap64 ((l0.length : Int) + 9))))) else (trivetlaw01_FormWhole.j0 k l0 l1 a2 bt366.1 true))) else (trivetlaw01_FormWhole.j0 k l0 l1 a2 bt366.1 true)))
theorem trivetlaw01_FormWhole.mono_l : ∀ k, (∀ y0 y1 y2 y3 y4, LeO (trivetlaw01_FormWhole.j0 k y0 y1 y2 y3 y4) (trivetlaw01_FormWhole.j0 (k + 1) y0 y1 y2 y3 y4)) ∧ (∀ y0 y1 y2 y3, LeO (trivetlaw01_FormWhole.j1 k y0 y1 y2 y3) (trivetlaw01_FormWhole.j1 (k + 1) y0 y1 y2 y3))
  | 0 => ⟨fun _ _ _ _ _ r h => by simp [trivetlaw01_FormWhole.j0] at h, fun _ _ _ _ r h => by simp [trivetlaw01_FormWhole.j1] at h⟩
  | k + 1 => by
    obtain ⟨ih0, ih1⟩ := trivetlaw01_FormWhole.mono_l k
    refine ⟨?_, ?_⟩
    · intro y0 y1 y2 y3 y4
      unfold trivetlaw01_FormWhole.j0
      repeat' first
      | (with_reducible exact ih0 _ _ _ _ _)
      | (with_reducible exact ih1 _ _ _ _)
      | (with_reducible exact shape_Seal.mono _ _)
      | (with_reducible exact trivetlaw01_live.mono _)
      | (with_reducible exact LeO.refl _)
      | (with_reducible exact LeO.none _)
      | (with_reducible refine LeO.ite ?_ ?_)
      | (with_reducible refine LeO.bind ?_ (fun _ => ?_))
      | exact ih0 _ _ _ _ _
      | exact ih1 _ _ _ _
      | exact shape_Seal.mono _ _
      | exact trivetlaw01_live.mono _
      | exact LeO.none _
      | refine LeO.ite ?_ ?_
      | refine LeO.bind ?_ (fun _ => ?_)
    · intro y0 y1 y2 y3
      unfold trivetlaw01_FormWhole.j1
      repeat' first
      | (with_reducible exact ih0 _ _ _ _ _)
      | (with_reducible exact ih1 _ _ _ _)
      | (with_reducible exact shape_Seal.mono _ _)
      | (with_reducible exact trivetlaw01_live.mono _)
      | (with_reducible exact LeO.refl _)
      | (with_reducible exact LeO.none _)
      | (with_reducible refine LeO.ite ?_ ?_)
      | (with_reducible refine LeO.bind ?_ (fun _ => ?_))
      | exact ih0 _ _ _ _ _
      | exact ih1 _ _ _ _
      | exact shape_Seal.mono _ _
      | exact trivetlaw01_live.mono _
      | exact LeO.none _
      | refine LeO.ite ?_ ?_
      | refine LeO.bind ?_ (fun _ => ?_)
theorem trivetlaw01_FormWhole.mono : ∀ a0 a1 a2 k, LeO (trivetlaw01_FormWhole.f k a0 a1 a2) (trivetlaw01_FormWhole.f (k + 1) a0 a1 a2) := by
  intro a0 a1 a2 k
  obtain ⟨ih0, ih1⟩ := trivetlaw01_FormWhole.mono_l k
  unfold trivetlaw01_FormWhole.f
  repeat' first
      | (with_reducible exact ih0 _ _ _ _ _)
      | (with_reducible exact ih1 _ _ _ _)
      | (with_reducible exact shape_Seal.mono _ _)
      | (with_reducible exact trivetlaw01_live.mono _)
      | (with_reducible exact LeO.refl _)
      | (with_reducible exact LeO.none _)
      | (with_reducible refine LeO.ite ?_ ?_)
      | (with_reducible refine LeO.bind ?_ (fun _ => ?_))
      | exact ih0 _ _ _ _ _
      | exact ih1 _ _ _ _
      | exact shape_Seal.mono _ _
      | exact trivetlaw01_live.mono _
      | exact LeO.none _
      | refine LeO.ite ?_ ?_
      | refine LeO.bind ?_ (fun _ => ?_)
set_option maxHeartbeats 8000000 in
set_option maxRecDepth 100000 in
theorem trivetlaw01_FormWhole.calls (k : Nat) (A0 : Option Addr) (c0 : Nat) (l0 : List Int) (A1 : Option Addr) (c1 : Nat) (l1 : List Int) (a2 : Int) (r : Bool) (w : World) (hr0 : Kd.C (Kd.int .u8) w A0 l0.length l0) (hc0 : l0.length ≤ c0) (hr1 : Kd.C (Kd.int .u8) w A1 l1.length l1) (hc1 : l1.length ≤ c1) (h : trivetlaw01_FormWhole.f k l0 l1 a2 = some r) :
    Calls Try.prog 9 #[.slice A0 l0.length c0, .slice A1 l1.length c1, .int .u16 a2] w fun e w' => e = .returned (.bool r) ∧ Below w.heap.size w w' := by
  have HR0 := Aside0.mk hr0
  have HC0 := Aside0.mk hc0
  clear hr0 hc0
  have HR1 := Aside0.mk hr1
  have HC1 := Aside0.mk hc1
  clear hr1 hc1
  have HB := Aside0.mk (Below.refl w.heap.size w)
  have H : (if (l0.length : Int) > 1048576 then ((shape_Seal.f k l0).bind fun bt361 => ((trivetlaw01_live.f k).bind fun t365 => (if t365 = true then (some (bt361.2 == 3)) else (some false)))) else ((shape_Seal.f k l0).bind fun bt366 => (if bt366.2 = 0 then ((trivetlaw01_live.f k).bind fun t370 => (if t370 = true then (trivetlaw01_FormWhole.j0 k l0 l1 a2 bt366.1 (decide ((bt366.1.length : Int) < (wrap64 ((l0.length : Int) + 9))))) else (trivetlaw01_FormWhole.j0 k l0 l1 a2 bt366.1 true))) else (trivetlaw01_FormWhole.j0 k l0 l1 a2 bt366.1 true)))) = some r := h
  clear h
  by_cases c4 : (l0.length : Int) > 1048576
  · rw [if_pos c4] at H
    have c4b0 : decide (1048576 < (l0.length : Int)) = true := decide_eq_true c4
    have c4b1 : decide (1048576 < l0.length) = true := decide_eq_true (by omega)
    clear c4
    replace H := Option.bind_eq_some_iff.mp H
    obtain ⟨⟨t361, t364⟩, A50, H⟩ := H
    replace H : ((trivetlaw01_live.f k).bind fun t365 => (if t365 = true then (some (t364 == 3)) else (some false))) = some r := H
    have A5 := Aside0.mk A50
    clear A50
    replace H := Option.bind_eq_some_iff.mp H
    obtain ⟨t365, A60, H⟩ := H
    replace H : (if t365 = true then (some (t364 == 3)) else (some false)) = some r := H
    have A6 := Aside0.mk A60
    clear A60
    by_cases c7 : t365 = true
    · subst c7
      have H1 : (some (t364 == 3)) = some r := by rw [if_pos rfl] at H; exact H
      clear H
      have H := H1
      clear H1
      obtain rfl := Option.some.inj H
      go_enter Try.func9, Try.ntmps9
      go_wp2_with (first | ((with_reducible refine gate_callee (f := 20) rfl ?_); refine goesL_ (some 22) rfl rfl Try.func20 (by kernel_rfl) rfl #[.slice A0 l0.length c0] rfl (by (try simp only [List.map_toArray, List.map_cons, List.map_nil]); first | done | rfl | (simp only [List.length_drop, List.length_take]; rfl)) ?_; (with_reducible refine (shape_Seal.calls k (fun k_ => k_ < w.heap.size) _ _ l0 t361 t364 _ ?side1 A5.out).mono ?_); (case side1 => exact Kd.V_mk HC0.out (Kd.F_below (Kd.C_F (Kd.heap_int .u8) HR0.out) (by repeat (first | (with_reducible first | exact HB.out | apply below_alloc | apply pw_below_drewN | apply below_drew1) | exact HB.out)))); rintro e w8 ⟨v362, rfl, ho0, hb⟩; refine ⟨_, rfl, ?_⟩; have n0_ := Aside0.mk (Kd.R_lower (Kd.R_mono (ok' := fun k_ => True) ho0 (fun _ hk_ => trivial)) (below_size (by repeat (first | (with_reducible first | exact HB.out | apply below_alloc | apply pw_below_drewN | apply below_drew1) | exact HB.out)))); have n1_ := Aside0.mk (below_step (by repeat (first | (with_reducible first | exact HB.out | apply below_alloc | apply pw_below_drewN | apply below_drew1) | exact HB.out)) hb); clear HB; have HO363 := n0_; have HB := n1_; clear n0_ n1_; (try clear hb); (try clear hb2); (try clear hk); (try clear hi); (try clear ho0)) | ((with_reducible refine gate_callee (f := 12) rfl ?_); refine goesL_ (some 25) rfl rfl Try.func12 (by kernel_rfl) rfl #[] rfl (by (try simp only [List.map_toArray, List.map_cons, List.map_nil]); first | done | rfl | (simp only [List.length_drop, List.length_take]; rfl)) ?_; (with_reducible refine (trivetlaw01_live.calls k  true _ A6.out).mono ?_); rintro e w9 ⟨rfl, hb⟩; refine ⟨_, rfl, ?_⟩; have n0_ := Aside0.mk (Kd.R_below (by (with_reducible repeat (first | apply Kd.R_alloc | apply Kd.R_drewN | apply Kd.R_drew)); exact HO363.out) hb); have n1_ := Aside0.mk (below_step (by repeat (first | (with_reducible first | exact HB.out | apply below_alloc | apply pw_below_drewN | apply below_drew1) | exact HB.out)) hb); clear HO363; clear HB; have HO363 := n0_; have HB := n1_; clear n0_ n1_; (try clear hb); (try clear hb2); (try clear hk); (try clear hi)))
      go_ret
      exact ⟨by first | rfl | (simp [errW_none, errW_some] <;> rfl) | (simp [*, errW_none, errW_some] <;> rfl), by repeat (first | (with_reducible first | exact HB.out | apply below_alloc | apply pw_below_drewN | apply below_drew1) | exact HB.out)⟩
    · replace c7 := Bool.eq_false_iff.mpr c7
      subst c7
      have H1 : (some false) = some r := by rw [if_neg (show ¬ (false = true) by decide)] at H; exact H
      clear H
      have H := H1
      clear H1
      obtain rfl := Option.some.inj H
      go_enter Try.func9, Try.ntmps9
      go_wp2_with (first | ((with_reducible refine gate_callee (f := 20) rfl ?_); refine goesL_ (some 22) rfl rfl Try.func20 (by kernel_rfl) rfl #[.slice A0 l0.length c0] rfl (by (try simp only [List.map_toArray, List.map_cons, List.map_nil]); first | done | rfl | (simp only [List.length_drop, List.length_take]; rfl)) ?_; (with_reducible refine (shape_Seal.calls k (fun k_ => k_ < w.heap.size) _ _ l0 t361 t364 _ ?side1 A5.out).mono ?_); (case side1 => exact Kd.V_mk HC0.out (Kd.F_below (Kd.C_F (Kd.heap_int .u8) HR0.out) (by repeat (first | (with_reducible first | exact HB.out | apply below_alloc | apply pw_below_drewN | apply below_drew1) | exact HB.out)))); rintro e w10 ⟨v362, rfl, ho0, hb⟩; refine ⟨_, rfl, ?_⟩; have n0_ := Aside0.mk (Kd.R_lower (Kd.R_mono (ok' := fun k_ => True) ho0 (fun _ hk_ => trivial)) (below_size (by repeat (first | (with_reducible first | exact HB.out | apply below_alloc | apply pw_below_drewN | apply below_drew1) | exact HB.out)))); have n1_ := Aside0.mk (below_step (by repeat (first | (with_reducible first | exact HB.out | apply below_alloc | apply pw_below_drewN | apply below_drew1) | exact HB.out)) hb); clear HB; have HO363 := n0_; have HB := n1_; clear n0_ n1_; (try clear hb); (try clear hb2); (try clear hk); (try clear hi); (try clear ho0)) | ((with_reducible refine gate_callee (f := 12) rfl ?_); refine goesL_ (some 25) rfl rfl Try.func12 (by kernel_rfl) rfl #[] rfl (by (try simp only [List.map_toArray, List.map_cons, List.map_nil]); first | done | rfl | (simp only [List.length_drop, List.length_take]; rfl)) ?_; (with_reducible refine (trivetlaw01_live.calls k  false _ A6.out).mono ?_); rintro e w11 ⟨rfl, hb⟩; refine ⟨_, rfl, ?_⟩; have n0_ := Aside0.mk (Kd.R_below (by (with_reducible repeat (first | apply Kd.R_alloc | apply Kd.R_drewN | apply Kd.R_drew)); exact HO363.out) hb); have n1_ := Aside0.mk (below_step (by repeat (first | (with_reducible first | exact HB.out | apply below_alloc | apply pw_below_drewN | apply below_drew1) | exact HB.out)) hb); clear HO363; clear HB; have HO363 := n0_; have HB := n1_; clear n0_ n1_; (try clear hb); (try clear hb2); (try clear hk); (try clear hi)))
      go_ret
      exact ⟨by first | rfl | (simp [errW_none, errW_some] <;> rfl) | (simp [*, errW_none, errW_some] <;> rfl), by repeat (first | (with_reducible first | exact HB.out | apply below_alloc | apply pw_below_drewN | apply below_drew1) | exact HB.out)⟩
  · rw [if_neg c4] at H
    have c4b0 : decide (1048576 < (l0.length : Int)) = false := decide_eq_false c4
    have c4b1 : decide (1048576 < l0.length) = false := decide_eq_false (by omega)
    clear c4
    replace H := Option.bind_eq_some_iff.mp H
    obtain ⟨⟨t366, t369⟩, A120, H⟩ := H
    replace H : (if t369 = 0 then ((trivetlaw01_live.f k).bind fun t370 => (if t370 = true then (trivetlaw01_FormWhole.j0 k l0 l1 a2 t366 (decide ((t366.length : Int) < (wrap64 ((l0.length : Int) + 9))))) else (trivetlaw01_FormWhole.j0 k l0 l1 a2 t366 true))) else (trivetlaw01_FormWhole.j0 k l0 l1 a2 t366 true)) = some r := H
    have A12 := Aside0.mk A120
    clear A120
    have HC13 := Aside0.mk H
    clear H
    go_enter Try.func9, Try.ntmps9
    go_upto_region 5 with (first | ((with_reducible refine gate_callee (f := 20) rfl ?_); refine goesL_ (some 32) rfl rfl Try.func20 (by kernel_rfl) rfl #[.slice A0 l0.length c0] rfl (by (try simp only [List.map_toArray, List.map_cons, List.map_nil]); first | done | rfl | (simp only [List.length_drop, List.length_take]; rfl)) ?_; (with_reducible refine (shape_Seal.calls k (fun k_ => k_ < w.heap.size) _ _ l0 t366 t369 _ ?side1 A12.out).mono ?_); (case side1 => exact Kd.V_mk HC0.out (Kd.F_below (Kd.C_F (Kd.heap_int .u8) HR0.out) (by repeat (first | (with_reducible first | exact HB.out | apply below_alloc | apply pw_below_drewN | apply below_drew1) | exact HB.out)))); rintro e w14 ⟨v367, rfl, ho0, hb⟩; refine ⟨_, rfl, ?_⟩; have n0_ := Aside0.mk (Kd.R_lower (Kd.R_mono (ok' := fun k_ => True) ho0 (fun _ hk_ => trivial)) (below_size (by repeat (first | (with_reducible first | exact HB.out | apply below_alloc | apply pw_below_drewN | apply below_drew1) | exact HB.out)))); have n1_ := Aside0.mk (below_step (by repeat (first | (with_reducible first | exact HB.out | apply below_alloc | apply pw_below_drewN | apply below_drew1) | exact HB.out)) hb); clear HB; have HO368 := n0_; have HB := n1_; clear n0_ n1_; (try clear hb); (try clear hb2); (try clear hk); (try clear hi); (try clear ho0)))
    (try simp only [Act.put, List.setIfInBounds_toArray, List.set_cons_zero, List.set_cons_succ])
    go_cut [48] (fun v48 wc => ∃ (kq : Nat) (x48_12 : Bool), v48 = .bool x48_12 ∧ Aside0 (trivetlaw01_FormWhole.j0 kq l0 l1 a2 t366 x48_12 = some r) ∧ Aside0 (kq ≤ k) ∧ Aside0 (Kd.R (Kd.int .u8) 5 wc w.heap.size (fun _ => True) v367 t366) ∧ Aside0 (Below w.heap.size w wc))
    case first =>
      have H := HC13.out
      clear HC13
      by_cases c15 : t369 = 0
      · rw [if_pos c15] at H
        have c15b0 : (t369 == 0) = true := beq_iff_eq.mpr c15
        have c15b1 : (t369 != 0) = false := bne_eq_false_iff_eq.mpr c15
        clear c15
        (first | rw [c15b0] | (simp only [i64_w, i32_w]; rw [c15b0]) | skip)
        replace H := Option.bind_eq_some_iff.mp H
        obtain ⟨t370, A160, H⟩ := H
        replace H : (if t370 = true then (trivetlaw01_FormWhole.j0 k l0 l1 a2 t366 (decide ((t366.length : Int) < (wrap64 ((l0.length : Int) + 9))))) else (trivetlaw01_FormWhole.j0 k l0 l1 a2 t366 true)) = some r := H
        have A16 := Aside0.mk A160
        clear A160
        by_cases c17 : t370 = true
        · subst c17
          have H1 : (trivetlaw01_FormWhole.j0 k l0 l1 a2 t366 (decide ((t366.length : Int) < (wrap64 ((l0.length : Int) + 9))))) = some r := by rw [if_pos rfl] at H; exact H
          clear H
          have H := H1
          clear H1
          have H' := Aside0.mk H
          clear H
          go_wp2_with (first | (go_at_call 12; (with_reducible refine (trivetlaw01_live.calls k  true _ A16.out).mono ?_); rintro e w18 ⟨rfl, hb⟩; have n0_ := Aside0.mk (Kd.R_below (by (with_reducible repeat (first | apply Kd.R_alloc | apply Kd.R_drewN | apply Kd.R_drew)); exact HO368.out) hb); have n1_ := Aside0.mk (below_step (by repeat (first | (with_reducible first | exact HB.out | apply below_alloc | apply pw_below_drewN | apply below_drew1) | exact HB.out)) hb); clear HO368; clear HB; have HO368 := n0_; have HB := n1_; clear n0_ n1_; (try clear hb); (try clear hb2); (try clear hk); (try clear hi); obtain ⟨Ao19, co19, eo19⟩ := Kd.R_slice HO368.out; subst eo19))
          go_meet
          case rel => exact ⟨_, (decide ((t366.length : Int) < (wrap64 ((l0.length : Int) + 9)))), (by first | rfl | (simp; done) | (simp [*]; done)), H', ⟨by first | omega | exact Nat.le_refl _⟩, ⟨by (with_reducible repeat (first | apply Kd.R_alloc | apply Kd.R_drewN | apply Kd.R_drew)); exact HO368.out⟩, ⟨by repeat (first | (with_reducible first | exact HB.out | apply below_alloc | apply pw_below_drewN | apply below_drew1) | exact HB.out)⟩⟩
        · replace c17 := Bool.eq_false_iff.mpr c17
          subst c17
          have H1 : (trivetlaw01_FormWhole.j0 k l0 l1 a2 t366 true) = some r := by rw [if_neg (show ¬ (false = true) by decide)] at H; exact H
          clear H
          have H := H1
          clear H1
          have H' := Aside0.mk H
          clear H
          go_wp2_with (first | (go_at_call 12; (with_reducible refine (trivetlaw01_live.calls k  false _ A16.out).mono ?_); rintro e w20 ⟨rfl, hb⟩; have n0_ := Aside0.mk (Kd.R_below (by (with_reducible repeat (first | apply Kd.R_alloc | apply Kd.R_drewN | apply Kd.R_drew)); exact HO368.out) hb); have n1_ := Aside0.mk (below_step (by repeat (first | (with_reducible first | exact HB.out | apply below_alloc | apply pw_below_drewN | apply below_drew1) | exact HB.out)) hb); clear HO368; clear HB; have HO368 := n0_; have HB := n1_; clear n0_ n1_; (try clear hb); (try clear hb2); (try clear hk); (try clear hi)))
          go_meet
          case rel => exact ⟨_, (true), (by first | rfl | (simp; done) | (simp [*]; done)), H', ⟨by first | omega | exact Nat.le_refl _⟩, ⟨by (with_reducible repeat (first | apply Kd.R_alloc | apply Kd.R_drewN | apply Kd.R_drew)); exact HO368.out⟩, ⟨by repeat (first | (with_reducible first | exact HB.out | apply below_alloc | apply pw_below_drewN | apply below_drew1) | exact HB.out)⟩⟩
      · rw [if_neg c15] at H
        have c15b0 : (t369 == 0) = false := beq_eq_false_iff_ne.mpr c15
        have c15b1 : (t369 != 0) = true := bne_iff_ne.mpr c15
        (first | rw [c15b0] | (simp only [i64_w, i32_w]; rw [c15b0]) | skip)
        have H' := Aside0.mk H
        clear H
        go_wp2
        go_meet
        case rel => exact ⟨_, (true), (by first | rfl | (simp; done) | (simp [*]; done)), H', ⟨by first | omega | exact Nat.le_refl _⟩, ⟨by (with_reducible repeat (first | apply Kd.R_alloc | apply Kd.R_drewN | apply Kd.R_drew)); exact HO368.out⟩, ⟨by repeat (first | (with_reducible first | exact HB.out | apply below_alloc | apply pw_below_drewN | apply below_drew1) | exact HB.out)⟩⟩
    case rest =>
      clear HC13
      try clear c1
      try clear c2
      try clear p2
      try clear c4
      try clear c4b0
      try clear c4b1
      try clear p6
      try clear c7
      try clear c9
      try clear c12
      try clear c15
      try clear c15b0
      try clear c15b1
      try clear c17
      try clear c20
      obtain ⟨kq, x48_12, rfl, HA, HJ12, HO_9, HB⟩ := hcut
      cases kq with
      | zero => exact absurd HA.out (by simp [trivetlaw01_FormWhole.j0])
      | succ kj12 =>
        have H := HA.out
        clear HA
        simp only [trivetlaw01_FormWhole.j0] at H
        by_cases c21 : x48_12 = true
        · subst c21
          have H1 : (some false) = some r := by rw [if_pos rfl] at H; exact H
          clear H
          have H := H1
          clear H1
          obtain rfl := Option.some.inj H
          go_wp2
          go_ret
          exact ⟨by first | rfl | (simp [errW_none, errW_some] <;> rfl) | (simp [*, errW_none, errW_some] <;> rfl), by repeat (first | (with_reducible first | exact HB.out | apply below_alloc | apply pw_below_drewN | apply below_drew1) | exact HB.out)⟩
        · replace c21 := Bool.eq_false_iff.mpr c21
          subst c21
          have H1 : ((bytes_Clone.f t366).bind fun t371 => (if t371.length + l1.length < 140737488355328 then ((shape_Unseal.f (t371 ++ l1)).bind fun bt377 => (if bt377.2.2 = 0 then (if bt377.2.1 = (t366.length : Int) then ((bytes_Equal.f bt377.1 l0).bind fun t382 => (trivetlaw01_FormWhole.j1 kj12 l0 a2 t366 (!t382))) else (trivetlaw01_FormWhole.j1 kj12 l0 a2 t366 true)) else (trivetlaw01_FormWhole.j1 kj12 l0 a2 t366 true))) else (none))) = some r := by rw [if_neg (show ¬ (false = true) by decide)] at H; exact H
          clear H
          have H := H1
          clear H1
          replace H := Option.bind_eq_some_iff.mp H
          obtain ⟨t371, A220, H⟩ := H
          replace H : (if t371.length + l1.length < 140737488355328 then ((shape_Unseal.f (t371 ++ l1)).bind fun bt377 => (if bt377.2.2 = 0 then (if bt377.2.1 = (t366.length : Int) then ((bytes_Equal.f bt377.1 l0).bind fun t382 => (trivetlaw01_FormWhole.j1 kj12 l0 a2 t366 (!t382))) else (trivetlaw01_FormWhole.j1 kj12 l0 a2 t366 true)) else (trivetlaw01_FormWhole.j1 kj12 l0 a2 t366 true))) else (none)) = some r := H
          have A22 := Aside0.mk A220
          clear A220
          by_cases c23 : t371.length + l1.length < 140737488355328
          · rw [if_pos c23] at H
            have LMc23 := Aside0.mk c23
            clear c23
            obtain ⟨y374, hy374⟩ : ∃ y_ : List Int, y_ = (t371 ++ l1) := ⟨_, rfl⟩
            replace H : ((shape_Unseal.f y374).bind fun bt377 => (if bt377.2.2 = 0 then (if bt377.2.1 = (t366.length : Int) then ((bytes_Equal.f bt377.1 l0).bind fun t382 => (trivetlaw01_FormWhole.j1 kj12 l0 a2 t366 (!t382))) else (trivetlaw01_FormWhole.j1 kj12 l0 a2 t366 true)) else (trivetlaw01_FormWhole.j1 kj12 l0 a2 t366 true))) = some r := by first | (rw [hy374]; with_reducible exact H) | (have H2_ := (Option.bind_some _ _).symm.trans H; rw [hy374]; with_reducible exact H2_) | (have H2_ := (Option.bind_some _ _).symm.trans H; with_reducible exact H2_) | with_reducible exact H | (rw [hy374]; exact H) | exact H
            have Ny374 := Aside0.mk hy374
            clear hy374
            replace H := Option.bind_eq_some_iff.mp H
            obtain ⟨⟨t377, t378, t379⟩, A240, H⟩ := H
            replace H : (if t379 = 0 then (if t378 = (t366.length : Int) then ((bytes_Equal.f t377 l0).bind fun t382 => (trivetlaw01_FormWhole.j1 kj12 l0 a2 t366 (!t382))) else (trivetlaw01_FormWhole.j1 kj12 l0 a2 t366 true)) else (trivetlaw01_FormWhole.j1 kj12 l0 a2 t366 true)) = some r := H
            have A24 := Aside0.mk A240
            clear A240
            have HC25 := Aside0.mk H
            clear H
            obtain ⟨Ao26, co26, eo26⟩ := Kd.R_slice HO_9.out
            subst eo26
            go_upto_region 8 with (first | ((with_reducible refine gate_callee (f := 19) rfl ?_); refine goesL_ (some 51) rfl rfl Try.func19 (by kernel_rfl) rfl #[.slice Ao26 t366.length co26] rfl (by (try simp only [List.map_toArray, List.map_cons, List.map_nil]); first | done | rfl | (simp only [List.length_drop, List.length_take]; rfl)) ?_; (with_reducible refine (bytes_Clone.calls _ _ t366 t371 _ ?side1 ?side2 A22.out).mono ?_); (case side1 => repeat (first | exact (Kd.R_reads' HO_9.out).2.2 | (with_reducible refine Kd.C_alloc ?_ _) | (with_reducible refine Kd.C_drewN ?_ _) | (with_reducible refine Kd.C_drew ?_))); (case side2 => exact (Kd.R_reads' HO_9.out).2.1); rintro e w27 ⟨v372, rfl, ho0, hb⟩; refine ⟨_, rfl, ?_⟩; have n0_ := Aside0.mk (Kd.R_elder' (by (with_reducible repeat (first | apply Kd.R_alloc | apply Kd.R_drewN | apply Kd.R_drew)); exact HO_9.out) (Kd.R_base ho0) hb); have n1_ := Aside0.mk (Kd.R_lower (Kd.R_new' ho0 (Kd.R_lt (by (with_reducible repeat (first | apply Kd.R_alloc | apply Kd.R_drewN | apply Kd.R_drew)); exact HO_9.out))) (below_size (by repeat (first | (with_reducible first | exact HB.out | apply below_alloc | apply pw_below_drewN | apply below_drew1) | exact HB.out)))); have n2_ := Aside0.mk (below_step (by repeat (first | (with_reducible first | exact HB.out | apply below_alloc | apply pw_below_drewN | apply below_drew1) | exact HB.out)) hb); clear HO_9; clear HB; have HO_9 := n0_; have HO373 := n1_; have HB := n2_; clear n0_ n1_ n2_; (try clear hb); (try clear hb2); (try clear hk); (try clear hi); (try clear ho0)) | ((with_reducible refine gate_builtin (b := .append) (xs := #[.tmp 51, .tmp 52]) rfl ?_); (try (refine gate_guard (by rfl) ?_; dsimp only)); at_builtin; refine Kd.R_append_rows (Kd.int .u8) (w0 := w) w.heap.size rfl (.tmp 51) (.tmp 52) 22 5 (.int .u8 0) 1 rfl Try.underlying22 info5 rfl (by decide) (by omega) v372 t371 l1 _ _ _ (fun k_ => some k_ ≠ (.slice Ao26 t366.length co26 : Value).ownBlock) (fun _ => False) rfl rfl ?aO ?aR (fun _ _ h => h) (fun _ h => h.elim) ?aF ?aB ?aS ?aL ?_; (case aR => repeat (first | exact (Kd.C_below HR1.out HB.out) | (with_reducible refine Kd.C_alloc ?_ _) | (with_reducible refine Kd.C_drewN ?_ _) | (with_reducible refine Kd.C_drew ?_))); (case aB => exact (by repeat (first | (with_reducible first | exact HB.out | apply below_alloc | apply pw_below_drewN | apply below_drew1) | exact HB.out))); (case aF => exact (fun k_ hk => Kd.fresh' (Kd.R_lt (by (with_reducible repeat (first | apply Kd.R_alloc | apply Kd.R_drewN | apply Kd.R_drew)); exact HO_9.out)) k_ hk)); (case aO => exact (by (with_reducible repeat (first | apply Kd.R_alloc | apply Kd.R_drewN | apply Kd.R_drew)); exact Kd.R_mono HO373.out (fun _ hk => hk.2))); (case aS => exact (below_size (by repeat (first | (with_reducible first | exact HB.out | apply below_alloc | apply pw_below_drewN | apply below_drew1) | exact HB.out)))); (case aL => have := LMc23.out; omega); intro v375 w28 ho hb hg hat; rw [← Ny374.out] at ho; have n0_ := Aside0.mk (Kd.R_after (ok := (fun _ => True)) (by (with_reducible repeat (first | apply Kd.R_alloc | apply Kd.R_drewN | apply Kd.R_drew)); exact HO_9.out) hg hat); have n1_ := Aside0.mk (hb); have n2_ := Aside0.mk (ho); clear HO_9; clear HB; clear HO373; have HO_9 := n0_; have HB := n1_; have HO376 := n2_; clear n0_ n1_ n2_; clear ho hb hg hat; obtain ⟨Ao29, co29, eo29⟩ := Kd.R_slice HO376.out; subst eo29) | ((with_reducible refine gate_callee (f := 27) rfl ?_); refine goesL_ (some 54) rfl rfl Try.func27 (by kernel_rfl) rfl #[.slice Ao29 y374.length co29] rfl (by (try simp only [List.map_toArray, List.map_cons, List.map_nil]); first | done | rfl | (simp only [List.length_drop, List.length_take]; rfl)) ?_; (with_reducible refine (shape_Unseal.calls _ _ y374 t377 t378 t379 _ ?side1 ?side2 A24.out).mono ?_); (case side1 => repeat (first | exact (Kd.R_reads' HO376.out).2.2 | (with_reducible refine Kd.C_alloc ?_ _) | (with_reducible refine Kd.C_drewN ?_ _) | (with_reducible refine Kd.C_drew ?_))); (case side2 => exact (Kd.R_reads' HO376.out).2.1); rintro e w30 ⟨v380, rfl, ho0, hb⟩; refine ⟨_, rfl, ?_⟩; have n0_ := Aside0.mk (Kd.R_elder' (by (with_reducible repeat (first | apply Kd.R_alloc | apply Kd.R_drewN | apply Kd.R_drew)); exact HO_9.out) (Kd.R_base ho0) hb); have n1_ := Aside0.mk (Kd.R_elder' (by (with_reducible repeat (first | apply Kd.R_alloc | apply Kd.R_drewN | apply Kd.R_drew)); exact HO376.out) (Kd.R_base ho0) hb); have n2_ := Aside0.mk (Kd.R_lower (Kd.R_new' (Kd.R_new' ho0 (Kd.R_lt (by (with_reducible repeat (first | apply Kd.R_alloc | apply Kd.R_drewN | apply Kd.R_drew)); exact HO_9.out))) (Kd.R_lt (by (with_reducible repeat (first | apply Kd.R_alloc | apply Kd.R_drewN | apply Kd.R_drew)); exact HO376.out))) (below_size (by repeat (first | (with_reducible first | exact HB.out | apply below_alloc | apply pw_below_drewN | apply below_drew1) | exact HB.out)))); have n3_ := Aside0.mk (below_step (by repeat (first | (with_reducible first | exact HB.out | apply below_alloc | apply pw_below_drewN | apply below_drew1) | exact HB.out)) hb); clear HO_9; clear HO376; clear HB; have HO_9 := n0_; have HO376 := n1_; have HO381 := n2_; have HB := n3_; clear n0_ n1_ n2_ n3_; (try clear hb); (try clear hb2); (try clear hk); (try clear hi); (try clear ho0)))
            (try simp only [Act.put, List.setIfInBounds_toArray, List.set_cons_zero, List.set_cons_succ])
            go_cut [71] (fun v71 wc => ∃ (kq : Nat) (x71_24 : Bool), v71 = .bool x71_24 ∧ Aside0 (trivetlaw01_FormWhole.j1 kq l0 a2 t366 x71_24 = some r) ∧ Aside0 (kq ≤ kj12) ∧ Aside0 (Kd.R (Kd.int .u8) 5 wc w.heap.size (fun _ => True) (.slice Ao26 t366.length co26) t366) ∧ Aside0 (Below w.heap.size w wc))
            case first =>
              have H := HC25.out
              clear HC25
              by_cases c31 : t379 = 0
              · rw [if_pos c31] at H
                have c31b0 : (t379 == 0) = true := beq_iff_eq.mpr c31
                have c31b1 : (t379 != 0) = false := bne_eq_false_iff_eq.mpr c31
                clear c31
                (first | rw [c31b0] | (simp only [i64_w, i32_w]; rw [c31b0]) | skip)
                by_cases c32 : t378 = (t366.length : Int)
                · rw [if_pos c32] at H
                  have c32b0 : (t378 == (t366.length : Int)) = true := beq_iff_eq.mpr c32
                  have c32b1 : (t378 != (t366.length : Int)) = false := bne_eq_false_iff_eq.mpr c32
                  clear c32
                  replace H := Option.bind_eq_some_iff.mp H
                  obtain ⟨t382, A330, H⟩ := H
                  replace H : (trivetlaw01_FormWhole.j1 kj12 l0 a2 t366 (!t382)) = some r := H
                  have A33 := Aside0.mk A330
                  clear A330
                  have H' := Aside0.mk H
                  clear H
                  obtain ⟨Ao34, co34, eo34⟩ := Kd.R_slice HO381.out
                  subst eo34
                  go_wp2_with (first | (go_at_call 13; (with_reducible refine (bytes_Equal.calls _ _ t377 _ _ l0 t382 _ ?side1 ?side2 ?side3 ?side4 A33.out).mono ?_); (case side1 => repeat (first | exact (Kd.R_reads' HO381.out).2.2 | (with_reducible refine Kd.C_alloc ?_ _) | (with_reducible refine Kd.C_drewN ?_ _) | (with_reducible refine Kd.C_drew ?_))); (case side2 => exact (Kd.R_reads' HO381.out).2.1); (case side3 => repeat (first | exact (Kd.C_below HR0.out HB.out) | (with_reducible refine Kd.C_alloc ?_ _) | (with_reducible refine Kd.C_drewN ?_ _) | (with_reducible refine Kd.C_drew ?_))); (case side4 => exact HC0.out); rintro e w' ⟨rfl, ⟨nd, rfl⟩⟩))
                  go_meet
                  case rel => exact ⟨_, (!t382), (by first | rfl | (simp; done) | (simp [*]; done)), H', ⟨by have := HJ12.out; first | omega | exact Nat.le_refl _⟩, ⟨by (with_reducible repeat (first | apply Kd.R_alloc | apply Kd.R_drewN | apply Kd.R_drew)); exact Kd.R_mono HO_9.out (fun _ hk => trivial)⟩, ⟨by repeat (first | (with_reducible first | exact HB.out | apply below_alloc | apply pw_below_drewN | apply below_drew1) | exact HB.out)⟩⟩
                · rw [if_neg c32] at H
                  have c32b0 : (t378 == (t366.length : Int)) = false := beq_eq_false_iff_ne.mpr c32
                  have c32b1 : (t378 != (t366.length : Int)) = true := bne_iff_ne.mpr c32
                  have H' := Aside0.mk H
                  clear H
                  go_wp2
                  go_meet
                  case rel => exact ⟨_, (true), (by first | rfl | (simp; done) | (simp [*]; done)), H', ⟨by have := HJ12.out; first | omega | exact Nat.le_refl _⟩, ⟨by (with_reducible repeat (first | apply Kd.R_alloc | apply Kd.R_drewN | apply Kd.R_drew)); exact Kd.R_mono HO_9.out (fun _ hk => trivial)⟩, ⟨by repeat (first | (with_reducible first | exact HB.out | apply below_alloc | apply pw_below_drewN | apply below_drew1) | exact HB.out)⟩⟩
              · rw [if_neg c31] at H
                have c31b0 : (t379 == 0) = false := beq_eq_false_iff_ne.mpr c31
                have c31b1 : (t379 != 0) = true := bne_iff_ne.mpr c31
                (first | rw [c31b0] | (simp only [i64_w, i32_w]; rw [c31b0]) | skip)
                have H' := Aside0.mk H
                clear H
                go_wp2
                go_meet
                case rel => exact ⟨_, (true), (by first | rfl | (simp; done) | (simp [*]; done)), H', ⟨by have := HJ12.out; first | omega | exact Nat.le_refl _⟩, ⟨by (with_reducible repeat (first | apply Kd.R_alloc | apply Kd.R_drewN | apply Kd.R_drew)); exact Kd.R_mono HO_9.out (fun _ hk => trivial)⟩, ⟨by repeat (first | (with_reducible first | exact HB.out | apply below_alloc | apply pw_below_drewN | apply below_drew1) | exact HB.out)⟩⟩
            case rest =>
              clear HC25
              try clear c1
              try clear c2
              try clear p2
              try clear c3
              try clear c4
              try clear c4b0
              try clear c4b1
              try clear p6
              try clear c7
              try clear c9
              try clear c12
              try clear c15
              try clear c15b0
              try clear c15b1
              try clear c17
              try clear c19
              try clear c20
              try clear c21
              try clear c23
              try clear c27
              try clear c31
              try clear c31b0
              try clear c31b1
              try clear c32
              try clear c32b0
              try clear c32b1
              try clear p2
              try clear p6
              obtain ⟨kq, x71_24, rfl, HA, HJ24, HO_9, HB⟩ := hcut
              cases kq with
              | zero => exact absurd HA.out (by simp [trivetlaw01_FormWhole.j1])
              | succ kj24 =>
                have H := HA.out
                clear HA
                simp only [trivetlaw01_FormWhole.j1] at H
                by_cases c35 : x71_24 = true
                · subst c35
                  have H1 : (some false) = some r := by rw [if_pos rfl] at H; exact H
                  clear H
                  have H := H1
                  clear H1
                  obtain rfl := Option.some.inj H
                  go_wp2
                  go_ret
                  exact ⟨by first | rfl | (simp [errW_none, errW_some] <;> rfl) | (simp [*, errW_none, errW_some] <;> rfl), by repeat (first | (with_reducible first | exact HB.out | apply below_alloc | apply pw_below_drewN | apply below_drew1) | exact HB.out)⟩
                · replace c35 := Bool.eq_false_iff.mpr c35
                  subst c35
                  have H1 : (if (t366.length : Int) = 0 then (none) else (if 0 ≤ (Int.tmod (wrap64 (a2)) (t366.length : Int)) then (if (Int.tmod (wrap64 (a2)) (t366.length : Int)) ≤ (t366.length : Int) then ((shape_Unseal.f (t366.take ((Int.tmod (wrap64 (a2)) (t366.length : Int)) : Int).toNat)).bind fun bt387 => (if bt387.2.2 = 10 then (if (wrap64 ((l0.length : Int) + 8)) = 0 then (none) else (if 0 ≤ (wrap64 ((wrap64 ((wrap64 ((t366.length : Int) - (l0.length : Int))) - 8)) + (Int.tmod (wrap64 (a2)) (wrap64 ((l0.length : Int) + 8))))) then (if (wrap64 ((wrap64 ((wrap64 ((t366.length : Int) - (l0.length : Int))) - 8)) + (Int.tmod (wrap64 (a2)) (wrap64 ((l0.length : Int) + 8))))) < (t366.length : Int) then ((shape_Unseal.f (t366.set ((wrap64 ((wrap64 ((wrap64 ((t366.length : Int) - (l0.length : Int))) - 8)) + (Int.tmod (wrap64 (a2)) (wrap64 ((l0.length : Int) + 8))))) : Int).toNat (Go.bits .xor .u8 (rd t366 (wrap64 ((wrap64 ((wrap64 ((t366.length : Int) - (l0.length : Int))) - 8)) + (Int.tmod (wrap64 (a2)) (wrap64 ((l0.length : Int) + 8)))))) ((1 + ((Int.tmod a2 255) % 256)) % 256)))).bind fun bt394 => (some (bt394.2.2 == 12))) else (none)) else (none))) else (some false))) else (none)) else (none))) = some r := by rw [if_neg (show ¬ (false = true) by decide)] at H; exact H
                  clear H
                  have H := H1
                  clear H1
                  by_cases c36 : (t366.length : Int) = 0
                  · rw [if_pos c36] at H
                    exact absurd H (by simp)
                  · rw [if_neg c36] at H
                    have c36b0 : ((t366.length : Int) == 0) = false := beq_eq_false_iff_ne.mpr c36
                    have c36b1 : ((t366.length : Int) != 0) = true := bne_iff_ne.mpr c36
                    have c36b2 : ¬ (t366 = []) := fun h_ => c36 (by rw [h_]; rfl)
                    obtain ⟨ji37, hji37⟩ : ∃ j_ : Int, (Int.tmod (wrap64 (a2)) (t366.length : Int)) = j_ := ⟨_, rfl⟩
                    replace H : (if 0 ≤ (ji37) then (if (ji37) ≤ (t366.length : Int) then ((shape_Unseal.f (t366.take ((ji37) : Int).toNat)).bind fun bt387 => (if bt387.2.2 = 10 then (if (wrap64 ((l0.length : Int) + 8)) = 0 then (none) else (if 0 ≤ (wrap64 ((wrap64 ((wrap64 ((t366.length : Int) - (l0.length : Int))) - 8)) + (Int.tmod (wrap64 (a2)) (wrap64 ((l0.length : Int) + 8))))) then (if (wrap64 ((wrap64 ((wrap64 ((t366.length : Int) - (l0.length : Int))) - 8)) + (Int.tmod (wrap64 (a2)) (wrap64 ((l0.length : Int) + 8))))) < (t366.length : Int) then ((shape_Unseal.f (t366.set ((wrap64 ((wrap64 ((wrap64 ((t366.length : Int) - (l0.length : Int))) - 8)) + (Int.tmod (wrap64 (a2)) (wrap64 ((l0.length : Int) + 8))))) : Int).toNat (Go.bits .xor .u8 (rd t366 (wrap64 ((wrap64 ((wrap64 ((t366.length : Int) - (l0.length : Int))) - 8)) + (Int.tmod (wrap64 (a2)) (wrap64 ((l0.length : Int) + 8)))))) ((1 + ((Int.tmod a2 255) % 256)) % 256)))).bind fun bt394 => (some (bt394.2.2 == 12))) else (none)) else (none))) else (some false))) else (none)) else (none)) = some r := by first | (rw [hji37] at H; exact H) | (simp only [hji37] at H ⊢; exact H)
                    by_cases c38 : 0 ≤ (ji37)
                    · rw [if_pos c38] at H
                      have c38b0 := eq_true c38
                      have c38b1 : decide (0 ≤ (ji37)) = true := decide_eq_true c38
                      clear c38
                      by_cases c39 : (ji37) ≤ (t366.length : Int)
                      · rw [if_pos c39] at H
                        have c39b0 := eq_true c39
                        have c39b1 : decide ((ji37) ≤ (t366.length : Int)) = true := decide_eq_true c39
                        clear c39
                        obtain ⟨y383, hy383⟩ : ∃ y_ : List Int, y_ = (t366.take ((ji37) : Int).toNat) := ⟨_, rfl⟩
                        replace H : ((shape_Unseal.f y383).bind fun bt387 => (if bt387.2.2 = 10 then (if (wrap64 ((l0.length : Int) + 8)) = 0 then (none) else (if 0 ≤ (wrap64 ((wrap64 ((wrap64 ((t366.length : Int) - (l0.length : Int))) - 8)) + (Int.tmod (wrap64 (a2)) (wrap64 ((l0.length : Int) + 8))))) then (if (wrap64 ((wrap64 ((wrap64 ((t366.length : Int) - (l0.length : Int))) - 8)) + (Int.tmod (wrap64 (a2)) (wrap64 ((l0.length : Int) + 8))))) < (t366.length : Int) then ((shape_Unseal.f (t366.set ((wrap64 ((wrap64 ((wrap64 ((t366.length : Int) - (l0.length : Int))) - 8)) + (Int.tmod (wrap64 (a2)) (wrap64 ((l0.length : Int) + 8))))) : Int).toNat (Go.bits .xor .u8 (rd t366 (wrap64 ((wrap64 ((wrap64 ((t366.length : Int) - (l0.length : Int))) - 8)) + (Int.tmod (wrap64 (a2)) (wrap64 ((l0.length : Int) + 8)))))) ((1 + ((Int.tmod a2 255) % 256)) % 256)))).bind fun bt394 => (some (bt394.2.2 == 12))) else (none)) else (none))) else (some false))) = some r := by first | (rw [hy383]; with_reducible exact H) | (have H2_ := (Option.bind_some _ _).symm.trans H; rw [hy383]; with_reducible exact H2_) | (have H2_ := (Option.bind_some _ _).symm.trans H; with_reducible exact H2_) | with_reducible exact H | (rw [hy383]; exact H) | exact H
                        have Ny383 := Aside0.mk hy383
                        clear hy383
                        replace H := Option.bind_eq_some_iff.mp H
                        obtain ⟨⟨t387, t388, t389⟩, A400, H⟩ := H
                        replace H : (if t389 = 10 then (if (wrap64 ((l0.length : Int) + 8)) = 0 then (none) else (if 0 ≤ (wrap64 ((wrap64 ((wrap64 ((t366.length : Int) - (l0.length : Int))) - 8)) + (Int.tmod (wrap64 (a2)) (wrap64 ((l0.length : Int) + 8))))) then (if (wrap64 ((wrap64 ((wrap64 ((t366.length : Int) - (l0.length : Int))) - 8)) + (Int.tmod (wrap64 (a2)) (wrap64 ((l0.length : Int) + 8))))) < (t366.length : Int) then ((shape_Unseal.f (t366.set ((wrap64 ((wrap64 ((wrap64 ((t366.length : Int) - (l0.length : Int))) - 8)) + (Int.tmod (wrap64 (a2)) (wrap64 ((l0.length : Int) + 8))))) : Int).toNat (Go.bits .xor .u8 (rd t366 (wrap64 ((wrap64 ((wrap64 ((t366.length : Int) - (l0.length : Int))) - 8)) + (Int.tmod (wrap64 (a2)) (wrap64 ((l0.length : Int) + 8)))))) ((1 + ((Int.tmod a2 255) % 256)) % 256)))).bind fun bt394 => (some (bt394.2.2 == 12))) else (none)) else (none))) else (some false)) = some r := H
                        have A40 := Aside0.mk A400
                        clear A400
                        by_cases c41 : t389 = 10
                        · rw [if_pos c41] at H
                          have c41b0 : (t389 == 10) = true := beq_iff_eq.mpr c41
                          have c41b1 : (t389 != 10) = false := bne_eq_false_iff_eq.mpr c41
                          clear c41
                          by_cases c42 : (wrap64 ((l0.length : Int) + 8)) = 0
                          · rw [if_pos c42] at H
                            exact absurd H (by simp)
                          · rw [if_neg c42] at H
                            have c42b0 : ((wrap64 ((l0.length : Int) + 8)) == 0) = false := beq_eq_false_iff_ne.mpr c42
                            have c42b1 : ((wrap64 ((l0.length : Int) + 8)) != 0) = true := bne_iff_ne.mpr c42
                            obtain ⟨ji43, hji43⟩ : ∃ j_ : Int, (wrap64 ((wrap64 ((wrap64 ((t366.length : Int) - (l0.length : Int))) - 8)) + (Int.tmod (wrap64 (a2)) (wrap64 ((l0.length : Int) + 8))))) = j_ := ⟨_, rfl⟩
                            replace H : (if 0 ≤ (ji43) then (if (ji43) < (t366.length : Int) then ((shape_Unseal.f (t366.set ((ji43) : Int).toNat (Go.bits .xor .u8 (rd t366 (ji43)) ((1 + ((Int.tmod a2 255) % 256)) % 256)))).bind fun bt394 => (some (bt394.2.2 == 12))) else (none)) else (none)) = some r := by first | (rw [hji43] at H; exact H) | (simp only [hji43] at H ⊢; exact H)
                            (try rw [hji43] at A40)
                            (try rw [hji43] at LMc23)
                            have hji43w : (IntKind.i64.wrap ((wrap64 ((wrap64 ((t366.length : Int) - (l0.length : Int))) - 8)) + (Int.tmod (wrap64 (a2)) (wrap64 ((l0.length : Int) + 8))))) = ji43 := (i64_w _).trans hji43
                            by_cases c44 : 0 ≤ (ji43)
                            · rw [if_pos c44] at H
                              have c44b0 : decide (0 ≤ (ji43)) = true := decide_eq_true c44
                              clear c44
                              by_cases c45 : (ji43) < (t366.length : Int)
                              · rw [if_pos c45] at H
                                have c45b0 : decide ((ji43) < (t366.length : Int)) = true := decide_eq_true c45
                                clear c45
                                obtain ⟨y393, hy393⟩ : ∃ y_ : List Int, y_ = (t366.set ((ji43) : Int).toNat (Go.bits .xor .u8 (rd t366 (ji43)) ((1 + ((Int.tmod a2 255) % 256)) % 256))) := ⟨_, rfl⟩
                                replace H : ((shape_Unseal.f y393).bind fun bt394 => (some (bt394.2.2 == 12))) = some r := by first | (rw [hy393]; with_reducible exact H) | (have H2_ := (Option.bind_some _ _).symm.trans H; rw [hy393]; with_reducible exact H2_) | (have H2_ := (Option.bind_some _ _).symm.trans H; with_reducible exact H2_) | with_reducible exact H | (rw [hy393]; exact H) | exact H
                                have Ny393 := Aside0.mk hy393
                                clear hy393
                                replace H := Option.bind_eq_some_iff.mp H
                                obtain ⟨⟨t394, t395, t396⟩, A470, H⟩ := H
                                replace H : (some (t396 == 12)) = some r := H
                                have A47 := Aside0.mk A470
                                clear A470
                                obtain rfl := Option.some.inj H
                                have q48 : ((ji37) : Int) ≤ ((t366.length : Int) : Int) := of_decide_eq_true (by first | (with_reducible assumption) | assumption)
                                obtain ⟨i048, hi048, _, hsz48, _⟩ := info_parts info5
                                have hroom48 : t366.length ≤ co26 := (Kd.R_reads' HO_9.out).2.1
                                have hC48 : Kd.C (Kd.int .u8) _ Ao26 t366.length t366 := (Kd.R_reads' HO_9.out).2.2
                                have hcut48 := cut_to (P := Try.prog) 22 5 .i64 Try.underlying22 hi048 Ao26 t366.length co26 (ji37) (of_decide_eq_true (by first | (with_reducible assumption) | assumption)) q48 hroom48
                                have hr48 := Kd.C_take (m := ((ji37) : Int).toNat) hC48 (by omega)
                                have hy48 : y383.length = ((ji37) : Int).toNat := (by rw [Ny383.out, List.length_take]; omega)
                                rw [← Ny383.out] at hr48
                                rw [← hy48] at hcut48
                                have HR386 := Aside0.mk hr48
                                have HC386 := Aside0.mk (show y383.length ≤ co26 from by omega)
                                clear hr48 hC48 hroom48 hi048 hsz48
                                have KY48 := Aside0.mk hy48
                                clear hy48
                                have KL48 := Aside0.mk (show ((ji37) : Int).toNat ≤ t366.length from by omega)
                                replace q48 := eq_true q48
                                go_wp2_with (first | ((with_reducible refine gate_callee (f := 27) rfl ?_); refine goesL_ (some 80) rfl rfl Try.func27 (by kernel_rfl) rfl #[.slice Ao26 y383.length co26] rfl (by (try simp only [List.map_toArray, List.map_cons, List.map_nil]); first | done | rfl | (simp only [List.length_drop, List.length_take]; rfl)) ?_; (with_reducible refine (shape_Unseal.calls _ _ y383 t387 t388 t389 _ ?side1 ?side2 A40.out).mono ?_); (case side1 => repeat (first | exact (by repeat (first | (with_reducible exact HR386.out) | (with_reducible refine Kd.C_alloc ?_ _) | (with_reducible refine Kd.C_drewN ?_ _) | (with_reducible refine Kd.C_drew ?_) | exact HR386.out)) | (with_reducible refine Kd.C_alloc ?_ _) | (with_reducible refine Kd.C_drewN ?_ _) | (with_reducible refine Kd.C_drew ?_))); (case side2 => exact HC386.out); rintro e w49 ⟨v390, rfl, ho0, hb⟩; refine ⟨_, rfl, ?_⟩; have n0_ := Aside0.mk (Kd.R_elder' (by (with_reducible repeat (first | apply Kd.R_alloc | apply Kd.R_drewN | apply Kd.R_drew)); exact HO_9.out) (Kd.R_base ho0) hb); have n1_ := Aside0.mk (Kd.R_lower (Kd.R_new' ho0 (Kd.R_lt (by (with_reducible repeat (first | apply Kd.R_alloc | apply Kd.R_drewN | apply Kd.R_drew)); exact HO_9.out))) (below_size (by repeat (first | (with_reducible first | exact HB.out | apply below_alloc | apply pw_below_drewN | apply below_drew1) | exact HB.out)))); have n2_ := Aside0.mk (Kd.C_below (by repeat (first | (with_reducible exact HR386.out) | (with_reducible refine Kd.C_alloc ?_ _) | (with_reducible refine Kd.C_drewN ?_ _) | (with_reducible refine Kd.C_drew ?_) | exact HR386.out)) hb); have n3_ := Aside0.mk (below_step (by repeat (first | (with_reducible first | exact HB.out | apply below_alloc | apply pw_below_drewN | apply below_drew1) | exact HB.out)) hb); clear HO_9; clear HR386; clear HB; have HO_9 := n0_; have HO391 := n1_; have HR386 := n2_; have HB := n3_; clear n0_ n1_ n2_ n3_; (try clear hb); (try clear hb2); (try clear hk); (try clear hi); (try clear ho0); have p392 : 0 ≤ ((ji43) : Int) := of_decide_eq_true (by first | (with_reducible assumption) | assumption); have q392 : (ji43) < (t366.length : Int) := of_decide_eq_true (by first | (with_reducible assumption) | assumption); obtain ⟨ad392, e392, hx392_0⟩ := Kd.at_int (Kd.R_reads' HO_9.out).2.2 (ji43) p392 q392; cases e392; replace p392 := eq_true p392; replace q392 := eq_true q392; have p46 : 0 ≤ ((ji43) : Int) := of_decide_eq_true (by first | (with_reducible assumption) | assumption); have q46 : ((ji43) : Int) < ((t366.length : Int) : Int) := of_decide_eq_true (by first | (with_reducible assumption) | assumption); obtain ⟨go46, co46, eo46, gb46, gl46, cl46, HG46⟩ := Kd.R_form HO_9.out (by omega); (first | cases eo46 | (injection eo46 with ea_ en_ ec_; (first | subst ea_ | (injection ea_ with ea_; subst ea_)); subst ec_; clear en_)); have GB46 := Aside0.mk gb46; have GG46 := Aside0.mk HG46; clear gb46 gl46 HG46; (first | simp only [add_plain] at hx392_0 | skip); obtain ⟨hx46_0, hf46_0⟩ := Kd.R_celln 0 HO_9.out ((ji43) : Int) p46 q46; replace p46 := eq_true p46; replace q46 := eq_true q46; have n_ := Aside0.mk (Kd.R_mono (ok' := (fun k_ => some k_ ≠ (v390 : Value).ownBlock)) HO_9.out (fun k_ hk => hk.2)); clear HO_9; have HO_9 := n_; clear n_; obtain ⟨hy50_, hz50_⟩ := Kd.R_celln 0 HO_9.out ((ji43) : Int) (of_decide_eq_true (by first | (with_reducible assumption) | assumption)) (of_decide_eq_true (by first | (with_reducible assumption) | assumption)); have HP50 := Kd.R_putg HO_9.out ((ji43) : Int) (Go.bits .xor .u8 (rd t366 (ji43)) ((1 + ((Int.tmod a2 255) % 256)) % 256))) | ((with_reducible refine gate_store (t := 5) (p := 108) rfl ?_); refine store_event (t := 5) (p := 108) (v := ?vo_w51) (w1 := (w49.setCell ⟨go46, ((ji43) : Int).toNat, none⟩ (.int .u8 (Go.bits .xor .u8 (rd t366 (ji43)) ((1 + ((Int.tmod a2 255) % 256)) % 256))))) ?hg ?ho ?hn ?hr ?_; (case ho => rfl); (case hg => rfl); (case hn => rfl); (case hr => first | (go_simp; done) | (go_simp; rfl)); intro w51 hw; have hg : w49.grownBy w51 (some go46) := (by rw [hw]; exact HP50.2); have hp_ : Kd.R (Kd.int .u8) 5 w51 w.heap.size (fun k_ => some k_ ≠ (v390 : Value).ownBlock) (.slice (some ⟨go46, 0, none⟩) t366.length co26) y393 := (by rw [hw, Ny393.out]; exact HP50.1); clear HP50; have n0_ := Aside0.mk (hp_); have n1_ := Aside0.mk (Kd.R_after (v := (.slice (some ⟨go46, 0, none⟩) t366.length co26)) (v1 := (.slice (some ⟨go46, 0, none⟩) t366.length co26)) (ok := (fun _ => True)) (by (with_reducible repeat (first | apply Kd.R_alloc | apply Kd.R_drewN | apply Kd.R_drew)); exact HO391.out) hg (.inl rfl)); have n2_ := Aside0.mk ((by rw [hw]; exact below_set (HB.out) GB46.out : Below w.heap.size w w51)); clear HO_9; clear HO391; clear HB; have HO_9 := n0_; have HO391 := n1_; have HB := n2_; clear n0_ n1_ n2_; clear hg hw hp_) | ((with_reducible refine gate_callee (f := 27) rfl ?_); refine goesL_ (some 111) rfl rfl Try.func27 (by kernel_rfl) rfl #[.slice (some ⟨go46, 0, none⟩) y393.length co26] rfl (by (try simp only [List.map_toArray, List.map_cons, List.map_nil]); first | done | (rw [show y393.length = t366.length from (Kd.R_reads' HO_9.out).1.symm] <;> rfl) | rfl | (simp only [List.length_drop, List.length_take]; rfl)) ?_; (with_reducible refine (shape_Unseal.calls _ _ y393 t394 t395 t396 _ ?side1 ?side2 A47.out).mono ?_); (case side1 => repeat (first | exact (Kd.R_reads' HO_9.out).2.2 | (with_reducible refine Kd.C_alloc ?_ _) | (with_reducible refine Kd.C_drewN ?_ _) | (with_reducible refine Kd.C_drew ?_))); (case side2 => rw [show y393.length = t366.length from (Kd.R_reads' HO_9.out).1.symm]; exact (Kd.R_reads' HO_9.out).2.1); rintro e w52 ⟨v397, rfl, ho0, hb⟩; refine ⟨_, rfl, ?_⟩; have n0_ := Aside0.mk (Kd.R_elder' (by (with_reducible repeat (first | apply Kd.R_alloc | apply Kd.R_drewN | apply Kd.R_drew)); exact HO_9.out) (Kd.R_base ho0) hb); have n1_ := Aside0.mk (Kd.R_elder' (by (with_reducible repeat (first | apply Kd.R_alloc | apply Kd.R_drewN | apply Kd.R_drew)); exact HO391.out) (Kd.R_base ho0) hb); have n2_ := Aside0.mk (Kd.R_lower (Kd.R_new' (Kd.R_new' ho0 (Kd.R_lt (by (with_reducible repeat (first | apply Kd.R_alloc | apply Kd.R_drewN | apply Kd.R_drew)); exact HO_9.out))) (Kd.R_lt (by (with_reducible repeat (first | apply Kd.R_alloc | apply Kd.R_drewN | apply Kd.R_drew)); exact HO391.out))) (below_size (by repeat (first | (with_reducible first | exact HB.out | apply below_alloc | apply pw_below_drewN | apply below_drew1) | exact HB.out)))); have n3_ := Aside0.mk (below_step (by repeat (first | (with_reducible first | exact HB.out | apply below_alloc | apply pw_below_drewN | apply below_drew1) | exact HB.out)) hb); clear HO_9; clear HO391; clear HB; have HO_9 := n0_; have HO391 := n1_; have HO398 := n2_; have HB := n3_; clear n0_ n1_ n2_ n3_; (try clear hb); (try clear hb2); (try clear hk); (try clear hi); (try clear ho0)))
                                go_ret
                                exact ⟨by first | rfl | (simp [errW_none, errW_some] <;> rfl) | (simp only [← hji37, ← hji43]; first | rfl | (simp [errW_none, errW_some] <;> rfl)) | (simp [*, errW_none, errW_some] <;> rfl), by repeat (first | (with_reducible first | exact HB.out | apply below_alloc | apply pw_below_drewN | apply below_drew1) | exact HB.out)⟩
                              · rw [if_neg c45] at H
                                exact absurd H (by simp)
                            · rw [if_neg c44] at H
                              exact absurd H (by simp)
                        · rw [if_neg c41] at H
                          have c41b0 : (t389 == 10) = false := beq_eq_false_iff_ne.mpr c41
                          have c41b1 : (t389 != 10) = true := bne_iff_ne.mpr c41
                          obtain rfl := Option.some.inj H
                          have q53 : ((ji37) : Int) ≤ ((t366.length : Int) : Int) := of_decide_eq_true (by first | (with_reducible assumption) | assumption)
                          obtain ⟨i053, hi053, _, hsz53, _⟩ := info_parts info5
                          have hroom53 : t366.length ≤ co26 := (Kd.R_reads' HO_9.out).2.1
                          have hC53 : Kd.C (Kd.int .u8) _ Ao26 t366.length t366 := (Kd.R_reads' HO_9.out).2.2
                          have hcut53 := cut_to (P := Try.prog) 22 5 .i64 Try.underlying22 hi053 Ao26 t366.length co26 (ji37) (of_decide_eq_true (by first | (with_reducible assumption) | assumption)) q53 hroom53
                          have hr53 := Kd.C_take (m := ((ji37) : Int).toNat) hC53 (by omega)
                          have hy53 : y383.length = ((ji37) : Int).toNat := (by rw [Ny383.out, List.length_take]; omega)
                          rw [← Ny383.out] at hr53
                          rw [← hy53] at hcut53
                          have HR386 := Aside0.mk hr53
                          have HC386 := Aside0.mk (show y383.length ≤ co26 from by omega)
                          clear hr53 hC53 hroom53 hi053 hsz53
                          have KY53 := Aside0.mk hy53
                          clear hy53
                          have KL53 := Aside0.mk (show ((ji37) : Int).toNat ≤ t366.length from by omega)
                          replace q53 := eq_true q53
                          go_wp2_with (first | ((with_reducible refine gate_callee (f := 27) rfl ?_); refine goesL_ (some 80) rfl rfl Try.func27 (by kernel_rfl) rfl #[.slice Ao26 y383.length co26] rfl (by (try simp only [List.map_toArray, List.map_cons, List.map_nil]); first | done | rfl | (simp only [List.length_drop, List.length_take]; rfl)) ?_; (with_reducible refine (shape_Unseal.calls _ _ y383 t387 t388 t389 _ ?side1 ?side2 A40.out).mono ?_); (case side1 => repeat (first | exact (by repeat (first | (with_reducible exact HR386.out) | (with_reducible refine Kd.C_alloc ?_ _) | (with_reducible refine Kd.C_drewN ?_ _) | (with_reducible refine Kd.C_drew ?_) | exact HR386.out)) | (with_reducible refine Kd.C_alloc ?_ _) | (with_reducible refine Kd.C_drewN ?_ _) | (with_reducible refine Kd.C_drew ?_))); (case side2 => exact HC386.out); rintro e w54 ⟨v390, rfl, ho0, hb⟩; refine ⟨_, rfl, ?_⟩; have n0_ := Aside0.mk (Kd.R_elder' (by (with_reducible repeat (first | apply Kd.R_alloc | apply Kd.R_drewN | apply Kd.R_drew)); exact HO_9.out) (Kd.R_base ho0) hb); have n1_ := Aside0.mk (Kd.R_lower (Kd.R_new' ho0 (Kd.R_lt (by (with_reducible repeat (first | apply Kd.R_alloc | apply Kd.R_drewN | apply Kd.R_drew)); exact HO_9.out))) (below_size (by repeat (first | (with_reducible first | exact HB.out | apply below_alloc | apply pw_below_drewN | apply below_drew1) | exact HB.out)))); have n2_ := Aside0.mk (Kd.C_below (by repeat (first | (with_reducible exact HR386.out) | (with_reducible refine Kd.C_alloc ?_ _) | (with_reducible refine Kd.C_drewN ?_ _) | (with_reducible refine Kd.C_drew ?_) | exact HR386.out)) hb); have n3_ := Aside0.mk (below_step (by repeat (first | (with_reducible first | exact HB.out | apply below_alloc | apply pw_below_drewN | apply below_drew1) | exact HB.out)) hb); clear HO_9; clear HR386; clear HB; have HO_9 := n0_; have HO391 := n1_; have HR386 := n2_; have HB := n3_; clear n0_ n1_ n2_ n3_; (try clear hb); (try clear hb2); (try clear hk); (try clear hi); (try clear ho0)))
                          go_ret
                          exact ⟨by first | rfl | (simp [errW_none, errW_some] <;> rfl) | (simp only [← hji37]; first | rfl | (simp [errW_none, errW_some] <;> rfl)) | (simp [*, errW_none, errW_some] <;> rfl), by repeat (first | (with_reducible first | exact HB.out | apply below_alloc | apply pw_below_drewN | apply below_drew1) | exact HB.out)⟩
                      · rw [if_neg c39] at H
                        exact absurd H (by simp)
                    · rw [if_neg c38] at H
                      exact absurd H (by simp)
          · rw [if_neg c23] at H
            exact absurd H (by simp)

/-- THE ONE PURE STATEMENT of trivetlaw01_FormWhole: yours. -/
def trivetlaw01_FormWhole.Pure : Prop := ∀ (l0 : List Int) (l1 : List Int) (a2 : Int), l0.length ≤ maxLen → l0.length * 1 ≤ 140737488351232 → (∀ x ∈ l0, (Lit.int .u8 x).wf = true) → l1.length ≤ maxLen → l1.length * 1 ≤ 140737488351232 → (∀ x ∈ l1, (Lit.int .u8 x).wf = true) → (Lit.int .u16 a2).wf = true → ∃ k, trivetlaw01_FormWhole.f k l0 l1 a2 = some true
theorem trivetlaw01_FormWhole.walk (P : trivetlaw01_FormWhole.Pure) (a0 : Option Addr) (len0 cap0 : Nat) (z0 : List Int) (a1 : Option Addr) (len1 cap1 : Nat) (z1 : List Int) (a2 : Int) (w : World) (w0 : (a0 = none ∧ len0 = 0 ∧ cap0 = 0 ∧ z0 = []) ∨ ∃ x, a0 = some x ∧ len0 ≤ cap0 ∧ cap0 ≤ maxLen ∧ z0.length = cap0 ∧ (∀ i, i < z0.length → w.cell? (x.add i) = some (.int .u8 (z0.getD i 0))) ∧ ∀ n ∈ z0, (Lit.int .u8 n).wf = true) (y0 : len0 * 1 ≤ 140737488351232) (w1 : (a1 = none ∧ len1 = 0 ∧ cap1 = 0 ∧ z1 = []) ∨ ∃ x, a1 = some x ∧ len1 ≤ cap1 ∧ cap1 ≤ maxLen ∧ z1.length = cap1 ∧ (∀ i, i < z1.length → w.cell? (x.add i) = some (.int .u8 (z1.getD i 0))) ∧ ∀ n ∈ z1, (Lit.int .u8 n).wf = true) (y1 : len1 * 1 ≤ 140737488351232) (w2 : (Lit.int .u16 a2).wf = true) :
    Calls Try.prog 9 #[.slice a0 len0 cap0, .slice a1 len1 cap1, .int .u16 a2] w fun e w' => e = .returned (.bool true) ∧ Below w.heap.size w w' := by
  obtain ⟨l0, rfl, hr0, hm0, hw0, hc0⟩ := ReadsInt.ofRowC w0
  obtain ⟨l1, rfl, hr1, hm1, hw1, hc1⟩ := ReadsInt.ofRowC w1
  obtain ⟨k, h⟩ := P l0 l1 a2 hm0 y0 hw0 hm1 y1 hw1 w2
  refine (trivetlaw01_FormWhole.calls k _ _ l0 _ _ l1 a2 true w (Kd.C_of_reads (d := (0 : Int)) (h1 := fun _ => rfl) hr0) hc0 (Kd.C_of_reads (d := (0 : Int)) (h1 := fun _ => rfl) hr1) hc1 h).mono ?_
  rintro e w' ⟨rfl, hd⟩
  exact ⟨rfl, hd⟩

end Go.Proofs.Ytdapnponlmimaaa.G
