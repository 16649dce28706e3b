/- RecordPutsSaid: contracts of the functions that the law goes through, put together in build order (part 6 of 6). -/
import Derived.Test.YtgiefblcckikeaaPart4
import Derived.Deep.RegionHeld3
import Derived.SizedLaws
import Derived.ChangeSlices
section

-- Written by a program of this session's (wip/gprint.py over the kit's printer).
namespace Go.Proofs.Ytgiefblcckikeaa.G
open Go.RowKit Go.Proofs.YtgiefblcckikeaaW.PrintWords Go.Proofs.YtgiefblcckikeaaW.PrintLast Go.Proofs.YtgiefblcckikeaaW.PrintMore
attribute [local go_sem] max2_int min2_int max_two min_two max_three min_three max_four min_four   -- for this text's walks alone
set_option linter.unusedVariables false
set_option linter.unusedSimpArgs false
def trivetref01_TakeBlob.f (l0 : List Int) : Option (List Int × Int × Int) := (trivetref01_TakeNum.f l0).bind fun bt295 => (if bt295.2.2 = 0 then (if bt295.1 < 0 then (some (([] : List Int), 0, 11)) else (if bt295.1 > (wrap64 ((l0.length : Int) - bt295.2.1)) then (some (([] : List Int), 0, 10)) else (if 0 ≤ bt295.2.1 then (if bt295.2.1 ≤ (wrap64 (bt295.2.1 + bt295.1)) then (if (wrap64 (bt295.2.1 + bt295.1)) ≤ (l0.length : Int) then (if ([] : List Int).length + ((l0.take ((wrap64 (bt295.2.1 + bt295.1)) : Int).toNat).drop (bt295.2.1 : Int).toNat).length < 140737488355328 then (some ((([] : List Int) ++ ((l0.take ((wrap64 (bt295.2.1 + bt295.1)) : Int).toNat).drop (bt295.2.1 : Int).toNat)), wrap64 (bt295.2.1 + bt295.1), 0)) else (none)) else (none)) else (none)) else (none)))) else (some (([] : List Int), 0, bt295.2.2)))
set_option maxHeartbeats 8000000 in
set_option maxRecDepth 100000 in
theorem trivetref01_TakeBlob.calls (A0 : Option Addr) (c0 : Nat) (l0 : List Int) (r1 : List Int) (r2 : Int) (r3 : Int) (w : World) (hr0 : Kd.C (Kd.int .u8) w A0 l0.length l0) (hc0 : l0.length ≤ c0) (h : trivetref01_TakeBlob.f l0 = some (r1, r2, r3)) :
    Calls Try.prog 82 #[.slice A0 l0.length c0] w fun e w' => ∃ v0_ : Value, e = .returned (.tuple #[v0_, .int .i64 r2, .int .i64 r3]) ∧ Kd.R (Kd.int .u8) 5 w' w.heap.size (fun _ => True) v0_ r1 ∧ Below w.heap.size w w' := by
  have HR0 := Aside0.mk hr0
  have HC0 := Aside0.mk hc0
  clear hr0 hc0
  have HB := Aside0.mk (Below.refl w.heap.size w)
  have H : ((trivetref01_TakeNum.f l0).bind fun bt295 => (if bt295.2.2 = 0 then (if bt295.1 < 0 then (some (([] : List Int), 0, 11)) else (if bt295.1 > (wrap64 ((l0.length : Int) - bt295.2.1)) then (some (([] : List Int), 0, 10)) else (if 0 ≤ bt295.2.1 then (if bt295.2.1 ≤ (wrap64 (bt295.2.1 + bt295.1)) then (if (wrap64 (bt295.2.1 + bt295.1)) ≤ (l0.length : Int) then (if ([] : List Int).length + ((l0.take ((wrap64 (bt295.2.1 + bt295.1)) : Int).toNat).drop (bt295.2.1 : Int).toNat).length < 140737488355328 then (some ((([] : List Int) ++ ((l0.take ((wrap64 (bt295.2.1 + bt295.1)) : Int).toNat).drop (bt295.2.1 : Int).toNat)), wrap64 (bt295.2.1 + bt295.1), 0)) else (none)) else (none)) else (none)) else (none)))) else (some (([] : List Int), 0, bt295.2.2)))) = some (r1, r2, r3) := h
  clear h
  replace H := Option.bind_eq_some_iff.mp H
  obtain ⟨⟨t295, t296, t297⟩, A20, H⟩ := H
  replace H : (if t297 = 0 then (if t295 < 0 then (some (([] : List Int), 0, 11)) else (if t295 > (wrap64 ((l0.length : Int) - t296)) then (some (([] : List Int), 0, 10)) else (if 0 ≤ t296 then (if t296 ≤ (wrap64 (t296 + t295)) then (if (wrap64 (t296 + t295)) ≤ (l0.length : Int) then (if ([] : List Int).length + ((l0.take ((wrap64 (t296 + t295)) : Int).toNat).drop (t296 : Int).toNat).length < 140737488355328 then (some ((([] : List Int) ++ ((l0.take ((wrap64 (t296 + t295)) : Int).toNat).drop (t296 : Int).toNat)), wrap64 (t296 + t295), 0)) else (none)) else (none)) else (none)) else (none)))) else (some (([] : List Int), 0, t297))) = some (r1, r2, r3) := H
  have A2 := Aside0.mk A20
  clear A20
  by_cases c3 : t297 = 0
  · rw [if_pos c3] at H
    have c3b0 : (t297 == 0) = true := beq_iff_eq.mpr c3
    have c3b1 : (t297 != 0) = false := bne_eq_false_iff_eq.mpr c3
    clear c3
    by_cases c4 : t295 < 0
    · rw [if_pos c4] at H
      have c4b0 : decide (t295 < 0) = true := decide_eq_true c4
      clear c4
      simp only [Option.some.injEq, Prod.mk.injEq] at H
      obtain ⟨rfl, rfl, rfl⟩ := H
      go_enter Try.func82, Try.ntmps82
      go_wp2_with (first | ((with_reducible refine gate_callee (f := 80) rfl ?_); refine goesL_ (some 11) rfl rfl Try.func80 (by kernel_rfl) rfl #[.slice A0 l0.length c0] rfl (by (try simp only [List.map_toArray, List.map_cons, List.map_nil]); first | done | rfl | (simp only [List.length_drop, List.length_take]; rfl)) ?_; (with_reducible refine (trivetref01_TakeNum.calls _ _ l0 t295 t296 t297 _ ?side1 ?side2 A2.out).mono ?_); (case side1 => repeat (first | exact HR0.out | (with_reducible refine Kd.C_alloc ?_ _) | (with_reducible refine Kd.C_drewN ?_ _) | (with_reducible refine Kd.C_drew ?_))); (case side2 => exact HC0.out); rintro e w5 ⟨rfl, hb⟩; refine ⟨_, rfl, ?_⟩; have n0_ := Aside0.mk (below_step (by repeat (first | (with_reducible first | exact HB.out | apply below_alloc | apply pw_below_drewN | apply below_drew1) | exact HB.out)) hb); clear HB; have HB := n0_; clear n0_; (try clear hb); (try clear hb2); (try clear hk); (try clear hi)))
      go_ret3
      exact ⟨_, by first | rfl | (simp [errW_none, errW_some] <;> rfl) | (simp [*, errW_none, errW_some] <;> rfl), by first | exact Kd.R_nil _ _ _ _ _ | exact Kd.N_nil _ _ _ _ _ | exact Kd.V_nil _ _ _ _ _ | exact Kd.Q_nil _ _ _ _ _ | exact Kd.S_nil _ _ _ _ _, by repeat (first | (with_reducible first | exact HB.out | apply below_alloc | apply pw_below_drewN | apply below_drew1) | exact HB.out)⟩
    · rw [if_neg c4] at H
      have c4b0 : decide (t295 < 0) = false := decide_eq_false c4
      clear c4
      by_cases c6 : t295 > (wrap64 ((l0.length : Int) - t296))
      · rw [if_pos c6] at H
        have c6b0 : decide ((wrap64 ((l0.length : Int) - t296)) < t295) = true := decide_eq_true c6
        clear c6
        simp only [Option.some.injEq, Prod.mk.injEq] at H
        obtain ⟨rfl, rfl, rfl⟩ := H
        go_enter Try.func82, Try.ntmps82
        go_wp2_with (first | ((with_reducible refine gate_callee (f := 80) rfl ?_); refine goesL_ (some 11) rfl rfl Try.func80 (by kernel_rfl) rfl #[.slice A0 l0.length c0] rfl (by (try simp only [List.map_toArray, List.map_cons, List.map_nil]); first | done | rfl | (simp only [List.length_drop, List.length_take]; rfl)) ?_; (with_reducible refine (trivetref01_TakeNum.calls _ _ l0 t295 t296 t297 _ ?side1 ?side2 A2.out).mono ?_); (case side1 => repeat (first | exact HR0.out | (with_reducible refine Kd.C_alloc ?_ _) | (with_reducible refine Kd.C_drewN ?_ _) | (with_reducible refine Kd.C_drew ?_))); (case side2 => exact HC0.out); rintro e w7 ⟨rfl, hb⟩; refine ⟨_, rfl, ?_⟩; have n0_ := Aside0.mk (below_step (by repeat (first | (with_reducible first | exact HB.out | apply below_alloc | apply pw_below_drewN | apply below_drew1) | exact HB.out)) hb); clear HB; have HB := n0_; clear n0_; (try clear hb); (try clear hb2); (try clear hk); (try clear hi)))
        go_ret3
        exact ⟨_, by first | rfl | (simp [errW_none, errW_some] <;> rfl) | (simp [*, errW_none, errW_some] <;> rfl), by first | exact Kd.R_nil _ _ _ _ _ | exact Kd.N_nil _ _ _ _ _ | exact Kd.V_nil _ _ _ _ _ | exact Kd.Q_nil _ _ _ _ _ | exact Kd.S_nil _ _ _ _ _, by repeat (first | (with_reducible first | exact HB.out | apply below_alloc | apply pw_below_drewN | apply below_drew1) | exact HB.out)⟩
      · rw [if_neg c6] at H
        have c6b0 : decide ((wrap64 ((l0.length : Int) - t296)) < t295) = false := decide_eq_false c6
        clear c6
        by_cases c8 : 0 ≤ t296
        · rw [if_pos c8] at H
          have c8b0 := eq_true c8
          have c8b1 : decide (0 ≤ t296) = true := decide_eq_true c8
          clear c8
          by_cases c9 : t296 ≤ (wrap64 (t296 + t295))
          · rw [if_pos c9] at H
            have c9b0 := eq_true c9
            have c9b1 : decide (t296 ≤ (wrap64 (t296 + t295))) = true := decide_eq_true c9
            by_cases c10 : (wrap64 (t296 + t295)) ≤ (l0.length : Int)
            · rw [if_pos c10] at H
              have c10b0 := eq_true c10
              have c10b1 : decide ((wrap64 (t296 + t295)) ≤ (l0.length : Int)) = true := decide_eq_true c10
              by_cases c11 : ([] : List Int).length + ((l0.take ((wrap64 (t296 + t295)) : Int).toNat).drop (t296 : Int).toNat).length < 140737488355328
              · rw [if_pos c11] at H
                have LMc11 := Aside0.mk c11
                clear c11
                obtain ⟨y299, hy299⟩ : ∃ y_ : List Int, y_ = (([] : List Int) ++ ((l0.take ((wrap64 (t296 + t295)) : Int).toNat).drop (t296 : Int).toNat)) := ⟨_, rfl⟩
                replace H : (some (y299, wrap64 (t296 + t295), 0)) = some (r1, r2, r3) := by first | (rw [hy299]; with_reducible exact H) | (have H2_ := (Option.bind_some _ _).symm.trans H; rw [hy299]; with_reducible exact H2_) | (have H2_ := (Option.bind_some _ _).symm.trans H; with_reducible exact H2_) | with_reducible exact H | (rw [hy299]; exact H) | exact H
                have Ny299 := Aside0.mk hy299
                clear hy299
                simp only [Option.some.injEq, Prod.mk.injEq] at H
                obtain ⟨rfl, rfl, rfl⟩ := H
                go_enter Try.func82, Try.ntmps82
                go_wp2_with (first | ((with_reducible refine gate_callee (f := 80) rfl ?_); refine goesL_ (some 11) rfl rfl Try.func80 (by kernel_rfl) rfl #[.slice A0 l0.length c0] rfl (by (try simp only [List.map_toArray, List.map_cons, List.map_nil]); first | done | rfl | (simp only [List.length_drop, List.length_take]; rfl)) ?_; (with_reducible refine (trivetref01_TakeNum.calls _ _ l0 t295 t296 t297 _ ?side1 ?side2 A2.out).mono ?_); (case side1 => repeat (first | exact HR0.out | (with_reducible refine Kd.C_alloc ?_ _) | (with_reducible refine Kd.C_drewN ?_ _) | (with_reducible refine Kd.C_drew ?_))); (case side2 => exact HC0.out); rintro e w12 ⟨rfl, hb⟩; refine ⟨_, rfl, ?_⟩; have n0_ := Aside0.mk (below_step (by repeat (first | (with_reducible first | exact HB.out | apply below_alloc | apply pw_below_drewN | apply below_drew1) | exact HB.out)) hb); clear HB; have HB := n0_; clear n0_; (try clear hb); (try clear hb2); (try clear hk); (try clear hi); obtain ⟨i013, hi013, _, hsz13, _⟩ := info_parts info5; obtain ⟨A13, hcut13, hA13, hC13⟩ := print_mid_of (P := Try.prog) (Value.int .u8) 0 26 5 .i64 .i64 Try.underlying26 hi013 hsz13 A0 c0 l0 t296 (wrap64 (t296 + t295)) (of_decide_eq_true (by first | (with_reducible assumption) | assumption)) (by first | omega | exact of_decide_eq_true (by first | (with_reducible assumption) | assumption)) (of_decide_eq_true (by first | (with_reducible assumption) | assumption)) HC0.out; have HR298 := Aside0.mk (Kd.C_of_reads (h1 := fun _ => rfl) (hA13 _ (Kd.reads_of_C HR0.out))); have HC298 := Aside0.mk hC13; clear hA13 hC13 hi013 hsz13) | ((with_reducible refine gate_builtin (b := .append) (xs := #[.tmp 26, .tmp 32]) rfl ?_); at_builtin; refine Kd.R_append_rows (Kd.int .u8) (w0 := w) w.heap.size rfl (.tmp 26) (.tmp 32) 26 5 (.int .u8 0) 1 rfl Try.underlying26 info5 rfl (by decide) (by omega) (.slice none 0 0) ([] : List Int) ((l0.take ((wrap64 (t296 + t295)) : Int).toNat).drop (t296 : Int).toNat) _ _ _ (fun _ => True) (fun _ => False) rfl rfl ?aO ?aR (fun _ _ h => h) (fun _ h => h.elim) ?aF ?aB ?aS ?aL ?_; (case aR => first | (rw [← show ((l0.take ((wrap64 (t296 + t295)) : Int).toNat).drop (t296 : Int).toNat).length = ((wrap64 (t296 + t295)).toNat - t296.toNat) from (by rw [List.length_drop, List.length_take]; have h_ : ((wrap64 (t296 + t295)) : Int) ≤ (l0.length : Int) := of_decide_eq_true (by first | (with_reducible assumption) | assumption); omega)]; repeat (first | exact (Kd.C_below HR298.out HB.out) | (with_reducible refine Kd.C_alloc ?_ _) | (with_reducible refine Kd.C_drewN ?_ _) | (with_reducible refine Kd.C_drew ?_))) | (repeat (first | exact (Kd.C_below HR298.out HB.out) | (with_reducible refine Kd.C_alloc ?_ _) | (with_reducible refine Kd.C_drewN ?_ _) | (with_reducible refine Kd.C_drew ?_)))); (case aB => exact (by repeat (first | (with_reducible first | exact HB.out | apply below_alloc | apply pw_below_drewN | apply below_drew1) | exact HB.out))); (case aF => exact (fun _ _ => trivial)); (case aO => exact ((Kd.R_nil _ _ _ _ (fun _ => True)))); (case aS => exact (below_size (by repeat (first | (with_reducible first | exact HB.out | apply below_alloc | apply pw_below_drewN | apply below_drew1) | exact HB.out)))); (case aL => have := LMc11.out; have hlx_ := (show ((l0.take ((wrap64 (t296 + t295)) : Int).toNat).drop (t296 : Int).toNat).length = ((wrap64 (t296 + t295)).toNat - t296.toNat) from (by rw [List.length_drop, List.length_take]; have h_ : ((wrap64 (t296 + t295)) : Int) ≤ (l0.length : Int) := of_decide_eq_true (by first | (with_reducible assumption) | assumption); omega)); omega); intro v300 w14 ho hb hg hat; rw [← Ny299.out] at ho; have n0_ := Aside0.mk (hb); have n1_ := Aside0.mk (ho); clear HB; have HB := n0_; have HO301 := n1_; clear n0_ n1_; clear ho hb hg hat))
                go_ret3
                exact ⟨_, by first | rfl | (simp [errW_none, errW_some] <;> rfl) | (simp [*, errW_none, errW_some] <;> rfl), by (with_reducible repeat (first|apply Kd.R_alloc | apply Kd.R_drewN | apply Kd.R_drew)); exact HO301.out, by repeat (first | (with_reducible first | exact HB.out | apply below_alloc | apply pw_below_drewN | apply below_drew1) | exact HB.out)⟩
              · rw [if_neg c11] at H
                exact absurd H (by simp)
            · rw [if_neg c10] at H
              exact absurd H (by simp)
          · rw [if_neg c9] at H
            exact absurd H (by simp)
        · rw [if_neg c8] at H
          exact absurd H (by simp)
  · rw [if_neg c3] at H
    have c3b0 : (t297 == 0) = false := beq_eq_false_iff_ne.mpr c3
    have c3b1 : (t297 != 0) = true := bne_iff_ne.mpr c3
    simp only [Option.some.injEq, Prod.mk.injEq] at H
    obtain ⟨rfl, rfl, rfl⟩ := H
    go_enter Try.func82, Try.ntmps82
    go_wp2_with (first | ((with_reducible refine gate_callee (f := 80) rfl ?_); refine goesL_ (some 11) rfl rfl Try.func80 (by kernel_rfl) rfl #[.slice A0 l0.length c0] rfl (by (try simp only [List.map_toArray, List.map_cons, List.map_nil]); first | done | rfl | (simp only [List.length_drop, List.length_take]; rfl)) ?_; (with_reducible refine (trivetref01_TakeNum.calls _ _ l0 t295 t296 t297 _ ?side1 ?side2 A2.out).mono ?_); (case side1 => repeat (first | exact HR0.out | (with_reducible refine Kd.C_alloc ?_ _) | (with_reducible refine Kd.C_drewN ?_ _) | (with_reducible refine Kd.C_drew ?_))); (case side2 => exact HC0.out); rintro e w15 ⟨rfl, hb⟩; refine ⟨_, rfl, ?_⟩; have n0_ := Aside0.mk (below_step (by repeat (first | (with_reducible first | exact HB.out | apply below_alloc | apply pw_below_drewN | apply below_drew1) | exact HB.out)) hb); clear HB; have HB := n0_; clear n0_; (try clear hb); (try clear hb2); (try clear hk); (try clear hi)))
    go_ret3
    exact ⟨_, by first | rfl | (simp [errW_none, errW_some] <;> rfl) | (simp [*, errW_none, errW_some] <;> rfl), by first | exact Kd.R_nil _ _ _ _ _ | exact Kd.N_nil _ _ _ _ _ | exact Kd.V_nil _ _ _ _ _ | exact Kd.Q_nil _ _ _ _ _ | exact Kd.S_nil _ _ _ _ _, by repeat (first | (with_reducible first | exact HB.out | apply below_alloc | apply pw_below_drewN | apply below_drew1) | exact HB.out)⟩
end Go.Proofs.Ytgiefblcckikeaa.G
end

section

/- The reference's Reader reads numbers and bytes as the eye does. -/
set_option maxRecDepth 100000
set_option linter.unusedVariables false
set_option linter.unusedSimpArgs false
attribute [local irreducible] Go.wpStill
namespace Go.Proofs.Ytgiefblcckikeaa.M
open Go.RowKit Go.Proofs.YtgiefblcckikeaaW.PrintWords Go.Proofs.YtgiefblcckikeaaW.PrintLast Go.Proofs.YtgiefblcckikeaaW.PrintMore Go.Proofs.Ytgiefblcckikeaa.G
def IsRd (B : List Int) (w0 W : World) (x : Nat) (s : EyeS) : Prop := ∃ (A : Option Addr) (c k : Nat), W.heap[x]? = some (.cells #[.slice A B.length c, .int .i64 (k : Int), .int .i64 s.e, .bool s.o] 45) ∧ w0.heap.size ≤ x ∧ B.length ≤ c ∧ Kd.C (Kd.int .u8) w0 A B.length B ∧ k ≤ B.length ∧ B.drop k = s.l ∧ B.length < 140737488355328
theorem IsRd.lt {B : List Int} {w0 W : World} {x : Nat} {s : EyeS} (h : IsRd B w0 W x s) : x < W.heap.size := by
  obtain ⟨A, c, k, h1, _⟩ := h
  exact (Array.getElem?_eq_some_iff.1 h1).1
theorem IsRd.at {B : List Int} {w0 W W' : World} {x : Nat} {s : EyeS} (h : IsRd B w0 W x s) (e : W'.heap[x]? = W.heap[x]?) : IsRd B w0 W' x s := by
  obtain ⟨A, c, k, h1, h2⟩ := h
  exact ⟨A, c, k, e.trans h1, h2⟩
theorem IsRd.below {B : List Int} {w0 W W' : World} {x : Nat} {s : EyeS} (h : IsRd B w0 W x s) (hb : Below W.heap.size W W') : IsRd B w0 W' x s := h.at (hb.block x h.lt)
theorem IsRd.ge {B : List Int} {w0 W : World} {x : Nat} {s : EyeS} (h : IsRd B w0 W x s) : w0.heap.size ≤ x := by
  obtain ⟨A, c, k, h1, h2, _⟩ := h
  exact h2
def RdP (B : List Int) (w0 w : World) (x : Nat) (r : Value) (s' : EyeS) (e : Ending) (w' : World) : Prop := e = .returned r ∧ IsRd B w0 w' x s' ∧ Below w0.heap.size w0 w' ∧ KeepS (fun i => i = x) w w'
theorem rdFail_is {B : List Int} {w0 w : World} {x : Nat} {s : EyeS} (hI : IsRd B w0 w x s) (hB : Below w0.heap.size w0 w) (n : Int) :
    Calls Try.prog 81 #[.pointer (some ⟨x, 0, none⟩), .int .i64 n] w fun e w' => RdP B w0 w x (.tuple #[]) (if s.e = 0 then { s with e := n } else s) e w' := by
  have HI := Lib.hid hI; have HB := Lib.hid hB
  obtain ⟨A, c, k, h1, h2, h3⟩ := hI
  have HH := Lib.hid h1; have HGE := Lib.hid h2; have H34 := Lib.hid h3
  have c2 : w.cell? ⟨x, 2, none⟩ = some (.int .i64 s.e) := by simp [World.cell?, h1]
  have z2 : w.frozen? ⟨x, 2, none⟩ = false := by simp [World.frozen?, h1]
  clear h1 h2 h3 hB
  by_cases he : s.e = 0
  · have hb : (s.e == 0) = true := by rw [he]; rfl
    rw [if_pos he]
    clear he
    go_enter Try.func81, Try.ntmps81
    go_wp2_with fail
    go_end0
    refine ⟨rfl, ⟨A, c, k, ?_, HGE.out, H34.out⟩, HB.out.setCell (by exact HGE.out) _, (KeepS.refl (fun i => i = x) w).set (p := ⟨x, 2, none⟩) (.inl rfl) _⟩
    have e1 := heap_same w ⟨x, 2, none⟩ (.int .i64 n) HH.out rfl
    simpa using e1
  · have hb : (s.e == 0) = false := beq_eq_false_iff_ne.2 he
    rw [if_neg he]
    clear he
    go_enter Try.func81, Try.ntmps81
    go_wp2_with fail
    go_end0
    exact ⟨rfl, HI.out, HB.out, KeepS.refl _ _⟩
theorem takeNum_err {l : List Int} (h : ¬ (takeNum l).2.2 = 0) : (takeNum l).1 = 0 ∧ (takeNum l).2.1 = 0 := by
  unfold takeNum at h ⊢
  by_cases h0 : tkE l = 0
  · rw [if_pos h0] at h
    exact absurd rfl h
  · rw [if_neg h0]
    exact ⟨rfl, rfl⟩
set_option maxHeartbeats 1000000 in
theorem rdNum_is {B : List Int} {w0 w : World} {x : Nat} {s : EyeS} (hI : IsRd B w0 w x s) (hB : Below w0.heap.size w0 w) (hok : okS s) :
    Calls Try.prog 46 #[.pointer (some ⟨x, 0, none⟩)] w fun e w' => RdP B w0 w x (.int .i64 (eNum s).1) (eNum s).2 e w' := by
  have HI := Lib.hid hI; have HB := Lib.hid hB
  obtain ⟨A, c, k, h1, h2, h3, h4, h5, h6, h7⟩ := hI
  have c0 : w.cell? ⟨x, 0, none⟩ = some (.slice A B.length c) := by simp [World.cell?, h1]
  have c1 : w.cell? ⟨x, 1, none⟩ = some (.int .i64 (k : Int)) := by simp [World.cell?, h1]
  have c2 : w.cell? ⟨x, 2, none⟩ = some (.int .i64 s.e) := by simp [World.cell?, h1]
  have HGE := Lib.hid h2; have H34 := Lib.hid (And.intro h3 h4); have HBL := Lib.hid h7
  by_cases he : s.e = 0
  · have hb : (s.e != 0) = false := by rw [he]; rfl
    obtain ⟨A', hcut, hC, hc'⟩ := cutE (A := A) (c := c) (l := B) k h5 h3
    rw [h6] at hcut hC hc'
    have HN := Lib.hid (G.trivetref01_TakeNum.calls A' (c - k) s.l (takeNum s.l).1 (takeNum s.l).2.1 (takeNum s.l).2.2 w.drew (Kd.C_drew (Kd.C_below (hC w0 h4) hB)) hc' (by unfold G.trivetref01_TakeNum.f; rw [if_pos hok.1]))
    have HF := Lib.hid (show eNum s = ((takeNum s.l).1, ⟨s.l.drop (takeNum s.l).2.1.toNat, (takeNum s.l).2.2, s.o⟩) by unfold eNum; rw [if_pos he])
    obtain ⟨z0, z1⟩ := takeNum_size s.l
    have hzz := takeNum_err (l := s.l)
    obtain ⟨j, hj⟩ : ∃ j : Nat, (takeNum s.l).2.1 = (j : Int) := ⟨(takeNum s.l).2.1.toNat, by omega⟩
    obtain ⟨n, hn⟩ : ∃ n, (takeNum s.l).1 = n := ⟨_, rfl⟩
    obtain ⟨er, her⟩ : ∃ er, (takeNum s.l).2.2 = er := ⟨_, rfl⟩
    rw [hn, hj, her] at HN HF
    rw [Int.toNat_natCast] at HF
    have hjl : k + j ≤ B.length := by
      have e1 : s.l.length = B.length - k := by rw [← h6, List.length_drop]
      omega
    have hdr : B.drop (k + j) = s.l.drop j := by rw [← h6, List.drop_drop]
    have hwr : wrap64 ((k : Int) + (j : Int)) = ((k + j : Nat) : Int) := by unfold wrap64; omega
    rw [hn, hj, her] at hzz
    have HZZ := Lib.hid hzz; have HJ := Lib.hid (And.intro hjl hdr); have HK := Lib.hid h5; have H6 := Lib.hid h6; have HE := Lib.hid he
    have HHE := Lib.hid h1
    clear hB hok h1 h2 h3 h4 h5 h6 h7 z0 z1 hj hC hc' hn her hzz hjl hdr he
    go_enter Try.func46, Try.ntmps46
    go_wp2_with fail
    refine start_ (n := 17) (S := fun w' => w'.cell? ⟨x, 0, none⟩ = some (.slice A B.length c) ∧ w'.cell? ⟨x, 1, none⟩ = some (.int .i64 (k : Int))) (ds := []) #[false, false, false, false, false, false, false, false, false, false, false, false, false, false, false, false, false] (by kernel_rfl) rfl rfl ?_ (fun hHeld => ?_)
    rotate_left
    refine pure_ (i := 0) (N := some 12) (v := ?_) (a' := ?_) #[true, false, false, false, false, false, false, false, false, false, false, false, false, false, false, false, false] rfl rfl (by kernel_rfl) (fun _ _ _ h => h) (Or.inl ⟨by rfl, ?_⟩) ?_ ?_
    rotate_left
    · intro w'
      go_simp
      try with_reducible rfl
    rotate_left
    · simp only [Act.put, List.setIfInBounds_toArray, List.set_cons_zero, List.set_cons_succ, i64_w, i32_w]
      rfl
    refine pure_ (i := 1) (N := some 13) (v := ?_) (a' := ?_) #[true, true, false, false, false, false, false, false, false, false, false, false, false, false, false, false, false] rfl rfl (by kernel_rfl) (fun _ _ _ h => h) (Or.inl ⟨by rfl, ?_⟩) ?_ ?_
    rotate_left
    · intro w'
      go_simp
      try with_reducible rfl
    rotate_left
    · simp only [Act.put, List.setIfInBounds_toArray, List.set_cons_zero, List.set_cons_succ, i64_w, i32_w]
      rfl
    refine pure_ (i := 2) (N := some 14) (v := ?_) (a' := ?_) #[true, true, true, false, false, false, false, false, false, false, false, false, false, false, false, false, false] rfl rfl (by kernel_rfl) (fun _ _ _ h => h) (Or.inl ⟨by rfl, ?_⟩) ?_ ?_
    rotate_left
    · intro w'
      go_simp
      try with_reducible rfl
    rotate_left
    · simp only [Act.put, List.setIfInBounds_toArray, List.set_cons_zero, List.set_cons_succ, i64_w, i32_w]
      rfl
    refine take_ (i := 3) (N := some 15) (v := ?_) (a' := ?_) #[true, true, true, true, false, false, false, false, false, false, false, false, false, false, false, false, false] rfl rfl (by kernel_rfl) (fun _ _ _ h => h) (Or.inl ⟨by rfl, ?_⟩) hHeld ?_ ?_
    rotate_left
    · intro w' hS
      go_simp
      try with_reducible rfl
    rotate_left
    · simp only [Act.put, List.setIfInBounds_toArray, List.set_cons_zero, List.set_cons_succ, i64_w, i32_w]
      rfl
    refine pure_ (i := 4) (N := some 16) (v := ?_) (a' := ?_) #[true, true, true, true, true, false, false, false, false, false, false, false, false, false, false, false, false] rfl rfl (by kernel_rfl) (fun _ _ _ h => h) (Or.inl ⟨by rfl, ?_⟩) ?_ ?_
    rotate_left
    · intro w'
      go_simp
      try with_reducible rfl
    rotate_left
    · simp only [Act.put, List.setIfInBounds_toArray, List.set_cons_zero, List.set_cons_succ, i64_w, i32_w]
      rfl
    refine pure_ (i := 5) (N := some 17) (v := ?_) (a' := ?_) #[true, true, true, true, true, true, false, false, false, false, false, false, false, false, false, false, false] rfl rfl (by kernel_rfl) (fun _ _ _ h => h) (Or.inl ⟨by rfl, ?_⟩) ?_ ?_
    rotate_left
    · intro w'
      go_simp
      try with_reducible rfl
    rotate_left
    · simp only [Act.put, List.setIfInBounds_toArray, List.set_cons_zero, List.set_cons_succ, i64_w, i32_w]
      rfl
    refine pure_ (i := 6) (N := some 18) (v := ?_) (a' := ?_) #[true, true, true, true, true, true, true, false, false, false, false, false, false, false, false, false, false] rfl rfl (by kernel_rfl) (fun _ _ _ h => h) (Or.inl ⟨by rfl, ?_⟩) ?_ ?_
    rotate_left
    · intro w'
      go_simp
      try with_reducible rfl
    rotate_left
    · simp only [Act.put, List.setIfInBounds_toArray, List.set_cons_zero, List.set_cons_succ, i64_w, i32_w]
      rfl
    refine take_ (i := 7) (N := some 19) (v := ?_) (a' := ?_) #[true, true, true, true, true, true, true, true, false, false, false, false, false, false, false, false, false] rfl rfl (by kernel_rfl) (fun _ _ _ h => h) (Or.inl ⟨by rfl, ?_⟩) hHeld ?_ ?_
    rotate_left
    · intro w' hS
      go_simp
      try with_reducible rfl
    rotate_left
    · simp only [Act.put, List.setIfInBounds_toArray, List.set_cons_zero, List.set_cons_succ, i64_w, i32_w]
      rfl
    refine pure_ (i := 8) (N := some 20) (v := ?_) (a' := ?_) #[true, true, true, true, true, true, true, true, true, false, false, false, false, false, false, false, false] rfl rfl (by kernel_rfl) (fun _ _ _ h => h) (Or.inl ⟨by rfl, ?_⟩) ?_ ?_
    rotate_left
    · intro w'
      go_simp
      try with_reducible rfl
    rotate_left
    · simp only [Act.put, List.setIfInBounds_toArray, List.set_cons_zero, List.set_cons_succ, i64_w, i32_w]
      rfl
    refine one_ (i := 9) (N := some 21) #[true, true, true, true, true, true, true, true, true, true, false, false, false, false, false, false, false] rfl rfl (by kernel_rfl) (by decide) (fun K hK => ?_)
    go_simp
    refine HN.out.mono ?_
    rintro e w1 ⟨rfl, hb⟩
    have HH1 := Lib.hid ((hb.block x HI.out.lt).trans HHE.out); have HB1 := Lib.hid (HB.out.drew.trans (hb.mono HB.out.size)); have HK1 := Lib.hid (show KeepS (fun i => i = x) w w1 from ((KeepS.refl _ w).drew).then_below hb)
    skip
    clear hb
    refine hK.out _ _ ⟨by simp [World.cell?, HH1.out], by simp [World.cell?, HH1.out]⟩ (fun hHeld => ?_)
    refine pure_ (i := 10) (N := some 11) (v := ?_) (a' := ?_) #[true, true, true, true, true, true, true, true, true, true, true, false, false, false, false, false, false] rfl rfl (by kernel_rfl) (fun _ _ _ h => h) (Or.inl ⟨by rfl, ?_⟩) ?_ ?_
    rotate_left
    · intro w'
      go_simp
      try with_reducible rfl
    rotate_left
    · simp only [Act.put, List.setIfInBounds_toArray, List.set_cons_zero, List.set_cons_succ, i64_w, i32_w]
      rfl
    refine pure_ (i := 11) (N := some 22) (v := ?_) (a' := ?_) #[true, true, true, true, true, true, true, true, true, true, true, true, false, false, false, false, false] rfl rfl (by kernel_rfl) (fun _ _ _ h => h) (Or.inl ⟨by rfl, ?_⟩) ?_ ?_
    rotate_left
    · intro w'
      go_simp
      try with_reducible rfl
    rotate_left
    · simp only [Act.put, List.setIfInBounds_toArray, List.set_cons_zero, List.set_cons_succ, i64_w, i32_w]
      rfl
    refine pure_ (i := 12) (N := some 23) (v := ?_) (a' := ?_) #[true, true, true, true, true, true, true, true, true, true, true, true, true, false, false, false, false] rfl rfl (by kernel_rfl) (fun _ _ _ h => h) (Or.inl ⟨by rfl, ?_⟩) ?_ ?_
    rotate_left
    · intro w'
      go_simp
      try with_reducible rfl
    rotate_left
    · simp only [Act.put, List.setIfInBounds_toArray, List.set_cons_zero, List.set_cons_succ, i64_w, i32_w]
      rfl
    refine pure_ (i := 13) (N := some 24) (v := ?_) (a' := ?_) #[true, true, true, true, true, true, true, true, true, true, true, true, true, true, false, false, false] rfl rfl (by kernel_rfl) (fun _ _ _ h => h) (Or.inl ⟨by rfl, ?_⟩) ?_ ?_
    rotate_left
    · intro w'
      go_simp
      try with_reducible rfl
    rotate_left
    · simp only [Act.put, List.setIfInBounds_toArray, List.set_cons_zero, List.set_cons_succ, i64_w, i32_w]
      rfl
    refine pure_ (i := 14) (N := some 3) (v := ?_) (a' := ?_) #[true, true, true, true, true, true, true, true, true, true, true, true, true, true, true, false, false] rfl rfl (by kernel_rfl) (fun _ _ _ h => h) (Or.inl ⟨by rfl, ?_⟩) ?_ ?_
    rotate_left
    · intro w'
      go_simp
      try with_reducible rfl
    rotate_left
    · simp only [Act.put, List.setIfInBounds_toArray, List.set_cons_zero, List.set_cons_succ, i64_w, i32_w]
      rfl
    refine pure_ (i := 15) (N := some 4) (v := ?_) (a' := ?_) #[true, true, true, true, true, true, true, true, true, true, true, true, true, true, true, true, false] rfl rfl (by kernel_rfl) (fun _ _ _ h => h) (Or.inl ⟨by rfl, ?_⟩) ?_ ?_
    rotate_left
    · intro w'
      go_simp
      try with_reducible rfl
    rotate_left
    · simp only [Act.put, List.setIfInBounds_toArray, List.set_cons_zero, List.set_cons_succ, i64_w, i32_w]
      rfl
    refine pure_ (i := 16) (N := some 5) (v := ?_) (a' := ?_) #[true, true, true, true, true, true, true, true, true, true, true, true, true, true, true, true, true] rfl rfl (by kernel_rfl) (fun _ _ _ h => h) (Or.inl ⟨by rfl, ?_⟩) ?_ ?_
    rotate_left
    · intro w'
      go_simp
      try with_reducible rfl
    rotate_left
    · simp only [Act.put, List.setIfInBounds_toArray, List.set_cons_zero, List.set_cons_succ, i64_w, i32_w]
      rfl
    refine done_ (by kernel_rfl) ?_
    by_cases hq : er = 0
    · have hb2 : (er != 0) = false := by rw [hq]; rfl
      have d1 : w1.cell? ⟨x, 1, none⟩ = some (.int .i64 (k : Int)) := by simp [World.cell?, HH1.out]
      have z1 : w1.frozen? ⟨x, 1, none⟩ = false := by simp [World.frozen?, HH1.out]
      have HQ := Lib.hid hq
      clear hq
      go_wp2_with fail
      go_ret
      refine ⟨by rw [HF.out]; rfl, ?_, HB1.out.setCell (by exact HGE.out) _, HK1.out.set (p := ⟨x, 1, none⟩) (.inl rfl) _⟩
      rw [HF.out, HQ.out]
      refine ⟨A, c, k + j, ?_, HGE.out, H34.out.1, H34.out.2, HJ.out.1, HJ.out.2, HBL.out⟩
      have e1 := heap_same w1 ⟨x, 1, none⟩ (.int .i64 ((k + j : Nat) : Int)) HH1.out rfl
      rw [HE.out] at e1
      simpa using e1
    · have hb2 : (er != 0) = true := bne_iff_ne.2 hq
      obtain ⟨rfl, hj0⟩ := HZZ.out hq
      have HI1 : IsRd B w0 w1 x s := ⟨A, c, k, HH1.out, HGE.out, H34.out.1, H34.out.2, HK.out, H6.out, HBL.out⟩
      have HFA := Lib.hid (rdFail_is HI1 HB1.out er)
      have HR := Lib.hid (show (eNum s).2 = { s with e := er } by
        rw [HF.out]
        have : j = 0 := by omega
        rw [this, List.drop_zero])
      have HR1 := Lib.hid (show (eNum s).1 = 0 by rw [HF.out])
      have HE2 := Lib.hid (show (if s.e = 0 then { s with e := er } else s) = { s with e := er } from if_pos HE.out)
      clear hq HI1 hj0
      go_wp2_with fail
      refine HFA.out.mono ?_
      rw [HE2.out]
      rintro e w2 ⟨rfl, g1, g2, g3⟩
      have G1 := Lib.hid g1; have G2 := Lib.hid g2; have G3 := Lib.hid (HK1.out.trans g3)
      clear g1 g2 g3
      go_wp2_with fail
      go_ret
      exact ⟨by rw [HR1.out]; rfl, by rw [HR.out]; exact G1.out, G2.out, G3.out⟩
    exact ⟨c0, c1⟩
  · have hb : (s.e != 0) = true := bne_iff_ne.2 he
    have HF := Lib.hid (show eNum s = (0, s) by unfold eNum; rw [if_neg he])
    clear hB hok h1 h2 h3 h4 he h5 h6 h7
    go_enter Try.func46, Try.ntmps46
    go_wp2_with fail
    go_ret
    exact ⟨by rw [HF.out]; rfl, by rw [HF.out]; exact HI.out, HB.out, KeepS.refl _ _⟩
theorem rtakeBlob_f {l : List Int} (h : okB l = true) (hl : l.length < 140737488355328) : G.trivetref01_TakeBlob.f l = some (takeBlob l) := by
  have hr : G.trivetref01_TakeNum.f l = some (takeNum l) := by unfold G.trivetref01_TakeNum.f; rw [if_pos h]
  unfold G.trivetref01_TakeBlob.f takeBlob
  rw [hr, Option.bind_some]
  unfold takeNum
  by_cases he : tkE l = 0
  · obtain ⟨f1, f2⟩ := form_one h he
    have h1 := tkS_pos l
    have h2 := tkE_size he
    unfold isI64 at f2
    rw [if_pos he]
    simp only []
    rw [if_pos trivial]
    by_cases h3 : tkN l < 0
    · have hb : blE l big62 0 = 11 := by unfold blE; rw [if_neg (by omega), if_pos h3]
      rw [if_pos h3, hb, if_neg (by decide)]
    · rw [if_neg h3]
      have hw : wrap64 ((l.length : Int) - tkS l) = (l.length : Int) - tkS l := by unfold wrap64; omega
      rw [hw]
      by_cases h4 : (l.length : Int) - tkS l < tkN l
      · have hb : blE l big62 0 = 10 := by unfold blE big62; rw [if_neg (by omega), if_neg h3, if_neg (by omega), if_pos (by omega)]
        rw [if_pos (by omega), hb, if_neg (by decide)]
      · have hb : blE l big62 0 = 0 := by unfold blE big62; rw [if_neg (by omega), if_neg h3, if_neg (by omega), if_neg (by omega)]
        have hw2 : wrap64 (tkS l + tkN l) = tkS l + tkN l := by unfold wrap64; omega
        rw [if_neg (by omega), if_pos (by omega), hw2, if_pos (by omega), if_pos (by omega), if_pos (by simp only [List.length_drop, List.length_take]; simp; omega), hb, if_pos rfl]
        rfl
  · have hb : blE l big62 0 = tkE l := by unfold blE; rw [if_pos he]
    rw [if_neg he]
    simp only []
    rw [if_neg he, hb, if_neg he]
theorem takeBlob_err {l : List Int} (h : ¬ (takeBlob l).2.2 = 0) : (takeBlob l).1 = [] ∧ (takeBlob l).2.1 = 0 := by
  unfold takeBlob at h ⊢
  by_cases h0 : blE l big62 0 = 0
  · rw [if_pos h0] at h
    exact absurd rfl h
  · rw [if_neg h0]
    exact ⟨rfl, rfl⟩
def RdD (B : List Int) (w0 w : World) (x : Nat) (l : List Int) (s' : EyeS) (e : Ending) (w' : World) : Prop := ∃ v : Value, e = .returned v ∧ Kd.R (Kd.int .u8) 5 w' w.heap.size (fun k => k ≠ x) v l ∧ IsRd B w0 w' x s' ∧ Below w0.heap.size w0 w' ∧ KeepS (fun i => i = x) w w'
set_option maxHeartbeats 1000000 in
theorem rdData_is {B : List Int} {w0 w : World} {x : Nat} {s : EyeS} (hI : IsRd B w0 w x s) (hB : Below w0.heap.size w0 w) (hok : okS s) :
    Calls Try.prog 47 #[.pointer (some ⟨x, 0, none⟩)] w fun e w' => RdD B w0 w x (eData s).1 (eData s).2 e w' := by
  have HI := Lib.hid hI; have HB := Lib.hid hB
  obtain ⟨A, c, k, h1, h2, h3, h4, h5, h6, h7⟩ := hI
  have c0 : w.cell? ⟨x, 0, none⟩ = some (.slice A B.length c) := by simp [World.cell?, h1]
  have c1 : w.cell? ⟨x, 1, none⟩ = some (.int .i64 (k : Int)) := by simp [World.cell?, h1]
  have c2 : w.cell? ⟨x, 2, none⟩ = some (.int .i64 s.e) := by simp [World.cell?, h1]
  have HGE := Lib.hid h2; have H34 := Lib.hid (And.intro h3 h4); have HBL := Lib.hid h7
  by_cases he : s.e = 0
  · have hb : (s.e != 0) = false := by rw [he]; rfl
    obtain ⟨A', hcut, hC, hc'⟩ := cutE (A := A) (c := c) (l := B) k h5 h3
    rw [h6] at hcut hC hc'
    have HN := Lib.hid (G.trivetref01_TakeBlob.calls A' (c - k) s.l (takeBlob s.l).1 (takeBlob s.l).2.1 (takeBlob s.l).2.2 w.drew (Kd.C_drew (Kd.C_below (hC w0 h4) hB)) hc' (rtakeBlob_f hok.1 hok.2))
    have HF := Lib.hid (show eData s = ((takeBlob s.l).1, ⟨s.l.drop (takeBlob s.l).2.1.toNat, (takeBlob s.l).2.2, s.o⟩) by unfold eData; rw [if_pos he])
    obtain ⟨z0, z1⟩ := takeBlob_size hok.1 hok.2
    have hzz := takeBlob_err (l := s.l)
    obtain ⟨j, hj⟩ : ∃ j : Nat, (takeBlob s.l).2.1 = (j : Int) := ⟨(takeBlob s.l).2.1.toNat, by omega⟩
    obtain ⟨n, hn⟩ : ∃ n, (takeBlob s.l).1 = n := ⟨_, rfl⟩
    obtain ⟨er, her⟩ : ∃ er, (takeBlob s.l).2.2 = er := ⟨_, rfl⟩
    have hnl : n.length < 140737488355328 := by
      rw [← hn]
      unfold takeBlob
      split
      · unfold blD; simp only [List.length_drop, List.length_take]; have := hok.2; omega
      · simp
    rw [hn, hj, her] at HN HF
    rw [Int.toNat_natCast] at HF
    have hjl : k + j ≤ B.length := by
      have e1 : s.l.length = B.length - k := by rw [← h6, List.length_drop]
      omega
    have hdr : B.drop (k + j) = s.l.drop j := by rw [← h6, List.drop_drop]
    have hwr : wrap64 ((k : Int) + (j : Int)) = ((k + j : Nat) : Int) := by unfold wrap64; omega
    rw [hn, hj, her] at hzz
    have HZZ := Lib.hid hzz; have HJ := Lib.hid (And.intro hjl hdr); have HK := Lib.hid h5; have H6 := Lib.hid h6; have HE := Lib.hid he; have HNL := Lib.hid hnl
    have HHE := Lib.hid h1
    clear hB hok h1 h2 h3 h4 h5 h6 h7 z0 z1 hj hC hc' hn her hzz hjl hdr he hnl
    go_enter Try.func47, Try.ntmps47
    go_wp2_with fail
    refine start_ (n := 17) (S := fun w' => w'.cell? ⟨x, 0, none⟩ = some (.slice A B.length c) ∧ w'.cell? ⟨x, 1, none⟩ = some (.int .i64 (k : Int))) (ds := []) #[false, false, false, false, false, false, false, false, false, false, false, false, false, false, false, false, false] (by kernel_rfl) rfl rfl ?_ (fun hHeld => ?_)
    rotate_left
    refine pure_ (i := 0) (N := some 12) (v := ?_) (a' := ?_) #[true, false, false, false, false, false, false, false, false, false, false, false, false, false, false, false, false] rfl rfl (by kernel_rfl) (fun _ _ _ h => h) (Or.inl ⟨by rfl, ?_⟩) ?_ ?_
    rotate_left
    · intro w'
      go_simp
      try with_reducible rfl
    rotate_left
    · simp only [Act.put, List.setIfInBounds_toArray, List.set_cons_zero, List.set_cons_succ, i64_w, i32_w]
      rfl
    refine pure_ (i := 1) (N := some 13) (v := ?_) (a' := ?_) #[true, true, false, false, false, false, false, false, false, false, false, false, false, false, false, false, false] rfl rfl (by kernel_rfl) (fun _ _ _ h => h) (Or.inl ⟨by rfl, ?_⟩) ?_ ?_
    rotate_left
    · intro w'
      go_simp
      try with_reducible rfl
    rotate_left
    · simp only [Act.put, List.setIfInBounds_toArray, List.set_cons_zero, List.set_cons_succ, i64_w, i32_w]
      rfl
    refine pure_ (i := 2) (N := some 14) (v := ?_) (a' := ?_) #[true, true, true, false, false, false, false, false, false, false, false, false, false, false, false, false, false] rfl rfl (by kernel_rfl) (fun _ _ _ h => h) (Or.inl ⟨by rfl, ?_⟩) ?_ ?_
    rotate_left
    · intro w'
      go_simp
      try with_reducible rfl
    rotate_left
    · simp only [Act.put, List.setIfInBounds_toArray, List.set_cons_zero, List.set_cons_succ, i64_w, i32_w]
      rfl
    refine take_ (i := 3) (N := some 15) (v := ?_) (a' := ?_) #[true, true, true, true, false, false, false, false, false, false, false, false, false, false, false, false, false] rfl rfl (by kernel_rfl) (fun _ _ _ h => h) (Or.inl ⟨by rfl, ?_⟩) hHeld ?_ ?_
    rotate_left
    · intro w' hS
      go_simp
      try with_reducible rfl
    rotate_left
    · simp only [Act.put, List.setIfInBounds_toArray, List.set_cons_zero, List.set_cons_succ, i64_w, i32_w]
      rfl
    refine pure_ (i := 4) (N := some 16) (v := ?_) (a' := ?_) #[true, true, true, true, true, false, false, false, false, false, false, false, false, false, false, false, false] rfl rfl (by kernel_rfl) (fun _ _ _ h => h) (Or.inl ⟨by rfl, ?_⟩) ?_ ?_
    rotate_left
    · intro w'
      go_simp
      try with_reducible rfl
    rotate_left
    · simp only [Act.put, List.setIfInBounds_toArray, List.set_cons_zero, List.set_cons_succ, i64_w, i32_w]
      rfl
    refine pure_ (i := 5) (N := some 17) (v := ?_) (a' := ?_) #[true, true, true, true, true, true, false, false, false, false, false, false, false, false, false, false, false] rfl rfl (by kernel_rfl) (fun _ _ _ h => h) (Or.inl ⟨by rfl, ?_⟩) ?_ ?_
    rotate_left
    · intro w'
      go_simp
      try with_reducible rfl
    rotate_left
    · simp only [Act.put, List.setIfInBounds_toArray, List.set_cons_zero, List.set_cons_succ, i64_w, i32_w]
      rfl
    refine pure_ (i := 6) (N := some 18) (v := ?_) (a' := ?_) #[true, true, true, true, true, true, true, false, false, false, false, false, false, false, false, false, false] rfl rfl (by kernel_rfl) (fun _ _ _ h => h) (Or.inl ⟨by rfl, ?_⟩) ?_ ?_
    rotate_left
    · intro w'
      go_simp
      try with_reducible rfl
    rotate_left
    · simp only [Act.put, List.setIfInBounds_toArray, List.set_cons_zero, List.set_cons_succ, i64_w, i32_w]
      rfl
    refine take_ (i := 7) (N := some 19) (v := ?_) (a' := ?_) #[true, true, true, true, true, true, true, true, false, false, false, false, false, false, false, false, false] rfl rfl (by kernel_rfl) (fun _ _ _ h => h) (Or.inl ⟨by rfl, ?_⟩) hHeld ?_ ?_
    rotate_left
    · intro w' hS
      go_simp
      try with_reducible rfl
    rotate_left
    · simp only [Act.put, List.setIfInBounds_toArray, List.set_cons_zero, List.set_cons_succ, i64_w, i32_w]
      rfl
    refine pure_ (i := 8) (N := some 20) (v := ?_) (a' := ?_) #[true, true, true, true, true, true, true, true, true, false, false, false, false, false, false, false, false] rfl rfl (by kernel_rfl) (fun _ _ _ h => h) (Or.inl ⟨by rfl, ?_⟩) ?_ ?_
    rotate_left
    · intro w'
      go_simp
      try with_reducible rfl
    rotate_left
    · simp only [Act.put, List.setIfInBounds_toArray, List.set_cons_zero, List.set_cons_succ, i64_w, i32_w]
      rfl
    refine one_ (i := 9) (N := some 21) #[true, true, true, true, true, true, true, true, true, true, false, false, false, false, false, false, false] rfl rfl (by kernel_rfl) (by decide) (fun K hK => ?_)
    go_simp
    refine HN.out.mono ?_
    rintro e w1 ⟨v, rfl, hv, hb⟩
    have HH1 := Lib.hid ((hb.block x HI.out.lt).trans HHE.out); have HB1 := Lib.hid (HB.out.drew.trans (hb.mono HB.out.size)); have HK1 := Lib.hid (show KeepS (fun i => i = x) w w1 from ((KeepS.refl _ w).drew).then_below hb)
    obtain ⟨V, cv, rfl⟩ := Kd.R_slice hv; have HV := Lib.hid hv; clear hv
    clear hb
    refine hK.out _ _ ⟨by simp [World.cell?, HH1.out], by simp [World.cell?, HH1.out]⟩ (fun hHeld => ?_)
    refine pure_ (i := 10) (N := some 11) (v := ?_) (a' := ?_) #[true, true, true, true, true, true, true, true, true, true, true, false, false, false, false, false, false] rfl rfl (by kernel_rfl) (fun _ _ _ h => h) (Or.inl ⟨by rfl, ?_⟩) ?_ ?_
    rotate_left
    · intro w'
      go_simp
      try with_reducible rfl
    rotate_left
    · simp only [Act.put, List.setIfInBounds_toArray, List.set_cons_zero, List.set_cons_succ, i64_w, i32_w]
      rfl
    refine pure_ (i := 11) (N := some 22) (v := ?_) (a' := ?_) #[true, true, true, true, true, true, true, true, true, true, true, true, false, false, false, false, false] rfl rfl (by kernel_rfl) (fun _ _ _ h => h) (Or.inl ⟨by rfl, ?_⟩) ?_ ?_
    rotate_left
    · intro w'
      go_simp
      try with_reducible rfl
    rotate_left
    · simp only [Act.put, List.setIfInBounds_toArray, List.set_cons_zero, List.set_cons_succ, i64_w, i32_w]
      rfl
    refine pure_ (i := 12) (N := some 23) (v := ?_) (a' := ?_) #[true, true, true, true, true, true, true, true, true, true, true, true, true, false, false, false, false] rfl rfl (by kernel_rfl) (fun _ _ _ h => h) (Or.inl ⟨by rfl, ?_⟩) ?_ ?_
    rotate_left
    · intro w'
      go_simp
      try with_reducible rfl
    rotate_left
    · simp only [Act.put, List.setIfInBounds_toArray, List.set_cons_zero, List.set_cons_succ, i64_w, i32_w]
      rfl
    refine pure_ (i := 13) (N := some 24) (v := ?_) (a' := ?_) #[true, true, true, true, true, true, true, true, true, true, true, true, true, true, false, false, false] rfl rfl (by kernel_rfl) (fun _ _ _ h => h) (Or.inl ⟨by rfl, ?_⟩) ?_ ?_
    rotate_left
    · intro w'
      go_simp
      try with_reducible rfl
    rotate_left
    · simp only [Act.put, List.setIfInBounds_toArray, List.set_cons_zero, List.set_cons_succ, i64_w, i32_w]
      rfl
    refine pure_ (i := 14) (N := some 3) (v := ?_) (a' := ?_) #[true, true, true, true, true, true, true, true, true, true, true, true, true, true, true, false, false] rfl rfl (by kernel_rfl) (fun _ _ _ h => h) (Or.inl ⟨by rfl, ?_⟩) ?_ ?_
    rotate_left
    · intro w'
      go_simp
      try with_reducible rfl
    rotate_left
    · simp only [Act.put, List.setIfInBounds_toArray, List.set_cons_zero, List.set_cons_succ, i64_w, i32_w]
      rfl
    refine pure_ (i := 15) (N := some 4) (v := ?_) (a' := ?_) #[true, true, true, true, true, true, true, true, true, true, true, true, true, true, true, true, false] rfl rfl (by kernel_rfl) (fun _ _ _ h => h) (Or.inl ⟨by rfl, ?_⟩) ?_ ?_
    rotate_left
    · intro w'
      go_simp
      try with_reducible rfl
    rotate_left
    · simp only [Act.put, List.setIfInBounds_toArray, List.set_cons_zero, List.set_cons_succ, i64_w, i32_w]
      rfl
    refine pure_ (i := 16) (N := some 5) (v := ?_) (a' := ?_) #[true, true, true, true, true, true, true, true, true, true, true, true, true, true, true, true, true] rfl rfl (by kernel_rfl) (fun _ _ _ h => h) (Or.inl ⟨by rfl, ?_⟩) ?_ ?_
    rotate_left
    · intro w'
      go_simp
      try with_reducible rfl
    rotate_left
    · simp only [Act.put, List.setIfInBounds_toArray, List.set_cons_zero, List.set_cons_succ, i64_w, i32_w]
      rfl
    refine done_ (by kernel_rfl) ?_
    by_cases hq : er = 0
    · have hb2 : (er != 0) = false := by rw [hq]; rfl
      have d1 : w1.cell? ⟨x, 1, none⟩ = some (.int .i64 (k : Int)) := by simp [World.cell?, HH1.out]
      have z1 : w1.frozen? ⟨x, 1, none⟩ = false := by simp [World.frozen?, HH1.out]
      have HQ := Lib.hid hq
      have HV2 := Lib.hid (Kd.R_far (p := ⟨x, 1, none⟩) (Kd.R_mono (ok' := fun k => k ≠ x) (Kd.R_bound HV.out) (fun k hk => by have h7 : w.heap.size ≤ k := hk.2.1; have := HI.out.lt; omega)) (fun _ hk => hk) (.int .i64 ((k + j : Nat) : Int)))
      have HB2 := Lib.hid (HB1.out.setCell (p := ⟨x, 1, none⟩) (by exact HGE.out) (.int .i64 ((k + j : Nat) : Int)))
      have HK2 := Lib.hid (HK1.out.set (p := ⟨x, 1, none⟩) (.inl rfl) (.int .i64 ((k + j : Nat) : Int)))
      have e1 := heap_same w1 ⟨x, 1, none⟩ (.int .i64 ((k + j : Nat) : Int)) HH1.out rfl
      have HX2 := Lib.hid e1
      have HLX := Lib.hid (show x < w.heap.size ∧ w0.heap.size ≤ w.heap.size from ⟨HI.out.lt, HB.out.size⟩)
      clear hq e1
      go_wp2_with ((with_reducible refine gate_builtin (b := .append) (xs := #[.const (.slice none 0 0), .tmp 38]) rfl ?_); at_builtin; refine Kd.R_append_rows (Kd.int .u8) (w0 := w1.setCell ⟨x, 1, none⟩ (.int .i64 ((k + j : Nat) : Int))) w.heap.size rfl (.const (.slice none 0 0)) (.tmp 38) 26 5 (.int .u8 0) 1 rfl Try.underlying26 infoU8 rfl (by decide) (by omega) _ ([] : List Int) n _ _ _ (fun _ => True) (fun _ => False) rfl rfl (Kd.R_nil _ _ _ _ _) (Kd.R_reads' HV2.out).2.2 (fun _ _ h => h) (fun _ h => h.elim) (fun _ _ => trivial) (Below.refl _ _) HK2.out.size (by have := HNL.out; simp; omega) ?_; intro v1 w3 ho hb3 _ _; obtain ⟨A9, c9, rfl⟩ := Kd.R_slice ho; have HO := Lib.hid ho; have HB3 := Lib.hid hb3; clear ho hb3)
      go_ret
      refine ⟨_, rfl, ?_, ?_, HB2.out.trans (HB3.out.mono HLX.out.2), HK2.out.then_base HB3.out⟩
      · rw [HF.out]
        exact Kd.R_mono (Kd.R_bound HO.out) (fun k hk => by have h7 := hk.2.1; have := HLX.out.1; omega)
      · rw [HF.out, HQ.out]
        refine ⟨A, c, k + j, ?_, HGE.out, H34.out.1, H34.out.2, HJ.out.1, HJ.out.2, HBL.out⟩
        have e2 := (HB3.out.block x HLX.out.1).trans HX2.out
        rw [HE.out] at e2
        simpa using e2
    · have hb2 : (er != 0) = true := bne_iff_ne.2 hq
      obtain ⟨rfl, hj0⟩ := HZZ.out hq
      have HI1 : IsRd B w0 w1 x s := ⟨A, c, k, HH1.out, HGE.out, H34.out.1, H34.out.2, HK.out, H6.out, HBL.out⟩
      have HFA := Lib.hid (rdFail_is HI1 HB1.out er)
      have HR := Lib.hid (show (eData s).2 = { s with e := er } by
        rw [HF.out]
        have : j = 0 := by omega
        rw [this, List.drop_zero])
      have HR1 := Lib.hid (show (eData s).1 = [] by rw [HF.out])
      have HE2 := Lib.hid (show (if s.e = 0 then { s with e := er } else s) = { s with e := er } from if_pos HE.out)
      clear hq HI1 hj0
      go_wp2_with fail
      refine HFA.out.mono ?_
      rw [HE2.out]
      rintro e w2 ⟨rfl, g1, g2, g3⟩
      have G1 := Lib.hid g1; have G2 := Lib.hid g2; have G3 := Lib.hid (HK1.out.trans g3)
      clear g1 g2 g3
      go_wp2_with fail
      go_ret
      exact ⟨.slice none 0 0, rfl, by rw [HR1.out]; exact Kd.R_nil _ _ _ _ _, by rw [HR.out]; exact G1.out, G2.out, G3.out⟩
    exact ⟨c0, c1⟩
  · have hb : (s.e != 0) = true := bne_iff_ne.2 he
    have HF := Lib.hid (show eData s = ([], s) by unfold eData; rw [if_neg he])
    clear hB hok h1 h2 h3 h4 he h5 h6 h7
    go_enter Try.func47, Try.ntmps47
    go_wp2_with fail
    go_ret
    exact ⟨.slice none 0 0, rfl, by rw [HF.out]; exact Kd.R_nil _ _ _ _ _, by rw [HF.out]; exact HI.out, HB.out, KeepS.refl _ _⟩
end Go.Proofs.Ytgiefblcckikeaa.M
end

section

/- The reference's Reader: the length of a list. -/
set_option maxRecDepth 100000
set_option linter.unusedVariables false
set_option linter.unusedSimpArgs false
attribute [local irreducible] Go.wpStill
namespace Go.Proofs.Ytgiefblcckikeaa.M
open Go.RowKit Go.Proofs.YtgiefblcckikeaaW.PrintWords Go.Proofs.YtgiefblcckikeaaW.PrintLast Go.Proofs.YtgiefblcckikeaaW.PrintMore Go.Proofs.Ytgiefblcckikeaa.G
def rLen (s : EyeS) : Int × EyeS := if (eNum s).1 < 0 ∨ 4096 < (eNum s).1 then (0, eWrong true (eNum s).2) else ((eNum s).1, (eNum s).2)
theorem eWrong_true (s : EyeS) : ¬ (eWrong true s).e = 0 := by
  unfold eWrong
  split
  · show ¬ (40 : Int) = 0; omega
  · next h => exact fun e => h ⟨e, rfl⟩
theorem eWrong_false (s : EyeS) : eWrong false s = s := by unfold eWrong; rw [if_neg (fun h => by cases h.2)]
theorem eList_len {α : Type} (g : EyeS → α × EyeS) (s : EyeS) : eList g s = eMany g (rLen s).1.toNat (rLen s).2 := by
  unfold eList rLen eCount
  by_cases h : (eNum s).1 < 0 ∨ 4096 < (eNum s).1
  · rw [if_pos h]
    have e : (decide ((eNum s).1 < 0) || decide (4096 < (eNum s).1)) = true := by simp; omega
    rw [e, eMany_stop (eWrong_true _), eMany_stop (eWrong_true _)]
  · rw [if_neg h]
    have e : (decide ((eNum s).1 < 0) || decide (4096 < (eNum s).1)) = false := by simp; omega
    rw [e, eWrong_false]
theorem rLen_size (s : EyeS) : 0 ≤ (rLen s).1 ∧ (rLen s).1 ≤ 4096 := by
  unfold rLen
  split
  · simp
  · show 0 ≤ (eNum s).1 ∧ (eNum s).1 ≤ 4096; omega
theorem okS_len {s : EyeS} (h : okS s) : okS (rLen s).2 := by
  unfold rLen
  split
  · exact okS_wrong _ (okS_num h)
  · exact okS_num h
set_option maxHeartbeats 1000000 in
theorem rdLen_is {B : List Int} {w0 w : World} {x : Nat} {s : EyeS} (hI : IsRd B w0 w x s) (hB : Below w0.heap.size w0 w) (hok : okS s) :
    Calls Try.prog 48 #[.pointer (some ⟨x, 0, none⟩)] w fun e w' => RdP B w0 w x (.int .i64 (rLen s).1) (rLen s).2 e w' := by
  have HN := Lib.hid (rdNum_is hI hB hok)
  obtain ⟨n, hn⟩ : ∃ n, (eNum s).1 = n := ⟨_, rfl⟩
  obtain ⟨s1, hs1⟩ : ∃ s1, (eNum s).2 = s1 := ⟨_, rfl⟩
  have HF := Lib.hid (show rLen s = if n < 0 ∨ 4096 < n then (0, eWrong true s1) else (n, s1) by unfold rLen; rw [hn, hs1])
  rw [hn, hs1] at HN
  clear hI hB hok hn hs1
  go_enter Try.func48, Try.ntmps48
  go_wp2_with fail
  refine HN.out.mono ?_
  rintro e w1 ⟨rfl, h1, h2, h3⟩
  have H1 := Lib.hid h1; have H2 := Lib.hid h2; have H3 := Lib.hid h3
  clear h1 h2 h3 HN
  have HFA := Lib.hid (rdFail_is H1.out H2.out 40)
  have hw : (if s1.e = 0 then { s1 with e := 40 } else s1) = eWrong true s1 := by
    unfold eWrong
    by_cases h : s1.e = 0
    · rw [if_pos h, if_pos ⟨h, rfl⟩]
    · rw [if_neg h, if_neg (fun q => h q.1)]
  rw [hw] at HFA
  clear hw
  by_cases ha : n < 0
  · have q1 : decide (n < 0) = true := decide_eq_true ha
    have HR := Lib.hid (show rLen s = (0, eWrong true s1) by rw [HF.out, if_pos (.inl ha)])
    clear ha
    go_wp2_with fail
    refine HFA.out.mono ?_
    rintro e w2 ⟨rfl, h1, h2, h3⟩
    have G1 := Lib.hid h1; have G2 := Lib.hid h2; have G3 := Lib.hid (H3.out.trans h3)
    clear h1 h2 h3
    go_wp2_with fail
    go_ret
    exact ⟨by rw [HR.out]; rfl, by rw [HR.out]; exact G1.out, G2.out, G3.out⟩
  · have q1 : decide (n < 0) = false := decide_eq_false ha
    by_cases hb : 4096 < n
    · have q2 : decide ((4096 : Int) < n) = true := decide_eq_true hb
      have HR := Lib.hid (show rLen s = (0, eWrong true s1) by rw [HF.out, if_pos (.inr hb)])
      clear ha hb
      go_wp2_with fail
      refine HFA.out.mono ?_
      rintro e w2 ⟨rfl, h1, h2, h3⟩
      have G1 := Lib.hid h1; have G2 := Lib.hid h2; have G3 := Lib.hid (H3.out.trans h3)
      clear h1 h2 h3
      go_wp2_with fail
      go_ret
      exact ⟨by rw [HR.out]; rfl, by rw [HR.out]; exact G1.out, G2.out, G3.out⟩
    · have q2 : decide ((4096 : Int) < n) = false := decide_eq_false hb
      have HR := Lib.hid (show rLen s = (n, s1) by rw [HF.out, if_neg (fun h => h.elim ha hb)])
      have hwn : wrap64 n = n := by unfold wrap64; omega
      clear ha hb
      go_wp2_with fail
      go_ret
      exact ⟨by rw [HR.out]; rfl, by rw [HR.out]; exact H1.out, H2.out, H3.out⟩
end Go.Proofs.Ytgiefblcckikeaa.M
end

section

/- The reference's Reader: keys. -/
set_option maxRecDepth 100000
set_option linter.unusedVariables false
set_option linter.unusedSimpArgs false
attribute [local irreducible] Go.wpStill
namespace Go.Proofs.Ytgiefblcckikeaa.M
open Go.RowKit Go.Proofs.YtgiefblcckikeaaW.PrintWords Go.Proofs.YtgiefblcckikeaaW.PrintLast Go.Proofs.YtgiefblcckikeaaW.PrintMore Go.Proofs.Ytgiefblcckikeaa.G
def RdL {α : Type} (d : Kd α) (el : Nat) (B : List Int) (w0 w : World) (x : Nat) (l : List α) (s' : EyeS) (e : Ending) (w' : World) : Prop := ∃ v : Value, e = .returned v ∧ Kd.S d el w' w.heap.size (fun _ => True) v l ∧ IsRd B w0 w' x s' ∧ Below w0.heap.size w0 w' ∧ KeepS (fun i => i = x) w w'
def RdI (n : Int) (s0 : EyeS) (B : List Int) (w0 w : World) (x : Nat) (v i : Value) (W : World) : Prop := ∃ (U : List KeyD) (s : EyeS), i = .int .i64 (U.length : Int) ∧ U.length ≤ n.toNat ∧ Kd.S G.k93 93 W w.heap.size (fun _ => True) v U ∧ IsRd B w0 W x s ∧ Below w0.heap.size w0 W ∧ KeepS (fun i => i = x) w W ∧ okS s ∧ eList eKey s0 = (U ++ (eMany eKey (n.toNat - U.length) s).1, (eMany eKey (n.toNat - U.length) s).2)
theorem eSmall_range (s : EyeS) : eSmall s = if -2147483648 ≤ (eNum s).1 ∧ (eNum s).1 ≤ 2147483647 then eNum s else (0, { (eNum s).2 with o := true }) := by
  unfold eSmall
  by_cases h : -2147483648 ≤ (eNum s).1 ∧ (eNum s).1 ≤ 2147483647
  · rw [if_pos h, if_pos (by rw [IntKind.wrap_i32]; omega)]
  · rw [if_neg h, if_neg (by rw [IntKind.wrap_i32]; omega)]
set_option maxHeartbeats 2000000 in
theorem rdKeys_is {B : List Int} {w0 w : World} {x : Nat} {s : EyeS} (hI : IsRd B w0 w x s) (hB : Below w0.heap.size w0 w) (hok : okS s) :
    Calls Try.prog 49 #[.pointer (some ⟨x, 0, none⟩)] w fun e w' => RdL G.k93 93 B w0 w x (eList eKey s).1 (eList eKey s).2 e w' := by
  have HN := Lib.hid (rdLen_is hI hB hok)
  have HOK := Lib.hid (okS_len hok)
  have HLT := Lib.hid hI.lt
  have HGEW := Lib.hid (show w0.heap.size ≤ w.heap.size from hB.size)
  have HSZ := Lib.hid (rLen_size s)
  have HEL := Lib.hid (eList_len eKey s)
  obtain ⟨n, hn⟩ : ∃ n, (rLen s).1 = n := ⟨_, rfl⟩
  obtain ⟨s1, hs1⟩ : ∃ s1, (rLen s).2 = s1 := ⟨_, rfl⟩
  rw [hn] at HSZ
  rw [hn, hs1] at HN HEL
  rw [hs1] at HOK
  clear hI hB hok hn hs1
  go_enter Try.func49, Try.ntmps49
  go_wp2_with fail
  refine HN.out.mono ?_
  rintro e w1 ⟨rfl, h1, h2, h3⟩
  have G1 := Lib.hid h1; have G2 := Lib.hid h2; have G3 := Lib.hid h3
  clear h1 h2 h3 HN
  go_wp2_with fail
  go_loopw [4, 5, 6] (fun v i t wr => RdI n s B w0 w x v i wr) (fun _ i _ _ => n.toNat - (intOf i).toNat)
  case atStart => exact ⟨[], s1, rfl, by simp, Kd.S_nil _ _ _ _ _, G1.out, G2.out, G3.out, HOK.out, by simpa using HEL.out⟩
  case round =>
    obtain ⟨U, s2, rfl, hUn, hS, hI, hB, hK, hO, hF⟩ := hrel
    have HI := Lib.hid hI; have HB := Lib.hid hB; have HK := Lib.hid hK; have HO := Lib.hid hO; have HF := Lib.hid hF; have HS := Lib.hid hS; have HUN := Lib.hid hUn
    obtain ⟨Av, cv, rfl⟩ := Kd.S_slice hS
    obtain ⟨A, c, k, g1, g2, g3⟩ := hI
    have c1 : wr.cell? ⟨x, 2, none⟩ = some (.int .i64 s2.e) := by simp [World.cell?, g1]
    clear hB hK hO hF hS hUn g1 g2 g3
    by_cases hlt : (U.length : Int) < n
    · by_cases he : s2.e = 0
      · have hq1 : decide ((U.length : Int) < n) = true := decide_eq_true hlt
        have hq2 : (s2.e == 0) = true := by rw [he]; rfl
        have HG := Lib.hid (rdNum_is HI.out HB.out HO.out)
        have HGS := Lib.hid (okS_small HO.out)
        have HSR := Lib.hid (eSmall_range s2)
        have H32 := eSmall_i32 s2
        obtain ⟨n1, hn1⟩ : ∃ n1, (eNum s2).1 = n1 := ⟨_, rfl⟩
        obtain ⟨s3, hs3⟩ : ∃ s3, (eNum s2).2 = s3 := ⟨_, rfl⟩
        obtain ⟨t1, ht1⟩ : ∃ t1, (eSmall s2).1 = t1 := ⟨_, rfl⟩
        obtain ⟨s4, hs4⟩ : ∃ s4, (eSmall s2).2 = s4 := ⟨_, rfl⟩
        have HSR2 := Lib.hid (show (t1, s4) = if -2147483648 ≤ n1 ∧ n1 ≤ 2147483647 then (n1, s3) else (0, { s3 with o := true }) by
          rw [← ht1, ← hs4, ← hn1, ← hs3]; exact HSR.out)
        have HKY := Lib.hid (show eKey s2 = (⟨t1, (eNum s4).1⟩, (eNum s4).2) by unfold eKey; rw [ht1, hs4])
        rw [hn1, hs3] at HG
        rw [hs4] at HGS
        rw [ht1] at H32
        obtain ⟨m, hm⟩ : ∃ m, (eNum s4).1 = m := ⟨_, rfl⟩
        obtain ⟨s5, hs5⟩ : ∃ s5, (eNum s4).2 = s5 := ⟨_, rfl⟩
        rw [hm, hs5] at HKY
        have HO5 := Lib.hid (show okS s5 by rw [← hs5]; exact okS_num HGS.out)
        have HM5 := Lib.hid (And.intro hm hs5)
        have HF2 := Lib.hid (show eList eKey s = ((U ++ [(⟨t1, m⟩ : KeyD)]) ++ (eMany eKey (n.toNat - (U ++ [(⟨t1, m⟩ : KeyD)]).length) s5).1, (eMany eKey (n.toNat - (U ++ [(⟨t1, m⟩ : KeyD)]).length) s5).2) by
          rw [HF.out]
          have e1 : n.toNat - U.length = (n.toNat - (U ++ [(⟨t1, m⟩ : KeyD)]).length) + 1 := by simp; omega
          rw [e1]
          simp only [eMany, he, if_true, HKY.out, List.append_assoc, List.singleton_append])
        have HLT2 := Lib.hid hlt
        clear hlt he hn1 hs3 ht1 hs4 HSR hm hs5
        go_wp2_with fail
        refine HG.out.mono ?_
        rintro e w3 ⟨rfl, h1, h2, h3⟩
        have K1 := Lib.hid h1; have K2 := Lib.hid h2; have K3 := Lib.hid h3
        clear h1 h2 h3
        obtain ⟨A, c, k, g1, g2, g3⟩ := K1.out
        have HH := Lib.hid g1; have HGG := Lib.hid g2; have HG3 := Lib.hid g3
        have z3 : w3.frozen? ⟨x, 3, none⟩ = false := by simp [World.frozen?, g1]
        have d3 : w3.cell? ⟨x, 3, none⟩ = some (.bool s3.o) := by simp [World.cell?, g1]
        clear g1 g2 g3
        by_cases ha : n1 < -2147483648
        · have q1 : decide (n1 < -2147483648) = true := decide_eq_true ha
          obtain ⟨rfl, rfl⟩ : t1 = 0 ∧ s4 = { s3 with o := true } := by
            have := HSR2.out
            rw [if_neg (by omega)] at this
            simpa using this
          clear ha
          have e1 := heap_same w3 ⟨x, 3, none⟩ (.bool true) HH.out rfl
          have HI4 := Lib.hid (show IsRd B w0 (w3.setCell ⟨x, 3, none⟩ (.bool true)) x { s3 with o := true } from ⟨A, c, k, by simpa using e1, HGG.out, HG3.out⟩)
          have HB4 := Lib.hid (K2.out.setCell (p := ⟨x, 3, none⟩) (by exact HGG.out) (.bool true))
          have KK := Lib.hid (K3.out.set (p := ⟨x, 3, none⟩) (.inl rfl) (.bool true))
          clear e1
          have HN5 := rdNum_is HI4.out HB4.out HGS.out
          rw [HM5.out.1, HM5.out.2] at HN5
          have HN5 := Lib.hid HN5
          go_wp2_with fail
          refine HN5.out.mono ?_
          rintro e w5 ⟨rfl, h1, h2, h3⟩
          have HS3 := Lib.hid (show Kd.S G.k93 93 w5 w.heap.size (fun _ => True) (.slice Av U.length cv) U from S_keep' HLT.out HS.out (KK.out.trans h3))
          have L1 := Lib.hid h1; have L2 := Lib.hid h2; have L3 := Lib.hid (HK.out.trans (KK.out.trans h3))
          have HZ3 := Lib.hid (show w.heap.size ≤ w5.heap.size from L3.out.size)
          have hul : U.length ≤ 4096 := by have h1 := HUN.out; have h2 := HSZ.out; omega
          clear h1 h2 h3
          go_wp2_with ((with_reducible refine gate_builtin (b := .append) (xs := #[.tmp 32, .tmp 38]) rfl ?_); at_builtin; refine Kd.S_append G.k93 (w0 := w5) w.heap.size rfl (.tmp 32) (.tmp 38) 34 93 (.agg #[.int .i32 0, .int .i64 0]) 16 rfl Try.underlying34 infoKey rfl (by decide) (by omega) _ U (⟨0, m⟩ : KeyD) [.int .i32 0, .int .i64 m] (fun _ => True) (fun _ => False) rfl rfl (G.k93_mkM _ _ _ (⟨0, m⟩ : KeyD)) (fun _ hk => hk.elim) (fun _ _ => trivial) (Kd.S_mono HS3.out (fun _ h => ⟨h, fun q => q⟩)) (Below.refl _ _) HZ3.out (by omega) ?_; intro v1 w6 ho hb5 hg5 hat; obtain ⟨A5, c5, rfl⟩ := Kd.S_slice ho; have HS5 := Lib.hid ho; have HK5 := Lib.hid (L3.out.then_base hb5); have HI5 := Lib.hid (L1.out.at (hb5.block x HLT.out)); have HB5 := Lib.hid (L2.out.trans (hb5.mono HGEW.out)); clear ho hb5 hg5 hat)
          go_roundw
          case rel =>
            refine ⟨U ++ [(⟨0, m⟩ : KeyD)], s5, by rw [List.length_append]; go_num, ?_, (by have h9 := HS5.out; rw [List.length_append] at h9; exact h9), HI5.out, HB5.out, HK5.out, HO5.out, HF2.out⟩
            have h2 := HLT2.out
            rw [List.length_append, List.length_singleton]
            omega
          case measure => simp [intOf]; have h2 := HLT2.out; omega
        · have q1 : decide (n1 < -2147483648) = false := decide_eq_false ha
          by_cases hb : 2147483647 < n1
          · have q2 : decide (2147483647 < n1) = true := decide_eq_true hb
            obtain ⟨rfl, rfl⟩ : t1 = 0 ∧ s4 = { s3 with o := true } := by
              have := HSR2.out
              rw [if_neg (by omega)] at this
              simpa using this
            clear ha hb
            have e1 := heap_same w3 ⟨x, 3, none⟩ (.bool true) HH.out rfl
            have HI4 := Lib.hid (show IsRd B w0 (w3.setCell ⟨x, 3, none⟩ (.bool true)) x { s3 with o := true } from ⟨A, c, k, by simpa using e1, HGG.out, HG3.out⟩)
            have HB4 := Lib.hid (K2.out.setCell (p := ⟨x, 3, none⟩) (by exact HGG.out) (.bool true))
            have KK := Lib.hid (K3.out.set (p := ⟨x, 3, none⟩) (.inl rfl) (.bool true))
            clear e1
            have HN5 := rdNum_is HI4.out HB4.out HGS.out
            rw [HM5.out.1, HM5.out.2] at HN5
            have HN5 := Lib.hid HN5
            go_wp2_with fail
            refine HN5.out.mono ?_
            rintro e w5 ⟨rfl, h1, h2, h3⟩
            have HS3 := Lib.hid (show Kd.S G.k93 93 w5 w.heap.size (fun _ => True) (.slice Av U.length cv) U from S_keep' HLT.out HS.out (KK.out.trans h3))
            have L1 := Lib.hid h1; have L2 := Lib.hid h2; have L3 := Lib.hid (HK.out.trans (KK.out.trans h3))
            have HZ3 := Lib.hid (show w.heap.size ≤ w5.heap.size from L3.out.size)
            have hul : U.length ≤ 4096 := by have h1 := HUN.out; have h2 := HSZ.out; omega
            clear h1 h2 h3
            go_wp2_with ((with_reducible refine gate_builtin (b := .append) (xs := #[.tmp 32, .tmp 38]) rfl ?_); at_builtin; refine Kd.S_append G.k93 (w0 := w5) w.heap.size rfl (.tmp 32) (.tmp 38) 34 93 (.agg #[.int .i32 0, .int .i64 0]) 16 rfl Try.underlying34 infoKey rfl (by decide) (by omega) _ U (⟨0, m⟩ : KeyD) [.int .i32 0, .int .i64 m] (fun _ => True) (fun _ => False) rfl rfl (G.k93_mkM _ _ _ (⟨0, m⟩ : KeyD)) (fun _ hk => hk.elim) (fun _ _ => trivial) (Kd.S_mono HS3.out (fun _ h => ⟨h, fun q => q⟩)) (Below.refl _ _) HZ3.out (by omega) ?_; intro v1 w6 ho hb5 hg5 hat; obtain ⟨A5, c5, rfl⟩ := Kd.S_slice ho; have HS5 := Lib.hid ho; have HK5 := Lib.hid (L3.out.then_base hb5); have HI5 := Lib.hid (L1.out.at (hb5.block x HLT.out)); have HB5 := Lib.hid (L2.out.trans (hb5.mono HGEW.out)); clear ho hb5 hg5 hat)
            go_roundw
            case rel =>
              refine ⟨U ++ [(⟨0, m⟩ : KeyD)], s5, by rw [List.length_append]; go_num, ?_, (by have h9 := HS5.out; rw [List.length_append] at h9; exact h9), HI5.out, HB5.out, HK5.out, HO5.out, HF2.out⟩
              have h2 := HLT2.out
              rw [List.length_append, List.length_singleton]
              omega
            case measure => simp [intOf]; have h2 := HLT2.out; omega
          · have q2 : decide (2147483647 < n1) = false := decide_eq_false hb
            obtain ⟨rfl, rfl⟩ : t1 = n1 ∧ s4 = s3 := by
              have := HSR2.out
              rw [if_pos (by omega)] at this
              simpa using this
            have hw32 : wrap32 t1 = t1 := by unfold wrap32; omega
            have KK := K3
            clear ha hb
            have HN5 := rdNum_is K1.out K2.out HGS.out
            rw [HM5.out.1, HM5.out.2] at HN5
            have HN5 := Lib.hid HN5
            go_wp2_with fail
            refine HN5.out.mono ?_
            rintro e w5 ⟨rfl, h1, h2, h3⟩
            have HS3 := Lib.hid (show Kd.S G.k93 93 w5 w.heap.size (fun _ => True) (.slice Av U.length cv) U from S_keep' HLT.out HS.out (KK.out.trans h3))
            have L1 := Lib.hid h1; have L2 := Lib.hid h2; have L3 := Lib.hid (HK.out.trans (KK.out.trans h3))
            have HZ3 := Lib.hid (show w.heap.size ≤ w5.heap.size from L3.out.size)
            have hul : U.length ≤ 4096 := by have h1 := HUN.out; have h2 := HSZ.out; omega
            clear h1 h2 h3
            go_wp2_with ((with_reducible refine gate_builtin (b := .append) (xs := #[.tmp 32, .tmp 38]) rfl ?_); at_builtin; refine Kd.S_append G.k93 (w0 := w5) w.heap.size rfl (.tmp 32) (.tmp 38) 34 93 (.agg #[.int .i32 0, .int .i64 0]) 16 rfl Try.underlying34 infoKey rfl (by decide) (by omega) _ U (⟨t1, m⟩ : KeyD) [.int .i32 t1, .int .i64 m] (fun _ => True) (fun _ => False) rfl rfl (G.k93_mkM _ _ _ (⟨t1, m⟩ : KeyD)) (fun _ hk => hk.elim) (fun _ _ => trivial) (Kd.S_mono HS3.out (fun _ h => ⟨h, fun q => q⟩)) (Below.refl _ _) HZ3.out (by omega) ?_; intro v1 w6 ho hb5 hg5 hat; obtain ⟨A5, c5, rfl⟩ := Kd.S_slice ho; have HS5 := Lib.hid ho; have HK5 := Lib.hid (L3.out.then_base hb5); have HI5 := Lib.hid (L1.out.at (hb5.block x HLT.out)); have HB5 := Lib.hid (L2.out.trans (hb5.mono HGEW.out)); clear ho hb5 hg5 hat)
            go_roundw
            case rel =>
              refine ⟨U ++ [(⟨t1, m⟩ : KeyD)], s5, by rw [List.length_append]; go_num, ?_, (by have h9 := HS5.out; rw [List.length_append] at h9; exact h9), HI5.out, HB5.out, HK5.out, HO5.out, HF2.out⟩
              have h2 := HLT2.out
              rw [List.length_append, List.length_singleton]
              omega
            case measure => simp [intOf]; have h2 := HLT2.out; omega
      · have hq1 : decide ((U.length : Int) < n) = true := decide_eq_true hlt
        have hq2 : (s2.e == 0) = false := beq_eq_false_iff_ne.2 he
        have HF2 := Lib.hid (show eList eKey s = (U, s2) by rw [HF.out, eMany_stop he, List.append_nil])
        clear hlt he
        go_wp2_with fail
        go_ret
        exact ⟨_, rfl, by rw [HF2.out]; exact HS.out, by rw [HF2.out]; exact HI.out, HB.out, HK.out⟩
    · have hq1 : decide ((U.length : Int) < n) = false := decide_eq_false hlt
      have HF2 := Lib.hid (show eList eKey s = (U, s2) by
        have e1 : n.toNat - U.length = 0 := by omega
        rw [HF.out, e1]
        simp only [eMany, List.append_nil])
      clear hlt
      go_wp2_with fail
      go_ret
      exact ⟨_, rfl, by rw [HF2.out]; exact HS.out, by rw [HF2.out]; exact HI.out, HB.out, HK.out⟩
end Go.Proofs.Ytgiefblcckikeaa.M
end

section

/- The eye: a transaction. -/
set_option maxRecDepth 100000
set_option linter.unusedVariables false
set_option linter.unusedSimpArgs false
attribute [local irreducible] Go.wpStill
namespace Go.Proofs.Ytgiefblcckikeaa.M
open Go.RowKit Go.Proofs.YtgiefblcckikeaaW.PrintWords Go.Proofs.YtgiefblcckikeaaW.PrintLast Go.Proofs.YtgiefblcckikeaaW.PrintMore Go.Proofs.Ytgiefblcckikeaa.G
def eTxn (s : EyeS) : TxD × EyeS :=
  (⟨(eNum s).1, (eNum (eNum s).2).1, (eData (eNum (eNum s).2).2).1, (eList eNum (eData (eNum (eNum s).2).2).2).1, (eList eKey (eList eNum (eData (eNum (eNum s).2).2).2).2).1, (eList eKey (eList eKey (eList eNum (eData (eNum (eNum s).2).2).2).2).2).1⟩,
    (eList eKey (eList eKey (eList eNum (eData (eNum (eNum s).2).2).2).2).2).2)
theorem okS_txn {s : EyeS} (h : okS s) : okS (eTxn s).2 := okS_list (fun _ => okS_key) (okS_list (fun _ => okS_key) (okS_list (fun _ => okS_num) (okS_data (okS_num (okS_num h)))))
def TxP (w0 w : World) (x : Nat) (y : TxD) (s' : EyeS) (e : Ending) (w' : World) : Prop := ∃ v2 v3 v4 v5 : Value, e = .returned (.agg #[.int .i64 y.f0, .int .i64 y.f1, v2, v3, v4, v5]) ∧ Kd.R (Kd.int .u8) 5 w' w.heap.size (fun _ => True) v2 y.f2 ∧ Kd.R (Kd.int .i64) 2 w' w.heap.size (fun _ => True) v3 y.f3 ∧ Kd.R G.k93 93 w' w.heap.size (fun k => some k ≠ v5.ownBlock) v4 y.f4 ∧ Kd.R G.k93 93 w' w.heap.size (fun k => some k ≠ v4.ownBlock) v5 y.f5 ∧ IsEye w0 w' x s' ∧ Below w0.heap.size w0 w' ∧ KeepS (fun i => i = x) w w'
theorem R_keepO {α : Type} {d : Kd α} {el base : Nat} {w w' : World} {v : Value} {l : List α} {ok S : Nat → Prop} (ho : ∀ i, ok i → ¬ S i) (h : Kd.R d el w base ok v l) (hk : KeepS S w w') : Kd.R d el w' base ok v l :=
  Kd.R_step h (fun k hk2 hlt => hk.block k hlt (ho k hk2))
abbrev zTxn : Obj := .cells #[.int .i64 0, .int .i64 0, .slice none 0 0, .slice none 0 0, .slice none 0 0, .slice none 0 0] 36
set_option maxHeartbeats 4000000 in
theorem eTxn_is {w0 w : World} {x : Nat} {s : EyeS} (hI : IsEye w0 w x s) (hB : Below w0.heap.size w0 w) (hok : okS s) :
    Calls Try.prog 44 #[.pointer (some ⟨x, 0, none⟩)] w fun e w' => TxP w0 w x (eTxn s).1 (eTxn s).2 e w' := by
  have hbx := heap_alloc_new w zTxn
  have hb1 := (Below.refl _ w).alloc (Nat.le_refl _) zTxn
  have HLT := Lib.hid (show x < w.heap.size from hI.lt); have HGEW := Lib.hid (show w0.heap.size ≤ w.heap.size from hB.size)
  have HN := Lib.hid (eNum_is (hI.below hb1) (hB.alloc hB.size _) hok)
  have HK1 := Lib.hid (KeepS.of_below (fun i => i = x) hb1)
  obtain ⟨r, HF0⟩ : ∃ r, eTxn s = r := ⟨_, rfl⟩
  have HF := HF0
  unfold eTxn at HF
  obtain ⟨a, ha⟩ : ∃ a, (eNum s).1 = a := ⟨_, rfl⟩
  obtain ⟨s1, hs1⟩ : ∃ s1, (eNum s).2 = s1 := ⟨_, rfl⟩
  have ho1 := okS_num hok
  rw [ha, hs1] at HN HF
  rw [hs1] at ho1
  obtain ⟨b, hb⟩ : ∃ b, (eNum s1).1 = b := ⟨_, rfl⟩
  obtain ⟨s2, hs2⟩ : ∃ s2, (eNum s1).2 = s2 := ⟨_, rfl⟩
  have ho2 := okS_num ho1
  rw [hb, hs2] at HF
  rw [hs2] at ho2
  obtain ⟨l2, hl2⟩ : ∃ l2, (eData s2).1 = l2 := ⟨_, rfl⟩
  obtain ⟨s3, hs3⟩ : ∃ s3, (eData s2).2 = s3 := ⟨_, rfl⟩
  have ho3 := okS_data ho2
  rw [hl2, hs3] at HF
  rw [hs3] at ho3
  obtain ⟨l3, hl3⟩ : ∃ l3, (eList eNum s3).1 = l3 := ⟨_, rfl⟩
  obtain ⟨s4, hs4⟩ : ∃ s4, (eList eNum s3).2 = s4 := ⟨_, rfl⟩
  have ho4 := okS_list (g := eNum) (fun _ => okS_num) ho3
  rw [hl3, hs4] at HF
  rw [hs4] at ho4
  obtain ⟨l4, hl4⟩ : ∃ l4, (eList eKey s4).1 = l4 := ⟨_, rfl⟩
  obtain ⟨s5, hs5⟩ : ∃ s5, (eList eKey s4).2 = s5 := ⟨_, rfl⟩
  have ho5 := okS_list (g := eKey) (fun _ => okS_key) ho4
  rw [hl4, hs5] at HF
  rw [hs5] at ho5
  obtain ⟨l5, hl5⟩ : ∃ l5, (eList eKey s5).1 = l5 := ⟨_, rfl⟩
  obtain ⟨s6, hs6⟩ : ∃ s6, (eList eKey s5).2 = s6 := ⟨_, rfl⟩
  rw [hl5, hs6] at HF
  have HF := Lib.hid (HF0.trans HF.symm)
  have HO1 := Lib.hid ho1; have HO2 := Lib.hid ho2; have HO3 := Lib.hid ho3; have HO4 := Lib.hid ho4; have HO5 := Lib.hid ho5
  have HE2 := Lib.hid (And.intro hb hs2); have HE3 := Lib.hid (And.intro hl2 hs3); have HE4 := Lib.hid (And.intro hl3 hs4); have HE5 := Lib.hid (And.intro hl4 hs5); have HE6 := Lib.hid (And.intro hl5 hs6)
  have HBX := Lib.hid hbx
  have HZ := Lib.hid (show w.heap.size < (w.alloc zTxn).heap.size by simp)
  clear ha hs1 hb hs2 hl2 hs3 hl3 hs4 hl4 hs5 hl5 hs6 ho1 ho2 ho3 ho4 ho5 hI hB hok hbx hb1
  go_enter Try.func44, Try.ntmps44
  go_wp2_with fail
  refine HN.out.mono ?_
  rintro e w1 ⟨rfl, h1, h2, h3⟩
  have h4 := eNum_is h1 h2 HO1.out
  rw [HE2.out.1, HE2.out.2] at h4
  have HN2 := Lib.hid h4
  have HZ1 := Lib.hid (Nat.lt_of_lt_of_le HZ.out h3.size)
  have HB1 := Lib.hid ((h3.block w.heap.size HZ.out (by have := HLT.out; omega)).trans HBX.out)
  have HK2 := Lib.hid (HK1.out.trans h3)
  clear h1 h2 h3 h4
  go_wp2_with fail
  refine HN2.out.mono ?_
  rintro e w2 ⟨rfl, h1, h2, h3⟩
  have h4 := eData_is h1 h2 HO2.out
  rw [HE3.out.1, HE3.out.2] at h4
  have HN3 := Lib.hid h4
  have HZ2 := Lib.hid (Nat.lt_of_lt_of_le HZ1.out h3.size)
  have HB2 := Lib.hid ((h3.block w.heap.size HZ1.out (by have := HLT.out; omega)).trans HB1.out)
  have HK3 := Lib.hid (HK2.out.trans h3)
  clear h1 h2 h3 h4
  go_wp2_with fail
  refine HN3.out.mono ?_
  rintro e w3 ⟨v2, rfl, hv, h1, h2, h3⟩
  obtain ⟨A2, c2, rfl⟩ := Kd.R_slice hv
  have HV2 := Lib.hid (show Kd.R (Kd.int .u8) 5 w3 w.heap.size (fun k => k ≠ x ∧ k ≠ w.heap.size ∧ k ≠ w3.heap.size) _ l2 from Kd.R_mono (Kd.R_lower (Kd.R_bound hv) (Nat.le_of_lt HZ2.out)) (fun k hk => by
    have h7 := hk.2.1; have h8 := hk.2.2.1; have := HZ2.out; exact ⟨hk.1, by omega, by omega⟩))
  have HZ3 := Lib.hid (Nat.lt_of_lt_of_le HZ2.out h3.size)
  have HB3 := Lib.hid ((h3.block w.heap.size HZ2.out (by have := HLT.out; omega)).trans HB2.out)
  have HK4 := Lib.hid (HK3.out.trans h3)
  have H1 := Lib.hid h1; have H2 := Lib.hid h2
  clear h1 h2 h3 hv
  go_wp2_with fail
  have hby := heap_alloc_new w3 (.cells #[.int .i64 a, .int .i64 b, .slice A2 l2.length c2, .slice none 0 0, .slice none 0 0, .slice none 0 0] 36)
  have hay := (Below.refl _ w3).alloc (Nat.le_refl _) (.cells #[.int .i64 a, .int .i64 b, .slice A2 l2.length c2, .slice none 0 0, .slice none 0 0, .slice none 0 0] 36)
  have hzy : (w3.alloc (.cells #[.int .i64 a, .int .i64 b, .slice A2 l2.length c2, .slice none 0 0, .slice none 0 0, .slice none 0 0] 36)).heap.size = w3.heap.size + 1 := by simp
  have HVA := Lib.hid (Kd.R_alloc HV2.out (.cells #[.int .i64 a, .int .i64 b, .slice A2 l2.length c2, .slice none 0 0, .slice none 0 0, .slice none 0 0] 36))
  obtain ⟨w4, hw4⟩ : ∃ w4, w3.alloc (.cells #[.int .i64 a, .int .i64 b, .slice A2 l2.length c2, .slice none 0 0, .slice none 0 0, .slice none 0 0] 36) = w4 := ⟨_, rfl⟩
  rw [hw4] at hby hay hzy HVA ⊢
  obtain ⟨g, hg⟩ : ∃ g, w3.heap.size = g := ⟨_, rfl⟩
  have HI4 := Lib.hid (H1.out.below hay)
  have HD4 := Lib.hid (H2.out.trans (hay.mono H2.out.size))
  have HG4 := Lib.hid ((hay.block w.heap.size HZ3.out).trans HB3.out)
  have HQ4 := Lib.hid (HK4.out.then_below hay)
  rw [hg] at hby hzy HVA HZ3 ⊢
  have HY4 := Lib.hid hby
  have HGZ := Lib.hid (show w.heap.size < g ∧ x < w.heap.size from ⟨HZ3.out, HLT.out⟩)
  have HZZ4 := Lib.hid (show g < w4.heap.size by omega)
  clear hw4 hg hby hay hzy H1 H2 HB3 HK4 HV2
  have HV2 := HVA
  clear HVA
  have h4 := eList_nums HI4.out HD4.out HO3.out
  rw [HE4.out.1, HE4.out.2] at h4
  have HNN3 := Lib.hid h4
  clear h4
  refine HNN3.out.mono ?_
  rintro e w5 ⟨v3, rfl, hv, h1, h2, h3⟩
  have hvr := Kd.S_R hv
  obtain ⟨A3, c3, rfl⟩ := Kd.R_slice hvr
  have HV3 := Lib.hid (show Kd.R (Kd.int .i64) 2 w5 w.heap.size (fun k => k ≠ x ∧ k ≠ w.heap.size ∧ k ≠ g) _ l3 from Kd.R_mono (Kd.R_lower (Kd.R_bound hvr) HQ4.out.size) (fun k hk => by
    have h7 := hk.2.1; have h9 := HGZ.out; have h8 := HZZ4.out; refine ⟨?_, ?_, ?_⟩ <;> omega))
  have HW2 := Lib.hid (R_keepO (S := fun i => i = x) (fun i hi => hi.1) HV2.out h3)
  clear HV2
  have HV2 := HW2
  clear HW2
  have HG5 := Lib.hid ((h3.block w.heap.size (by have := HGZ.out; have := HZZ4.out; omega) (by have := HGZ.out; omega)).trans HG4.out)
  have HY5 := Lib.hid ((h3.block g HZZ4.out (by have := HGZ.out; omega)).trans HY4.out)
  have HQ5 := Lib.hid (HQ4.out.trans h3)
  have HZZ5 := Lib.hid (Nat.lt_of_lt_of_le HZZ4.out h3.size)
  have HI5 := Lib.hid h1
  have HD5 := Lib.hid h2
  have d3 : w5.cell? ⟨g, 3, none⟩ = some (.slice none 0 0) := by simp [World.cell?, HY5.out]
  have z3 : w5.frozen? ⟨g, 3, none⟩ = false := by simp [World.frozen?, HY5.out]
  clear hv hvr h1 h2 h3 HNN3
  go_wp2_with fail
  have HY6 := Lib.hid (blk_put (cs := #[.int .i64 a, .int .i64 b, .slice A2 l2.length c2, .slice none 0 0, .slice none 0 0, .slice none 0 0]) HY5.out 3 (.slice A3 l3.length c3) rfl)
  have HG6 := Lib.hid ((Below.heap_setCell w5 ⟨g, 3, none⟩ (.slice A3 l3.length c3) w.heap.size (by have := HGZ.out; simp; omega)).trans HG5.out)
  have HI6 := Lib.hid (HI5.out.at (Below.heap_setCell w5 ⟨g, 3, none⟩ (.slice A3 l3.length c3) x (by have := HGZ.out; simp; omega)))
  have HD6 := Lib.hid (HD5.out.setCell (p := ⟨g, 3, none⟩) (by have := HGZ.out; have := HGEW.out; simp; omega) (.slice A3 l3.length c3))
  have HQ6 := Lib.hid (HQ5.out.set (p := ⟨g, 3, none⟩) (.inr (by have := HGZ.out; simp; omega)) (.slice A3 l3.length c3))
  have HZZ6 := Lib.hid (show g < (w5.setCell ⟨g, 3, none⟩ (.slice A3 l3.length c3)).heap.size by rw [World.size_setCell]; exact HZZ5.out)
  have HW2 := Lib.hid (Kd.R_far (p := ⟨g, 3, none⟩) HV2.out (fun k hk => hk.2.2) (.slice A3 l3.length c3))
  have HW3 := Lib.hid (Kd.R_far (p := ⟨g, 3, none⟩) HV3.out (fun k hk => hk.2.2) (.slice A3 l3.length c3))
  obtain ⟨w6, hw6⟩ : ∃ w6, w5.setCell ⟨g, 3, none⟩ (.slice A3 l3.length c3) = w6 := ⟨_, rfl⟩
  rw [hw6] at HY6 HG6 HI6 HD6 HQ6 HZZ6 HW2 HW3 ⊢
  clear hw6 HY5 HG5 HI5 HD5 HQ5 HZZ5 HV2 HV3 d3 z3
  have HV2 := HW2
  clear HW2
  have HV3 := HW3
  clear HW3
  have h4 := eList_keys HI6.out HD6.out HO4.out
  rw [HE5.out.1, HE5.out.2] at h4
  have HNN4 := Lib.hid h4
  clear h4
  refine HNN4.out.mono ?_
  rintro e w7 ⟨v4, rfl, hv, h1, h2, h3⟩
  have hvr := Kd.S_R hv
  obtain ⟨A4, c4, rfl⟩ := Kd.R_slice hvr
  have HV4 := Lib.hid (show Kd.R G.k93 93 w7 w.heap.size (fun k => k ≠ x ∧ k ≠ w.heap.size ∧ k ≠ g) _ l4 from Kd.R_mono (Kd.R_lower (Kd.R_bound hvr) HQ6.out.size) (fun k hk => by
    have h7 := hk.2.1; have h9 := HGZ.out; have h8 := HZZ6.out; refine ⟨?_, ?_, ?_⟩ <;> omega))
  have HW2 := Lib.hid (R_keepO (S := fun i => i = x) (fun i hi => hi.1) HV2.out h3)
  clear HV2
  have HV2 := HW2
  clear HW2
  have HW3 := Lib.hid (R_keepO (S := fun i => i = x) (fun i hi => hi.1) HV3.out h3)
  clear HV3
  have HV3 := HW3
  clear HW3
  have HG7 := Lib.hid ((h3.block w.heap.size (by have := HGZ.out; have := HZZ6.out; omega) (by have := HGZ.out; omega)).trans HG6.out)
  have HY7 := Lib.hid ((h3.block g HZZ6.out (by have := HGZ.out; omega)).trans HY6.out)
  have HQ7 := Lib.hid (HQ6.out.trans h3)
  have HZZ7 := Lib.hid (Nat.lt_of_lt_of_le HZZ6.out h3.size)
  have HI7 := Lib.hid h1
  have HD7 := Lib.hid h2
  have d4 : w7.cell? ⟨g, 4, none⟩ = some (.slice none 0 0) := by simp [World.cell?, HY7.out]
  have z4 : w7.frozen? ⟨g, 4, none⟩ = false := by simp [World.frozen?, HY7.out]
  clear hv hvr h1 h2 h3 HNN4
  go_wp2_with fail
  have HY8 := Lib.hid (blk_put (cs := #[.int .i64 a, .int .i64 b, .slice A2 l2.length c2, .slice A3 l3.length c3, .slice none 0 0, .slice none 0 0]) HY7.out 4 (.slice A4 l4.length c4) rfl)
  have HG8 := Lib.hid ((Below.heap_setCell w7 ⟨g, 4, none⟩ (.slice A4 l4.length c4) w.heap.size (by have := HGZ.out; simp; omega)).trans HG7.out)
  have HI8 := Lib.hid (HI7.out.at (Below.heap_setCell w7 ⟨g, 4, none⟩ (.slice A4 l4.length c4) x (by have := HGZ.out; simp; omega)))
  have HD8 := Lib.hid (HD7.out.setCell (p := ⟨g, 4, none⟩) (by have := HGZ.out; have := HGEW.out; simp; omega) (.slice A4 l4.length c4))
  have HQ8 := Lib.hid (HQ7.out.set (p := ⟨g, 4, none⟩) (.inr (by have := HGZ.out; simp; omega)) (.slice A4 l4.length c4))
  have HZZ8 := Lib.hid (show g < (w7.setCell ⟨g, 4, none⟩ (.slice A4 l4.length c4)).heap.size by rw [World.size_setCell]; exact HZZ7.out)
  have HW2 := Lib.hid (Kd.R_far (p := ⟨g, 4, none⟩) HV2.out (fun k hk => hk.2.2) (.slice A4 l4.length c4))
  have HW3 := Lib.hid (Kd.R_far (p := ⟨g, 4, none⟩) HV3.out (fun k hk => hk.2.2) (.slice A4 l4.length c4))
  have HW4 := Lib.hid (Kd.R_far (p := ⟨g, 4, none⟩) HV4.out (fun k hk => hk.2.2) (.slice A4 l4.length c4))
  obtain ⟨w8, hw8⟩ : ∃ w8, w7.setCell ⟨g, 4, none⟩ (.slice A4 l4.length c4) = w8 := ⟨_, rfl⟩
  rw [hw8] at HY8 HG8 HI8 HD8 HQ8 HZZ8 HW2 HW3 HW4 ⊢
  clear hw8 HY7 HG7 HI7 HD7 HQ7 HZZ7 HV2 HV3 HV4 d4 z4
  have HV2 := HW2
  clear HW2
  have HV3 := HW3
  clear HW3
  have HV4 := HW4
  clear HW4
  have h4 := eList_keys HI8.out HD8.out HO5.out
  rw [HE6.out.1, HE6.out.2] at h4
  have HNN5 := Lib.hid h4
  clear h4
  refine HNN5.out.mono ?_
  rintro e w9 ⟨v5, rfl, hv, h1, h2, h3⟩
  have hvr := Kd.S_R hv
  obtain ⟨A5, c5, rfl⟩ := Kd.R_slice hvr
  have HV5 := Lib.hid (show Kd.R G.k93 93 w9 w.heap.size (fun k => k ≠ x ∧ k ≠ w.heap.size ∧ k ≠ g ∧ w8.heap.size ≤ k) _ l5 from Kd.R_mono (Kd.R_lower (Kd.R_bound hvr) HQ8.out.size) (fun k hk => by
    have h7 := hk.2.1; have h9 := HGZ.out; have h8 := HZZ8.out; refine ⟨?_, ?_, ?_, ?_⟩ <;> omega))
  have HW2 := Lib.hid (R_keepO (S := fun i => i = x) (fun i hi => hi.1) HV2.out h3)
  clear HV2
  have HV2 := HW2
  clear HW2
  have HW3 := Lib.hid (R_keepO (S := fun i => i = x) (fun i hi => hi.1) HV3.out h3)
  clear HV3
  have HV3 := HW3
  clear HW3
  have HW4 := Lib.hid (R_keepO (S := fun i => i = x) (fun i hi => hi.1.1) (show Kd.R G.k93 93 w8 w.heap.size (fun k => (k ≠ x ∧ k ≠ w.heap.size ∧ k ≠ g) ∧ k < w8.heap.size) _ l4 from Kd.R_mono (Kd.R_bound HV4.out) (fun k hk => ⟨hk.1, hk.2.2.1⟩)) h3)
  clear HV4
  have HV4 := HW4
  clear HW4
  have HG9 := Lib.hid ((h3.block w.heap.size (by have := HGZ.out; have := HZZ8.out; omega) (by have := HGZ.out; omega)).trans HG8.out)
  have HY9 := Lib.hid ((h3.block g HZZ8.out (by have := HGZ.out; omega)).trans HY8.out)
  have HQ9 := Lib.hid (HQ8.out.trans h3)
  have HZZ9 := Lib.hid (Nat.lt_of_lt_of_le HZZ8.out h3.size)
  have HI9 := Lib.hid h1
  have HD9 := Lib.hid h2
  have d5 : w9.cell? ⟨g, 5, none⟩ = some (.slice none 0 0) := by simp [World.cell?, HY9.out]
  have z5 : w9.frozen? ⟨g, 5, none⟩ = false := by simp [World.frozen?, HY9.out]
  clear hv hvr h1 h2 h3 HNN5
  have d0 : w9.cell? ⟨g, 0, none⟩ = some (.int .i64 a) := by simp [World.cell?, HY9.out]
  have d1 : w9.cell? ⟨g, 1, none⟩ = some (.int .i64 b) := by simp [World.cell?, HY9.out]
  have d2 : w9.cell? ⟨g, 2, none⟩ = some (.slice A2 l2.length c2) := by simp [World.cell?, HY9.out]
  have d3 : w9.cell? ⟨g, 3, none⟩ = some (.slice A3 l3.length c3) := by simp [World.cell?, HY9.out]
  have d4 : w9.cell? ⟨g, 4, none⟩ = some (.slice A4 l4.length c4) := by simp [World.cell?, HY9.out]
  have e0 : w9.cell? ⟨w.heap.size, 0, none⟩ = some (.int .i64 0) := by simp [World.cell?, HG9.out]
  have y0 : w9.frozen? ⟨w.heap.size, 0, none⟩ = false := by simp [World.frozen?, HG9.out]
  have e1 : w9.cell? ⟨w.heap.size, 1, none⟩ = some (.int .i64 0) := by simp [World.cell?, HG9.out]
  have y1 : w9.frozen? ⟨w.heap.size, 1, none⟩ = false := by simp [World.frozen?, HG9.out]
  have e2 : w9.cell? ⟨w.heap.size, 2, none⟩ = some (.slice none 0 0) := by simp [World.cell?, HG9.out]
  have y2 : w9.frozen? ⟨w.heap.size, 2, none⟩ = false := by simp [World.frozen?, HG9.out]
  have e3 : w9.cell? ⟨w.heap.size, 3, none⟩ = some (.slice none 0 0) := by simp [World.cell?, HG9.out]
  have y3 : w9.frozen? ⟨w.heap.size, 3, none⟩ = false := by simp [World.frozen?, HG9.out]
  have e4 : w9.cell? ⟨w.heap.size, 4, none⟩ = some (.slice none 0 0) := by simp [World.cell?, HG9.out]
  have y4 : w9.frozen? ⟨w.heap.size, 4, none⟩ = false := by simp [World.frozen?, HG9.out]
  have e5 : w9.cell? ⟨w.heap.size, 5, none⟩ = some (.slice none 0 0) := by simp [World.cell?, HG9.out]
  have y5 : w9.frozen? ⟨w.heap.size, 5, none⟩ = false := by simp [World.frozen?, HG9.out]
  have HGN : w.heap.size ≠ g := by have := HGZ.out; omega
  go_wp2_with fail
  have HEB := Lib.hid (blk_put (cs := #[.int .i64 a, .int .i64 b, .slice A2 l2.length c2, .slice A3 l3.length c3, .slice A4 l4.length c4, .slice none 0 0]) (blk_put (cs := #[.int .i64 a, .int .i64 b, .slice A2 l2.length c2, .slice A3 l3.length c3, .slice none 0 0, .slice none 0 0]) (blk_put (cs := #[.int .i64 a, .int .i64 b, .slice A2 l2.length c2, .slice none 0 0, .slice none 0 0, .slice none 0 0]) (blk_put (cs := #[.int .i64 a, .int .i64 b, .slice none 0 0, .slice none 0 0, .slice none 0 0, .slice none 0 0]) (blk_put (cs := #[.int .i64 a, .int .i64 0, .slice none 0 0, .slice none 0 0, .slice none 0 0, .slice none 0 0]) (blk_put (cs := #[.int .i64 0, .int .i64 0, .slice none 0 0, .slice none 0 0, .slice none 0 0, .slice none 0 0]) ((Below.heap_setCell w9 ⟨g, 5, none⟩ (.slice A5 l5.length c5) w.heap.size HGN).trans HG9.out) 0 (.int .i64 a) rfl) 1 (.int .i64 b) rfl) 2 (.slice A2 l2.length c2) rfl) 3 (.slice A3 l3.length c3) rfl) 4 (.slice A4 l4.length c4) rfl) 5 (.slice A5 l5.length c5) rfl)
  have HKS := Lib.hid ((((((((KeepS.refl (fun i => i = g ∨ i = w.heap.size) w9).set (p := ⟨g, 5, none⟩) (.inl (.inl rfl)) (.slice A5 l5.length c5)).set (p := ⟨w.heap.size, 0, none⟩) (.inl (.inr rfl)) (.int .i64 a)).set (p := ⟨w.heap.size, 1, none⟩) (.inl (.inr rfl)) (.int .i64 b)).set (p := ⟨w.heap.size, 2, none⟩) (.inl (.inr rfl)) (.slice A2 l2.length c2)).set (p := ⟨w.heap.size, 3, none⟩) (.inl (.inr rfl)) (.slice A3 l3.length c3)).set (p := ⟨w.heap.size, 4, none⟩) (.inl (.inr rfl)) (.slice A4 l4.length c4)).set (p := ⟨w.heap.size, 5, none⟩) (.inl (.inr rfl)) (.slice A5 l5.length c5))
  obtain ⟨W, hW⟩ : ∃ W, ((((((w9.setCell ⟨g, 5, none⟩ (.slice A5 l5.length c5)).setCell ⟨w.heap.size, 0, none⟩ (.int .i64 a)).setCell ⟨w.heap.size, 1, none⟩ (.int .i64 b)).setCell ⟨w.heap.size, 2, none⟩ (.slice A2 l2.length c2)).setCell ⟨w.heap.size, 3, none⟩ (.slice A3 l3.length c3)).setCell ⟨w.heap.size, 4, none⟩ (.slice A4 l4.length c4)).setCell ⟨w.heap.size, 5, none⟩ (.slice A5 l5.length c5) = W := ⟨_, rfl⟩
  rw [hW] at HEB HKS ⊢
  clear hW
  refine bodyPost_ret (results_cell_row rfl _ _ w.heap.size 36 #[.int .i64 a, .int .i64 b, .slice A2 l2.length c2, .slice A3 l3.length c3, .slice A4 l4.length c4, .slice A5 l5.length c5] (0, 0) _ rfl HEB.out Try.underlying36 rfl (by kernel_rfl)) rfl ?_
  rw [HF.out]
  have hq := HQ9.out.size
  have hgz := HGZ.out
  refine ⟨_, _, _, _, rfl, Kd.R_mono (R_keepO (fun i hi => ?_) HV2.out HKS.out) (fun _ _ => trivial), Kd.R_mono (R_keepO (fun i hi => ?_) HV3.out HKS.out) (fun _ _ => trivial), Kd.R_mono (R_keepO (fun i hi => ?_) HV4.out HKS.out) (fun k hk e => ?_), Kd.R_mono (R_keepO (fun i hi => ?_) HV5.out HKS.out) (fun k hk e => ?_), HI9.out.at (HKS.out.block x (by omega) ?_), HD9.out.trans (HKS.out.below (B := w0.heap.size) HD9.out.size ?_), HQ9.out.then_base (HKS.out.below (B := w.heap.size) hq ?_)⟩
  · rintro (h | h); exact hi.2.2 h; exact hi.2.1 h
  · rintro (h | h); exact hi.2.2 h; exact hi.2.1 h
  · rintro (h | h); exact hi.1.2.2 h; exact hi.1.2.1 h
  · have h5 := HV5.out.1 k e.symm
    have := hk.2
    have := h5.2.2.2
    omega
  · rintro (h | h); exact hi.2.2.1 h; exact hi.2.1 h
  · have h5 := HV4.out.1 k e.symm
    have := hk.2.2.2
    have := h5.2
    omega
  · rintro (h | h) <;> omega
  · have := HGEW.out
    rintro i (h | h) <;> omega
  · rintro i (h | h) <;> omega
end Go.Proofs.Ytgiefblcckikeaa.M
end

section

/- A function that reads with a state at x into a struct variable g, its result's box being the first new one; what it has read stays. -/
set_option maxRecDepth 100000
set_option linter.unusedVariables false
set_option linter.unusedSimpArgs false
namespace Go.Proofs.Ytgiefblcckikeaa.M
open Go.RowKit Go.Proofs.YtgiefblcckikeaaW.PrintWords Go.Proofs.YtgiefblcckikeaaW.PrintLast Go.Proofs.YtgiefblcckikeaaW.PrintMore Go.Proofs.Ytgiefblcckikeaa.G
def Held (S : Nat → Prop) (W : World) (P : World → Prop) : Prop := ∀ W' : World, W.heap.size ≤ W'.heap.size → (∀ k, k < W.heap.size → ¬ S k → W'.heap[k]? = W.heap[k]?) → P W'
theorem Held.now {S : Nat → Prop} {W : World} {P : World → Prop} (h : Held S W P) : P W := h W (Nat.le_refl _) (fun _ _ _ => rfl)
theorem Held.step {S : Nat → Prop} {W W' : World} {P : World → Prop} (h : Held S W P) (hz : W.heap.size ≤ W'.heap.size) (hm : ∀ k, k < W.heap.size → ¬ S k → W'.heap[k]? = W.heap[k]?) : Held S W' P :=
  fun V hV hk => h V (Nat.le_trans hz hV) (fun k h1 h2 => (hk k (Nat.lt_of_lt_of_le h1 hz) h2).trans (hm k h1 h2))
theorem Held.keep {S S' : Nat → Prop} {W W' : World} {P : World → Prop} (h : Held S W P) (k : KeepS S' W W') (hs : ∀ i, S' i → S i) : Held S W' P := h.step k.size (fun i h1 h2 => k.block i h1 (fun e => h2 (hs i e)))
theorem Held.set {S : Nat → Prop} {W : World} {P : World → Prop} (h : Held S W P) (p : Addr) (hp : S p.block) (v : Value) : Held S (W.setCell p v) P :=
  h.step (by rw [World.size_setCell]; exact Nat.le_refl _) (fun k _ h2 => Below.heap_setCell W p v k (fun e => h2 (e ▸ hp)))
theorem Held.and {S : Nat → Prop} {W : World} {P Q : World → Prop} (h : Held S W P) (k : Held S W Q) : Held S W (fun V => P V ∧ Q V) := fun V h1 h2 => ⟨h V h1 h2, k V h1 h2⟩
theorem Held.true (S : Nat → Prop) (W : World) : Held S W (fun _ => True) := fun _ _ _ => trivial
abbrev Iv {α : Type} (d : Kd α) (e : Nat) (w : World) (lo hi : Nat) (v : Value) (l : List α) (W : World) : Prop := Kd.R d e W w.heap.size (fun k => lo ≤ k ∧ k < hi) v l
theorem Iv.of {α : Type} {d : Kd α} {e : Nat} {w W : World} {base : Nat} {ok : Nat → Prop} {v : Value} {l : List α} (h : Kd.R d e W base ok v l) (hb : w.heap.size ≤ base) : Iv d e w base W.heap.size v l W :=
  Kd.R_mono (Kd.R_lower (Kd.R_bound h) hb) (fun k hk => ⟨hk.2.1, hk.2.2.1⟩)
theorem Iv.held {α : Type} {d : Kd α} {e : Nat} {w W : World} {lo hi : Nat} {v : Value} {l : List α} {S : Nat → Prop} (h : Iv d e w lo hi v l W) (hS : ∀ k, S k → k < lo ∨ hi ≤ k) : Held S W (Iv d e w lo hi v l) :=
  fun V _ hk => Kd.R_step h (fun k h1 h2 => hk k h2 (fun e => by have := hS k e; omega))
abbrev Sv {α : Type} (d : Kd α) (e : Nat) (w : World) (lo hi : Nat) (v : Value) (l : List α) (W : World) : Prop := Kd.S d e W w.heap.size (fun k => lo ≤ k ∧ k < hi) v l
theorem Sv.of {α : Type} {d : Kd α} {e : Nat} {w W : World} {base : Nat} {ok : Nat → Prop} {v : Value} {l : List α} (h : Kd.S d e W base ok v l) (hb : w.heap.size ≤ base) : Sv d e w base W.heap.size v l W :=
  Kd.S_mono (Kd.S_lower (Kd.S_bound h) hb) (fun k hk => ⟨hk.2.1, hk.2.2.1⟩)
theorem Sv.held {α : Type} {d : Kd α} {e : Nat} {w W : World} {lo hi : Nat} {v : Value} {l : List α} {S : Nat → Prop} (h : Sv d e w lo hi v l W) (hS : ∀ k, S k → k < lo ∨ hi ≤ k) : Held S W (Sv d e w lo hi v l) :=
  fun V _ hk => Kd.S_step h (fun k h1 h2 => hk k h2 (fun e => by have := hS k e; omega))
structure Fr (I : World → EyeS → Prop) (w0 w : World) (x g T : Nat) (zs cs : Array Value) (s : EyeS) (P : World → Prop) (W : World) : Prop where
  g0 : W.heap[w.heap.size]? = some (.cells zs T)
  y : W.heap[g]? = some (.cells cs T)
  i : I W s
  d : Below w0.heap.size w0 W
  q : KeepS (fun i => i = x) w W
  hg : w.heap.size < g
  hz : g < W.heap.size
  hx : x < w.heap.size
  hw : w0.heap.size ≤ x
  h : Held (fun k => k = x ∨ k = w.heap.size ∨ k = g) W P
  at_ : ∀ (W W' : World) (s : EyeS), W'.heap[x]? = W.heap[x]? → I W s → I W' s
section
variable {I : World → EyeS → Prop} {w0 w W W' : World} {x g T : Nat} {zs cs : Array Value} {s s' : EyeS} {P Q : World → Prop}
theorem Fr.lt (h : Fr I w0 w x g T zs cs s P W) : w.heap.size < W.heap.size := Nat.lt_trans h.hg h.hz
theorem Fr.hxg (h : Fr I w0 w x g T zs cs s P W) : x < g := Nat.lt_trans h.hx h.hg
theorem Fr.call (h : Fr I w0 w x g T zs cs s P W) (i : I W' s') (d : Below w0.heap.size w0 W') (k : KeepS (fun i => i = x) W W') : Fr I w0 w x g T zs cs s' P W' :=
  ⟨(k.block _ h.lt (by have := h.hx; omega)).trans h.g0, (k.block _ h.hz (by have := h.hxg; omega)).trans h.y, i, d, h.q.trans k, h.hg, Nat.lt_of_lt_of_le h.hz k.size, h.hx, h.hw, h.h.keep k (fun _ e => .inl e), h.at_⟩
theorem Fr.and (h : Fr I w0 w x g T zs cs s P W) (k : Held (fun k => k = x ∨ k = w.heap.size ∨ k = g) W Q) : Fr I w0 w x g T zs cs s (fun V => P V ∧ Q V) W := ⟨h.g0, h.y, h.i, h.d, h.q, h.hg, h.hz, h.hx, h.hw, h.h.and k, h.at_⟩
theorem Fr.callR {α : Type} {d : Kd α} {e : Nat} {ok : Nat → Prop} {v : Value} {l : List α} (h : Fr I w0 w x g T zs cs s P W) (i : I W' s') (b : Below w0.heap.size w0 W') (k : KeepS (fun i => i = x) W W') (hv : Kd.R d e W' W.heap.size ok v l) :
    Fr I w0 w x g T zs cs s' (fun V => P V ∧ Iv d e w W.heap.size W'.heap.size v l V) W' :=
  (h.call i b k).and ((Iv.of hv (Nat.le_of_lt h.lt)).held (fun k hk => by have h1 := h.hx; have h2 := h.hg; have h3 := h.hz; rcases hk with rfl | rfl | rfl <;> omega))
theorem Fr.callS {α : Type} {d : Kd α} {e : Nat} {ok : Nat → Prop} {v : Value} {l : List α} (h : Fr I w0 w x g T zs cs s P W) (i : I W' s') (b : Below w0.heap.size w0 W') (k : KeepS (fun i => i = x) W W') (hv : Kd.S d e W' W.heap.size ok v l) :
    Fr I w0 w x g T zs cs s' (fun V => P V ∧ Sv d e w W.heap.size W'.heap.size v l V) W' :=
  (h.call i b k).and ((Sv.of hv (Nat.le_of_lt h.lt)).held (fun k hk => by have h1 := h.hx; have h2 := h.hg; have h3 := h.hz; rcases hk with rfl | rfl | rfl <;> omega))
theorem Fr.set (h : Fr I w0 w x g T zs cs s P W) (j : Nat) (v : Value) (cs' : Array Value) (hy : (W.setCell ⟨g, j, none⟩ v).heap[g]? = some (.cells cs' T)) : Fr I w0 w x g T zs cs' s P (W.setCell ⟨g, j, none⟩ v) := by
  have h1 := h.hg; have h2 := h.hx; have h3 := h.hw
  exact ⟨(Below.heap_setCell W ⟨g, j, none⟩ v w.heap.size (by show w.heap.size ≠ g; omega)).trans h.g0, hy, h.at_ _ _ _ (Below.heap_setCell W ⟨g, j, none⟩ v x (by show x ≠ g; omega)) h.i, h.d.setCell (p := ⟨g, j, none⟩) (by show w0.heap.size ≤ g; omega) v, h.q.set (p := ⟨g, j, none⟩) (.inr (by show w.heap.size ≤ g; omega)) v, h1, by rw [World.size_setCell]; exact h.hz, h2, h3, h.h.set ⟨g, j, none⟩ (.inr (.inr rfl)) v, h.at_⟩
theorem Fr.put (h : Fr I w0 w x g T zs cs s P W) (j : Nat) (v : Value) : Fr I w0 w x g T zs (cs.setIfInBounds j v) s P (W.setCell ⟨g, j, none⟩ v) := h.set j v _ (blk_put h.y j v rfl)
theorem Fr.drew (h : Fr I w0 w x g T zs cs s P W) : Fr I w0 w x g T zs cs s P W.drew := ⟨h.g0, h.y, h.at_ W W.drew s rfl h.i, h.d.drew, h.q.drew, h.hg, h.hz, h.hx, h.hw, h.h.step (Nat.le_refl _) (fun _ _ _ => rfl), h.at_⟩
theorem Fr.done (h : Fr I w0 w x g T zs cs s P W) (hk : KeepS (fun k => k = w.heap.size ∨ k = g) W W') : P W' ∧ I W' s ∧ Below w0.heap.size w0 W' ∧ KeepS (fun i => i = x) w W' := by
  have h1 := h.hg; have h2 := h.hx; have h3 := h.hw; have h4 := h.hz
  refine ⟨(h.h.keep hk (fun i e => by rcases e with e | e; exact .inr (.inl e); exact .inr (.inr e))).now, h.at_ _ _ _ (hk.block x (by omega) (by omega)) h.i, h.d.trans (hk.below (B := w0.heap.size) h.d.size (fun i e => by omega)), h.q.then_base (hk.below (B := w.heap.size) h.q.size (fun i e => by omega))⟩
theorem Iv.apart {α β : Type} {d : Kd α} {d' : Kd β} {e e' : Nat} {w W : World} {lo hi lo' hi' : Nat} {v v' : Value} {l : List α} {l' : List β} (h : Iv d e w lo hi v l W) (h' : Iv d' e' w lo' hi' v' l' W) (hh : hi ≤ lo' ∨ hi' ≤ lo) : Kd.R d e W w.heap.size (fun k => some k ≠ v'.ownBlock) v l :=
  Kd.R_mono h (fun k hk e => by have := h'.1 k e.symm; omega)
theorem Fr.grow {W1 : World} (h : Fr I w0 w x g T zs cs s P W) (h1 : Held (fun k => k = x ∨ k = w.heap.size ∨ k = g) W1 P) (hk : KeepS (fun k => k = x ∨ k = g) W1 W) (hg : g < W1.heap.size) (hb : Below W1.heap.size W W') : Fr I w0 w x g T zs cs s P W' := by
  have h2 := h.hg; have h3 := h.hx; have h4 := h.hw
  refine ⟨(hb.block _ (by omega)).trans h.g0, (hb.block _ hg).trans h.y, h.at_ _ _ _ (hb.block x (by omega)) h.i, h.d.trans (hb.mono (by omega)), h.q.then_base (hb.mono (by omega)), h2, Nat.lt_of_lt_of_le h.hz hb.size, h3, h4, ?_, h.at_⟩
  exact h1.step (Nat.le_trans hk.size hb.size) (fun k h5 h6 => (hb.block k h5).trans (hk.block k h5 (fun e => h6 (by rcases e with e | e; exact .inl e; exact .inr (.inr e)))))
end
end Go.Proofs.Ytgiefblcckikeaa.M
end

section

/- The reference's Reader: a transaction (printed by genrdt04.py). -/
set_option maxRecDepth 100000
set_option linter.unusedVariables false
set_option linter.unusedSimpArgs false
attribute [local irreducible] Go.wpStill
namespace Go.Proofs.Ytgiefblcckikeaa.M
open Go.RowKit Go.Proofs.YtgiefblcckikeaaW.PrintWords Go.Proofs.YtgiefblcckikeaaW.PrintLast Go.Proofs.YtgiefblcckikeaaW.PrintMore Go.Proofs.Ytgiefblcckikeaa.G
def RdX (B : List Int) (w0 w : World) (x : Nat) (y : TxD) (s' : EyeS) (e : Ending) (w' : World) : Prop := ∃ v2 v3 v4 v5 : Value, e = .returned (.agg #[.int .i64 y.f0, .int .i64 y.f1, v2, v3, v4, v5]) ∧ Kd.R (Kd.int .u8) 5 w' w.heap.size (fun _ => True) v2 y.f2 ∧ Kd.R (Kd.int .i64) 2 w' w.heap.size (fun _ => True) v3 y.f3 ∧ Kd.R G.k93 93 w' w.heap.size (fun k => some k ≠ v5.ownBlock) v4 y.f4 ∧ Kd.R G.k93 93 w' w.heap.size (fun k => some k ≠ v4.ownBlock) v5 y.f5 ∧ IsRd B w0 w' x s' ∧ Below w0.heap.size w0 w' ∧ KeepS (fun i => i = x) w w'
def RdJ (P : World → Prop) (n : Int) (r : List Int × EyeS) (B : List Int) (w0 w W1 : World) (x g : Nat) (h3 : Array Value) (i : Value) (W : World) : Prop := ∃ (U : List Int) (s : EyeS) (Av : Option Addr) (cv : Nat), i = .int .i64 (U.length : Int) ∧ U.length ≤ n.toNat ∧ Fr (fun W s => IsRd B w0 W x s) w0 w x g 36 #[.int .i64 0, .int .i64 0, .slice none 0 0, .slice none 0 0, .slice none 0 0, .slice none 0 0] (h3 ++ #[.slice Av U.length cv, .slice none 0 0, .slice none 0 0]) s P W ∧ KeepS (fun k => k = x ∨ k = g) W1 W ∧ Kd.R (Kd.int .i64) 2 W W1.heap.size (fun k => W1.heap.size ≤ k) (.slice Av U.length cv) U ∧ okS s ∧ r = (U ++ (eMany eNum (n.toNat - U.length) s).1, (eMany eNum (n.toNat - U.length) s).2)
theorem infoI64' : (Try.prog.info? 2).map (fun i => (i.zero, i.size, i.bytes)) = some (some (.int .i64 0), 1, 8) := by kernel_rfl
set_option maxHeartbeats 4000000 in
theorem rdTxn_is {B : List Int} {w0 w : World} {x : Nat} {s : EyeS} (hI : IsRd B w0 w x s) (hB : Below w0.heap.size w0 w) (hok : okS s) :
    Calls Try.prog 19 #[.pointer (some ⟨x, 0, none⟩)] w fun e w' => RdX B w0 w x (eTxn s).1 (eTxn s).2 e w' := by
  obtain ⟨r, HF0⟩ : ∃ r, eTxn s = r := ⟨_, rfl⟩
  have HF := HF0
  unfold eTxn at HF
  obtain ⟨a, ha⟩ : ∃ a, (eNum s).1 = a := ⟨_, rfl⟩
  obtain ⟨s1, hs1⟩ : ∃ s1, (eNum s).2 = s1 := ⟨_, rfl⟩
  have ho1 := okS_num hok
  rw [ha, hs1] at HF
  rw [hs1] at ho1
  obtain ⟨b, hb⟩ : ∃ b, (eNum s1).1 = b := ⟨_, rfl⟩
  obtain ⟨s2, hs2⟩ : ∃ s2, (eNum s1).2 = s2 := ⟨_, rfl⟩
  have ho2 := okS_num ho1
  rw [hb, hs2] at HF
  rw [hs2] at ho2
  obtain ⟨l2, hl2⟩ : ∃ l2, (eData s2).1 = l2 := ⟨_, rfl⟩
  obtain ⟨s3, hs3⟩ : ∃ s3, (eData s2).2 = s3 := ⟨_, rfl⟩
  have ho3 := okS_data ho2
  rw [hl2, hs3] at HF
  rw [hs3] at ho3
  obtain ⟨l3, hl3⟩ : ∃ l3, (eList eNum s3).1 = l3 := ⟨_, rfl⟩
  obtain ⟨s4, hs4⟩ : ∃ s4, (eList eNum s3).2 = s4 := ⟨_, rfl⟩
  have ho4 := okS_list (g := eNum) (fun _ => okS_num) ho3
  rw [hl3, hs4] at HF
  rw [hs4] at ho4
  obtain ⟨l4, hl4⟩ : ∃ l4, (eList eKey s4).1 = l4 := ⟨_, rfl⟩
  obtain ⟨s5, hs5⟩ : ∃ s5, (eList eKey s4).2 = s5 := ⟨_, rfl⟩
  have ho5 := okS_list (g := eKey) (fun _ => okS_key) ho4
  rw [hl4, hs5] at HF
  rw [hs5] at ho5
  obtain ⟨l5, hl5⟩ : ∃ l5, (eList eKey s5).1 = l5 := ⟨_, rfl⟩
  obtain ⟨s6, hs6⟩ : ∃ s6, (eList eKey s5).2 = s6 := ⟨_, rfl⟩
  rw [hl5, hs6] at HF
  have HF := Lib.hid (HF0.trans HF.symm)
  have HO1 := Lib.hid ho1; have HO2 := Lib.hid ho2; have HO3 := Lib.hid ho3; have HO4 := Lib.hid ho4; have HO5 := Lib.hid ho5
  have HE2 := Lib.hid (And.intro hb hs2); have HE3 := Lib.hid (And.intro hl2 hs3); have HE5 := Lib.hid (And.intro hl4 hs5); have HE6 := Lib.hid (And.intro hl5 hs6)
  have HE1 := Lib.hid (And.intro ha hs1)
  have HO0 := Lib.hid hok
  have HL3 := Lib.hid (show eMany eNum (rLen s3).1.toNat (rLen s3).2 = (l3, s4) by rw [← eList_len, ← hl3, ← hs4])
  have HSZ := Lib.hid (rLen_size s3)
  have HOL := Lib.hid (okS_len ho3)
  obtain ⟨n, hn⟩ : ∃ n, (rLen s3).1 = n := ⟨_, rfl⟩
  obtain ⟨sl, hsl⟩ : ∃ sl, (rLen s3).2 = sl := ⟨_, rfl⟩
  rw [hn, hsl] at HL3
  rw [hn] at HSZ
  rw [hsl] at HOL
  have HEL := Lib.hid (And.intro hn hsl)
  have hb1 := ((Below.refl _ w).alloc (Nat.le_refl _) zTxn).alloc (by simp) zTxn
  have hz1 : (w.alloc zTxn).heap.size = w.heap.size + 1 := by simp
  have hz2 : ((w.alloc zTxn).alloc zTxn).heap.size = w.heap.size + 1 + 1 := by simp
  have hy := heap_alloc_new (w.alloc zTxn) zTxn
  rw [hz1] at hy
  have hg0 : ((w.alloc zTxn).alloc zTxn).heap[w.heap.size]? = some zTxn := ((((Below.refl _ (w.alloc zTxn)).alloc (Nat.le_refl _) zTxn).block w.heap.size (by omega)).trans (heap_alloc_new w zTxn))
  have HT0 := Lib.hid (show Fr (fun W s => IsRd B w0 W x s) w0 w x (w.heap.size + 1) 36 #[.int .i64 0, .int .i64 0, .slice none 0 0, .slice none 0 0, .slice none 0 0, .slice none 0 0] #[.int .i64 0, .int .i64 0, .slice none 0 0, .slice none 0 0, .slice none 0 0, .slice none 0 0] s (fun _ => True) ((w.alloc zTxn).alloc zTxn) from ⟨hg0, hy, hI.below hb1, (hB.alloc hB.size zTxn).alloc (by have := hB.size; simp; omega) zTxn, KeepS.of_below _ hb1, by omega, by omega, hI.lt, hI.ge, Held.true _ _, fun _ _ _ e h => h.at e⟩)
  clear hI hB hok hb1 hz1 hz2 hy hg0 ha hs1 hb hs2 hl2 hs3 hl3 hs4 hl4 hs5 hl5 hs6 ho1 ho2 ho3 ho4 ho5 hn hsl
  go_enter Try.func19, Try.ntmps19
  go_wp2_with fail
  obtain ⟨g, hg⟩ : ∃ g, w.heap.size + 1 = g := ⟨_, rfl⟩
  obtain ⟨w0_, hw1⟩ : ∃ w0_, (w.alloc zTxn).alloc zTxn = w0_ := ⟨_, rfl⟩
  rw [hg, hw1] at HT0 ⊢
  clear hg hw1
  have HT1 := HT0
  obtain ⟨w1, hw1⟩ : ∃ w1, w0_ = w1 := ⟨_, rfl⟩
  rw [hw1] at HT0 HT1 ⊢
  clear hw1 HT0
  have h4 := rdNum_is HT1.out.i HT1.out.d HO0.out
  rw [HE1.out.1, HE1.out.2] at h4
  refine h4.mono ?_
  rintro e w2 ⟨rfl, h1, h2, h3⟩
  have HT2 := Lib.hid (HT1.out.call h1 h2 h3)
  clear h1 h2 h3 h4 HT1
  have d0 : w2.cell? ⟨g, 0, none⟩ = some (.int .i64 0) := (blk_cell HT2.out.y 0).trans rfl
  have z0 : w2.frozen? ⟨g, 0, none⟩ = false := blk_frozen HT2.out.y 0
  go_wp2_with fail
  have HT3 := Lib.hid (HT2.out.set 0 (.int .i64 a) #[.int .i64 a, .int .i64 0, .slice none 0 0, .slice none 0 0, .slice none 0 0, .slice none 0 0] (blk_put HT2.out.y 0 _ rfl))
  have HLO3 := Lib.hid (show w2.heap.size ≤ (w2.setCell ⟨g, 0, none⟩ (.int .i64 a)).heap.size by rw [World.size_setCell]; exact Nat.le_refl _)
  obtain ⟨w3, hw3⟩ : ∃ w3, w2.setCell ⟨g, 0, none⟩ (.int .i64 a) = w3 := ⟨_, rfl⟩
  rw [hw3] at HT3 HLO3 ⊢
  clear hw3 HT2 d0 z0
  have h4 := rdNum_is HT3.out.i HT3.out.d HO1.out
  rw [HE2.out.1, HE2.out.2] at h4
  refine h4.mono ?_
  rintro e w4 ⟨rfl, h1, h2, h3⟩
  have HT4 := Lib.hid (HT3.out.call h1 h2 h3)
  clear h1 h2 h3 h4 HT3
  have d1 : w4.cell? ⟨g, 1, none⟩ = some (.int .i64 0) := (blk_cell HT4.out.y 1).trans rfl
  have z1 : w4.frozen? ⟨g, 1, none⟩ = false := blk_frozen HT4.out.y 1
  go_wp2_with fail
  have HT5 := Lib.hid (HT4.out.set 1 (.int .i64 b) #[.int .i64 a, .int .i64 b, .slice none 0 0, .slice none 0 0, .slice none 0 0, .slice none 0 0] (blk_put HT4.out.y 1 _ rfl))
  have HLO5 := Lib.hid (show w4.heap.size ≤ (w4.setCell ⟨g, 1, none⟩ (.int .i64 b)).heap.size by rw [World.size_setCell]; exact Nat.le_refl _)
  obtain ⟨w5, hw5⟩ : ∃ w5, w4.setCell ⟨g, 1, none⟩ (.int .i64 b) = w5 := ⟨_, rfl⟩
  rw [hw5] at HT5 HLO5 ⊢
  clear hw5 HT4 d1 z1
  have h4 := rdData_is HT5.out.i HT5.out.d HO2.out
  rw [HE3.out.1, HE3.out.2] at h4
  refine h4.mono ?_
  rintro e w6 ⟨v_, rfl, hv, h1, h2, h3⟩
  obtain ⟨A2, c2, rfl⟩ := Kd.R_slice hv
  have HT6 := Lib.hid (HT5.out.callR h1 h2 h3 hv)
  have HLO6 := Lib.hid (show w5.heap.size ≤ w6.heap.size from h3.size)
  clear h1 h2 h3 h4 hv HT5
  have d2 : w6.cell? ⟨g, 2, none⟩ = some (.slice none 0 0) := (blk_cell HT6.out.y 2).trans rfl
  have z2 : w6.frozen? ⟨g, 2, none⟩ = false := blk_frozen HT6.out.y 2
  go_wp2_with fail
  have HT7 := Lib.hid (HT6.out.set 2 (.slice A2 l2.length c2) #[.int .i64 a, .int .i64 b, .slice A2 l2.length c2, .slice none 0 0, .slice none 0 0, .slice none 0 0] (blk_put HT6.out.y 2 _ rfl))
  have HLO7 := Lib.hid (show w6.heap.size ≤ (w6.setCell ⟨g, 2, none⟩ (.slice A2 l2.length c2)).heap.size by rw [World.size_setCell]; exact Nat.le_refl _)
  obtain ⟨w7, hw7⟩ : ∃ w7, w6.setCell ⟨g, 2, none⟩ (.slice A2 l2.length c2) = w7 := ⟨_, rfl⟩
  rw [hw7] at HT7 HLO7 ⊢
  clear hw7 HT6 d2 z2
  have h4 := rdLen_is HT7.out.i HT7.out.d HO3.out
  rw [HEL.out.1, HEL.out.2] at h4
  refine h4.mono ?_
  rintro e w8 ⟨rfl, h1, h2, h3⟩
  have HT8 := Lib.hid (HT7.out.call h1 h2 h3)
  clear h1 h2 h3 h4 HT7
  go_upto_block 0 with fail
  have HST := Lib.hid HT8.out.h
  have HGZ := Lib.hid HT8.out.hz
  have HGZ0 := Lib.hid (show w.heap.size < w8.heap.size from Nat.lt_trans HT8.out.hg HT8.out.hz)
  obtain ⟨P, hP⟩ : ∃ P : World → Prop, (fun V => True ∧ Iv (Kd.int .u8) 5 w w5.heap.size w6.heap.size (.slice A2 l2.length c2) l2 V) = P := ⟨_, rfl⟩
  rw [hP] at HT8 HST
  have HP := Lib.hid hP
  clear hP
  go_cut [] (fun wx => ∃ A3 c3, Fr (fun W s => IsRd B w0 W x s) w0 w x g 36 #[.int .i64 0, .int .i64 0, .slice none 0 0, .slice none 0 0, .slice none 0 0, .slice none 0 0] #[.int .i64 a, .int .i64 b, .slice A2 l2.length c2, .slice A3 l3.length c3, .slice none 0 0, .slice none 0 0] s4 (fun V => P V ∧ Iv (Kd.int .i64) 2 w w8.heap.size wx.heap.size (.slice A3 l3.length c3) l3 V) wx ∧ w8.heap.size ≤ wx.heap.size)
  case first =>
    go_wp2_with fail
    go_wp2_with fail
    go_loopw [5] (fun i wr => RdJ P n (l3, s4) B w0 w w8 x g #[.int .i64 a, .int .i64 b, .slice A2 l2.length c2] i wr) (fun i _ => n.toNat - (intOf i).toNat)
    case atStart => exact ⟨[], sl, none, 0, rfl, by simp, HT8.out, KeepS.refl _ _, Kd.R_nil _ _ _ _ _, HOL.out, by simp [HL3.out]⟩
    case round =>
      obtain ⟨U, s5', Av, cv, rfl, hUn, hT, hK, hR, hO, hF⟩ := hrel
      have HT := Lib.hid hT; have HK := Lib.hid hK; have HR := Lib.hid hR; have HO := Lib.hid hO; have HF := Lib.hid hF; have HUN := Lib.hid hUn
      obtain ⟨A, c, k, g1, g2, g3⟩ := HT.out.i
      have c1 : wr.cell? ⟨x, 2, none⟩ = some (.int .i64 s5'.e) := by simp [World.cell?, g1]
      clear hT hK hR hO hF hUn g1 g2 g3 k c A
      by_cases hlt : (U.length : Int) < n
      · by_cases he : s5'.e = 0
        · have hq1 : decide ((U.length : Int) < n) = true := decide_eq_true hlt
          have hq2 : (s5'.e == 0) = true := by rw [he]; rfl
          have HT := Lib.hid HT.out.drew; have HK := Lib.hid HK.out.drew; have HR := Lib.hid (Kd.R_drew HR.out)
          have HN := Lib.hid (rdNum_is HT.out.i HT.out.d HO.out)
          obtain ⟨m, hm⟩ : ∃ m, (eNum s5').1 = m := ⟨_, rfl⟩
          obtain ⟨s6', hs6⟩ : ∃ s6', (eNum s5').2 = s6' := ⟨_, rfl⟩
          have HO6 := Lib.hid (show okS s6' by rw [← hs6]; exact okS_num HO.out)
          have HF2 := Lib.hid (show (l3, s4) = ((U ++ [m]) ++ (eMany eNum (n.toNat - (U ++ [m]).length) s6').1, (eMany eNum (n.toNat - (U ++ [m]).length) s6').2) by
            rw [HF.out]
            have e1 : n.toNat - U.length = (n.toNat - (U ++ [m]).length) + 1 := by simp; omega
            rw [e1]
            simp only [eMany, he, if_true, hm, hs6, List.append_assoc, List.singleton_append])
          have HLT2 := Lib.hid hlt
          have hul : U.length ≤ 4096 := by have h1 := HUN.out; have h2 := HSZ.out; omega
          have q3 : wr.cell? ⟨g, 3, none⟩ = some (.slice Av U.length cv) := (blk_cell HT.out.y 3).trans rfl
          rw [hm, hs6] at HN
          clear hlt he hm hs6
          go_wp2_with fail
          refine start_ (n := 8) (S := fun w' => w'.cell? ⟨g, 3, none⟩ = some (.slice Av U.length cv)) (ds := [7]) #[false, false, false, false, false, false, false, false] (by kernel_rfl) rfl rfl ((blk_cell HT.out.y 3).trans rfl) (fun hHeld => ?_)
          obtain ⟨wd, hwd⟩ : ∃ wd, wr.drew = wd := ⟨_, rfl⟩
          rw [hwd] at HT HK HR HN hHeld ⊢
          clear hwd
          refine pure_ (i := 0) (N := some 29) (v := ?_) (a' := ?_) #[true, false, false, false, false, false, false, false] rfl rfl (by kernel_rfl) (fun _ _ _ h => h) (Or.inl ⟨by rfl, ?_⟩) ?_ ?_
          rotate_left
          · intro w'
            go_simp
            try with_reducible rfl
          rotate_left
          · simp only [Act.put, List.setIfInBounds_toArray, List.set_cons_zero, List.set_cons_succ, i64_w, i32_w]
            rfl
          refine pure_ (i := 2) (N := some 31) (v := ?_) (a' := ?_) #[true, false, true, false, false, false, false, false] rfl rfl (by kernel_rfl) (fun _ _ _ h => h) (Or.inl ⟨by rfl, ?_⟩) ?_ ?_
          rotate_left
          · intro w'
            go_simp
            try with_reducible rfl
          rotate_left
          · simp only [Act.put, List.setIfInBounds_toArray, List.set_cons_zero, List.set_cons_succ, i64_w, i32_w]
            rfl
          refine take_ (i := 1) (N := some 30) (v := ?_) (a' := ?_) #[true, true, true, false, false, false, false, false] rfl rfl (by kernel_rfl) (fun _ _ _ h => h) (Or.inl ⟨by rfl, ?_⟩) hHeld ?_ ?_
          rotate_left
          · intro w' hS
            go_simp
            try with_reducible rfl
          rotate_left
          · simp only [Act.put, List.setIfInBounds_toArray, List.set_cons_zero, List.set_cons_succ, i64_w, i32_w]
            rfl
          refine one_ (i := 3) (N := some 32) #[true, true, true, true, false, false, false, false] rfl rfl (by kernel_rfl) (by decide) (fun K hK => ?_)
          go_simp
          refine HN.out.mono ?_
          rintro e w_ ⟨rfl, h1, h2, h3⟩
          have HTa := Lib.hid (HT.out.call h1 h2 h3)
          have HRa := Lib.hid (Kd.R_step HR.out (fun k h7 h8 => h3.block k h8 (by have := HT.out.hxg; have := HGZ.out; omega)))
          have HKa := Lib.hid (HK.out.trans (h3.mono (fun i (e : i = x) => Or.inl e) : KeepS (fun k => k = x ∨ k = g) wd w_))
          clear h1 h2 h3 HN
          refine hK.out _ _ ((blk_cell HTa.out.y 3).trans rfl) (fun hHeld => ?_)
          clear hK K
          refine one_ (i := 4) (N := some 33) #[true, true, true, true, true, false, false, false] rfl rfl (by kernel_rfl) (by decide) (fun K hK => ?_)
          refine value_ (w1 := ?_) (v := ?_) (by rfl) rfl ?_ ?_
          rotate_left 2
          · go_simp
            constructor <;> rfl
          refine hK.out _ _ ((blk_cell (blk_alloc HTa.out.y _) 3).trans rfl) (fun hHeld => ?_)
          clear hK K
          refine norm_ (a' := ?_) ?_ ?_
          rotate_left
          · show Act.put _ (some 33) _ = _
            simp only [Act.put, List.setIfInBounds_toArray, List.set_cons_zero, List.set_cons_succ, i64_w, i32_w]
            rfl
          refine one_ (i := 5) (N := some 34) #[true, true, true, true, true, true, false, false] rfl rfl (by kernel_rfl) (by decide) (fun K hK => ?_)
          refine Kd.R_append_step (Kd.int .i64) w8.heap.size (by rfl) (.tmp 30) (.tmp 33) 33 2 (.int .i64 0) 8 rfl Try.underlying33 infoI64' rfl (by decide) (by omega) (.slice Av U.length cv) U m [.int .i64 m] (fun k => w8.heap.size ≤ k) (fun _ => False) rfl rfl rfl (fun _ hk => hk.elim) (fun k hk => Nat.le_trans HKa.out.size hk) HRa.out (Below.refl _ _) HKa.out.size (by omega) ?_
          intro v_ wb ho hb hg_ hat
          have hb' : Below w8.heap.size w_ wb := hb
          obtain ⟨Aw, cw, rfl⟩ := Kd.R_slice ho
          have HRb := Lib.hid ho
          have HTb := Lib.hid (HTa.out.grow HST.out HKa.out HGZ.out hb')
          have HKb := Lib.hid (HKa.out.then_base hb')
          clear ho hb hg_ hat hb' HTa HRa HKa
          refine hK.out _ _ ((blk_cell HTb.out.y 3).trans rfl) (fun hHeld => ?_)
          clear hK K
          refine norm_ (a' := ?_) ?_ ?_
          rotate_left
          · show Act.put _ (some 34) _ = _
            simp only [Act.put, List.setIfInBounds_toArray, List.set_cons_zero, List.set_cons_succ, i64_w, i32_w]
            rfl
          refine pure_ (i := 6) (N := some 35) (v := ?_) (a' := ?_) #[true, true, true, true, true, true, true, false] rfl rfl (by kernel_rfl) (fun _ _ _ h => h) (Or.inl ⟨by rfl, ?_⟩) ?_ ?_
          rotate_left
          · intro w'
            go_simp
            try with_reducible rfl
          rotate_left
          · simp only [Act.put, List.setIfInBounds_toArray, List.set_cons_zero, List.set_cons_succ, i64_w, i32_w]
            rfl
          refine last_ (i := 7) (N := none) #[true, true, true, true, true, true, true, true] rfl rfl (by kernel_rfl) (by decide) (fun K hK => ?_)
          have q3 : wb.cell? ⟨g, 3, none⟩ = some (.slice Av U.length cv) := (blk_cell HTb.out.y 3).trans rfl
          have z3 : wb.frozen? ⟨g, 3, none⟩ = false := blk_frozen HTb.out.y 3
          refine skip_ (w1 := ?_) (by rfl) rfl ?_ ?_
          rotate_left
          · go_simp
            rfl
          refine hK.out _ _ ?_
          clear hK K
          refine done_ (by kernel_rfl) ?_
          try go_wp2
          go_roundw
          case rel =>
            refine ⟨U ++ [m], s6', Aw, cw, by rw [List.length_append]; go_num, ?_, HTb.out.set 3 _ _ (blk_put HTb.out.y 3 _ (by simp)), HKb.out.set (p := ⟨g, 3, none⟩) (.inl (.inr rfl)) _, Kd.R_far (p := ⟨g, 3, none⟩) HRb.out (fun k (hk : _ ≤ k) => by have := HGZ.out; show k ≠ g; omega) _, HO6.out, HF2.out⟩
            have h2 := HLT2.out
            rw [List.length_append, List.length_singleton]
            omega
          case measure => simp [intOf]; have h2 := HLT2.out; omega
        · have hq1 : decide ((U.length : Int) < n) = true := decide_eq_true hlt
          have hq2 : (s5'.e == 0) = false := beq_eq_false_iff_ne.2 he
          obtain ⟨rfl, rfl⟩ : l3 = U ∧ s4 = s5' := by
            have := HF.out
            rw [eMany_stop he, List.append_nil] at this
            simpa using this
          clear he
          have HFI := Lib.hid (HT.out.and ((show Iv (Kd.int .i64) 2 w w8.heap.size wr.heap.size (.slice Av l3.length cv) l3 wr from Iv.of HR.out (Nat.le_of_lt HGZ0.out)).held (fun k hk => by have h7 := HGZ.out; have h8 := HT.out.hxg; have h9 := HT.out.hg; rcases hk with rfl | rfl | rfl <;> omega)))
          have HFZ := Lib.hid HK.out.size
          clear hlt HT HK HR HF
          go_wp2_with fail
          go_meet
          exact ⟨_, _, HFI.out, HFZ.out⟩
      · have hq1 : decide ((U.length : Int) < n) = false := decide_eq_false hlt
        obtain ⟨rfl, rfl⟩ : l3 = U ∧ s4 = s5' := by
          have e1 : n.toNat - U.length = 0 := by omega
          have := HF.out
          rw [e1] at this
          simpa [eMany] using this
        have HFI := Lib.hid (HT.out.and ((show Iv (Kd.int .i64) 2 w w8.heap.size wr.heap.size (.slice Av l3.length cv) l3 wr from Iv.of HR.out (Nat.le_of_lt HGZ0.out)).held (fun k hk => by have h7 := HGZ.out; have h8 := HT.out.hxg; have h9 := HT.out.hg; rcases hk with rfl | rfl | rfl <;> omega)))
        have HFZ := Lib.hid HK.out.size
        clear hlt HT HK HR HF
        go_wp2_with fail
        go_meet
        exact ⟨_, _, HFI.out, HFZ.out⟩
  case rest =>
    obtain ⟨A3, c3, hT, hz⟩ := hcut
    obtain ⟨w9, rfl⟩ : ∃ w9, w9 = wc := ⟨_, rfl⟩
    have HT9 := Lib.hid hT
    have HZ3 := Lib.hid hz
    clear hT hz HT8 HST HGZ
    go_wp2_with fail
    have h4 := rdKeys_is HT9.out.i HT9.out.d HO4.out
    rw [HE5.out.1, HE5.out.2] at h4
    refine h4.mono ?_
    rintro e w10 ⟨v_, rfl, hv, h1, h2, h3⟩
    obtain ⟨A4, c4, rfl⟩ := Kd.R_slice (Kd.S_R hv)
    have HT10 := Lib.hid (HT9.out.callS h1 h2 h3 hv)
    have HLO10 := Lib.hid (show w9.heap.size ≤ w10.heap.size from h3.size)
    clear h1 h2 h3 h4 hv HT9
    have d4 : w10.cell? ⟨g, 4, none⟩ = some (.slice none 0 0) := (blk_cell HT10.out.y 4).trans rfl
    have z4 : w10.frozen? ⟨g, 4, none⟩ = false := blk_frozen HT10.out.y 4
    go_wp2_with fail
    have HT11 := Lib.hid (HT10.out.set 4 (.slice A4 l4.length c4) #[.int .i64 a, .int .i64 b, .slice A2 l2.length c2, .slice A3 l3.length c3, .slice A4 l4.length c4, .slice none 0 0] (blk_put HT10.out.y 4 _ rfl))
    have HLO11 := Lib.hid (show w10.heap.size ≤ (w10.setCell ⟨g, 4, none⟩ (.slice A4 l4.length c4)).heap.size by rw [World.size_setCell]; exact Nat.le_refl _)
    obtain ⟨w11, hw11⟩ : ∃ w11, w10.setCell ⟨g, 4, none⟩ (.slice A4 l4.length c4) = w11 := ⟨_, rfl⟩
    rw [hw11] at HT11 HLO11 ⊢
    clear hw11 HT10 d4 z4
    have HZ45 := Lib.hid (show w10.heap.size ≤ w11.heap.size from HLO11.out)
    have h4 := rdKeys_is HT11.out.i HT11.out.d HO5.out
    rw [HE6.out.1, HE6.out.2] at h4
    refine h4.mono ?_
    rintro e w12 ⟨v_, rfl, hv, h1, h2, h3⟩
    obtain ⟨A5, c5, rfl⟩ := Kd.R_slice (Kd.S_R hv)
    have HT12 := Lib.hid (HT11.out.callS h1 h2 h3 hv)
    have HLO12 := Lib.hid (show w11.heap.size ≤ w12.heap.size from h3.size)
    clear h1 h2 h3 h4 hv HT11
    have d0 : w12.cell? ⟨g, 0, none⟩ = some (.int .i64 a) := (blk_cell HT12.out.y 0).trans rfl
    have z0 : w12.frozen? ⟨g, 0, none⟩ = false := blk_frozen HT12.out.y 0
    have d1 : w12.cell? ⟨g, 1, none⟩ = some (.int .i64 b) := (blk_cell HT12.out.y 1).trans rfl
    have z1 : w12.frozen? ⟨g, 1, none⟩ = false := blk_frozen HT12.out.y 1
    have d2 : w12.cell? ⟨g, 2, none⟩ = some (.slice A2 l2.length c2) := (blk_cell HT12.out.y 2).trans rfl
    have z2 : w12.frozen? ⟨g, 2, none⟩ = false := blk_frozen HT12.out.y 2
    have d3 : w12.cell? ⟨g, 3, none⟩ = some (.slice A3 l3.length c3) := (blk_cell HT12.out.y 3).trans rfl
    have z3 : w12.frozen? ⟨g, 3, none⟩ = false := blk_frozen HT12.out.y 3
    have d4 : w12.cell? ⟨g, 4, none⟩ = some (.slice A4 l4.length c4) := (blk_cell HT12.out.y 4).trans rfl
    have z4 : w12.frozen? ⟨g, 4, none⟩ = false := blk_frozen HT12.out.y 4
    have d5 : w12.cell? ⟨g, 5, none⟩ = some (.slice none 0 0) := (blk_cell HT12.out.y 5).trans rfl
    have z5 : w12.frozen? ⟨g, 5, none⟩ = false := blk_frozen HT12.out.y 5
    have e0 : w12.cell? ⟨w.heap.size, 0, none⟩ = some (.int .i64 0) := (blk_cell HT12.out.g0 0).trans rfl
    have y0 : w12.frozen? ⟨w.heap.size, 0, none⟩ = false := blk_frozen HT12.out.g0 0
    have e1 : w12.cell? ⟨w.heap.size, 1, none⟩ = some (.int .i64 0) := (blk_cell HT12.out.g0 1).trans rfl
    have y1 : w12.frozen? ⟨w.heap.size, 1, none⟩ = false := blk_frozen HT12.out.g0 1
    have e2 : w12.cell? ⟨w.heap.size, 2, none⟩ = some (.slice none 0 0) := (blk_cell HT12.out.g0 2).trans rfl
    have y2 : w12.frozen? ⟨w.heap.size, 2, none⟩ = false := blk_frozen HT12.out.g0 2
    have e3 : w12.cell? ⟨w.heap.size, 3, none⟩ = some (.slice none 0 0) := (blk_cell HT12.out.g0 3).trans rfl
    have y3 : w12.frozen? ⟨w.heap.size, 3, none⟩ = false := blk_frozen HT12.out.g0 3
    have e4 : w12.cell? ⟨w.heap.size, 4, none⟩ = some (.slice none 0 0) := (blk_cell HT12.out.g0 4).trans rfl
    have y4 : w12.frozen? ⟨w.heap.size, 4, none⟩ = false := blk_frozen HT12.out.g0 4
    have e5 : w12.cell? ⟨w.heap.size, 5, none⟩ = some (.slice none 0 0) := (blk_cell HT12.out.g0 5).trans rfl
    have y5 : w12.frozen? ⟨w.heap.size, 5, none⟩ = false := blk_frozen HT12.out.g0 5
    have HGN : w.heap.size ≠ g := by have := HT12.out.hg; omega
    go_wp2_with fail
    have HEB := Lib.hid (blk_put (cs := #[.int .i64 a, .int .i64 b, .slice A2 l2.length c2, .slice A3 l3.length c3, .slice A4 l4.length c4, .slice none 0 0]) (blk_put (cs := #[.int .i64 a, .int .i64 b, .slice A2 l2.length c2, .slice A3 l3.length c3, .slice none 0 0, .slice none 0 0]) (blk_put (cs := #[.int .i64 a, .int .i64 b, .slice A2 l2.length c2, .slice none 0 0, .slice none 0 0, .slice none 0 0]) (blk_put (cs := #[.int .i64 a, .int .i64 b, .slice none 0 0, .slice none 0 0, .slice none 0 0, .slice none 0 0]) (blk_put (cs := #[.int .i64 a, .int .i64 0, .slice none 0 0, .slice none 0 0, .slice none 0 0, .slice none 0 0]) (blk_put (cs := #[.int .i64 0, .int .i64 0, .slice none 0 0, .slice none 0 0, .slice none 0 0, .slice none 0 0]) ((Below.heap_setCell w12 ⟨g, 5, none⟩ (.slice A5 l5.length c5) w.heap.size HGN).trans HT12.out.g0) 0 (.int .i64 a) rfl) 1 (.int .i64 b) rfl) 2 (.slice A2 l2.length c2) rfl) 3 (.slice A3 l3.length c3) rfl) 4 (.slice A4 l4.length c4) rfl) 5 (.slice A5 l5.length c5) rfl)
    have HD := Lib.hid (HT12.out.done ((((((((KeepS.refl (fun k => k = w.heap.size ∨ k = g) w12).set (p := ⟨g, 5, none⟩) (.inl (.inr rfl)) (.slice A5 l5.length c5)).set (p := ⟨w.heap.size, 0, none⟩) (.inl (.inl rfl)) (.int .i64 a)).set (p := ⟨w.heap.size, 1, none⟩) (.inl (.inl rfl)) (.int .i64 b)).set (p := ⟨w.heap.size, 2, none⟩) (.inl (.inl rfl)) (.slice A2 l2.length c2)).set (p := ⟨w.heap.size, 3, none⟩) (.inl (.inl rfl)) (.slice A3 l3.length c3)).set (p := ⟨w.heap.size, 4, none⟩) (.inl (.inl rfl)) (.slice A4 l4.length c4)).set (p := ⟨w.heap.size, 5, none⟩) (.inl (.inl rfl)) (.slice A5 l5.length c5)))
    obtain ⟨W, hW⟩ : ∃ W, (((((((w12.setCell ⟨g, 5, none⟩ (.slice A5 l5.length c5)).setCell ⟨w.heap.size, 0, none⟩ (.int .i64 a)).setCell ⟨w.heap.size, 1, none⟩ (.int .i64 b)).setCell ⟨w.heap.size, 2, none⟩ (.slice A2 l2.length c2)).setCell ⟨w.heap.size, 3, none⟩ (.slice A3 l3.length c3)).setCell ⟨w.heap.size, 4, none⟩ (.slice A4 l4.length c4)).setCell ⟨w.heap.size, 5, none⟩ (.slice A5 l5.length c5)) = W := ⟨_, rfl⟩
    rw [hW] at HEB HD ⊢
    clear hW
    refine bodyPost_ret (results_cell_row rfl _ _ w.heap.size 36 #[.int .i64 a, .int .i64 b, .slice A2 l2.length c2, .slice A3 l3.length c3, .slice A4 l4.length c4, .slice A5 l5.length c5] (0, 0) _ rfl HEB.out Try.underlying36 rfl (by kernel_rfl)) rfl ?_
    rw [HF.out]
    obtain ⟨⟨⟨⟨p1, p3⟩, p4⟩, p5⟩, di, dd, dq⟩ := HD.out
    rw [← HP.out] at p1
    have r4 := Kd.S_R p4; have r5 := Kd.S_R p5
    exact ⟨_, _, _, _, rfl, Kd.R_mono p1.2 (fun _ _ => trivial), Kd.R_mono p3 (fun _ _ => trivial), Iv.apart r4 r5 (.inl HZ45.out), Iv.apart r5 r4 (.inr HZ45.out), di, dd, dq⟩
end Go.Proofs.Ytgiefblcckikeaa.M
end

section

/- The eye's lists: transactions (printed by geneye04.py). -/
set_option maxRecDepth 100000
set_option linter.unusedVariables false
set_option linter.unusedSimpArgs false
attribute [local irreducible] Go.wpStill
namespace Go.Proofs.Ytgiefblcckikeaa.M
open Go.RowKit Go.Proofs.YtgiefblcckikeaaW.PrintWords Go.Proofs.YtgiefblcckikeaaW.PrintLast Go.Proofs.YtgiefblcckikeaaW.PrintMore Go.Proofs.Ytgiefblcckikeaa.G
def LiI_txns (g : EyeS → TxD × EyeS) (n : Int) (s0 : EyeS) (w0 w : World) (x : Nat) (v i : Value) (W : World) : Prop := ∃ (U : List TxD) (s : EyeS), i = .int .i64 (U.length : Int) ∧ U.length ≤ 4096 ∧ U.length ≤ n.toNat ∧ (s.e = 0 → n ≤ 4096) ∧ Kd.S G.k36 36 W w.heap.size (fun _ => True) v U ∧ IsEye w0 W x s ∧ Below w0.heap.size w0 W ∧ KeepS (fun i => i = x) w W ∧ okS s ∧ eList g s0 = (U ++ (eMany g (n.toNat - U.length) s).1, (eMany g (n.toNat - U.length) s).2)
set_option maxHeartbeats 2000000 in
theorem eList_txns {w0 w : World} {x : Nat} {s : EyeS} (hI : IsEye w0 w x s) (hB : Below w0.heap.size w0 w) (hok : okS s) :
    Calls Try.prog 87 #[.pointer (some ⟨x, 0, none⟩), .func (.func 44) #[.pointer (some ⟨x, 0, none⟩)] #[]] w fun e w' => LiP G.k36 36 w0 w x (eList eTxn s).1 (eList eTxn s).2 e w' := by
  have HN := Lib.hid (eNum_is hI hB hok)
  have HOK := Lib.hid (okS_num hok)
  have HLT := Lib.hid hI.lt
  have HGEW := Lib.hid (show w0.heap.size ≤ w.heap.size from hB.size)
  obtain ⟨n, hn⟩ : ∃ n, (eNum s).1 = n := ⟨_, rfl⟩
  obtain ⟨s1, hs1⟩ : ∃ s1, (eNum s).2 = s1 := ⟨_, rfl⟩
  have HCT := Lib.hid (show eCount s = eWrong (decide (n < 0) || decide (4096 < n)) s1 by unfold eCount; rw [hn, hs1])
  have Hapi.Txn := Lib.hid (show eList eTxn s = eMany eTxn n.toNat (eCount s) by unfold eList; rw [hn])
  rw [hn, hs1] at HN
  rw [hs1] at HOK
  clear hI hB hok hn hs1
  go_enter Try.func87, Try.ntmps87
  go_wp2_with fail
  refine HN.out.mono ?_
  rintro e w1 ⟨rfl, h1, h2, h3⟩
  have H1 := Lib.hid h1; have H2 := Lib.hid h2; have H3 := Lib.hid h3
  clear h1 h2 h3 HN
  go_upto_region 2 with fail
  go_cut [] (fun wx => IsEye w0 wx x (eCount s) ∧ Below w0.heap.size w0 wx ∧ KeepS (fun i => i = x) w wx)
  case first =>
    by_cases ha : n < 0
    · have hq : decide (n < 0) = true := decide_eq_true ha
      have HW := Lib.hid (eWrong_is H1.out H2.out true)
      have HC2 := Lib.hid (show eCount s = eWrong true s1 by rw [HCT.out, hq, Bool.true_or])
      clear ha
      go_wp2_with fail
      refine HW.out.mono ?_
      rintro e w2 ⟨rfl, h1, h2, h3⟩
      have G1 := Lib.hid h1; have G2 := Lib.hid h2; have G3 := Lib.hid (H3.out.trans h3)
      clear h1 h2 h3
      go_wp2_with fail
      go_meet
      exact ⟨by rw [HC2.out]; exact G1.out, G2.out, G3.out⟩
    · have hq : decide (n < 0) = false := decide_eq_false ha
      obtain ⟨b, hb⟩ : ∃ b, decide ((4096 : Int) < n) = b := ⟨_, rfl⟩
      have HW := Lib.hid (eWrong_is H1.out H2.out b)
      have HC2 := Lib.hid (show eCount s = eWrong b s1 by rw [HCT.out, hq, hb, Bool.false_or])
      clear ha
      go_wp2_with fail
      refine HW.out.mono ?_
      rintro e w2 ⟨rfl, h1, h2, h3⟩
      have G1 := Lib.hid h1; have G2 := Lib.hid h2; have G3 := Lib.hid (H3.out.trans h3)
      clear h1 h2 h3
      go_wp2_with fail
      go_meet
      exact ⟨by rw [HC2.out]; exact G1.out, G2.out, G3.out⟩
  case rest =>
    obtain ⟨h1, h2, h3⟩ := hcut
    have G1 := Lib.hid h1; have G2 := Lib.hid h2; have G3 := Lib.hid h3
    have HE0 := Lib.hid (show (eCount s).e = 0 → n ≤ 4096 by
      intro h
      rw [HCT.out] at h
      by_cases h5 : (4096 : Int) < n
      · rw [decide_eq_true h5, Bool.or_true] at h
        unfold eWrong at h
        split at h
        · cases h
        · next h6 => exact absurd ⟨h, rfl⟩ h6
      · omega)
    have HOC := Lib.hid (show okS (eCount s) by rw [HCT.out]; exact okS_wrong _ HOK.out)
    clear h1 h2 h3
    go_wp2_with fail
    go_loopw [6, 7] (fun v i wr => LiI_txns eTxn n s w0 w x v i wr) (fun _ i _ => n.toNat - (intOf i).toNat)
    case atStart => exact ⟨[], eCount s, rfl, by simp, by simp, HE0.out, Kd.S_nil _ _ _ _ _, G1.out, G2.out, G3.out, HOC.out, by simpa using Hapi.Txn.out⟩
    case round =>
      obtain ⟨U, s2, rfl, hU, hUn, hE, hS, hI, hB, hK, hO, hF⟩ := hrel
      have HI := Lib.hid hI; have HB := Lib.hid hB; have HK := Lib.hid hK; have HO := Lib.hid hO; have HF := Lib.hid hF; have HS := Lib.hid hS; have HUN := Lib.hid hUn; have HE := Lib.hid hE
      obtain ⟨Av, cv, rfl⟩ := Kd.S_slice hS
      obtain ⟨A, c, g1, g2, g3, g4⟩ := hI
      have c1 : wr.cell? ⟨x, 1, none⟩ = some (.int .i64 s2.e) := by simp [World.cell?, g1]
      clear hB hK hO hF hS hUn hE g1 g2 g3 g4
      by_cases hlt : (U.length : Int) < n
      · by_cases he : s2.e = 0
        · have hq1 : decide ((U.length : Int) < n) = true := decide_eq_true hlt
          have hq2 : (s2.e == 0) = true := by rw [he]; rfl
          have HN4 := Lib.hid (HE.out he)
          have HG := Lib.hid (eTxn_is HI.out HB.out HO.out)
          have HGO := Lib.hid (okS_txn HO.out)
          obtain ⟨y, hy⟩ : ∃ y, (eTxn s2).1 = y := ⟨_, rfl⟩
          obtain ⟨s3, hs3⟩ : ∃ s3, (eTxn s2).2 = s3 := ⟨_, rfl⟩
          have HF2 := Lib.hid (show eList eTxn s = ((U ++ [y]) ++ (eMany eTxn (n.toNat - (U ++ [y]).length) s3).1, (eMany eTxn (n.toNat - (U ++ [y]).length) s3).2) by
            rw [HF.out]
            have e1 : n.toNat - U.length = (n.toNat - (U ++ [y]).length) + 1 := by simp; omega
            rw [e1]
            simp only [eMany, he, if_true, hy, hs3, List.append_assoc, List.singleton_append])
          have HLT2 := Lib.hid hlt
          rw [hy, hs3] at HG
          rw [hs3] at HGO
          clear hlt he hy hs3
          go_wp2_with fail
          refine HG.out.mono ?_
          rintro e w3 ⟨v2, v3, v4, v5, rfl, r2, r3, r4, r5, h1, h2, h3⟩
          obtain ⟨A2, c2, rfl⟩ := Kd.R_slice r2
          obtain ⟨A3, c3, rfl⟩ := Kd.R_slice r3
          obtain ⟨A4, c4, rfl⟩ := Kd.R_slice r4
          obtain ⟨A5, c5, rfl⟩ := Kd.R_slice r5
          have HBW := Lib.hid (show w.heap.size ≤ wr.heap.size from HK.out.size)
          have R2 := Lib.hid (show Kd.R (Kd.int .u8) 5 w3 w.heap.size (fun k => wr.heap.size ≤ k) _ y.f2 from Kd.R_mono (Kd.R_lower (Kd.R_bound r2) HBW.out) (fun k hk => hk.2.1))
          have R3 := Lib.hid (show Kd.R (Kd.int .i64) 2 w3 w.heap.size (fun k => wr.heap.size ≤ k) _ y.f3 from Kd.R_mono (Kd.R_lower (Kd.R_bound r3) HBW.out) (fun k hk => hk.2.1))
          have R4 := Lib.hid (show Kd.R G.k93 93 w3 w.heap.size (fun k => wr.heap.size ≤ k) _ y.f4 from Kd.R_mono (Kd.R_lower (Kd.R_bound r4) HBW.out) (fun k hk => hk.2.1))
          have R5 := Lib.hid (show Kd.R G.k93 93 w3 w.heap.size (fun k => wr.heap.size ≤ k) _ y.f5 from Kd.R_mono (Kd.R_lower (Kd.R_bound r5) HBW.out) (fun k hk => hk.2.1))
          have HS3 := Lib.hid (show Kd.S G.k36 36 w3 w.heap.size (fun k => True ∧ ¬ wr.heap.size ≤ k) (.slice Av U.length cv) U from Kd.S_mono (Kd.S_step (Kd.S_bound HS.out) (fun k hk2 hlt => h3.block k hlt (fun e => by have := hk2.2.1; have := HLT.out; omega))) (fun k hk => ⟨trivial, by have := hk.2.2.1; omega⟩))
          have HOWN := Lib.hid (Kd.S_lt HS.out)
          have HZ3 := Lib.hid (Nat.le_trans HK.out.size h3.size)
          have K1 := Lib.hid h1; have K2 := Lib.hid h2; have K3 := Lib.hid (HK.out.trans h3)
          clear h1 h2 h3 r2 r3 r4 r5
          go_wp2_with ((with_reducible refine gate_builtin (b := .append) (xs := #[.tmp 30, .tmp 33]) rfl ?_); at_builtin; refine Kd.S_append G.k36 (w0 := w3) w.heap.size rfl (.tmp 30) (.tmp 33) 22 36 (.agg #[.int .i64 0, .int .i64 0, .slice none 0 0, .slice none 0 0, .slice none 0 0, .slice none 0 0]) 112 rfl Try.underlying22 G.info36 rfl (by decide) (by omega) _ U y [.int .i64 y.f0, .int .i64 y.f1, .slice A2 y.f2.length c2, .slice A3 y.f3.length c3, .slice A4 y.f4.length c4, .slice A5 y.f5.length c5] (fun _ => True) (fun k => wr.heap.size ≤ k) rfl rfl (G.k36_mkM _ _ _ y R2.out R3.out R4.out R5.out) (fun k hk => ⟨trivial, fun e => by have := HOWN.out k e.symm; omega⟩) (fun _ _ => trivial) HS3.out (Below.refl _ _) HZ3.out (by omega) ?_; intro v1 w5 ho hb5 hg5 hat; obtain ⟨A9, c9, rfl⟩ := Kd.S_slice ho; have HS5 := Lib.hid ho; have HK5 := Lib.hid (K3.out.then_base hb5); have HI5 := Lib.hid (K1.out.at (hb5.block x HLT.out)); have HB5 := Lib.hid (K2.out.trans (hb5.mono HGEW.out)); clear ho hb5 hg5 hat)
          go_roundw
          case rel =>
            refine ⟨U ++ [y], s3, by rw [List.length_append]; go_num, ?_, ?_, fun _ => HN4.out, (by have h9 := HS5.out; rw [List.length_append] at h9; exact h9), HI5.out, HB5.out, HK5.out, HGO.out, HF2.out⟩
            · have h1 := HN4.out; have h2 := HLT2.out
              rw [List.length_append, List.length_singleton]
              omega
            · have h2 := HLT2.out
              rw [List.length_append, List.length_singleton]
              omega
          case measure => simp [intOf]; have h2 := HLT2.out; omega
        · have hq1 : decide ((U.length : Int) < n) = true := decide_eq_true hlt
          have hq2 : (s2.e == 0) = false := beq_eq_false_iff_ne.2 he
          have HF2 := Lib.hid (show eList eTxn s = (U, s2) by rw [HF.out, eMany_stop he, List.append_nil])
          clear hlt he
          go_wp2_with fail
          go_ret
          exact ⟨_, rfl, by rw [HF2.out]; exact HS.out, by rw [HF2.out]; exact HI.out, HB.out, HK.out⟩
      · have hq1 : decide ((U.length : Int) < n) = false := decide_eq_false hlt
        have HF2 := Lib.hid (show eList eTxn s = (U, s2) by
          have e1 : n.toNat - U.length = 0 := by omega
          rw [HF.out, e1]
          simp only [eMany, List.append_nil])
        clear hlt
        go_wp2_with fail
        go_ret
        exact ⟨_, rfl, by rw [HF2.out]; exact HS.out, by rw [HF2.out]; exact HI.out, HB.out, HK.out⟩
end Go.Proofs.Ytgiefblcckikeaa.M
end

section

/- The eye: an entry (printed by geneyee04.py). -/
set_option maxRecDepth 100000
set_option linter.unusedVariables false
set_option linter.unusedSimpArgs false
attribute [local irreducible] Go.wpStill
namespace Go.Proofs.Ytgiefblcckikeaa.M
open Go.RowKit Go.Proofs.YtgiefblcckikeaaW.PrintWords Go.Proofs.YtgiefblcckikeaaW.PrintLast Go.Proofs.YtgiefblcckikeaaW.PrintMore Go.Proofs.Ytgiefblcckikeaa.G
abbrev EnD := Int × Int × Int × List TxD
def eKind (s : EyeS) : EyeS := eWrong (decide ((eNum s).1 ≠ 0) && decide ((eNum s).1 ≠ 1)) (eNum s).2
def eBody (s : EyeS) : EnD × EyeS := ((1, (eSmall s).1, (eNum (eSmall s).2).1, (eList eTxn (eNum (eSmall s).2).2).1), (eList eTxn (eNum (eSmall s).2).2).2)
def eEntry (s : EyeS) : EnD × EyeS := if ¬ (eKind s).e = 0 ∨ (eNum s).1 = 0 then ((0, 0, 0, []), eKind s) else eBody (eKind s)
theorem okS_kind {s : EyeS} (h : okS s) : okS (eKind s) := okS_wrong _ (okS_num h)
def EnP (w0 w : World) (x : Nat) (y : EnD) (s' : EyeS) (e : Ending) (w' : World) : Prop := ∃ v : Value, e = .returned (.agg #[.int .i64 y.1, .int .i64 y.2.1, .int .i64 y.2.2.1, v]) ∧ Kd.S G.k36 36 w' w.heap.size (fun _ => True) v y.2.2.2 ∧ IsEye w0 w' x s' ∧ Below w0.heap.size w0 w' ∧ KeepS (fun i => i = x) w w'
abbrev zEnt : Obj := .cells #[.int .i64 0, .int .i64 0, .int .i64 0, .slice none 0 0] 24
set_option maxHeartbeats 4000000 in
theorem eEntry_is {w0 w : World} {x : Nat} {s : EyeS} (hI : IsEye w0 w x s) (hB : Below w0.heap.size w0 w) (hok : okS s) :
    Calls Try.prog 62 #[.pointer (some ⟨x, 0, none⟩)] w fun e w' => EnP w0 w x (eEntry s).1 (eEntry s).2 e w' := by
  have hbx := heap_alloc_new w zEnt
  have hb1 := (Below.refl _ w).alloc (Nat.le_refl _) zEnt
  have HLT := Lib.hid (show x < w.heap.size from hI.lt); have HGEW := Lib.hid (show w0.heap.size ≤ w.heap.size from hB.size)
  have HN := Lib.hid (eNum_is (hI.below hb1) (hB.alloc hB.size _) hok)
  have HK1 := Lib.hid (KeepS.of_below (fun i => i = x) hb1)
  have HOK := Lib.hid (okS_kind hok)
  obtain ⟨k, hk⟩ : ∃ k, (eNum s).1 = k := ⟨_, rfl⟩
  obtain ⟨s1, hs1⟩ : ∃ s1, (eNum s).2 = s1 := ⟨_, rfl⟩
  have HKD := Lib.hid (show eKind s = eWrong (decide (k ≠ 0) && decide (k ≠ 1)) s1 by unfold eKind; rw [hk, hs1])
  have HF := Lib.hid (show eEntry s = if ¬ (eKind s).e = 0 ∨ k = 0 then ((0, 0, 0, []), eKind s) else eBody (eKind s) by unfold eEntry; rw [hk])
  rw [hk, hs1] at HN
  have HBX := Lib.hid hbx
  have HZ := Lib.hid (show w.heap.size < (w.alloc zEnt).heap.size by simp)
  clear hk hs1 hI hB hok hbx hb1
  go_enter Try.func62, Try.ntmps62
  go_wp2_with fail
  refine HN.out.mono ?_
  rintro e w1 ⟨rfl, h1, h2, h3⟩
  have H1 := Lib.hid h1; have H2 := Lib.hid h2
  have HZ1 := Lib.hid (Nat.lt_of_lt_of_le HZ.out h3.size)
  have HB1 := Lib.hid ((h3.block w.heap.size HZ.out (by have := HLT.out; omega)).trans HBX.out)
  have HK2 := Lib.hid (HK1.out.trans h3)
  clear h1 h2 h3
  go_upto_region 2 with fail
  go_cut [] (fun wx => IsEye w0 wx x (eKind s) ∧ Below w0.heap.size w0 wx ∧ KeepS (fun i => i = x) w1 wx)
  case first =>
    by_cases ha : k = 0
    · have hq : (k != 0) = false := by rw [ha]; rfl
      have HW := Lib.hid (eWrong_is H1.out H2.out false)
      have HC2 := Lib.hid (show eKind s = eWrong false s1 by rw [HKD.out, decide_eq_false (fun h => h ha), Bool.false_and])
      clear ha
      go_wp2_with fail
      refine HW.out.mono ?_
      rintro e w2 ⟨rfl, h1, h2, h3⟩
      have G1 := Lib.hid h1; have G2 := Lib.hid h2; have G3 := Lib.hid h3
      clear h1 h2 h3
      go_wp2_with fail
      go_meet
      exact ⟨by rw [HC2.out]; exact G1.out, G2.out, G3.out⟩
    · have hq : (k != 0) = true := bne_iff_ne.2 ha
      obtain ⟨b, hb⟩ : ∃ b, (k != 1) = b := ⟨_, rfl⟩
      have HW := Lib.hid (eWrong_is H1.out H2.out b)
      have HC2 := Lib.hid (show eKind s = eWrong b s1 by
        rw [HKD.out, decide_eq_true ha, Bool.true_and]
        have : decide (k ≠ 1) = b := by
          rw [← hb, Bool.eq_iff_iff, decide_eq_true_eq, bne_iff_ne]
        rw [this])
      clear ha
      go_wp2_with fail
      refine HW.out.mono ?_
      rintro e w2 ⟨rfl, h1, h2, h3⟩
      have G1 := Lib.hid h1; have G2 := Lib.hid h2; have G3 := Lib.hid h3
      clear h1 h2 h3
      go_wp2_with fail
      go_meet
      exact ⟨by rw [HC2.out]; exact G1.out, G2.out, G3.out⟩
  case rest =>
    obtain ⟨h1, h2, h3⟩ := hcut
    obtain ⟨w2, rfl⟩ : ∃ w2, w2 = wc := ⟨_, rfl⟩
    have HIX := Lib.hid h1; have HDX := Lib.hid h2
    have HZ2 := Lib.hid (Nat.lt_of_lt_of_le HZ1.out h3.size)
    have HB2 := Lib.hid ((h3.block w.heap.size HZ1.out (by have := HLT.out; omega)).trans HB1.out)
    have HQX := Lib.hid (HK2.out.trans h3)
    obtain ⟨s2, hs2⟩ : ∃ s2, eKind s = s2 := ⟨_, rfl⟩
    rw [hs2] at HIX HF HOK
    have HIX := Lib.hid HIX.out
    have c1 : w2.cell? ⟨x, 1, none⟩ = some (.int .i64 s2.e) := by
      obtain ⟨A, c, g1, _⟩ := HIX.out
      simp [World.cell?, g1]
    have x0 : w2.cell? ⟨w.heap.size, 0, none⟩ = some (.int .i64 0) := by simp [World.cell?, HB2.out]
    have x1 : w2.cell? ⟨w.heap.size, 1, none⟩ = some (.int .i64 0) := by simp [World.cell?, HB2.out]
    have x2 : w2.cell? ⟨w.heap.size, 2, none⟩ = some (.int .i64 0) := by simp [World.cell?, HB2.out]
    have x3 : w2.cell? ⟨w.heap.size, 3, none⟩ = some (.slice none 0 0) := by simp [World.cell?, HB2.out]
    have y0 : w2.frozen? ⟨w.heap.size, 0, none⟩ = false := by simp [World.frozen?, HB2.out]
    have y1 : w2.frozen? ⟨w.heap.size, 1, none⟩ = false := by simp [World.frozen?, HB2.out]
    have y2 : w2.frozen? ⟨w.heap.size, 2, none⟩ = false := by simp [World.frozen?, HB2.out]
    have y3 : w2.frozen? ⟨w.heap.size, 3, none⟩ = false := by simp [World.frozen?, HB2.out]
    clear h1 h2 h3 hs2 HN HK1 HBX H1 H2 HB1 HK2 HZ HKD
    by_cases he : s2.e = 0
    · have hq1 : (s2.e != 0) = false := by rw [he]; rfl
      by_cases hk : k = 0
      · have hq2 : (k == 0) = true := by rw [hk]; rfl
        have HR := Lib.hid (show eEntry s = ((0, 0, 0, []), s2) by rw [HF.out, if_pos (.inr hk)])
        clear he hk
        go_wp2_with fail
        have HEB := Lib.hid (blk_put (cs := #[.int .i64 0, .int .i64 0, .int .i64 0, .slice none 0 0]) (blk_put (cs := #[.int .i64 0, .int .i64 0, .int .i64 0, .slice none 0 0]) (blk_put (cs := #[.int .i64 0, .int .i64 0, .int .i64 0, .slice none 0 0]) (blk_put (cs := #[.int .i64 0, .int .i64 0, .int .i64 0, .slice none 0 0]) (HB2.out) 0 (.int .i64 0) rfl) 1 (.int .i64 0) rfl) 2 (.int .i64 0) rfl) 3 (.slice none 0 0) rfl)
        have HKS := Lib.hid ((((((KeepS.refl (fun i => i = w.heap.size) w2)).set (p := ⟨w.heap.size, 0, none⟩) (.inl rfl) (.int .i64 0)).set (p := ⟨w.heap.size, 1, none⟩) (.inl rfl) (.int .i64 0)).set (p := ⟨w.heap.size, 2, none⟩) (.inl rfl) (.int .i64 0)).set (p := ⟨w.heap.size, 3, none⟩) (.inl rfl) (.slice none 0 0))
        obtain ⟨W, hW⟩ : ∃ W, ((((w2).setCell ⟨w.heap.size, 0, none⟩ (.int .i64 0)).setCell ⟨w.heap.size, 1, none⟩ (.int .i64 0)).setCell ⟨w.heap.size, 2, none⟩ (.int .i64 0)).setCell ⟨w.heap.size, 3, none⟩ (.slice none 0 0) = W := ⟨_, rfl⟩
        rw [hW] at HEB HKS ⊢
        clear hW
        refine bodyPost_ret (results_cell_row rfl _ _ w.heap.size 24 #[.int .i64 0, .int .i64 0, .int .i64 0, .slice none 0 0] (0, 0) _ rfl HEB.out Try.underlying24 rfl (by kernel_rfl)) rfl ?_
        rw [HR.out]
        have hz := HZ2.out
        have hlt := HLT.out
        have hgw := HGEW.out
        exact ⟨_, rfl, Kd.S_nil _ _ _ _ _, HIX.out.at (HKS.out.block x (by omega) (by show ¬ x = w.heap.size; omega)), HDX.out.trans (HKS.out.below (B := w0.heap.size) HDX.out.size (by rintro i rfl; omega)), HQX.out.then_base (HKS.out.below (B := w.heap.size) (by omega) (by rintro i rfl; omega))⟩
      · have hq2 : (k == 0) = false := beq_eq_false_iff_ne.2 hk
        have HR := Lib.hid (show eEntry s = eBody s2 by rw [HF.out, if_neg (fun h => h.elim (fun h => h he) hk)])
        clear he hk
        obtain ⟨r, HR0⟩ : ∃ r, eBody s2 = r := ⟨_, rfl⟩
        have HR1 := HR0
        unfold eBody at HR1
        have ho2 := HOK.out
        obtain ⟨f, hf⟩ : ∃ f, (eSmall s2).1 = f := ⟨_, rfl⟩
        obtain ⟨s3, hs3⟩ : ∃ s3, (eSmall s2).2 = s3 := ⟨_, rfl⟩
        have ho3 := okS_small ho2
        rw [hf, hs3] at HR1
        rw [hs3] at ho3
        obtain ⟨n, hn⟩ : ∃ n, (eNum s3).1 = n := ⟨_, rfl⟩
        obtain ⟨s4, hs4⟩ : ∃ s4, (eNum s3).2 = s4 := ⟨_, rfl⟩
        have ho4 := okS_num ho3
        rw [hn, hs4] at HR1
        rw [hs4] at ho4
        obtain ⟨l, hl⟩ : ∃ l, (eList eTxn s4).1 = l := ⟨_, rfl⟩
        obtain ⟨s5, hs5⟩ : ∃ s5, (eList eTxn s4).2 = s5 := ⟨_, rfl⟩
        rw [hl, hs5] at HR1
        have HR2 := Lib.hid (show eEntry s = _ from HR.out.trans (HR0.trans HR1.symm))
        have HO1 := Lib.hid ho2; have HO2 := Lib.hid ho3; have HO3 := Lib.hid ho4
        have HE1 := Lib.hid (And.intro hf hs3); have HE2 := Lib.hid (And.intro hn hs4); have HE3 := Lib.hid (And.intro hl hs5)
        clear hf hs3 hn hs4 hl hs5 ho2 ho3 ho4 HR HR0 HR1 HF HOK y0 y1 y2 y3 x0 x1 x2 x3
        go_wp2_with fail
        have hby := heap_alloc_new w2 (.cells #[.int .i64 1, .int .i64 0, .int .i64 0, .slice none 0 0] 24)
        have hay := (Below.refl _ w2).alloc (Nat.le_refl _) (.cells #[.int .i64 1, .int .i64 0, .int .i64 0, .slice none 0 0] 24)
        have hzy : (w2.alloc (.cells #[.int .i64 1, .int .i64 0, .int .i64 0, .slice none 0 0] 24)).heap.size = w2.heap.size + 1 := by simp
        obtain ⟨w4, hw4⟩ : ∃ w4, w2.alloc (.cells #[.int .i64 1, .int .i64 0, .int .i64 0, .slice none 0 0] 24) = w4 := ⟨_, rfl⟩
        rw [hw4] at hby hay hzy ⊢
        obtain ⟨g, hg⟩ : ∃ g, w2.heap.size = g := ⟨_, rfl⟩
        have HI4 := Lib.hid (HIX.out.below hay)
        have HD4 := Lib.hid (HDX.out.trans (hay.mono HDX.out.size))
        have HB4 := Lib.hid ((hay.block w.heap.size HZ2.out).trans HB2.out)
        have HQ4 := Lib.hid (HQX.out.then_below hay)
        rw [hg] at hby hzy HZ2 ⊢
        have HY4 := Lib.hid hby
        have HGZ := Lib.hid (show w.heap.size < g ∧ x < w.heap.size from ⟨HZ2.out, HLT.out⟩)
        have HZZ4 := Lib.hid (show g < w4.heap.size by omega)
        clear hw4 hg hby hay hzy HIX HDX HB2 HQX c1
        have h4 := eSmall_is HI4.out HD4.out HO1.out
        rw [HE1.out.1, HE1.out.2] at h4
        have HNN1 := Lib.hid h4
        clear h4
        refine HNN1.out.mono ?_
        rintro e w5 ⟨rfl, h1, h2, h3⟩
        have HB5 := Lib.hid ((h3.block w.heap.size (by have := HGZ.out; have := HZZ4.out; omega) (by have := HGZ.out; omega)).trans HB4.out)
        have HY5 := Lib.hid ((h3.block g HZZ4.out (by have := HGZ.out; omega)).trans HY4.out)
        have HQ5 := Lib.hid (HQ4.out.trans h3)
        have HZZ5 := Lib.hid (Nat.lt_of_lt_of_le HZZ4.out h3.size)
        have HI5 := Lib.hid h1
        have HD5 := Lib.hid h2
        have d1 : w5.cell? ⟨g, 1, none⟩ = some (.int .i64 0) := by simp [World.cell?, HY5.out]
        have z1 : w5.frozen? ⟨g, 1, none⟩ = false := by simp [World.frozen?, HY5.out]
        clear h1 h2 h3 HNN1
        go_wp2_with fail
        have HY6 := Lib.hid (blk_put (cs := #[.int .i64 1, .int .i64 0, .int .i64 0, .slice none 0 0]) HY5.out 1 (.int .i64 f) rfl)
        have HB6 := Lib.hid ((Below.heap_setCell w5 ⟨g, 1, none⟩ (.int .i64 f) w.heap.size (by have := HGZ.out; simp; omega)).trans HB5.out)
        have HI6 := Lib.hid (HI5.out.at (Below.heap_setCell w5 ⟨g, 1, none⟩ (.int .i64 f) x (by have := HGZ.out; simp; omega)))
        have HD6 := Lib.hid (HD5.out.setCell (p := ⟨g, 1, none⟩) (by have := HGZ.out; have := HGEW.out; simp; omega) (.int .i64 f))
        have HQ6 := Lib.hid (HQ5.out.set (p := ⟨g, 1, none⟩) (.inr (by have := HGZ.out; simp; omega)) (.int .i64 f))
        have HZZ6 := Lib.hid (show g < (w5.setCell ⟨g, 1, none⟩ (.int .i64 f)).heap.size by rw [World.size_setCell]; exact HZZ5.out)
        obtain ⟨w6, hw6⟩ : ∃ w6, w5.setCell ⟨g, 1, none⟩ (.int .i64 f) = w6 := ⟨_, rfl⟩
        rw [hw6] at HY6 HB6 HI6 HD6 HQ6 HZZ6 ⊢
        clear hw6 HY5 HB5 HI5 HD5 HQ5 HZZ5 d1 z1
        have h4 := eNum_is HI6.out HD6.out HO2.out
        rw [HE2.out.1, HE2.out.2] at h4
        have HNN2 := Lib.hid h4
        clear h4
        refine HNN2.out.mono ?_
        rintro e w7 ⟨rfl, h1, h2, h3⟩
        have HB7 := Lib.hid ((h3.block w.heap.size (by have := HGZ.out; have := HZZ6.out; omega) (by have := HGZ.out; omega)).trans HB6.out)
        have HY7 := Lib.hid ((h3.block g HZZ6.out (by have := HGZ.out; omega)).trans HY6.out)
        have HQ7 := Lib.hid (HQ6.out.trans h3)
        have HZZ7 := Lib.hid (Nat.lt_of_lt_of_le HZZ6.out h3.size)
        have HI7 := Lib.hid h1
        have HD7 := Lib.hid h2
        have d2 : w7.cell? ⟨g, 2, none⟩ = some (.int .i64 0) := by simp [World.cell?, HY7.out]
        have z2 : w7.frozen? ⟨g, 2, none⟩ = false := by simp [World.frozen?, HY7.out]
        clear h1 h2 h3 HNN2
        go_wp2_with fail
        have HY8 := Lib.hid (blk_put (cs := #[.int .i64 1, .int .i64 f, .int .i64 0, .slice none 0 0]) HY7.out 2 (.int .i64 n) rfl)
        have HB8 := Lib.hid ((Below.heap_setCell w7 ⟨g, 2, none⟩ (.int .i64 n) w.heap.size (by have := HGZ.out; simp; omega)).trans HB7.out)
        have HI8 := Lib.hid (HI7.out.at (Below.heap_setCell w7 ⟨g, 2, none⟩ (.int .i64 n) x (by have := HGZ.out; simp; omega)))
        have HD8 := Lib.hid (HD7.out.setCell (p := ⟨g, 2, none⟩) (by have := HGZ.out; have := HGEW.out; simp; omega) (.int .i64 n))
        have HQ8 := Lib.hid (HQ7.out.set (p := ⟨g, 2, none⟩) (.inr (by have := HGZ.out; simp; omega)) (.int .i64 n))
        have HZZ8 := Lib.hid (show g < (w7.setCell ⟨g, 2, none⟩ (.int .i64 n)).heap.size by rw [World.size_setCell]; exact HZZ7.out)
        obtain ⟨w8, hw8⟩ : ∃ w8, w7.setCell ⟨g, 2, none⟩ (.int .i64 n) = w8 := ⟨_, rfl⟩
        rw [hw8] at HY8 HB8 HI8 HD8 HQ8 HZZ8 ⊢
        clear hw8 HY7 HB7 HI7 HD7 HQ7 HZZ7 d2 z2
        have h4 := eList_txns HI8.out HD8.out HO3.out
        rw [HE3.out.1, HE3.out.2] at h4
        have HNN3 := Lib.hid h4
        clear h4
        refine HNN3.out.mono ?_
        rintro e w9 ⟨vl, rfl, hv, h1, h2, h3⟩
        obtain ⟨Al, cl, rfl⟩ := Kd.S_slice hv
        have HV := Lib.hid (show Kd.S G.k36 36 w9 w.heap.size (fun k => k ≠ g ∧ k ≠ w.heap.size) _ l from Kd.S_mono (Kd.S_lower (Kd.S_bound hv) HQ8.out.size) (fun k hk => by
          have h7 := hk.2.1; have h9 := HGZ.out; have h8 := HZZ8.out; constructor <;> omega))
        clear hv
        have HB9 := Lib.hid ((h3.block w.heap.size (by have := HGZ.out; have := HZZ8.out; omega) (by have := HGZ.out; omega)).trans HB8.out)
        have HY9 := Lib.hid ((h3.block g HZZ8.out (by have := HGZ.out; omega)).trans HY8.out)
        have HQ9 := Lib.hid (HQ8.out.trans h3)
        have HZZ9 := Lib.hid (Nat.lt_of_lt_of_le HZZ8.out h3.size)
        have HI9 := Lib.hid h1
        have HD9 := Lib.hid h2
        have d3 : w9.cell? ⟨g, 3, none⟩ = some (.slice none 0 0) := by simp [World.cell?, HY9.out]
        have z3 : w9.frozen? ⟨g, 3, none⟩ = false := by simp [World.frozen?, HY9.out]
        clear h1 h2 h3 HNN3
        have d0 : w9.cell? ⟨g, 0, none⟩ = some (.int .i64 1) := by simp [World.cell?, HY9.out]
        have d1 : w9.cell? ⟨g, 1, none⟩ = some (.int .i64 f) := by simp [World.cell?, HY9.out]
        have d2 : w9.cell? ⟨g, 2, none⟩ = some (.int .i64 n) := by simp [World.cell?, HY9.out]
        have x0 : w9.cell? ⟨w.heap.size, 0, none⟩ = some (.int .i64 0) := by simp [World.cell?, HB9.out]
        have x1 : w9.cell? ⟨w.heap.size, 1, none⟩ = some (.int .i64 0) := by simp [World.cell?, HB9.out]
        have x2 : w9.cell? ⟨w.heap.size, 2, none⟩ = some (.int .i64 0) := by simp [World.cell?, HB9.out]
        have x3 : w9.cell? ⟨w.heap.size, 3, none⟩ = some (.slice none 0 0) := by simp [World.cell?, HB9.out]
        have y0 : w9.frozen? ⟨w.heap.size, 0, none⟩ = false := by simp [World.frozen?, HB9.out]
        have y1 : w9.frozen? ⟨w.heap.size, 1, none⟩ = false := by simp [World.frozen?, HB9.out]
        have y2 : w9.frozen? ⟨w.heap.size, 2, none⟩ = false := by simp [World.frozen?, HB9.out]
        have y3 : w9.frozen? ⟨w.heap.size, 3, none⟩ = false := by simp [World.frozen?, HB9.out]
        have HGN : w.heap.size ≠ g := by have := HGZ.out; omega
        go_wp2_with fail
        have HEB := Lib.hid (blk_put (cs := #[.int .i64 1, .int .i64 f, .int .i64 n, .slice none 0 0]) (blk_put (cs := #[.int .i64 1, .int .i64 f, .int .i64 0, .slice none 0 0]) (blk_put (cs := #[.int .i64 1, .int .i64 0, .int .i64 0, .slice none 0 0]) (blk_put (cs := #[.int .i64 0, .int .i64 0, .int .i64 0, .slice none 0 0]) ((Below.heap_setCell w9 ⟨g, 3, none⟩ (.slice Al l.length cl) w.heap.size HGN).trans HB9.out) 0 (.int .i64 1) rfl) 1 (.int .i64 f) rfl) 2 (.int .i64 n) rfl) 3 (.slice Al l.length cl) rfl)
        have HKS := Lib.hid (((((((KeepS.refl (fun i => i = g ∨ i = w.heap.size) w9)).set (p := ⟨g, 3, none⟩) (.inl (.inl rfl)) (.slice Al l.length cl)).set (p := ⟨w.heap.size, 0, none⟩) (.inl (.inr rfl)) (.int .i64 1)).set (p := ⟨w.heap.size, 1, none⟩) (.inl (.inr rfl)) (.int .i64 f)).set (p := ⟨w.heap.size, 2, none⟩) (.inl (.inr rfl)) (.int .i64 n)).set (p := ⟨w.heap.size, 3, none⟩) (.inl (.inr rfl)) (.slice Al l.length cl))
        obtain ⟨W, hW⟩ : ∃ W, ((((w9.setCell ⟨g, 3, none⟩ (.slice Al l.length cl)).setCell ⟨w.heap.size, 0, none⟩ (.int .i64 1)).setCell ⟨w.heap.size, 1, none⟩ (.int .i64 f)).setCell ⟨w.heap.size, 2, none⟩ (.int .i64 n)).setCell ⟨w.heap.size, 3, none⟩ (.slice Al l.length cl) = W := ⟨_, rfl⟩
        rw [hW] at HEB HKS ⊢
        clear hW
        refine bodyPost_ret (results_cell_row rfl _ _ w.heap.size 24 #[.int .i64 1, .int .i64 f, .int .i64 n, .slice Al l.length cl] (0, 0) _ rfl HEB.out Try.underlying24 rfl (by kernel_rfl)) rfl ?_
        rw [HR2.out]
        have hq := HQ9.out.size
        have hgz := HGZ.out
        refine ⟨_, rfl, Kd.S_mono (Kd.S_step HV.out (fun k hk hlt => HKS.out.block k hlt ?_)) (fun _ _ => trivial), HI9.out.at (HKS.out.block x (by omega) ?_), HD9.out.trans (HKS.out.below (B := w0.heap.size) HD9.out.size ?_), HQ9.out.then_base (HKS.out.below (B := w.heap.size) hq ?_)⟩
        · rintro (h | h); exact hk.1 h; exact hk.2 h
        · rintro (h | h) <;> omega
        · have := HGEW.out
          rintro i (h | h) <;> omega
        · rintro i (h | h) <;> omega
    · have hq1 : (s2.e != 0) = true := bne_iff_ne.2 he
      have HR := Lib.hid (show eEntry s = ((0, 0, 0, []), s2) by rw [HF.out, if_pos (.inl he)])
      clear he
      go_wp2_with fail
      have HEB := Lib.hid (blk_put (cs := #[.int .i64 0, .int .i64 0, .int .i64 0, .slice none 0 0]) (blk_put (cs := #[.int .i64 0, .int .i64 0, .int .i64 0, .slice none 0 0]) (blk_put (cs := #[.int .i64 0, .int .i64 0, .int .i64 0, .slice none 0 0]) (blk_put (cs := #[.int .i64 0, .int .i64 0, .int .i64 0, .slice none 0 0]) (HB2.out) 0 (.int .i64 0) rfl) 1 (.int .i64 0) rfl) 2 (.int .i64 0) rfl) 3 (.slice none 0 0) rfl)
      have HKS := Lib.hid ((((((KeepS.refl (fun i => i = w.heap.size) w2)).set (p := ⟨w.heap.size, 0, none⟩) (.inl rfl) (.int .i64 0)).set (p := ⟨w.heap.size, 1, none⟩) (.inl rfl) (.int .i64 0)).set (p := ⟨w.heap.size, 2, none⟩) (.inl rfl) (.int .i64 0)).set (p := ⟨w.heap.size, 3, none⟩) (.inl rfl) (.slice none 0 0))
      obtain ⟨W, hW⟩ : ∃ W, ((((w2).setCell ⟨w.heap.size, 0, none⟩ (.int .i64 0)).setCell ⟨w.heap.size, 1, none⟩ (.int .i64 0)).setCell ⟨w.heap.size, 2, none⟩ (.int .i64 0)).setCell ⟨w.heap.size, 3, none⟩ (.slice none 0 0) = W := ⟨_, rfl⟩
      rw [hW] at HEB HKS ⊢
      clear hW
      refine bodyPost_ret (results_cell_row rfl _ _ w.heap.size 24 #[.int .i64 0, .int .i64 0, .int .i64 0, .slice none 0 0] (0, 0) _ rfl HEB.out Try.underlying24 rfl (by kernel_rfl)) rfl ?_
      rw [HR.out]
      have hz := HZ2.out
      have hlt := HLT.out
      have hgw := HGEW.out
      exact ⟨_, rfl, Kd.S_nil _ _ _ _ _, HIX.out.at (HKS.out.block x (by omega) (by show ¬ x = w.heap.size; omega)), HDX.out.trans (HKS.out.below (B := w0.heap.size) HDX.out.size (by rintro i rfl; omega)), HQX.out.then_base (HKS.out.below (B := w.heap.size) (by omega) (by rintro i rfl; omega))⟩
end Go.Proofs.Ytgiefblcckikeaa.M
end

section

/- TakeEntry (printed by gentake04.py). -/
set_option maxRecDepth 100000
set_option linter.unusedVariables false
set_option linter.unusedSimpArgs false
attribute [local irreducible] Go.wpStill
namespace Go.Proofs.Ytgiefblcckikeaa.M
open Go.RowKit Go.Proofs.YtgiefblcckikeaaW.PrintWords Go.Proofs.YtgiefblcckikeaaW.PrintLast Go.Proofs.YtgiefblcckikeaaW.PrintMore Go.Proofs.Ytgiefblcckikeaa.G
def eEnds (s : EyeS) (may all : Bool) : Int := if ¬ s.e = 0 then s.e else if all = true ∧ 0 < s.l.length then 13 else if s.o = true ∨ may = false then 40 else 0
theorem eEnds_is {w0 w : World} {x : Nat} {s : EyeS} (hI : IsEye w0 w x s) (may all : Bool) :
    Calls Try.prog 45 #[.pointer (some ⟨x, 0, none⟩), .bool may, .bool all] w fun e w' => e = .returned (.int .i64 (eEnds s may all)) ∧ w' = w := by
  obtain ⟨A, c, h1, h2, h3, h4⟩ := hI
  have c0 : w.cell? ⟨x, 0, none⟩ = some (.slice A s.l.length c) := by simp [World.cell?, h1]
  have c1 : w.cell? ⟨x, 1, none⟩ = some (.int .i64 s.e) := by simp [World.cell?, h1]
  have c2 : w.cell? ⟨x, 2, none⟩ = some (.bool s.o) := by simp [World.cell?, h1]
  clear h1 h2 h3 h4
  obtain ⟨l, e, o⟩ := s
  simp only at c0 c1 c2
  by_cases he : e = 0
  · have hq : (e != 0) = false := by rw [he]; rfl
    cases all with
    | true =>
      by_cases hl : 0 < l.length
      · have hq2 : decide (0 < l.length) = true := decide_eq_true (by omega)
        have HF := Lib.hid (show eEnds ⟨l, e, o⟩ may true = 13 by unfold eEnds; rw [if_neg (fun h => h he), if_pos ⟨rfl, hl⟩])
        clear he hl
        go_enter Try.func45, Try.ntmps45
        go_wp2_with fail
        go_ret
        exact ⟨by rw [HF.out]; rfl, rfl⟩
      · have hq2 : decide (0 < l.length) = false := decide_eq_false (by omega)
        have HF := Lib.hid (show eEnds ⟨l, e, o⟩ may true = if o = true ∨ may = false then 40 else 0 by unfold eEnds; rw [if_neg (fun h => h he), if_neg (fun h => hl h.2)])
        clear he hl
        cases o <;> cases may <;> (go_enter Try.func45, Try.ntmps45; go_wp2_with fail; go_ret; exact ⟨by rw [HF.out]; rfl, rfl⟩)
    | false =>
      have HF := Lib.hid (show eEnds ⟨l, e, o⟩ may false = if o = true ∨ may = false then 40 else 0 by unfold eEnds; rw [if_neg (fun h => h he), if_neg (fun h => by cases h.1)])
      clear he
      cases o <;> cases may <;> (go_enter Try.func45, Try.ntmps45; go_wp2_with fail; go_ret; exact ⟨by rw [HF.out]; rfl, rfl⟩)
  · have hq : (e != 0) = true := bne_iff_ne.2 he
    have HF := Lib.hid (show eEnds ⟨l, e, o⟩ may all = e by unfold eEnds; rw [if_pos he])
    clear he
    go_enter Try.func45, Try.ntmps45
    go_wp2_with fail
    go_ret
    exact ⟨by rw [HF.out]; rfl, rfl⟩
def takeEn (l : List Int) : EnD × Int :=
  if eEnds (eEntry ⟨l, 0, false⟩).2 (mayE (eEntry ⟨l, 0, false⟩).1.1 (eEntry ⟨l, 0, false⟩).1.2.1 (eEntry ⟨l, 0, false⟩).1.2.2.1 (eEntry ⟨l, 0, false⟩).1.2.2.2) true = 0 then ((eEntry ⟨l, 0, false⟩).1, 0)
  else ((0, 0, 0, []), eEnds (eEntry ⟨l, 0, false⟩).2 (mayE (eEntry ⟨l, 0, false⟩).1.1 (eEntry ⟨l, 0, false⟩).1.2.1 (eEntry ⟨l, 0, false⟩).1.2.2.1 (eEntry ⟨l, 0, false⟩).1.2.2.2) true)
abbrev oEye (A : Option Addr) (n c : Nat) : Obj := .cells #[.slice A n c, .int .i64 0, .bool false] 83
set_option maxHeartbeats 4000000 in
theorem takeEn_is (A : Option Addr) (c : Nat) (l : List Int) (w : World) (hr : Kd.C (Kd.int .u8) w A l.length l) (hc : l.length ≤ c) (hb : okB l = true) (hl : l.length < 140737488355328) :
    Calls Try.prog 31 #[.slice A l.length c] w fun e w' => ∃ v : Value, e = .returned (.tuple #[.agg #[.int .i64 (takeEn l).1.1, .int .i64 (takeEn l).1.2.1, .int .i64 (takeEn l).1.2.2.1, v], .int .i64 (takeEn l).2]) ∧ Kd.S G.k36 36 w' w.heap.size (fun _ => True) v (takeEn l).1.2.2.2 ∧ Below w.heap.size w w' := by
  have h0 := heap_alloc_new w zEnt
  have s1 : (w.alloc zEnt).heap.size = w.heap.size + 1 := by simp
  have h1 := heap_alloc_new (w.alloc zEnt) (oEye A l.length c)
  have s2 : ((w.alloc zEnt).alloc (oEye A l.length c)).heap.size = w.heap.size + 1 + 1 := by simp
  have b1 := ((Below.refl _ w).alloc (Nat.le_refl _) zEnt).alloc (by simp) (oEye A l.length c)
  have g1 : ((w.alloc zEnt).alloc (oEye A l.length c)).heap[w.heap.size]? = some zEnt := by
    have := (Below.refl _ (w.alloc zEnt)).alloc (Nat.le_refl _) (oEye A l.length c)
    exact (this.block w.heap.size (by omega)).trans h0
  rw [s1] at h1
  go_enter Try.func31, Try.ntmps31
  go_wp2_with fail
  obtain ⟨w2, hw2⟩ : ∃ w2, (w.alloc zEnt).alloc (oEye A l.length c) = w2 := ⟨_, rfl⟩
  obtain ⟨x, hx⟩ : ∃ x, w.heap.size + 1 = x := ⟨_, rfl⟩
  rw [hw2] at h1 s2 b1 g1 ⊢
  rw [hx] at h1 s1 s2 ⊢
  have HI := Lib.hid (show IsEye w w2 x ⟨l, 0, false⟩ from ⟨A, c, h1, by omega, hc, hr⟩)
  have HX := Lib.hid hx; have HS2 := Lib.hid s2; have HB2 := Lib.hid b1; have HG2 := Lib.hid g1
  have HN := Lib.hid (eEntry_is HI.out HB2.out (s := ⟨l, 0, false⟩) ⟨hb, hl⟩)
  obtain ⟨r, hr1⟩ : ∃ r, takeEn l = r := ⟨_, rfl⟩
  have hr2 := hr1
  unfold takeEn at hr2
  obtain ⟨y, hy⟩ : ∃ y, (eEntry ⟨l, 0, false⟩).1 = y := ⟨_, rfl⟩
  obtain ⟨s', hs'⟩ : ∃ s', (eEntry ⟨l, 0, false⟩).2 = s' := ⟨_, rfl⟩
  rw [hy, hs'] at hr2 HN
  obtain ⟨k, f, n, t⟩ := y
  simp only at hr2
  obtain ⟨er, her⟩ : ∃ er, eEnds s' (mayE k f n t) true = er := ⟨_, rfl⟩
  rw [her] at hr2
  have HER := Lib.hid her; have HR1 := Lib.hid hr1; have HR2 := Lib.hid hr2
  clear h0 s1 h1 s2 b1 g1 hw2 hx hy hs' hr2 hr1 her hr hc hb hl
  refine HN.out.mono ?_
  rintro e w3 ⟨v, rfl, hv, h1, h2, h3⟩
  obtain ⟨At, ct, rfl, htc, hC⟩ := Kd.S_reads hv
  simp only at hv hC htc
  have HZ2 := Lib.hid (show w.heap.size < w2.heap.size by have := HS2.out; have := HX.out; omega)
  have HV := Lib.hid (show Kd.S G.k36 36 w3 w.heap.size (fun k => k ≠ w.heap.size ∧ k < w3.heap.size) (.slice At t.length ct) t from Kd.S_mono (Kd.S_lower (Kd.S_bound hv) (Nat.le_of_lt HZ2.out)) (fun k hk => ⟨by have h7 := hk.2.1; have := HZ2.out; omega, hk.2.2.1⟩))
  have HC := Lib.hid hC
  have HI3 := Lib.hid h1; have HB3 := Lib.hid h2
  have HG3 := Lib.hid ((h3.block w.heap.size HZ2.out (by have := HX.out; omega)).trans HG2.out)
  have HZ3 := Lib.hid (Nat.lt_of_lt_of_le HZ2.out h3.size)
  clear hv hC htc h1 h2 h3 HN HI HB2 HG2
  go_wp2_with fail
  have hby := heap_alloc_new w3 (.cells #[.int .i64 k, .int .i64 f, .int .i64 n, .slice At t.length ct] 24)
  have hay := (Below.refl _ w3).alloc (Nat.le_refl _) (.cells #[.int .i64 k, .int .i64 f, .int .i64 n, .slice At t.length ct] 24)
  have hzy : (w3.alloc (.cells #[.int .i64 k, .int .i64 f, .int .i64 n, .slice At t.length ct] 24)).heap.size = w3.heap.size + 1 := by simp
  obtain ⟨w4, hw4⟩ : ∃ w4, w3.alloc (.cells #[.int .i64 k, .int .i64 f, .int .i64 n, .slice At t.length ct] 24) = w4 := ⟨_, rfl⟩
  rw [hw4] at hby hay hzy ⊢
  have HM := Lib.hid (mayEn_is k f n At ct t w4 (Kd.C_below HC.out hay))
  have HI4 := Lib.hid (HI3.out.below hay)
  have HB4 := Lib.hid (HB3.out.trans (hay.mono HB3.out.size))
  have HG4 := Lib.hid ((hay.block w.heap.size HZ3.out).trans HG3.out)
  have HV4 := Lib.hid (Kd.S_below HV.out hay)
  obtain ⟨g, hg⟩ : ∃ g, w3.heap.size = g := ⟨_, rfl⟩
  rw [hg] at hby hzy HV4 HZ3 ⊢
  have HY4 := Lib.hid hby
  have HZ4 := Lib.hid (show w.heap.size < g ∧ g < w4.heap.size ∧ x < w4.heap.size from ⟨HZ3.out, by omega, HI4.out.lt⟩)
  have d0 : w4.cell? ⟨g, 0, none⟩ = some (.int .i64 k) := by simp [World.cell?, HY4.out]
  have d1 : w4.cell? ⟨g, 1, none⟩ = some (.int .i64 f) := by simp [World.cell?, HY4.out]
  have d2 : w4.cell? ⟨g, 2, none⟩ = some (.int .i64 n) := by simp [World.cell?, HY4.out]
  have d3 : w4.cell? ⟨g, 3, none⟩ = some (.slice At t.length ct) := by simp [World.cell?, HY4.out]
  clear hw4 hg hby hay hzy HI3 HB3 HG3 HV HC
  go_wp2_with fail
  refine HM.out.mono ?_
  rintro e w5 ⟨rfl, hb5⟩
  have HI5 := Lib.hid (HI4.out.below hb5)
  have HE := Lib.hid (eEnds_is HI5.out (mayE k f n t) true)
  rw [HER.out] at HE
  have HB5 := Lib.hid (HB4.out.trans (hb5.mono HB4.out.size))
  have HG5 := Lib.hid ((hb5.block w.heap.size (by have := HZ4.out; omega)).trans HG4.out)
  have HY5 := Lib.hid ((hb5.block g HZ4.out.2.1).trans HY4.out)
  have HV5 := Lib.hid (Kd.S_below HV4.out hb5)
  clear hb5 d0 d1 d2 d3 HI4 HB4 HG4 HY4 HV4 HM
  go_wp2_with fail
  refine HE.out.mono ?_
  rintro e w6 ⟨rfl, rfl⟩
  have d0 : w6.cell? ⟨g, 0, none⟩ = some (.int .i64 k) := by simp [World.cell?, HY5.out]
  have d1 : w6.cell? ⟨g, 1, none⟩ = some (.int .i64 f) := by simp [World.cell?, HY5.out]
  have d2 : w6.cell? ⟨g, 2, none⟩ = some (.int .i64 n) := by simp [World.cell?, HY5.out]
  have d3 : w6.cell? ⟨g, 3, none⟩ = some (.slice At t.length ct) := by simp [World.cell?, HY5.out]
  have x0 : w6.cell? ⟨w.heap.size, 0, none⟩ = some (.int .i64 0) := by simp [World.cell?, HG5.out]
  have x1 : w6.cell? ⟨w.heap.size, 1, none⟩ = some (.int .i64 0) := by simp [World.cell?, HG5.out]
  have x2 : w6.cell? ⟨w.heap.size, 2, none⟩ = some (.int .i64 0) := by simp [World.cell?, HG5.out]
  have x3 : w6.cell? ⟨w.heap.size, 3, none⟩ = some (.slice none 0 0) := by simp [World.cell?, HG5.out]
  have y0 : w6.frozen? ⟨w.heap.size, 0, none⟩ = false := by simp [World.frozen?, HG5.out]
  have y1 : w6.frozen? ⟨w.heap.size, 1, none⟩ = false := by simp [World.frozen?, HG5.out]
  have y2 : w6.frozen? ⟨w.heap.size, 2, none⟩ = false := by simp [World.frozen?, HG5.out]
  have y3 : w6.frozen? ⟨w.heap.size, 3, none⟩ = false := by simp [World.frozen?, HG5.out]
  have HGN : w.heap.size ≠ g := by have := HZ4.out; omega
  by_cases he : er = 0
  · have hq : (er != 0) = false := by rw [he]; rfl
    have HR := Lib.hid (show takeEn l = ((k, f, n, t), 0) by rw [HR1.out, ← HR2.out, if_pos he])
    clear he
    go_wp2_with fail
    have HEB := Lib.hid (blk_put (cs := #[.int .i64 k, .int .i64 f, .int .i64 n, .slice none 0 0]) (blk_put (cs := #[.int .i64 k, .int .i64 f, .int .i64 0, .slice none 0 0]) (blk_put (cs := #[.int .i64 k, .int .i64 0, .int .i64 0, .slice none 0 0]) (blk_put (cs := #[.int .i64 0, .int .i64 0, .int .i64 0, .slice none 0 0]) (HG5.out) 0 (.int .i64 k) rfl) 1 (.int .i64 f) rfl) 2 (.int .i64 n) rfl) 3 (.slice At t.length ct) rfl)
    have HKS := Lib.hid ((((((KeepS.refl (fun i => i = w.heap.size) w6)).set (p := ⟨w.heap.size, 0, none⟩) (.inl rfl) (.int .i64 k)).set (p := ⟨w.heap.size, 1, none⟩) (.inl rfl) (.int .i64 f)).set (p := ⟨w.heap.size, 2, none⟩) (.inl rfl) (.int .i64 n)).set (p := ⟨w.heap.size, 3, none⟩) (.inl rfl) (.slice At t.length ct))
    obtain ⟨W, hW⟩ : ∃ W, ((((w6).setCell ⟨w.heap.size, 0, none⟩ (.int .i64 k)).setCell ⟨w.heap.size, 1, none⟩ (.int .i64 f)).setCell ⟨w.heap.size, 2, none⟩ (.int .i64 n)).setCell ⟨w.heap.size, 3, none⟩ (.slice At t.length ct) = W := ⟨_, rfl⟩
    rw [hW] at HEB HKS ⊢
    clear hW
    refine bodyPost_ret (results_ct rfl _ _ w.heap.size 24 #[.int .i64 k, .int .i64 f, .int .i64 n, .slice At t.length ct] (0, 0) _ rfl HEB.out Try.underlying24 rfl (by kernel_rfl)) rfl ?_
    rw [HR.out]
    refine ⟨_, rfl, Kd.S_mono (Kd.S_step HV5.out (fun k hk hlt => HKS.out.block k hlt hk.1)) (fun _ _ => trivial), HB5.out.trans (HKS.out.below (B := w.heap.size) HB5.out.size (by rintro i rfl; exact Nat.le_refl _))⟩
  · have hq : (er != 0) = true := bne_iff_ne.2 he
    have HR := Lib.hid (show takeEn l = ((0, 0, 0, []), er) by rw [HR1.out, ← HR2.out, if_neg he])
    clear he
    go_wp2_with fail
    have HEB := Lib.hid (blk_put (cs := #[.int .i64 0, .int .i64 0, .int .i64 0, .slice none 0 0]) (blk_put (cs := #[.int .i64 0, .int .i64 0, .int .i64 0, .slice none 0 0]) (blk_put (cs := #[.int .i64 0, .int .i64 0, .int .i64 0, .slice none 0 0]) (blk_put (cs := #[.int .i64 0, .int .i64 0, .int .i64 0, .slice none 0 0]) (HG5.out) 0 (.int .i64 0) rfl) 1 (.int .i64 0) rfl) 2 (.int .i64 0) rfl) 3 (.slice none 0 0) rfl)
    have HKS := Lib.hid ((((((KeepS.refl (fun i => i = w.heap.size) w6)).set (p := ⟨w.heap.size, 0, none⟩) (.inl rfl) (.int .i64 0)).set (p := ⟨w.heap.size, 1, none⟩) (.inl rfl) (.int .i64 0)).set (p := ⟨w.heap.size, 2, none⟩) (.inl rfl) (.int .i64 0)).set (p := ⟨w.heap.size, 3, none⟩) (.inl rfl) (.slice none 0 0))
    obtain ⟨W, hW⟩ : ∃ W, ((((w6).setCell ⟨w.heap.size, 0, none⟩ (.int .i64 0)).setCell ⟨w.heap.size, 1, none⟩ (.int .i64 0)).setCell ⟨w.heap.size, 2, none⟩ (.int .i64 0)).setCell ⟨w.heap.size, 3, none⟩ (.slice none 0 0) = W := ⟨_, rfl⟩
    rw [hW] at HEB HKS ⊢
    clear hW
    refine bodyPost_ret (results_ct rfl _ _ w.heap.size 24 #[.int .i64 0, .int .i64 0, .int .i64 0, .slice none 0 0] (0, 0) _ rfl HEB.out Try.underlying24 rfl (by kernel_rfl)) rfl ?_
    rw [HR.out]
    refine ⟨_, rfl, Kd.S_nil _ _ _ _ _, HB5.out.trans (HKS.out.below (B := w.heap.size) HB5.out.size (by rintro i rfl; exact Nat.le_refl _))⟩
end Go.Proofs.Ytgiefblcckikeaa.M
namespace Go.Proofs.Ytgiefblcckikeaa.G
open Go.RowKit Go.Proofs.YtgiefblcckikeaaW.PrintWords Go.Proofs.Ytgiefblcckikeaa.M
def record_TakeEntry.f (l0 : List Int) : Option (Int × Int × Int × List S36 × Int) := if okB l0 = true ∧ l0.length < 140737488355328 then some ((takeEn l0).1.1, (takeEn l0).1.2.1, (takeEn l0).1.2.2.1, (takeEn l0).1.2.2.2, (takeEn l0).2) else none
theorem record_TakeEntry.calls (A0 : Option Addr) (c0 : Nat) (l0 : List Int) (r1 r2 r3 : Int) (r4 : List S36) (r5 : Int) (w : World) (hr0 : Kd.C (Kd.int .u8) w A0 l0.length l0) (hc0 : l0.length ≤ c0) (h : record_TakeEntry.f l0 = some (r1, r2, r3, r4, r5)) :
    Calls Try.prog 31 #[.slice A0 l0.length c0] w fun e w' => ∃ v3_ : Value, e = .returned (.tuple #[.agg #[.int .i64 r1, .int .i64 r2, .int .i64 r3, v3_], .int .i64 r5]) ∧ Kd.S k36 36 w' w.heap.size (fun _ => True) v3_ r4 ∧ Below w.heap.size w w' := by
  unfold record_TakeEntry.f at h
  split at h
  · next hq =>
    simp only [Option.some.injEq, Prod.mk.injEq] at h
    obtain ⟨rfl, rfl, rfl, rfl, rfl⟩ := h
    exact takeEn_is A0 c0 l0 w hr0 hc0 hq.1 hq.2
  · cases h
end Go.Proofs.Ytgiefblcckikeaa.G
end

section

/- The reference's Reader: Ends. -/
set_option maxRecDepth 100000
set_option linter.unusedVariables false
set_option linter.unusedSimpArgs false
attribute [local irreducible] Go.wpStill
namespace Go.Proofs.Ytgiefblcckikeaa.M
open Go.RowKit Go.Proofs.YtgiefblcckikeaaW.PrintWords Go.Proofs.YtgiefblcckikeaaW.PrintLast Go.Proofs.YtgiefblcckikeaaW.PrintMore Go.Proofs.Ytgiefblcckikeaa.G
theorem eEnds_false (s : EyeS) (may : Bool) : eEnds s may false = if s.e = 0 then (if s.o = true ∨ may = false then 40 else 0) else s.e := by
  unfold eEnds
  by_cases h : s.e = 0
  · rw [if_neg (fun q => q h), if_neg (fun q => by cases q.1), if_pos h]
  · rw [if_pos h, if_neg h]
theorem rdEnds_is {B : List Int} {w0 w : World} {x : Nat} {s : EyeS} (hI : IsRd B w0 w x s) (may : Bool) :
    Calls Try.prog 20 #[.pointer (some ⟨x, 0, none⟩), .bool may] w fun e w' => e = .returned (.int .i64 (eEnds s may false)) ∧ w' = w := by
  obtain ⟨A, c, k, h1, h2⟩ := hI
  have c2 : w.cell? ⟨x, 2, none⟩ = some (.int .i64 s.e) := by simp [World.cell?, h1]
  have c3 : w.cell? ⟨x, 3, none⟩ = some (.bool s.o) := by simp [World.cell?, h1]
  have HF := Lib.hid (eEnds_false s may)
  clear h1 h2
  obtain ⟨l, e, o⟩ := s
  simp only at c2 c3
  by_cases he : e = 0
  · have hq : (e == 0) = true := by rw [he]; rfl
    have HR := Lib.hid (show eEnds ⟨l, e, o⟩ may false = if o = true ∨ may = false then 40 else 0 by rw [HF.out, if_pos he])
    subst he
    clear HF
    cases o <;> cases may <;> (go_enter Try.func20, Try.ntmps20; go_wp2_with fail; go_ret; exact ⟨by rw [HR.out]; rfl, rfl⟩)
  · have hq : (e == 0) = false := beq_eq_false_iff_ne.2 he
    have HR := Lib.hid (show eEnds ⟨l, e, o⟩ may false = e by rw [HF.out, if_neg he])
    clear HF he
    go_enter Try.func20, Try.ntmps20
    go_wp2_with fail
    go_ret
    exact ⟨by rw [HR.out]; rfl, rfl⟩
end Go.Proofs.Ytgiefblcckikeaa.M
end

section

/- TakeTxn (printed by gentaket04.py). -/
set_option maxRecDepth 100000
set_option linter.unusedVariables false
set_option linter.unusedSimpArgs false
attribute [local irreducible] Go.wpStill
namespace Go.Proofs.Ytgiefblcckikeaa.M
open Go.RowKit Go.Proofs.YtgiefblcckikeaaW.PrintWords Go.Proofs.YtgiefblcckikeaaW.PrintLast Go.Proofs.YtgiefblcckikeaaW.PrintMore Go.Proofs.Ytgiefblcckikeaa.G
def zeroTx : TxD := ⟨0, 0, [], [], [], []⟩
def takeTx (l : List Int) : TxD × Int × Int :=
  if eEnds (eTxn ⟨l, 0, false⟩).2 (mayT (eTxn ⟨l, 0, false⟩).1) false = 0 then ((eTxn ⟨l, 0, false⟩).1, (l.length : Int) - ((eTxn ⟨l, 0, false⟩).2.l.length : Int), 0)
  else (zeroTx, 0, eEnds (eTxn ⟨l, 0, false⟩).2 (mayT (eTxn ⟨l, 0, false⟩).1) false)
set_option maxHeartbeats 4000000 in
theorem takeTx_is (A : Option Addr) (c : Nat) (l : List Int) (w : World) (hr : Kd.C (Kd.int .u8) w A l.length l) (hc : l.length ≤ c) (hb : okB l = true) (hl : l.length < 140737488355328) :
    Calls Try.prog 18 #[.slice A l.length c] w fun e w' => ∃ v2 v3 v4 v5 : Value, e = .returned (.tuple #[.agg #[.int .i64 (takeTx l).1.f0, .int .i64 (takeTx l).1.f1, v2, v3, v4, v5], .int .i64 (takeTx l).2.1, .int .i64 (takeTx l).2.2]) ∧ Kd.R (Kd.int .u8) 5 w' w.heap.size (fun _ => True) v2 (takeTx l).1.f2 ∧ Kd.R (Kd.int .i64) 2 w' w.heap.size (fun _ => True) v3 (takeTx l).1.f3 ∧ Kd.R G.k93 93 w' w.heap.size (fun k => some k ≠ v5.ownBlock) v4 (takeTx l).1.f4 ∧ Kd.R G.k93 93 w' w.heap.size (fun k => some k ≠ v4.ownBlock) v5 (takeTx l).1.f5 ∧ Below w.heap.size w w' := by
  have h0 := heap_alloc_new w zTxn
  have s1 : (w.alloc zTxn).heap.size = w.heap.size + 1 := by simp
  have h1 := heap_alloc_new (w.alloc zTxn) (oEye A l.length c)
  have s2 : ((w.alloc zTxn).alloc (oEye A l.length c)).heap.size = w.heap.size + 1 + 1 := by simp
  have b1 := ((Below.refl _ w).alloc (Nat.le_refl _) zTxn).alloc (by simp) (oEye A l.length c)
  have g1 : ((w.alloc zTxn).alloc (oEye A l.length c)).heap[w.heap.size]? = some zTxn := by
    have := (Below.refl _ (w.alloc zTxn)).alloc (Nat.le_refl _) (oEye A l.length c)
    exact (this.block w.heap.size (by omega)).trans h0
  rw [s1] at h1
  have HLN := Lib.hid (show l.length ≤ 9223372036854775807 by omega)
  go_enter Try.func18, Try.ntmps18
  go_wp2_with fail
  obtain ⟨w2, hw2⟩ : ∃ w2, (w.alloc zTxn).alloc (oEye A l.length c) = w2 := ⟨_, rfl⟩
  obtain ⟨x, hx⟩ : ∃ x, w.heap.size + 1 = x := ⟨_, rfl⟩
  rw [hw2] at h1 s2 b1 g1 ⊢
  rw [hx] at h1 s1 s2 ⊢
  have HI := Lib.hid (show IsEye w w2 x ⟨l, 0, false⟩ from ⟨A, c, h1, by omega, hc, hr⟩)
  have HX := Lib.hid hx; have HS2 := Lib.hid s2; have HB2 := Lib.hid b1; have HG2 := Lib.hid g1
  have HN := Lib.hid (eTxn_is HI.out HB2.out (s := ⟨l, 0, false⟩) ⟨hb, hl⟩)
  have HOS := Lib.hid (show okS (eTxn ⟨l, 0, false⟩).2 from okS_txn ⟨hb, hl⟩)
  obtain ⟨r, hr1⟩ : ∃ r, takeTx l = r := ⟨_, rfl⟩
  have hr2 := hr1
  unfold takeTx at hr2
  obtain ⟨y, hy⟩ : ∃ y, (eTxn ⟨l, 0, false⟩).1 = y := ⟨_, rfl⟩
  obtain ⟨s', hs'⟩ : ∃ s', (eTxn ⟨l, 0, false⟩).2 = s' := ⟨_, rfl⟩
  rw [hy, hs'] at hr2 HN
  rw [hs'] at HOS
  obtain ⟨er, her⟩ : ∃ er, eEnds s' (mayT y) false = er := ⟨_, rfl⟩
  rw [her] at hr2
  have HER := Lib.hid her; have HR1 := Lib.hid hr1; have HR2 := Lib.hid hr2
  clear h0 s1 h1 s2 b1 g1 hw2 hx hy hs' hr2 hr1 her hr hc hb hl
  refine HN.out.mono ?_
  rintro e w3 ⟨v2, v3, v4, v5, rfl, q2, q3, q4, q5, h1, h2, h3⟩
  have HZ2 := Lib.hid (show w.heap.size < w2.heap.size by have := HS2.out; have := HX.out; omega)
  obtain ⟨A2, c2, rfl⟩ := Kd.R_slice q2
  obtain ⟨A3, c3, rfl⟩ := Kd.R_slice q3
  obtain ⟨A4, c4, rfl⟩ := Kd.R_slice q4
  obtain ⟨A5, c5, rfl⟩ := Kd.R_slice q5
  have HC2 := Lib.hid (show y.f2.length ≤ c2 ∧ Kd.C (Kd.int .u8) w3 A2 y.f2.length y.f2 from ⟨(Kd.R_reads' q2).2.1, (Kd.R_reads' q2).2.2⟩)
  have HV2 := Lib.hid (show Kd.R (Kd.int .u8) 5 w3 w.heap.size (fun k => k ≠ w.heap.size) (.slice A2 y.f2.length c2) y.f2 from Kd.R_mono (Kd.R_lower (Kd.R_bound q2) (Nat.le_of_lt HZ2.out)) (fun k hk => by have h7 := hk.2.1; have := HZ2.out; omega))
  have HC3 := Lib.hid (show y.f3.length ≤ c3 ∧ Kd.C (Kd.int .i64) w3 A3 y.f3.length y.f3 from ⟨(Kd.R_reads' q3).2.1, (Kd.R_reads' q3).2.2⟩)
  have HV3 := Lib.hid (show Kd.R (Kd.int .i64) 2 w3 w.heap.size (fun k => k ≠ w.heap.size) (.slice A3 y.f3.length c3) y.f3 from Kd.R_mono (Kd.R_lower (Kd.R_bound q3) (Nat.le_of_lt HZ2.out)) (fun k hk => by have h7 := hk.2.1; have := HZ2.out; omega))
  have HC4 := Lib.hid (show y.f4.length ≤ c4 ∧ Kd.C G.k93 w3 A4 y.f4.length y.f4 from ⟨(Kd.R_reads' q4).2.1, (Kd.R_reads' q4).2.2⟩)
  have HV4 := Lib.hid (show Kd.R G.k93 93 w3 w.heap.size (fun k => k ≠ w.heap.size ∧ some k ≠ (.slice A5 y.f5.length c5 : Value).ownBlock) (.slice A4 y.f4.length c4) y.f4 from Kd.R_mono (Kd.R_lower (Kd.R_bound q4) (Nat.le_of_lt HZ2.out)) (fun k hk => ⟨by have h7 := hk.2.1; have := HZ2.out; omega, hk.1⟩))
  have HC5 := Lib.hid (show y.f5.length ≤ c5 ∧ Kd.C G.k93 w3 A5 y.f5.length y.f5 from ⟨(Kd.R_reads' q5).2.1, (Kd.R_reads' q5).2.2⟩)
  have HV5 := Lib.hid (show Kd.R G.k93 93 w3 w.heap.size (fun k => k ≠ w.heap.size ∧ some k ≠ (.slice A4 y.f4.length c4 : Value).ownBlock) (.slice A5 y.f5.length c5) y.f5 from Kd.R_mono (Kd.R_lower (Kd.R_bound q5) (Nat.le_of_lt HZ2.out)) (fun k hk => ⟨by have h7 := hk.2.1; have := HZ2.out; omega, hk.1⟩))
  clear q2 q3 q4 q5
  have HI3 := Lib.hid h1; have HB3 := Lib.hid h2
  have HG3 := Lib.hid ((h3.block w.heap.size HZ2.out (by have := HX.out; omega)).trans HG2.out)
  have HZ3 := Lib.hid (Nat.lt_of_lt_of_le HZ2.out h3.size)
  clear h1 h2 h3 HN HI HB2 HG2
  go_wp2_with fail
  have hby := heap_alloc_new w3 (.cells #[.int .i64 y.f0, .int .i64 y.f1, .slice A2 y.f2.length c2, .slice A3 y.f3.length c3, .slice A4 y.f4.length c4, .slice A5 y.f5.length c5] 36)
  have hay := (Below.refl _ w3).alloc (Nat.le_refl _) (.cells #[.int .i64 y.f0, .int .i64 y.f1, .slice A2 y.f2.length c2, .slice A3 y.f3.length c3, .slice A4 y.f4.length c4, .slice A5 y.f5.length c5] 36)
  have hzy : (w3.alloc (.cells #[.int .i64 y.f0, .int .i64 y.f1, .slice A2 y.f2.length c2, .slice A3 y.f3.length c3, .slice A4 y.f4.length c4, .slice A5 y.f5.length c5] 36)).heap.size = w3.heap.size + 1 := by simp
  obtain ⟨w4, hw4⟩ : ∃ w4, w3.alloc (.cells #[.int .i64 y.f0, .int .i64 y.f1, .slice A2 y.f2.length c2, .slice A3 y.f3.length c3, .slice A4 y.f4.length c4, .slice A5 y.f5.length c5] 36) = w4 := ⟨_, rfl⟩
  rw [hw4] at hby hay hzy ⊢
  have HM := Lib.hid (mayTx_is (w := w4) y ⟨HC2.out.1, Kd.C_below HC2.out.2 hay, HC3.out.1, Kd.C_below HC3.out.2 hay, HC4.out.1, Kd.C_below HC4.out.2 hay, HC5.out.1, Kd.C_below HC5.out.2 hay⟩)
  have HI4 := Lib.hid (HI3.out.below hay)
  have HB4 := Lib.hid (HB3.out.trans (hay.mono HB3.out.size))
  have HG4 := Lib.hid ((hay.block w.heap.size HZ3.out).trans HG3.out)
  have HW2 := Lib.hid (Kd.R_below HV2.out hay)
  have HW3 := Lib.hid (Kd.R_below HV3.out hay)
  have HW4 := Lib.hid (Kd.R_below HV4.out hay)
  have HW5 := Lib.hid (Kd.R_below HV5.out hay)
  obtain ⟨g, hg⟩ : ∃ g, w3.heap.size = g := ⟨_, rfl⟩
  rw [hg] at hby hzy HZ3 ⊢
  have HY4 := Lib.hid hby
  have HZ4 := Lib.hid (show w.heap.size < g ∧ g < w4.heap.size ∧ x < w4.heap.size from ⟨HZ3.out, by omega, HI4.out.lt⟩)
  have d0 : w4.cell? ⟨g, 0, none⟩ = some (.int .i64 y.f0) := by simp [World.cell?, HY4.out]
  have d1 : w4.cell? ⟨g, 1, none⟩ = some (.int .i64 y.f1) := by simp [World.cell?, HY4.out]
  have d2 : w4.cell? ⟨g, 2, none⟩ = some (.slice A2 y.f2.length c2) := by simp [World.cell?, HY4.out]
  have d3 : w4.cell? ⟨g, 3, none⟩ = some (.slice A3 y.f3.length c3) := by simp [World.cell?, HY4.out]
  have d4 : w4.cell? ⟨g, 4, none⟩ = some (.slice A4 y.f4.length c4) := by simp [World.cell?, HY4.out]
  have d5 : w4.cell? ⟨g, 5, none⟩ = some (.slice A5 y.f5.length c5) := by simp [World.cell?, HY4.out]
  clear hw4 hg hby hay hzy HI3 HB3 HG3 HV2 HV3 HV4 HV5 HC2 HC3 HC4 HC5
  go_wp2_with fail
  refine HM.out.mono ?_
  rintro e w5 ⟨rfl, hb5⟩
  have HI5 := Lib.hid (HI4.out.below hb5)
  have HE := Lib.hid (eEnds_is HI5.out (mayT y) false)
  rw [HER.out] at HE
  have HB5 := Lib.hid (HB4.out.trans (hb5.mono HB4.out.size))
  have HG5 := Lib.hid ((hb5.block w.heap.size (by have := HZ4.out; omega)).trans HG4.out)
  have HY5 := Lib.hid ((hb5.block g HZ4.out.2.1).trans HY4.out)
  have HV2 := Lib.hid (Kd.R_below HW2.out hb5)
  have HV3 := Lib.hid (Kd.R_below HW3.out hb5)
  have HV4 := Lib.hid (Kd.R_below HW4.out hb5)
  have HV5 := Lib.hid (Kd.R_below HW5.out hb5)
  clear hb5 d0 d1 d2 d3 d4 d5 HI4 HB4 HG4 HY4 HM HW2 HW3 HW4 HW5
  go_wp2_with fail
  refine HE.out.mono ?_
  rintro e w6 ⟨rfl, rfl⟩
  have d0 : w6.cell? ⟨g, 0, none⟩ = some (.int .i64 y.f0) := by simp [World.cell?, HY5.out]
  have d1 : w6.cell? ⟨g, 1, none⟩ = some (.int .i64 y.f1) := by simp [World.cell?, HY5.out]
  have d2 : w6.cell? ⟨g, 2, none⟩ = some (.slice A2 y.f2.length c2) := by simp [World.cell?, HY5.out]
  have d3 : w6.cell? ⟨g, 3, none⟩ = some (.slice A3 y.f3.length c3) := by simp [World.cell?, HY5.out]
  have d4 : w6.cell? ⟨g, 4, none⟩ = some (.slice A4 y.f4.length c4) := by simp [World.cell?, HY5.out]
  have d5 : w6.cell? ⟨g, 5, none⟩ = some (.slice A5 y.f5.length c5) := by simp [World.cell?, HY5.out]
  have x0 : w6.cell? ⟨w.heap.size, 0, none⟩ = some (.int .i64 0) := by simp [World.cell?, HG5.out]
  have x1 : w6.cell? ⟨w.heap.size, 1, none⟩ = some (.int .i64 0) := by simp [World.cell?, HG5.out]
  have x2 : w6.cell? ⟨w.heap.size, 2, none⟩ = some (.slice none 0 0) := by simp [World.cell?, HG5.out]
  have x3 : w6.cell? ⟨w.heap.size, 3, none⟩ = some (.slice none 0 0) := by simp [World.cell?, HG5.out]
  have x4 : w6.cell? ⟨w.heap.size, 4, none⟩ = some (.slice none 0 0) := by simp [World.cell?, HG5.out]
  have x5 : w6.cell? ⟨w.heap.size, 5, none⟩ = some (.slice none 0 0) := by simp [World.cell?, HG5.out]
  have y0 : w6.frozen? ⟨w.heap.size, 0, none⟩ = false := by simp [World.frozen?, HG5.out]
  have y1 : w6.frozen? ⟨w.heap.size, 1, none⟩ = false := by simp [World.frozen?, HG5.out]
  have y2 : w6.frozen? ⟨w.heap.size, 2, none⟩ = false := by simp [World.frozen?, HG5.out]
  have y3 : w6.frozen? ⟨w.heap.size, 3, none⟩ = false := by simp [World.frozen?, HG5.out]
  have y4 : w6.frozen? ⟨w.heap.size, 4, none⟩ = false := by simp [World.frozen?, HG5.out]
  have y5 : w6.frozen? ⟨w.heap.size, 5, none⟩ = false := by simp [World.frozen?, HG5.out]
  have HGN : w.heap.size ≠ g := by have := HZ4.out; omega
  by_cases he : er = 0
  · have hq : (er != 0) = false := by rw [he]; rfl
    have HR := Lib.hid (show takeTx l = (y, (l.length : Int) - (s'.l.length : Int), 0) by rw [HR1.out, ← HR2.out, if_pos he])
    obtain ⟨Ae, ce, g1, g2, g3, g4⟩ := HI5.out
    have c0 : w6.cell? ⟨x, 0, none⟩ = some (.slice Ae s'.l.length ce) := by simp [World.cell?, g1]
    have HSL := Lib.hid (HOS.out.2)
    have hwr : wrap64 ((l.length : Int) - (s'.l.length : Int)) = (l.length : Int) - (s'.l.length : Int) := by
      have h1 := HSL.out; have h2 := HLN.out
      unfold wrap64
      omega
    have HXN : w.heap.size ≠ x := by have := HX.out; omega
    have HXM : x ≠ w.heap.size := by have := HX.out; omega
    clear he g1 g2 g3 g4
    go_wp2_with fail
    go_region
    rw [hwr]
    go_wp2_with fail
    have HEB := Lib.hid (blk_drew (blk_put (cs := #[.int .i64 y.f0, .int .i64 y.f1, .slice A2 y.f2.length c2, .slice A3 y.f3.length c3, .slice A4 y.f4.length c4, .slice none 0 0]) (blk_put (cs := #[.int .i64 y.f0, .int .i64 y.f1, .slice A2 y.f2.length c2, .slice A3 y.f3.length c3, .slice none 0 0, .slice none 0 0]) (blk_put (cs := #[.int .i64 y.f0, .int .i64 y.f1, .slice A2 y.f2.length c2, .slice none 0 0, .slice none 0 0, .slice none 0 0]) (blk_put (cs := #[.int .i64 y.f0, .int .i64 y.f1, .slice none 0 0, .slice none 0 0, .slice none 0 0, .slice none 0 0]) (blk_put (cs := #[.int .i64 y.f0, .int .i64 0, .slice none 0 0, .slice none 0 0, .slice none 0 0, .slice none 0 0]) (blk_put (cs := #[.int .i64 0, .int .i64 0, .slice none 0 0, .slice none 0 0, .slice none 0 0, .slice none 0 0]) (HG5.out) 0 (.int .i64 y.f0) rfl) 1 (.int .i64 y.f1) rfl) 2 (.slice A2 y.f2.length c2) rfl) 3 (.slice A3 y.f3.length c3) rfl) 4 (.slice A4 y.f4.length c4) rfl) 5 (.slice A5 y.f5.length c5) rfl))
    have HKS := Lib.hid (((((((((KeepS.refl (fun i => i = w.heap.size) w6)).set (p := ⟨w.heap.size, 0, none⟩) (.inl rfl) (.int .i64 y.f0)).set (p := ⟨w.heap.size, 1, none⟩) (.inl rfl) (.int .i64 y.f1)).set (p := ⟨w.heap.size, 2, none⟩) (.inl rfl) (.slice A2 y.f2.length c2)).set (p := ⟨w.heap.size, 3, none⟩) (.inl rfl) (.slice A3 y.f3.length c3)).set (p := ⟨w.heap.size, 4, none⟩) (.inl rfl) (.slice A4 y.f4.length c4)).set (p := ⟨w.heap.size, 5, none⟩) (.inl rfl) (.slice A5 y.f5.length c5)).drew)
    obtain ⟨W, hW⟩ : ∃ W, (((((((w6).setCell ⟨w.heap.size, 0, none⟩ (.int .i64 y.f0)).setCell ⟨w.heap.size, 1, none⟩ (.int .i64 y.f1)).setCell ⟨w.heap.size, 2, none⟩ (.slice A2 y.f2.length c2)).setCell ⟨w.heap.size, 3, none⟩ (.slice A3 y.f3.length c3)).setCell ⟨w.heap.size, 4, none⟩ (.slice A4 y.f4.length c4)).setCell ⟨w.heap.size, 5, none⟩ (.slice A5 y.f5.length c5)).drew = W := ⟨_, rfl⟩
    rw [hW] at HEB HKS ⊢
    clear hW
    refine bodyPost_ret (results_ctt rfl _ _ w.heap.size 36 #[.int .i64 y.f0, .int .i64 y.f1, .slice A2 y.f2.length c2, .slice A3 y.f3.length c3, .slice A4 y.f4.length c4, .slice A5 y.f5.length c5] (0, 0) _ rfl HEB.out Try.underlying36 rfl (by kernel_rfl)) rfl ?_
    rw [HR.out]
    exact ⟨_, _, _, _, rfl, Kd.R_mono (R_keepO (fun i hi => hi) HV2.out HKS.out) (fun k hk => trivial), Kd.R_mono (R_keepO (fun i hi => hi) HV3.out HKS.out) (fun k hk => trivial), Kd.R_mono (R_keepO (fun i hi => hi.1) HV4.out HKS.out) (fun k hk => hk.2), Kd.R_mono (R_keepO (fun i hi => hi.1) HV5.out HKS.out) (fun k hk => hk.2), HB5.out.trans (HKS.out.below (B := w.heap.size) HB5.out.size (by rintro i rfl; exact Nat.le_refl _))⟩
  · have hq : (er != 0) = true := bne_iff_ne.2 he
    have HR := Lib.hid (show takeTx l = (zeroTx, 0, er) by rw [HR1.out, ← HR2.out, if_neg he])
    clear he
    go_wp2_with fail
    have HEB := Lib.hid (blk_put (cs := #[.int .i64 0, .int .i64 0, .slice none 0 0, .slice none 0 0, .slice none 0 0, .slice none 0 0]) (blk_put (cs := #[.int .i64 0, .int .i64 0, .slice none 0 0, .slice none 0 0, .slice none 0 0, .slice none 0 0]) (blk_put (cs := #[.int .i64 0, .int .i64 0, .slice none 0 0, .slice none 0 0, .slice none 0 0, .slice none 0 0]) (blk_put (cs := #[.int .i64 0, .int .i64 0, .slice none 0 0, .slice none 0 0, .slice none 0 0, .slice none 0 0]) (blk_put (cs := #[.int .i64 0, .int .i64 0, .slice none 0 0, .slice none 0 0, .slice none 0 0, .slice none 0 0]) (blk_put (cs := #[.int .i64 0, .int .i64 0, .slice none 0 0, .slice none 0 0, .slice none 0 0, .slice none 0 0]) (HG5.out) 0 (.int .i64 0) rfl) 1 (.int .i64 0) rfl) 2 (.slice none 0 0) rfl) 3 (.slice none 0 0) rfl) 4 (.slice none 0 0) rfl) 5 (.slice none 0 0) rfl)
    have HKS := Lib.hid ((((((((KeepS.refl (fun i => i = w.heap.size) w6)).set (p := ⟨w.heap.size, 0, none⟩) (.inl rfl) (.int .i64 0)).set (p := ⟨w.heap.size, 1, none⟩) (.inl rfl) (.int .i64 0)).set (p := ⟨w.heap.size, 2, none⟩) (.inl rfl) (.slice none 0 0)).set (p := ⟨w.heap.size, 3, none⟩) (.inl rfl) (.slice none 0 0)).set (p := ⟨w.heap.size, 4, none⟩) (.inl rfl) (.slice none 0 0)).set (p := ⟨w.heap.size, 5, none⟩) (.inl rfl) (.slice none 0 0))
    obtain ⟨W, hW⟩ : ∃ W, ((((((w6).setCell ⟨w.heap.size, 0, none⟩ (.int .i64 0)).setCell ⟨w.heap.size, 1, none⟩ (.int .i64 0)).setCell ⟨w.heap.size, 2, none⟩ (.slice none 0 0)).setCell ⟨w.heap.size, 3, none⟩ (.slice none 0 0)).setCell ⟨w.heap.size, 4, none⟩ (.slice none 0 0)).setCell ⟨w.heap.size, 5, none⟩ (.slice none 0 0) = W := ⟨_, rfl⟩
    rw [hW] at HEB HKS ⊢
    clear hW
    refine bodyPost_ret (results_ctt rfl _ _ w.heap.size 36 #[.int .i64 0, .int .i64 0, .slice none 0 0, .slice none 0 0, .slice none 0 0, .slice none 0 0] (0, 0) _ rfl HEB.out Try.underlying36 rfl (by kernel_rfl)) rfl ?_
    rw [HR.out]
    exact ⟨_, _, _, _, rfl, Kd.R_nil _ _ _ _ _, Kd.R_nil _ _ _ _ _, Kd.R_nil _ _ _ _ _, Kd.R_nil _ _ _ _ _, HB5.out.trans (HKS.out.below (B := w.heap.size) HB5.out.size (by rintro i rfl; exact Nat.le_refl _))⟩
end Go.Proofs.Ytgiefblcckikeaa.M
namespace Go.Proofs.Ytgiefblcckikeaa.G
open Go.RowKit Go.Proofs.YtgiefblcckikeaaW.PrintWords Go.Proofs.Ytgiefblcckikeaa.M
def record_TakeTxn.f (l0 : List Int) : Option (Int × Int × List Int × List Int × List S93 × List S93 × Int × Int) := if okB l0 = true ∧ l0.length < 140737488355328 then some ((takeTx l0).1.f0, (takeTx l0).1.f1, (takeTx l0).1.f2, (takeTx l0).1.f3, (takeTx l0).1.f4, (takeTx l0).1.f5, (takeTx l0).2.1, (takeTx l0).2.2) else none
end Go.Proofs.Ytgiefblcckikeaa.G
end

section

/- law04's begun returns true (by hand: the printed walk is long). -/
set_option maxRecDepth 100000
set_option linter.unusedVariables false
set_option linter.unusedSimpArgs false
attribute [local irreducible] Go.wpStill
namespace Go.Proofs.Ytgiefblcckikeaa.M
open Go.RowKit Go.Proofs.YtgiefblcckikeaaW.PrintWords Go.Proofs.YtgiefblcckikeaaW.PrintLast Go.Proofs.YtgiefblcckikeaaW.PrintMore Go.Proofs.Ytgiefblcckikeaa.G
abbrev bgT : List TxD := [(⟨1, 3, [], [], [], []⟩ : TxD)]
abbrev bgB : List Int := [2, 1, 2, 2, 2, 5, 2, 1, 2, 1, 2, 3, 0, 0, 0, 0]
theorem bg_entF : entF 1 2 5 bgT = (bgB, 0) := by decide +kernel
theorem bg_take : takeEn bgB = ((1, 2, 5, bgT), 0) := by kernel_rfl
theorem bg_same : ∃ k, G.trivetref04_SameEntry.f k 1 2 5 bgT 1 2 5 bgT = some true := by
  refine ⟨20, ?_⟩
  rw [sameEn_r 20 1 2 5 bgT 1 2 5 bgT (fun t ht => by rw [List.mem_singleton.1 ht]; decide) (by decide) (by decide) (fun t ht => by rw [List.mem_singleton.1 ht]; exact ⟨by decide, by decide, by decide, by decide⟩)]
  have : eqEn 1 2 5 bgT 1 2 5 bgT = true := by kernel_rfl
  rw [this]
set_option maxHeartbeats 1000000 in
theorem begun_is (w : World) : Calls Try.prog 7 #[] w fun e w' => e = .returned (.bool true) ∧ Below w.heap.size w w' := by
  go_enter Try.func7, Try.ntmps7
  go_wp2_with fail
  refine (G.trivetlaw04_simple.calls 1 2 5 bgT bgB w rfl).mono ?_
  rintro e w1 ⟨v3, v4, rfl, hs, hr, hb⟩
  obtain ⟨A, c, rfl, hc, hC⟩ := Kd.S_reads hs
  obtain ⟨B, d, rfl⟩ := Kd.R_slice hr
  obtain ⟨-, hd, hD⟩ := Kd.R_reads' hr
  obtain ⟨l, hl⟩ : ∃ l, bgT = l := ⟨_, rfl⟩
  obtain ⟨bs, hbs⟩ : ∃ bs, bgB = bs := ⟨_, rfl⟩
  have hEF := bg_entF; have hTK := bg_take; obtain ⟨K, hSM⟩ := bg_same
  have ho : okE 1 2 5 bgT = true := by kernel_rfl
  have hok : okB bgB = true := by decide
  have hbl : bgB.length < 140737488355328 := by decide
  rw [hl, hbs] at hEF hTK
  rw [hl] at hSM ho hc hC
  rw [hbs] at hok hbl hd hD
  rw [show (bgT).length = l.length by rw [hl], show (bgB).length = bs.length by rw [hbs]]
  have HC := Lib.hid hC; have HD := Lib.hid hD; have HB := Lib.hid hb; have HCC := Lib.hid (And.intro hc hd)
  have HEF := Lib.hid hEF; have HTK := Lib.hid hTK; have HSM := Lib.hid hSM; have HO := Lib.hid (And.intro ho (And.intro hok hbl))
  clear hs hr hb hC hD hc hd hl hbs hEF hTK hSM ho hok hbl
  go_wp2_with fail
  have hbx := heap_alloc_new w1 (.cells #[.int .i64 1, .int .i64 2, .int .i64 5, .slice A l.length c] 24)
  have hay := (Below.refl _ w1).alloc (Nat.le_refl _) (.cells #[.int .i64 1, .int .i64 2, .int .i64 5, .slice A l.length c] 24)
  have hz : (w1.alloc (.cells #[.int .i64 1, .int .i64 2, .int .i64 5, .slice A l.length c] 24)).heap.size = w1.heap.size + 1 := by simp
  obtain ⟨w2, hw2⟩ : ∃ w2, w1.alloc (.cells #[.int .i64 1, .int .i64 2, .int .i64 5, .slice A l.length c] 24) = w2 := ⟨_, rfl⟩
  rw [hw2] at hbx hay hz ⊢
  obtain ⟨g, hg⟩ : ∃ g, w1.heap.size = g := ⟨_, rfl⟩
  have HC2 := Lib.hid (Kd.C_below HC.out hay); have HD2 := Lib.hid (Kd.C_below HD.out hay); have HB2 := Lib.hid (HB.out.trans (hay.mono HB.out.size))
  rw [hg] at hbx hz ⊢
  have HX2 := Lib.hid (And.intro hbx (show g < w2.heap.size by omega))
  clear hw2 hbx hay hz hg HC HD HB
  have a0 : w2.cell? ⟨g, 0, none⟩ = some (.int .i64 1) := by simp [World.cell?, HX2.out.1]
  have a1 : w2.cell? ⟨g, 1, none⟩ = some (.int .i64 2) := by simp [World.cell?, HX2.out.1]
  have a2 : w2.cell? ⟨g, 2, none⟩ = some (.int .i64 5) := by simp [World.cell?, HX2.out.1]
  have a3 : w2.cell? ⟨g, 3, none⟩ = some (.slice A l.length c) := by simp [World.cell?, HX2.out.1]
  go_wp2_with fail
  refine (entry_is 1 2 5 A c l w2 HC2.out HO.out.1).mono ?_
  rw [HEF.out]
  rintro e w3 ⟨v, rfl, hv, hb⟩
  obtain ⟨V, cv, rfl⟩ := Kd.R_slice hv
  obtain ⟨-, hvl, hV⟩ := Kd.R_reads' hv
  have HV := Lib.hid (show Kd.C (Kd.int .u8) w3 V bs.length bs from hV); have HVL := Lib.hid (show bs.length ≤ cv from hvl)
  have HC3 := Lib.hid (Kd.C_below HC2.out hb); have HD3 := Lib.hid (Kd.C_below HD2.out hb); have HB3 := Lib.hid (HB2.out.trans (hb.mono HB2.out.size))
  have HX3 := Lib.hid (And.intro ((hb.block g HX2.out.2).trans HX2.out.1) (Nat.lt_of_lt_of_le HX2.out.2 hb.size))
  clear hv hvl hV hb a0 a1 a2 a3 HC2 HD2 HB2 HX2
  go_wp2_with fail
  refine (takeEn_is B d bs w3 HD3.out HCC.out.2 HO.out.2.1 HO.out.2.2).mono ?_
  rw [HTK.out]
  rintro e w4 ⟨v, rfl, hv, hb⟩
  obtain ⟨Y, cy, rfl, hyc, hY⟩ := Kd.S_reads hv
  have HY := Lib.hid (show Kd.C G.k36 w4 Y l.length l from hY); have HYC := Lib.hid (show l.length ≤ cy from hyc)
  have HC4 := Lib.hid (Kd.C_below HC3.out hb); have HD4 := Lib.hid (Kd.C_below HD3.out hb); have HV4 := Lib.hid (Kd.C_below HV.out hb); have HB4 := Lib.hid (HB3.out.trans (hb.mono HB3.out.size))
  have HX4 := Lib.hid (And.intro ((hb.block g HX3.out.2).trans HX3.out.1) (Nat.lt_of_lt_of_le HX3.out.2 hb.size))
  clear hv hyc hY hb HC3 HD3 HB3 HX3 HV
  go_wp2_with fail
  have hbx := heap_alloc_new w4 (.cells #[.int .i64 1, .int .i64 2, .int .i64 5, .slice Y l.length cy] 24)
  have hay := (Below.refl _ w4).alloc (Nat.le_refl _) (.cells #[.int .i64 1, .int .i64 2, .int .i64 5, .slice Y l.length cy] 24)
  obtain ⟨w5, hw5⟩ : ∃ w5, w4.alloc (.cells #[.int .i64 1, .int .i64 2, .int .i64 5, .slice Y l.length cy] 24) = w5 := ⟨_, rfl⟩
  rw [hw5] at hbx hay ⊢
  obtain ⟨g2, hg2⟩ : ∃ g2, w4.heap.size = g2 := ⟨_, rfl⟩
  have HC5 := Lib.hid (Kd.C_below HC4.out hay); have HD5 := Lib.hid (Kd.C_below HD4.out hay); have HV5 := Lib.hid (Kd.C_below HV4.out hay); have HY5 := Lib.hid (Kd.C_below HY.out hay); have HB5 := Lib.hid (HB4.out.trans (hay.mono HB4.out.size))
  have HX5 := Lib.hid ((hay.block g HX4.out.2).trans HX4.out.1)
  rw [hg2] at hbx ⊢
  have HG5 := Lib.hid hbx
  clear hw5 hbx hay hg2 HC4 HD4 HB4 HX4 HV4 HY
  have a0 : w5.cell? ⟨g, 0, none⟩ = some (.int .i64 1) := by simp [World.cell?, HX5.out]
  have a1 : w5.cell? ⟨g, 1, none⟩ = some (.int .i64 2) := by simp [World.cell?, HX5.out]
  have a2 : w5.cell? ⟨g, 2, none⟩ = some (.int .i64 5) := by simp [World.cell?, HX5.out]
  have a3 : w5.cell? ⟨g, 3, none⟩ = some (.slice A l.length c) := by simp [World.cell?, HX5.out]
  have b0 : w5.cell? ⟨g2, 0, none⟩ = some (.int .i64 1) := by simp [World.cell?, HG5.out]
  have b1 : w5.cell? ⟨g2, 1, none⟩ = some (.int .i64 2) := by simp [World.cell?, HG5.out]
  have b2 : w5.cell? ⟨g2, 2, none⟩ = some (.int .i64 5) := by simp [World.cell?, HG5.out]
  have b3 : w5.cell? ⟨g2, 3, none⟩ = some (.slice Y l.length cy) := by simp [World.cell?, HG5.out]
  go_wp2_with fail
  refine (G.bytes_Equal.calls V cv bs B d bs true w5 HV5.out HVL.out HD5.out HCC.out.2 (by unfold G.bytes_Equal.f; simp)).mono ?_
  rintro e w6 ⟨rfl, ⟨n, rfl⟩⟩
  go_wp2_with fail
  refine (G.trivetref04_SameEntry.calls K 1 2 5 A c l 1 2 5 Y cy l true _ (Kd.C_drewN HC5.out n) HCC.out.1 (Kd.C_drewN HY5.out n) HYC.out HSM.out).mono ?_
  rintro e w7 ⟨rfl, hb⟩
  have HB7 := Lib.hid (below_then (pw_below_drewN HB5.out n) hb)
  clear hb
  go_wp2_with fail
  go_ret
  exact ⟨rfl, HB7.out⟩
end Go.Proofs.Ytgiefblcckikeaa.M
namespace Go.Proofs.Ytgiefblcckikeaa.G
open Go.RowKit Go.Proofs.YtgiefblcckikeaaW.PrintWords Go.Proofs.Ytgiefblcckikeaa.M
def trivetlaw04_begun.f : Option Bool := some true
theorem trivetlaw04_begun.calls (r : Bool) (w : World) (h : trivetlaw04_begun.f = some r) :
    Calls Try.prog 7 #[] w fun e w' => e = .returned (.bool r) ∧ Below w.heap.size w w' := by
  obtain rfl := Option.some.inj h
  exact begun_is w
end Go.Proofs.Ytgiefblcckikeaa.G
end

section

/- RecordPuts returns true. -/
set_option maxRecDepth 100000
set_option linter.unusedVariables false
set_option linter.unusedSimpArgs false
attribute [local irreducible] Go.wpStill
namespace Go.Proofs.Ytgiefblcckikeaa.M
open Go.RowKit Go.Proofs.YtgiefblcckikeaaW.PrintWords Go.Proofs.YtgiefblcckikeaaW.PrintLast Go.Proofs.YtgiefblcckikeaaW.PrintMore Go.Proofs.Ytgiefblcckikeaa.G
theorem infoU8' : (Try.prog.info? 5).map (fun i => (i.zero, i.size, i.bytes)) = some (some (.int .u8 0), 1, 1) := by kernel_rfl
structure TxW (w : World) (lo : Nat) (t : TxD) (A2 : Option Addr) (c2 : Nat) (A3 : Option Addr) (c3 : Nat) (A4 : Option Addr) (c4 : Nat) (A5 : Option Addr) (c5 : Nat) : Prop where
  r2 : Kd.R (Kd.int .u8) 5 w lo (fun k => lo ≤ k) (.slice A2 t.f2.length c2) t.f2
  r3 : Kd.R (Kd.int .i64) 2 w lo (fun k => lo ≤ k) (.slice A3 t.f3.length c3) t.f3
  r4 : Kd.R G.k93 93 w lo (fun k => lo ≤ k) (.slice A4 t.f4.length c4) t.f4
  r5 : Kd.R G.k93 93 w lo (fun k => lo ≤ k) (.slice A5 t.f5.length c5) t.f5
theorem TxW.of {w : World} {lo : Nat} {t : TxD} {o2 o3 o4 o5 : Nat → Prop} {v2 v3 v4 v5 : Value} (h2 : Kd.R (Kd.int .u8) 5 w lo o2 v2 t.f2) (h3 : Kd.R (Kd.int .i64) 2 w lo o3 v3 t.f3) (h4 : Kd.R G.k93 93 w lo o4 v4 t.f4) (h5 : Kd.R G.k93 93 w lo o5 v5 t.f5) :
    ∃ A2 c2 A3 c3 A4 c4 A5 c5, v2 = .slice A2 t.f2.length c2 ∧ v3 = .slice A3 t.f3.length c3 ∧ v4 = .slice A4 t.f4.length c4 ∧ v5 = .slice A5 t.f5.length c5 ∧ TxW w lo t A2 c2 A3 c3 A4 c4 A5 c5 := by
  obtain ⟨A2, c2, rfl⟩ := Kd.R_slice h2
  obtain ⟨A3, c3, rfl⟩ := Kd.R_slice h3
  obtain ⟨A4, c4, rfl⟩ := Kd.R_slice h4
  obtain ⟨A5, c5, rfl⟩ := Kd.R_slice h5
  exact ⟨A2, c2, A3, c3, A4, c4, A5, c5, rfl, rfl, rfl, rfl, Kd.R_mono (Kd.R_bound h2) (fun k hk => hk.2.1), Kd.R_mono (Kd.R_bound h3) (fun k hk => hk.2.1), Kd.R_mono (Kd.R_bound h4) (fun k hk => hk.2.1), Kd.R_mono (Kd.R_bound h5) (fun k hk => hk.2.1)⟩
theorem TxW.keep {w w' : World} {lo : Nat} {t : TxD} {A2 A3 A4 A5 : Option Addr} {c2 c3 c4 c5 : Nat} (h : TxW w lo t A2 c2 A3 c3 A4 c4 A5 c5) {S : Nat → Prop} (hk : KeepS S w w') (hs : ∀ k, S k → k < lo) : TxW w' lo t A2 c2 A3 c3 A4 c4 A5 c5 :=
  have ho : ∀ i, lo ≤ i → ¬ S i := fun i h1 h2 => by have := hs i h2; omega
  ⟨R_keepO ho h.r2 hk, R_keepO ho h.r3 hk, R_keepO ho h.r4 hk, R_keepO ho h.r5 hk⟩
theorem TxW.below {w w' : World} {lo : Nat} {t : TxD} {A2 A3 A4 A5 : Option Addr} {c2 c3 c4 c5 : Nat} (h : TxW w lo t A2 c2 A3 c3 A4 c4 A5 c5) (hb : Below w.heap.size w w') : TxW w' lo t A2 c2 A3 c3 A4 c4 A5 c5 :=
  h.keep (KeepS.of_below (fun _ => False) hb) (fun _ h => h.elim)
theorem TxW.c {w : World} {lo : Nat} {t : TxD} {A2 A3 A4 A5 : Option Addr} {c2 c3 c4 c5 : Nat} (h : TxW w lo t A2 c2 A3 c3 A4 c4 A5 c5) : TxC w t A2 c2 A3 c3 A4 c4 A5 c5 :=
  ⟨(Kd.R_reads' h.r2).2.1, (Kd.R_reads' h.r2).2.2, (Kd.R_reads' h.r3).2.1, (Kd.R_reads' h.r3).2.2, (Kd.R_reads' h.r4).2.1, (Kd.R_reads' h.r4).2.2, (Kd.R_reads' h.r5).2.1, (Kd.R_reads' h.r5).2.2⟩
theorem txC_zero (w : World) : TxC w zeroTx none 0 none 0 none 0 none 0 := ⟨Nat.le_refl _, Kd.C_nil _ _, Nat.le_refl _, Kd.C_nil _ _, Nat.le_refl _, Kd.C_nil _ _, Nat.le_refl _, Kd.C_nil _ _⟩
theorem eqTx_refl (t : TxD) : eqTx t t = true := by unfold eqTx; simp [eqS_refl]
abbrev txO (t : TxD) (A2 : Option Addr) (c2 : Nat) (A3 : Option Addr) (c3 : Nat) (A4 : Option Addr) (c4 : Nat) (A5 : Option Addr) (c5 : Nat) : Obj := .cells #[.int .i64 t.f0, .int .i64 t.f1, .slice A2 t.f2.length c2, .slice A3 t.f3.length c3, .slice A4 t.f4.length c4, .slice A5 t.f5.length c5] 36
set_option maxHeartbeats 4000000 in
theorem puts_walk (w : World) (t : TxD) {A2 A3 A4 A5 : Option Addr} {c2 c3 c4 c5 : Nat} (hC : TxC w t A2 c2 A3 c3 A4 c4 A5 c5) (ht : okTd t) (H : Option Addr) (ch : Nat) (hd : List Int) (hH : Kd.C (Kd.int .u8) w H hd.length hd) (hch : hd.length ≤ ch) (hhd : hd.length ≤ 140737488351232) (B : Option Addr) (cb : Nat) (bs : List Int) (hB : Kd.C (Kd.int .u8) w B bs.length bs) (hcb : bs.length ≤ cb) (hbs : bs.length ≤ 140737488351232) (hok : okB bs = true) :
    Calls Try.prog 5 #[txV t A2 c2 A3 c3 A4 c4 A5 c5, .slice H hd.length ch, .slice B bs.length cb] w fun e w' => e = .returned (.bool true) ∧ Below w.heap.size w w' := by
  have HO := Lib.hid (okT_of ht)
  have HC := Lib.hid hC
  have HH := Lib.hid hH; have HCH := Lib.hid hch; have HHD := Lib.hid hhd; have HBB := Lib.hid hB; have HCB := Lib.hid hcb; have HBS := Lib.hid hbs; have HOK := Lib.hid hok
  have hbx := heap_alloc_new w (txO t A2 c2 A3 c3 A4 c4 A5 c5)
  have hay := (Below.refl _ w).alloc (Nat.le_refl _) (txO t A2 c2 A3 c3 A4 c4 A5 c5)
  have hz : w.heap.size < (w.alloc (txO t A2 c2 A3 c3 A4 c4 A5 c5)).heap.size := by simp
  have HX0 := Lib.hid hbx; have HB0 := Lib.hid hay; have HZ0 := Lib.hid hz
  clear hbx hay hz hC ht hH hch hhd hB hcb hbs hok
  go_enter Try.func5, Try.ntmps5
  go_wp2_with fail
  refine (begun_is _).mono ?_
  rintro e w2 ⟨rfl, hb⟩
  have HB2 := Lib.hid (HB0.out.trans (hb.mono HB0.out.size))
  have HX2 := Lib.hid ((hb.block w.heap.size HZ0.out).trans HX0.out)
  clear hb HB0 HX0 HZ0
  obtain ⟨g, hg⟩ : ∃ g, w.heap.size = g := ⟨_, rfl⟩
  have HG := Lib.hid hg
  rw [hg] at HX2 ⊢
  clear hg
  go_wp2_with fail
  refine (bclone_calls H ch hd w2 (Kd.C_below HH.out HB2.out) HCH.out (by have := HHD.out; omega)).mono ?_
  rintro e w3 ⟨v, rfl, hv, hb⟩
  obtain ⟨V, cv, rfl⟩ := Kd.R_slice hv
  obtain ⟨-, hvl, hV⟩ := Kd.R_reads' hv
  have HV3 := Lib.hid (show Kd.R (Kd.int .u8) 5 w3 w.heap.size (fun _ => True) _ hd from Kd.R_lower hv HB2.out.size)
  have HVB := Lib.hid (show ∀ k, (Value.slice V hd.length cv).ownBlock = some k → k < w3.heap.size from fun k hk => ((Kd.R_bound HV3.out).1 k hk).2.2.1)
  have HB3 := Lib.hid (HB2.out.trans (hb.mono HB2.out.size)); have HX3 := Lib.hid (blk_below HX2.out hb)
  clear hv hb hvl hV HB2 HX2
  have a0 : w3.cell? ⟨g, 0, none⟩ = some (.int .i64 t.f0) := (blk_cell HX3.out 0).trans rfl
  have a1 : w3.cell? ⟨g, 1, none⟩ = some (.int .i64 t.f1) := (blk_cell HX3.out 1).trans rfl
  have a2 : w3.cell? ⟨g, 2, none⟩ = some (.slice A2 t.f2.length c2) := (blk_cell HX3.out 2).trans rfl
  have a3 : w3.cell? ⟨g, 3, none⟩ = some (.slice A3 t.f3.length c3) := (blk_cell HX3.out 3).trans rfl
  have a4 : w3.cell? ⟨g, 4, none⟩ = some (.slice A4 t.f4.length c4) := (blk_cell HX3.out 4).trans rfl
  have a5 : w3.cell? ⟨g, 5, none⟩ = some (.slice A5 t.f5.length c5) := (blk_cell HX3.out 5).trans rfl
  go_wp2_with fail
  have h4 := putTxn_is H ch hd t w3 (Kd.C_below HH.out HB3.out) HCH.out (HC.out.below HB3.out) HO.out.1 (by have := HHD.out; omega)
  obtain ⟨bl, hbl⟩ : ∃ bl, (putF hd t).1 = bl := ⟨_, rfl⟩
  obtain ⟨er, her⟩ : ∃ er, (putF hd t).2 = er := ⟨_, rfl⟩
  rw [hbl, her] at h4
  have HPF := Lib.hid (show putF hd t = (bl, er) by rw [← hbl, ← her])
  have HER := Lib.hid her
  clear hbl her
  refine h4.mono ?_
  rintro e w4 ⟨v, rfl, hv, hb⟩
  obtain ⟨Z, cz, rfl⟩ := Kd.R_slice hv
  obtain ⟨-, hzl, hZ⟩ := Kd.R_reads' hv
  have HZ4 := Lib.hid (show Kd.R (Kd.int .u8) 5 w4 w3.heap.size (fun k => w3.heap.size ≤ k) (.slice Z bl.length cz) bl from Kd.R_mono (Kd.R_bound hv) (fun k hk => hk.2.1)); have HZL := Lib.hid hzl
  have HV4 := Lib.hid (Kd.R_below HV3.out hb)
  have HB4 := Lib.hid (HB3.out.trans (hb.mono HB3.out.size)); have HX4 := Lib.hid (blk_below HX3.out hb)
  clear hv hb hzl hZ h4 a0 a1 a2 a3 a4 a5 HB3 HX3 HV3
  have a0 : w4.cell? ⟨g, 0, none⟩ = some (.int .i64 t.f0) := (blk_cell HX4.out 0).trans rfl
  have a1 : w4.cell? ⟨g, 1, none⟩ = some (.int .i64 t.f1) := (blk_cell HX4.out 1).trans rfl
  have a2 : w4.cell? ⟨g, 2, none⟩ = some (.slice A2 t.f2.length c2) := (blk_cell HX4.out 2).trans rfl
  have a3 : w4.cell? ⟨g, 3, none⟩ = some (.slice A3 t.f3.length c3) := (blk_cell HX4.out 3).trans rfl
  have a4 : w4.cell? ⟨g, 4, none⟩ = some (.slice A4 t.f4.length c4) := (blk_cell HX4.out 4).trans rfl
  have a5 : w4.cell? ⟨g, 5, none⟩ = some (.slice A5 t.f5.length c5) := (blk_cell HX4.out 5).trans rfl
  go_wp2_with fail
  have h4 := refPut_is H ch hd t (Kd.C_below HH.out HB4.out) HCH.out (HC.out.below HB4.out) HO.out.1 (by have := HHD.out; omega)
  rw [HER.out] at h4
  refine h4.mono ?_
  rintro e w5 ⟨rfl, hb⟩
  have HV5 := Lib.hid (Kd.R_below HV4.out hb); have HZ5 := Lib.hid (Kd.R_below HZ4.out hb)
  have HB5 := Lib.hid (HB4.out.trans (hb.mono HB4.out.size)); have HX5 := Lib.hid (blk_below HX4.out hb)
  clear hb h4 a0 a1 a2 a3 a4 a5 HB4 HX4 HV4 HZ4
  have q1 : (er != er) = false := by simp
  go_wp2_with fail
  obtain ⟨-, hvl, hV⟩ := Kd.R_reads' HV5.out
  have h4 := bEqual_is H ch hd V cv hd (Kd.C_below HH.out HB5.out) HCH.out hV hvl
  rw [eqS_refl] at h4
  refine h4.mono ?_
  rintro e w6 ⟨rfl, hb⟩
  have HV6 := Lib.hid (Kd.R_below HV5.out hb); have HZ6 := Lib.hid (Kd.R_below HZ5.out hb)
  have HB6 := Lib.hid (HB5.out.trans (hb.mono HB5.out.size)); have HX6 := Lib.hid (blk_below HX5.out hb)
  clear hb h4 hvl hV HB5 HX5 HV5 HZ5 q1
  have a0 : w6.cell? ⟨g, 0, none⟩ = some (.int .i64 t.f0) := (blk_cell HX6.out 0).trans rfl
  have a1 : w6.cell? ⟨g, 1, none⟩ = some (.int .i64 t.f1) := (blk_cell HX6.out 1).trans rfl
  have a2 : w6.cell? ⟨g, 2, none⟩ = some (.slice A2 t.f2.length c2) := (blk_cell HX6.out 2).trans rfl
  have a3 : w6.cell? ⟨g, 3, none⟩ = some (.slice A3 t.f3.length c3) := (blk_cell HX6.out 3).trans rfl
  have a4 : w6.cell? ⟨g, 4, none⟩ = some (.slice A4 t.f4.length c4) := (blk_cell HX6.out 4).trans rfl
  have a5 : w6.cell? ⟨g, 5, none⟩ = some (.slice A5 t.f5.length c5) := (blk_cell HX6.out 5).trans rfl
  go_upto_region 7 with fail
  go_cut [56] (fun s wx => s = .bool false ∧ Below w.heap.size w wx)
  case first =>
    by_cases he : er = 0
    · subst he
      obtain ⟨hm, hbl, hlen⟩ : mayT t = true ∧ bl = hd ++ txB t ∧ (hd ++ txB t).length ≤ 1048576 := by
        have h1 := HPF.out
        unfold putF at h1
        split at h1
        · split at h1
          · exact absurd (Prod.mk.inj h1).2 (by decide)
          · exact ⟨by assumption, (Prod.mk.inj h1).1.symm, by omega⟩
        · exact absurd (Prod.mk.inj h1).2 (by decide)
      go_wp2_with fail
      refine (refForm_is t (HC.out.below HB6.out) HO.out.1 hm).mono ?_
      rintro e w7 ⟨v, rfl, hv, hb⟩
      obtain ⟨F, cf, rfl⟩ := Kd.R_slice hv
      obtain ⟨-, hfl, hF⟩ := Kd.R_reads' hv
      obtain ⟨fm, hfm⟩ : ∃ fm, txB t = fm := ⟨_, rfl⟩
      rw [hfm] at hfl hF hbl hlen ⊢
      have HBL := Lib.hid hbl
      have hsum : hd.length + fm.length ≤ 1048576 := by rw [List.length_append] at hlen; exact hlen
      have HF := Lib.hid (And.intro hfl hF); have HB7 := Lib.hid (HB6.out.trans (hb.mono HB6.out.size)); have HZ7 := Lib.hid (Kd.R_below HZ6.out hb); have HV7 := Lib.hid (Kd.R_below HV6.out hb)
      have HSUM := Lib.hid hsum
      clear hv hfl hF hb hfm hbl a0 a1 a2 a3 a4 a5 HX6 HB6 HZ6 HV6 hm hlen hsum
      have he2 : (0 == (0 : Int)) = true := rfl
      go_wp2_with ((with_reducible refine gate_builtin (b := .append) (xs := #[.tmp 49, .tmp 51]) rfl ?_); (refine gate_guard (by rfl) ?_; dsimp only); at_builtin; refine Kd.R_append_rows (Kd.int .u8) (w0 := w) w.heap.size rfl (.tmp 49) (.tmp 51) 26 5 (.int .u8 0) 1 rfl Try.underlying26 infoU8' rfl (by decide) (by omega) _ hd fm _ _ _ (fun _ => True) (fun _ => False) rfl rfl HV7.out HF.out.2 (fun _ _ h => h) (fun _ h => h.elim) (fun _ _ => trivial) HB7.out HB7.out.size (by have := HSUM.out; omega) ?_; intro v1 w8 ho hb8 hg8 _)
      rw [← HBL.out] at ho
      obtain ⟨A8, c8, rfl⟩ := Kd.R_slice ho
      obtain ⟨-, h8l, h8⟩ := Kd.R_reads' ho
      have h4 := bEqual_is Z cz bl A8 c8 bl (Kd.R_reads' (Kd.R_grown HZ7.out hg8 (fun k (hk : _ ≤ k) e => by have := HVB.out k e.symm; omega))).2.2 HZL.out h8 h8l
      rw [eqS_refl] at h4
      refine h4.mono ?_
      rintro e w9 ⟨rfl, hb⟩
      have HB9 := Lib.hid (hb8.trans (hb.mono hb8.size))
      clear hb h4 h8l h8 ho hb8 hg8
      go_wp2_with fail
      go_meet
      exact ⟨rfl, HB9.out⟩
    · have q2 : (er != 0) = true := bne_iff_ne.2 he
      have q3 : (er == 0) = false := beq_eq_false_iff_ne.2 he
      obtain rfl : bl = [] := by
        have h1 := HPF.out
        unfold putF at h1
        split at h1
        · split at h1
          · exact (Prod.mk.inj h1).1.symm
          · exact absurd (Prod.mk.inj h1).2.symm he
        · exact (Prod.mk.inj h1).1.symm
      clear he
      go_wp2_with fail
      go_meet
      exact ⟨rfl, HB6.out⟩
  case rest =>
    obtain ⟨rfl, hb⟩ := hcut
    obtain ⟨w7, rfl⟩ : ∃ w7, w7 = wc := ⟨_, rfl⟩
    have HB7 := Lib.hid hb
    clear hb a0 a1 a2 a3 a4 a5 HB6 HX6 HZ6 HV6
    go_wp2_with fail
    have h0 := heap_alloc_new w7 (.cells #[.slice B bs.length cb, .int .i64 0, .int .i64 0, .bool false] 45)
    have b0 := (Below.refl _ w7).alloc (Nat.le_refl _) (.cells #[.slice B bs.length cb, .int .i64 0, .int .i64 0, .bool false] 45)
    obtain ⟨w8, hw8⟩ : ∃ w8, w7.alloc (.cells #[.slice B bs.length cb, .int .i64 0, .int .i64 0, .bool false] 45) = w8 := ⟨_, rfl⟩
    obtain ⟨x, hx⟩ : ∃ x, w7.heap.size = x := ⟨_, rfl⟩
    have hX := hx
    rw [hw8] at h0 b0 ⊢
    have HI8 := Lib.hid (show IsRd bs w7 w8 x ⟨bs, 0, false⟩ from ⟨B, cb, 0, by rw [← hx]; simpa using h0, by omega, HCB.out, Kd.C_below HBB.out HB7.out, Nat.zero_le _, rfl, by have := HBS.out; omega⟩)
    have HD8 := Lib.hid b0
    have HB8 := Lib.hid (HB7.out.trans (b0.mono HB7.out.size))
    rw [hx] at ⊢
    have HX7 := Lib.hid hx
    clear h0 b0 hw8 hx hX
    have h4 := takeTx_is B cb bs w8 (Kd.C_below HBB.out HB8.out) HCB.out HOK.out (by have := HBS.out; omega)
    have HTK := Lib.hid (show takeTx bs = if eEnds (eTxn ⟨bs, 0, false⟩).2 (mayT (eTxn ⟨bs, 0, false⟩).1) false = 0 then ((eTxn ⟨bs, 0, false⟩).1, (bs.length : Int) - ((eTxn ⟨bs, 0, false⟩).2.l.length : Int), 0) else (zeroTx, 0, eEnds (eTxn ⟨bs, 0, false⟩).2 (mayT (eTxn ⟨bs, 0, false⟩).1) false) from rfl)
    have HS0 := Lib.hid (show okS ⟨bs, 0, false⟩ from ⟨HOK.out, by have := HBS.out; show bs.length < _; omega⟩)
    have HRT := Lib.hid (fun (W : World) (h1 : IsRd bs w7 W x ⟨bs, 0, false⟩) (h2 : Below w7.heap.size w7 W) => rdTxn_is (w0 := w7) (x := x) h1 h2 HS0.out)
    obtain ⟨y, hy⟩ : ∃ y, (eTxn ⟨bs, 0, false⟩).1 = y := ⟨_, rfl⟩
    obtain ⟨s', hs'⟩ : ∃ s', (eTxn ⟨bs, 0, false⟩).2 = s' := ⟨_, rfl⟩
    obtain ⟨er2, he2⟩ : ∃ er2, eEnds s' (mayT y) false = er2 := ⟨_, rfl⟩
    obtain ⟨⟨tx, tn, te⟩, htk⟩ : ∃ r, takeTx bs = r := ⟨_, rfl⟩
    rw [hy, hs', he2, htk] at HTK
    rw [hy, hs'] at HRT
    rw [htk] at h4
    have HE2 := Lib.hid he2
    clear hy hs' he2 htk
    refine h4.mono ?_
    rintro e w9 ⟨v2, v3, v4, v5, rfl, k2, k3, k4, k5, hb⟩
    obtain ⟨E2, e2_, E3, e3_, E4, e4_, E5, e5_, rfl, rfl, rfl, rfl, hE⟩ := TxW.of k2 k3 k4 k5
    have HE9 := Lib.hid hE
    have HI9 := Lib.hid (HI8.out.below hb); have HD9 := Lib.hid (HD8.out.trans (hb.mono HD8.out.size)); have HB9 := Lib.hid (HB8.out.trans (hb.mono HB8.out.size))
    have HXL := Lib.hid (show x < w8.heap.size from HI8.out.lt)
    have HZ89 := Lib.hid (show w8.heap.size ≤ w9.heap.size from hb.size)
    clear h4 k2 k3 k4 k5 hb hE HI8 HD8 HB8
    go_wp2_with fail
    have h0 := heap_alloc_new w9 (txO tx E2 e2_ E3 e3_ E4 e4_ E5 e5_)
    have b0 := (Below.refl _ w9).alloc (Nat.le_refl _) (txO tx E2 e2_ E3 e3_ E4 e4_ E5 e5_)
    obtain ⟨wa, hwa⟩ : ∃ wa, w9.alloc (txO tx E2 e2_ E3 e3_ E4 e4_ E5 e5_) = wa := ⟨_, rfl⟩
    rw [hwa] at h0 b0 ⊢
    have HIa := Lib.hid (HI9.out.below b0); have HDa := Lib.hid (HD9.out.trans (b0.mono HD9.out.size)); have HBa := Lib.hid (HB9.out.trans (b0.mono HB9.out.size)); have HEa := Lib.hid (HE9.out.below b0)
    have HGL := Lib.hid (show w9.heap.size < wa.heap.size by rw [← hwa]; simp)
    obtain ⟨g1, hg1⟩ : ∃ g1, w9.heap.size = g1 := ⟨_, rfl⟩
    rw [hg1] at h0 HGL HZ89 ⊢
    have HXa := Lib.hid h0
    clear h0 b0 hwa hg1 HI9 HD9 HB9 HE9
    refine (HRT.out wa HIa.out HDa.out).mono ?_
    rintro e wb ⟨v2, v3, v4, v5, rfl, k2, k3, k4, k5, hi, hd2, hk⟩
    obtain ⟨D2, d2_, D3, d3_, D4, d4_, D5, d5_, rfl, rfl, rfl, rfl, hD⟩ := TxW.of k2 k3 k4 k5
    have HDb := Lib.hid hD
    have HIb := Lib.hid hi
    have HXb := Lib.hid ((hk.block g1 HGL.out (by have := HXL.out; have := HZ89.out; omega)).trans HXa.out)
    have HEb := Lib.hid (HEa.out.keep hk (fun k e => by have := HXL.out; omega))
    have HBb := Lib.hid (HB7.out.trans (hd2.mono HB7.out.size))
    have HGb := Lib.hid (Nat.lt_of_lt_of_le HGL.out hk.size)
    clear k2 k3 k4 k5 hi hd2 hk hD HIa HDa HBa HEa HXa
    go_wp2_with fail
    have h0 := heap_alloc_new wb (txO y D2 d2_ D3 d3_ D4 d4_ D5 d5_)
    have b0 := (Below.refl _ wb).alloc (Nat.le_refl _) (txO y D2 d2_ D3 d3_ D4 d4_ D5 d5_)
    obtain ⟨wc, hwc⟩ : ∃ wc, wb.alloc (txO y D2 d2_ D3 d3_ D4 d4_ D5 d5_) = wc := ⟨_, rfl⟩
    rw [hwc] at h0 b0 ⊢
    have HIc := Lib.hid (HIb.out.below b0); have HBc := Lib.hid (HBb.out.trans (b0.mono HBb.out.size)); have HEc := Lib.hid (HEb.out.below b0); have HDc := Lib.hid (HDb.out.below b0)
    have HXc := Lib.hid ((b0.block g1 HGb.out).trans HXb.out)
    have HGc := Lib.hid (show wb.heap.size < wc.heap.size ∧ g1 < wc.heap.size by have := HGb.out; have := b0.size; rw [← hwc]; simp; omega)
    obtain ⟨g2, hg2⟩ : ∃ g2, wb.heap.size = g2 := ⟨_, rfl⟩
    rw [hg2] at h0 HGc ⊢
    have HYc := Lib.hid h0
    clear h0 b0 hwc hg2 HIb HBb HEb HDb HXb HGb
    refine (refMay_is y HDc.out.c).mono ?_
    rintro e wd ⟨rfl, hb⟩
    have HId := Lib.hid (HIc.out.below hb); have HBd := Lib.hid (HBc.out.trans (hb.mono HBc.out.size)); have HEd := Lib.hid (HEc.out.below hb); have HDd := Lib.hid (HDc.out.below hb)
    have HXd := Lib.hid ((hb.block g1 HGc.out.2).trans HXc.out); have HYd := Lib.hid ((hb.block g2 HGc.out.1).trans HYc.out)
    clear hb HIc HBc HEc HDc HXc HYc
    obtain ⟨my, hmy⟩ : ∃ my, mayT y = my := ⟨_, rfl⟩
    rw [hmy] at HE2 ⊢
    clear hmy
    go_wp2_with fail
    have h4 := rdEnds_is HId.out my
    rw [HE2.out] at h4
    refine h4.mono ?_
    rintro e we ⟨rfl, rfl⟩
    clear h4
    have x0 : we.cell? ⟨g1, 0, none⟩ = some (.int .i64 tx.f0) := (blk_cell HXd.out 0).trans rfl
    have x1 : we.cell? ⟨g1, 1, none⟩ = some (.int .i64 tx.f1) := (blk_cell HXd.out 1).trans rfl
    have x2 : we.cell? ⟨g1, 2, none⟩ = some (.slice E2 tx.f2.length e2_) := (blk_cell HXd.out 2).trans rfl
    have x3 : we.cell? ⟨g1, 3, none⟩ = some (.slice E3 tx.f3.length e3_) := (blk_cell HXd.out 3).trans rfl
    have x4 : we.cell? ⟨g1, 4, none⟩ = some (.slice E4 tx.f4.length e4_) := (blk_cell HXd.out 4).trans rfl
    have x5 : we.cell? ⟨g1, 5, none⟩ = some (.slice E5 tx.f5.length e5_) := (blk_cell HXd.out 5).trans rfl
    have y0 : we.cell? ⟨g2, 0, none⟩ = some (.int .i64 y.f0) := (blk_cell HYd.out 0).trans rfl
    have y1 : we.cell? ⟨g2, 1, none⟩ = some (.int .i64 y.f1) := (blk_cell HYd.out 1).trans rfl
    have y2 : we.cell? ⟨g2, 2, none⟩ = some (.slice D2 y.f2.length d2_) := (blk_cell HYd.out 2).trans rfl
    have y3 : we.cell? ⟨g2, 3, none⟩ = some (.slice D3 y.f3.length d3_) := (blk_cell HYd.out 3).trans rfl
    have y4 : we.cell? ⟨g2, 4, none⟩ = some (.slice D4 y.f4.length d4_) := (blk_cell HYd.out 4).trans rfl
    have y5 : we.cell? ⟨g2, 5, none⟩ = some (.slice D5 y.f5.length d5_) := (blk_cell HYd.out 5).trans rfl
    by_cases hz : er2 = 0
    · have q1 : (er2 != 0) = false := by rw [hz]; rfl
      obtain ⟨rfl, rfl, rfl⟩ : tx = y ∧ tn = (bs.length : Int) - (s'.l.length : Int) ∧ te = 0 := by
        have := HTK.out
        rw [if_pos hz] at this
        simpa using this
      have q2 : (0 == (0 : Int)) = true := rfl
      clear hz
      go_wp2_with fail
      have h4 := refSame_is tx tx HEd.out.c HDd.out.c
      rw [eqTx_refl] at h4
      refine h4.mono ?_
      rintro e wf ⟨rfl, hb⟩
      have HBf := Lib.hid (HBd.out.trans (hb.mono HBd.out.size))
      obtain ⟨A, c, k, g1_, g2_, g3_, g4_, g5_, g6_, g7_⟩ := HId.out.below hb
      have hk : (bs.length : Int) - (s'.l.length : Int) = (k : Int) := by
        rw [← g6_, List.length_drop]
        omega
      rw [hk]
      have r1 : wf.cell? ⟨x, 1, none⟩ = some (.int .i64 (k : Int)) := by simp [World.cell?, g1_]
      have q3 : ((k : Int) == (k : Int)) = true := by simp
      clear h4 hb g1_ g2_ g3_ g4_ g5_ g6_ g7_ hk
      go_wp2_with fail
      go_ret
      exact ⟨by simp, HBf.out⟩
    · have q1 : (er2 != 0) = true := bne_iff_ne.2 hz
      obtain ⟨rfl, rfl, rfl⟩ : tx = zeroTx ∧ tn = 0 ∧ te = er2 := by
        have := HTK.out
        rw [if_neg hz] at this
        simpa using this
      have q2 : (te == te) = true := by simp
      have q3 : (0 == (0 : Int)) = true := rfl
      clear hz
      go_wp2_with fail
      have h4 := refSame_is zeroTx zeroTx HEd.out.c (txC_zero we)
      rw [eqTx_refl] at h4
      refine h4.mono ?_
      rintro e wf ⟨rfl, hb⟩
      have HBf := Lib.hid (HBd.out.trans (hb.mono HBd.out.size))
      clear h4 hb
      go_wp2_with fail
      go_ret
      exact ⟨by simp, HBf.out⟩
end Go.Proofs.Ytgiefblcckikeaa.M
end

section

-- PRINTED WORDS (module Derived/Print/Sized.lean): go-gate-2's, for the rows of laws over slices: an AI agent of Go's test side, Tue Nov 17 2026; no person has read it. Lean checks it.
namespace Go.Proofs.YtgiefblcckikeaaW.PrintWords
open Go.ChangeShapes Go.WideShapes
theorem sized_ints {H : Type} {enc : TypeId × Value → H} {P : Program} {W : World} {base : Nat} {spare : Nat → Bool} {held : Bool} {t e : TypeId} {k : IntKind} {a : Option Addr} {len cap : Nat} {d : DataW H} {ps : List MemPlace} {ts : List TypeId} {ds : List (DataW H)} {j : Nat}
    (hsz : (DataW.weightsEach P ts ds).all (· ≤ reachBytes) = true) (ht : ts[j]? = some t) (hd : ds[j]? = some d) (hu : P.underlying t = some (.slice e)) (he : P.underlying e = some (.int k)) (hc : P.cellsOf e = 1) {B : Nat} (hB : P.bytesOf e = B)
    (h : DataW.Trod enc P W base spare held t (.slice a len cap) d ps) : len * B ≤ 140737488351232 := by
  obtain ⟨fuel, hf⟩ := h
  rcases open_ints hu he hc hf with ⟨hcs, _⟩ | ⟨x, l, c, zs, hcs, _, hl, _, hz, hx, _, _⟩
  · simp [Value.cells] at hcs
    obtain ⟨rfl, rfl, rfl⟩ := hcs
    simp
  · simp [Value.cells] at hcs
    obtain ⟨rfl, rfl, rfl⟩ := hcs
    obtain ⟨hx, _⟩ := Prod.mk.inj hx
    subst hx
    have z := sized_slice hsz ht hd hu
    rw [hB] at z
    have hl2 : len ≤ zs.length := by
      rw [hz]
      split
      · exact hl
      · exact Nat.le_refl _
    have h1 : (lits (H := H) k (zs.take len)).length + (lits (H := H) k (zs.drop len)).length = zs.length := by
      simp [lits]
      omega
    rw [h1] at z
    exact Nat.le_trans (Nat.mul_le_mul_right _ hl2) z
end Go.Proofs.YtgiefblcckikeaaW.PrintWords
end
