/- RecordWritesSaid: contracts of the functions that the law goes through, put together in build order (part 6 of 7). -/
import Derived.Test.YtgiefblcckikeaaGreatPart4
import Derived.Laws.Tables
set_option linter.unusedVariables false
set_option linter.unusedSimpArgs false
set_option maxRecDepth 100000
section
-- Written by a program of this session's (wip/gprint.py over the kit's printer).
namespace Go.Proofs.YtgiefblcckikeaaGreat.G
open Go.RowKit Go.Proofs.YtgiefblcckikeaaGreatW.PrintWords Go.Proofs.YtgiefblcckikeaaGreatW.PrintLast Go.Proofs.YtgiefblcckikeaaGreatW.PrintMore
attribute [local go_sem] max2_int min2_int max_two min_two max_three min_three max_four min_four   -- for this text's walks alone
def trivetref04_lists.l0 : Nat → List Int → List (S63) → Int → Option (List Int)
 | 0, _, _, _ => none
 | k + 1, x0, x1, x5 => if x5 < (x1.length : Int) then (if 0 ≤ x5 then ((trivetref04_num.f k x0 (([(rd_T63 x1 x5).f0] : List Int))).bind fun t446 => ((trivetref04_EntryForm.f k ((rd_T63 x1 x5).f1.f0) ((rd_T63 x1 x5).f1.f1) ((rd_T63 x1 x5).f1.f2) ((rd_T63 x1 x5).f1.f3)).bind fun t450 => (if t446.length + t450.length < 140737488355328 then (trivetref04_lists.l0 k (t446 ++ t450) x1 (wrap64 (x5 + 1))) else (none)))) else (none)) else (some x0)
def trivetref04_lists.f (k : Nat) (l0 : List Int) (l1 : List (S63)) : Option (List Int) := (trivetref04_num.f k l0 (([(l1.length : Int)] : List Int))).bind fun t439 => (trivetref04_lists.l0 k t439 l1 0)
def trivetref04_lists.T5 : Bool × List (List Nat × List Nat) := (true, [([], []), ([], []), ([], []), ([1, 2], [1, 2]), ([3], [3]), ([4], [4]), ([5], [5]), ([0, 6], [0, 6]), ([], []), ([], []), ([8, 9], [8, 9]), ([10], [10]), ([11], [11]), ([12, 7], [12]), ([7, 13, 13], [7, 13]), ([14, 14, 0, 1, 2, 3, 4, 5, 6, 7, 8, 9, 10, 11, 12, 13, 14], [0, 14])])
def trivetref04_lists.B5 : List Nat := [0, 0, 0, 6, 14, 30, 62, 127, 0, 0, 768, 1792, 3840, 8191, 16383, 32767]
theorem trivetref04_lists.tab5 : rtab .any (opsOf Tryz.f105 5) = trivetref04_lists.T5 := by kernel_rfl
theorem trivetref04_lists.bits5 : waitsOk trivetref04_lists.T5.2 trivetref04_lists.B5 = true := by kernel_rfl
set_option maxHeartbeats 8000000 in
set_option maxRecDepth 100000 in
theorem trivetref04_lists.calls (k : Nat) (A0 : Option Addr) (c0 : Nat) (l0 : List Int) (A1 : Option Addr) (c1 : Nat) (l1 : List (S63)) (r : List Int) (w : World) (hr0 : Kd.C (Kd.int .u8) w A0 l0.length l0) (hc0 : l0.length ≤ c0) (hr1 : Kd.C k63 w A1 l1.length l1) (hc1 : l1.length ≤ c1) (h : trivetref04_lists.f k l0 l1 = some r) :
  Calls Tryz.prog 105 #[.slice A0 l0.length c0, .slice A1 l1.length c1] w fun e w' => ∃ v0_ : Value, e = .returned (v0_) ∧ Kd.R (Kd.int .u8) 5 w' w.heap.size (fun _ => True) v0_ r ∧ Below w.heap.size w w' := by
 have hu29 := Tryz.underlying29
 have HR0 := Aside0.mk hr0
 have HC0 := Aside0.mk hc0
 clear hr0 hc0
 have HR1 := Aside0.mk hr1
 have HC1 := Aside0.mk hc1
 clear hr1 hc1
 have HB := Aside0.mk (Below.refl w.heap.size w)
 have H : ((trivetref04_num.f k l0 (([(l1.length : Int)] : List Int))).bind fun t439 => (trivetref04_lists.l0 k t439 l1 0)) = some r := h
 clear h
 obtain ⟨y436, hy436⟩ : ∃ y_ : List Int, y_ = (([(l1.length : Int)] : List Int)) := ⟨_, rfl⟩
 replace H : ((trivetref04_num.f k l0 y436).bind fun t439 => (trivetref04_lists.l0 k t439 l1 0)) = some r := by first | (rw [hy436]; with_reducible exact H) | (have H2_ := (Option.bind_some _ _).symm.trans H; rw [hy436]; with_reducible exact H2_) | (have H2_ := (Option.bind_some _ _).symm.trans H; with_reducible exact H2_) | with_reducible exact H | (rw [hy436]; exact H) | exact H
 have Ny436 := Aside0.mk hy436
 clear hy436
 replace H := Option.bind_eq_some_iff.mp H
 obtain ⟨t439, A30, H⟩ := H
 replace H : (trivetref04_lists.l0 k t439 l1 0) = some r := H
 have A3 := Aside0.mk A30
 clear A30
 have H' := Aside0.mk H
 clear H
 go_enter Tryz.func105, Tryz.ntmps105
 go_wp2_with (first | ((with_reducible refine gate_dst (N := 9) rfl ?_); refine Kd.R_lit (Kd.int .i64) _ 2 ?hg (N := 9) ?hd (xs := ([(l1.length : Int)] : List Int)) (inner := [.int .i64 (l1.length : Int)]) (ok := fun _ => True) (okp := fun _ => True) ?hr ?hp (fun _ hk => hk) trivial (Below.refl _ _) (Nat.le_refl _) (by simp) ?_; (case hd => rfl); (case hg => rfl); (case hr => first | (go_simp; done) | (go_simp; rfl)); (case hp => exact (Reps.one (show Kd.M (Kd.int .i64) _ _ _ (l1.length : Int) [.int .i64 (l1.length : Int)] from rfl) (Reps.none _ _))); intro v437 w4 ho5 hb hg_ hnew_; clear hg_ hnew_; (first | rw [← Ny436.out] at ho5 | (simp only [Int.reduceToNat] at ho5; rw [← Ny436.out] at ho5)); have n0_ := Aside0.mk (Kd.R_lower ho5 (below_size (stB HB.out))); have n1_ := Aside0.mk (below_step (stB HB.out) hb); clear HB; have HO438 := n0_; have HB := n1_; clear n0_ n1_; clear hb ho5; obtain ⟨Ao6, co6, eo6⟩ := Kd.R_slice HO438.out; subst eo6) | ((with_reducible refine gate_callee (f := 97) rfl ?_); refine goesL_ (some 10) rfl rfl Tryz.func97 (by kernel_rfl) rfl #[.slice A0 l0.length c0, .slice Ao6 y436.length co6] rfl (by (try simp only [List.map_toArray, List.map_cons, List.map_nil]); first | done | rfl | (simp only [List.length_drop, List.length_take]; rfl)) ?_; (with_reducible refine (trivetref04_num.calls k _ _ l0 _ _ y436 t439 _ ?side1 ?side2 ?side3 ?side4 A3.out).mono ?_); (case side1 => exact stC (Kd.C_below HR0.out HB.out)); (case side2 => exact HC0.out); (case side3 => exact stC ((Kd.R_reads' HO438.out).2.2)); (case side4 => exact (Kd.R_reads' HO438.out).2.1); rintro e w7 ⟨v440, rfl, ho0, hb⟩; refine ⟨_, rfl, ?_⟩; have n0_ := Aside0.mk (Kd.R_below (stR HO438.out) hb); have n1_ := Aside0.mk (Kd.R_lower ho0 (below_size (stB HB.out))); have n2_ := Aside0.mk (below_step (stB HB.out) hb); clear HO438; clear HB; have HO438 := n0_; have HO441 := n1_; have HB := n2_; clear n0_ n1_ n2_; (try clear hb); (try clear hb2); (try clear hk); (try clear hi); (try clear ho0)))
 go_loopg [0, 5] k (fun kq v0 v5 w' => ∃ (x0_1 : List Int) (x5_1 : Int), v5 = .int .i64 x5_1 ∧ Aside0 (trivetref04_lists.l0 kq x0_1 l1 x5_1 = some r) ∧ Aside0 (kq ≤ k) ∧ Aside0 (Kd.R (Kd.int .u8) 5 w' w.heap.size (fun _ => True) v0 x0_1) ∧ Aside0 (Below w.heap.size w w'))
 case atStart => exact ⟨(t439), (0), (by first | rfl | (simp; done) | (simp [*]; done)), H', ⟨Nat.le_refl _⟩, ⟨stR HO441.out⟩, ⟨stB HB.out⟩⟩
 case round =>
  clear H'
  try clear c1
  try clear p2
  obtain ⟨x0_1, x5_1, rfl, HA, HK1, HO_0, HB⟩ := hrel
  cases gk with
  | zero => exact absurd HA.out (by simp [trivetref04_lists.l0])
  | succ k1 =>
   have H := HA.out
   clear HA
   simp only [trivetref04_lists.l0] at H
   by_cases c8 : x5_1 < (l1.length : Int)
   ·rw [if_pos c8] at H
    have c8b0 : decide (x5_1 < (l1.length : Int)) = true := decide_eq_true c8
    clear c8
    by_cases c9 : 0 ≤ x5_1
    ·rw [if_pos c9] at H
     have c9b0 : decide (0 ≤ x5_1) = true := decide_eq_true c9
     clear c9
     obtain ⟨y443, hy443⟩ : ∃ y_ : List Int, y_ = (([(rd_T63 l1 x5_1).f0] : List Int)) := ⟨_, rfl⟩
     replace H : ((trivetref04_num.f k1 x0_1 y443).bind fun t446 => ((trivetref04_EntryForm.f k1 ((rd_T63 l1 x5_1).f1.f0) ((rd_T63 l1 x5_1).f1.f1) ((rd_T63 l1 x5_1).f1.f2) ((rd_T63 l1 x5_1).f1.f3)).bind fun t450 => (if t446.length + t450.length < 140737488355328 then (trivetref04_lists.l0 k1 (t446 ++ t450) l1 (wrap64 (x5_1 + 1))) else (none)))) = some r := by first | (rw [hy443]; with_reducible exact H) | (have H2_ := (Option.bind_some _ _).symm.trans H; rw [hy443]; with_reducible exact H2_) | (have H2_ := (Option.bind_some _ _).symm.trans H; with_reducible exact H2_) | with_reducible exact H | (rw [hy443]; exact H) | exact H
     have Ny443 := Aside0.mk hy443
     clear hy443
     replace H := Option.bind_eq_some_iff.mp H
     obtain ⟨t446, A100, H⟩ := H
     replace H : ((trivetref04_EntryForm.f k1 ((rd_T63 l1 x5_1).f1.f0) ((rd_T63 l1 x5_1).f1.f1) ((rd_T63 l1 x5_1).f1.f2) ((rd_T63 l1 x5_1).f1.f3)).bind fun t450 => (if t446.length + t450.length < 140737488355328 then (trivetref04_lists.l0 k1 (t446 ++ t450) l1 (wrap64 (x5_1 + 1))) else (none))) = some r := H
     have A10 := Aside0.mk A100
     clear A100
     replace H := Option.bind_eq_some_iff.mp H
     obtain ⟨t450, A110, H⟩ := H
     replace H : (if t446.length + t450.length < 140737488355328 then (trivetref04_lists.l0 k1 (t446 ++ t450) l1 (wrap64 (x5_1 + 1))) else (none)) = some r := H
     have A11 := Aside0.mk A110
     clear A110
     by_cases c12 : t446.length + t450.length < 140737488355328
     ·rw [if_pos c12] at H
      have LMc12 := Aside0.mk c12
      clear c12
      obtain ⟨y453, hy453⟩ : ∃ y_ : List Int, y_ = (t446 ++ t450) := ⟨_, rfl⟩
      replace H : (trivetref04_lists.l0 k1 y453 l1 (wrap64 (x5_1 + 1))) = some r := by first | (rw [hy453]; with_reducible exact H) | (have H2_ := (Option.bind_some _ _).symm.trans H; rw [hy453]; with_reducible exact H2_) | (have H2_ := (Option.bind_some _ _).symm.trans H; with_reducible exact H2_) | with_reducible exact H | (rw [hy453]; exact H) | exact H
      have Ny453 := Aside0.mk hy453
      clear hy453
      have H' := Aside0.mk H
      clear H
      try go_wp2
      have n0_ := Aside0.mk (Kd.R_drew HO_0.out)
      have n1_ := Aside0.mk (below_drew1 HB.out)
      clear HO_0
      clear HB
      have HO_0 := n0_
      have HB := n1_
      clear n0_ n1_
      have p442 : 0 ≤ (x5_1 : Int) := of_decide_eq_true (by first | (with_reducible assumption) | assumption)
      have q442 : x5_1 < (l1.length : Int) := of_decide_eq_true (by first | (with_reducible assumption) | assumption)
      obtain ⟨ad442, A442_4, c442_4, e442, hx442_0, hx442_1, hx442_2, hx442_3, hx442_4, hl442_4, hi442_4⟩ := at_T63 HR1.out x5_1 p442 q442
      have hw442_4 := hx442_4
      have hw442_3 := hx442_3
      have hw442_2 := hx442_2
      have hw442_1 := hx442_1
      have hw442_0 := hx442_0
      cases e442
      replace hx442_0 := cu HB.out hx442_0
      replace hx442_1 := cu HB.out hx442_1
      replace hx442_2 := cu HB.out hx442_2
      replace hx442_3 := cu HB.out hx442_3
      replace hx442_4 := cu HB.out hx442_4
      have HR442_4 := Aside0.mk hi442_4
      have HC442_4 := Aside0.mk hl442_4
      clear hi442_4 hl442_4
      replace p442 := eq_true p442
      replace q442 := eq_true q442
      have p449 : 0 ≤ (x5_1 : Int) := of_decide_eq_true (by first | (with_reducible assumption) | assumption)
      have q449 : x5_1 < (l1.length : Int) := of_decide_eq_true (by first | (with_reducible assumption) | assumption)
      obtain ⟨ad449, A449_4, c449_4, e449, hx449_0, hx449_1, hx449_2, hx449_3, hx449_4, hl449_4, hi449_4⟩ := at_T63 HR1.out x5_1 p449 q449
      have hw449_4 := hx449_4
      have hw449_3 := hx449_3
      have hw449_2 := hx449_2
      have hw449_1 := hx449_1
      have hw449_0 := hx449_0
      obtain rfl : ad442 = ad449 := (by injection e449)
      replace hx449_0 := cu HB.out hx449_0
      replace hx449_1 := cu HB.out hx449_1
      replace hx449_2 := cu HB.out hx449_2
      replace hx449_3 := cu HB.out hx449_3
      replace hx449_4 := cu HB.out hx449_4
      have HR449_4 := Aside0.mk hi449_4
      have HC449_4 := Aside0.mk hl449_4
      clear hi449_4 hl449_4
      replace p449 := eq_true p449
      replace q449 := eq_true q449
      have ea_ := Option.some.inj (hx442_4.symm.trans hx449_4)
      injection ea_ with ea_ en_ ec_
      subst ea_
      subst ec_
      clear en_
      refine start_ (n := 16) (S := fun w' => w'.cell? (ad442.add ((x5_1).toNat * 5)) = some (.int .i64 ((rd_T63 l1 x5_1).f0)) ∧ w'.cell? ⟨(ad442.add ((x5_1).toNat * 5)).block, (ad442.add ((x5_1).toNat * 5)).off + 1, none⟩ = some (.int .i64 ((rd_T63 l1 x5_1).f1.f0)) ∧ w'.cell? ⟨(ad442.add ((x5_1).toNat * 5)).block, (ad442.add ((x5_1).toNat * 5)).off + 2, none⟩ = some (.int .i64 ((rd_T63 l1 x5_1).f1.f1)) ∧ w'.cell? ⟨(ad442.add ((x5_1).toNat * 5)).block, (ad442.add ((x5_1).toNat * 5)).off + 3, none⟩ = some (.int .i64 ((rd_T63 l1 x5_1).f1.f2)) ∧ w'.cell? ⟨(ad442.add ((x5_1).toNat * 5)).block, (ad442.add ((x5_1).toNat * 5)).off + 4, none⟩ = some (.slice A442_4 ((rd_T63 l1 x5_1).f1.f3).length c442_4) ∧ w'.cell? (ad442.add ((x5_1).toNat * 5)) = some (.int .i64 ((rd_T63 l1 x5_1).f0)) ∧ w'.cell? ⟨(ad442.add ((x5_1).toNat * 5)).block, (ad442.add ((x5_1).toNat * 5)).off + 1, none⟩ = some (.int .i64 ((rd_T63 l1 x5_1).f1.f0)) ∧ w'.cell? ⟨(ad442.add ((x5_1).toNat * 5)).block, (ad442.add ((x5_1).toNat * 5)).off + 2, none⟩ = some (.int .i64 ((rd_T63 l1 x5_1).f1.f1)) ∧ w'.cell? ⟨(ad442.add ((x5_1).toNat * 5)).block, (ad442.add ((x5_1).toNat * 5)).off + 3, none⟩ = some (.int .i64 ((rd_T63 l1 x5_1).f1.f2)) ∧ w'.cell? ⟨(ad442.add ((x5_1).toNat * 5)).block, (ad442.add ((x5_1).toNat * 5)).off + 4, none⟩ = some (.slice A442_4 ((rd_T63 l1 x5_1).f1.f3).length c442_4)) (ds := []) #[false, false, false, false, false, false, false, false, false, false, false, false, false, false, false, false] (by kernel_rfl) rfl rfl ⟨(cu HB.out hw442_0), (cu HB.out hw442_1), (cu HB.out hw442_2), (cu HB.out hw442_3), (cu HB.out hw442_4), (cu HB.out hw449_0), (cu HB.out hw449_1), (cu HB.out hw449_2), (cu HB.out hw449_3), (cu HB.out hw449_4)⟩ (fun hHeld => ?_); refine with_tabW trivetref04_lists.tab5 trivetref04_lists.bits5 (fun HT_ HW_ => ?_)
      generalize wr.drew = w13 at HO_0 HB HR442_4 HR449_4 hx442_0 hx442_1 hx442_2 hx442_3 hx442_4 hx449_0 hx449_1 hx449_2 hx449_3 hx449_4 hHeld ⊢
      refine pure_ (i := 0) (N := some 17) (v := ?_) (a' := ?_) #[true, false, false, false, false, false, false, false, false, false, false, false, false, false, false, false] rfl rfl (any_of HT_.out (by kernel_rfl)) (fun _ _ _ h => h) (Or.inl ⟨by rfl, ?_⟩) ?_ ?_
      rotate_left
      ·intro w'
       go_simp
       with_reducible rfl
      rotate_left
      ·simp only [Act.put, sq1, sq2, sq3, i64_w, i32_w]
       rfl
      refine pure_ (i := 1) (N := some 18) (v := ?_) (a' := ?_) #[true, true, false, false, false, false, false, false, false, false, false, false, false, false, false, false] rfl rfl (any_of HT_.out (by kernel_rfl)) (fun _ _ _ h => h) (Or.inl ⟨by rfl, ?_⟩) ?_ ?_
      rotate_left
      ·intro w'
       go_simp
       with_reducible rfl
      rotate_left
      ·simp only [Act.put, sq1, sq2, sq3, i64_w, i32_w]
       rfl
      refine pure_ (i := 2) (N := some 19) (v := ?_) (a' := ?_) #[true, true, true, false, false, false, false, false, false, false, false, false, false, false, false, false] rfl rfl (any_of HT_.out (by kernel_rfl)) (fun _ _ _ h => h) (Or.inl ⟨by rfl, ?_⟩) ?_ ?_
      rotate_left
      ·intro w'
       go_simp
       with_reducible rfl
      rotate_left
      ·simp only [Act.put, sq1, sq2, sq3, i64_w, i32_w]
       rfl
      refine pure_ (i := 3) (N := some 20) (v := ?_) (a' := ?_) #[true, true, true, true, false, false, false, false, false, false, false, false, false, false, false, false] rfl rfl (any_of HT_.out (by kernel_rfl)) (fun _ _ _ h => h) (Or.inl ⟨by rfl, ?_⟩) ?_ ?_
      rotate_left
      ·intro w'
       go_simp
       with_reducible rfl
      rotate_left
      ·simp only [Act.put, sq1, sq2, sq3, i64_w, i32_w]
       rfl
      refine pure_ (i := 4) (N := some 21) (v := ?_) (a' := ?_) #[true, true, true, true, true, false, false, false, false, false, false, false, false, false, false, false] rfl rfl (any_of HT_.out (by kernel_rfl)) (fun _ _ _ h => h) (Or.inl ⟨by rfl, ?_⟩) ?_ ?_
      rotate_left
      ·intro w'
       go_simp
       with_reducible rfl
      rotate_left
      ·simp only [Act.put, sq1, sq2, sq3, i64_w, i32_w]
       rfl
      refine pure_ (i := 8) (N := some 25) (v := ?_) (a' := ?_) #[true, true, true, true, true, false, false, false, true, false, false, false, false, false, false, false] rfl rfl (any_of HT_.out (by kernel_rfl)) (fun _ _ _ h => h) (Or.inl ⟨by rfl, ?_⟩) ?_ ?_
      rotate_left
      ·intro w'
       go_simp
       with_reducible rfl
      rotate_left
      ·simp only [Act.put, sq1, sq2, sq3, i64_w, i32_w]
       rfl
      refine pure_ (i := 9) (N := some 26) (v := ?_) (a' := ?_) #[true, true, true, true, true, false, false, false, true, true, false, false, false, false, false, false] rfl rfl (any_of HT_.out (by kernel_rfl)) (fun _ _ _ h => h) (Or.inl ⟨by rfl, ?_⟩) ?_ ?_
      rotate_left
      ·intro w'
       go_simp
       with_reducible rfl
      rotate_left
      ·simp only [Act.put, sq1, sq2, sq3, i64_w, i32_w]
       rfl
      refine pure_ (i := 10) (N := some 27) (v := ?_) (a' := ?_) #[true, true, true, true, true, false, false, false, true, true, true, false, false, false, false, false] rfl rfl (any_of HT_.out (by kernel_rfl)) (fun _ _ _ h => h) (Or.inl ⟨by rfl, ?_⟩) ?_ ?_
      rotate_left
      ·intro w'
       go_simp
       with_reducible rfl
      rotate_left
      ·simp only [Act.put, sq1, sq2, sq3, i64_w, i32_w]
       rfl
      refine pure_ (i := 11) (N := some 28) (v := ?_) (a' := ?_) #[true, true, true, true, true, false, false, false, true, true, true, true, false, false, false, false] rfl rfl (any_of HT_.out (by kernel_rfl)) (fun _ _ _ h => h) (Or.inl ⟨by rfl, ?_⟩) ?_ ?_
      rotate_left
      ·intro w'
       go_simp
       with_reducible rfl
      rotate_left
      ·simp only [Act.put, sq1, sq2, sq3, i64_w, i32_w]
       rfl
      refine take_ (i := 5) (N := some 22) (v := ?_) (a' := ?_) #[true, true, true, true, true, true, false, false, true, true, true, true, false, false, false, false] rfl rfl (take_ofW HT_.out HW_.out (by kernel_rfl)) (fun _ _ _ h => h) (Or.inl ⟨by rfl, ?_⟩) hHeld ?_ ?_
      rotate_left
      ·rintro w' ⟨s0, s1, s2, s3, s4, s5, s6, s7, s8, s9⟩
       go_simp
       with_reducible rfl
      rotate_left
      ·simp only [Act.put, sq1, sq2, sq3, i64_w, i32_w]
       rfl
      refine take_ (i := 12) (N := some 29) (v := ?_) (a' := ?_) #[true, true, true, true, true, true, false, false, true, true, true, true, true, false, false, false] rfl rfl (take_ofW HT_.out HW_.out (by kernel_rfl)) (fun _ _ _ h => h) (Or.inl ⟨by rfl, ?_⟩) hHeld ?_ ?_
      rotate_left
      ·rintro w' ⟨s0, s1, s2, s3, s4, s5, s6, s7, s8, s9⟩
       go_simp
       with_reducible rfl
      rotate_left
      ·simp only [Act.put, sq1, sq2, sq3, i64_w, i32_w]
       rfl
      refine one_ (i := 6) (N := some 23) #[true, true, true, true, true, true, true, false, true, true, true, true, true, false, false, false] rfl rfl (one_of HT_.out (by kernel_rfl)) (by decide) (fun K hK => ?_)
      refine Kd.R_lit_step (Kd.int .i64) _ 2 ?hg (N := 23) ?hd (xs := ([(rd_T63 l1 x5_1).f0] : List Int)) (inner := [.int .i64 ((rd_T63 l1 x5_1).f0)]) (ok := fun _ => True) (okp := fun _ => True) ?hr ?hp (fun _ hk => hk) trivial (Below.refl _ _) (Nat.le_refl _) (by simp) ?_; (case hd => rfl); (case hg => rfl); (case hr => first | (go_simp; done) | (go_simp; rfl)); (case hp => exact (Reps.one (show Kd.M (Kd.int .i64) _ _ _ ((rd_T63 l1 x5_1).f0) [.int .i64 ((rd_T63 l1 x5_1).f0)] from rfl) (Reps.none _ _)))
      intro v444 w14 ho15 hb hg_ hnew_
      clear hg_ hnew_
      (first | rw [← Ny443.out] at ho15 | (simp only [Int.reduceToNat] at ho15; rw [← Ny443.out] at ho15))
      have n0_ := Aside0.mk (Kd.R_below (stR HO_0.out) hb)
      have n1_ := Aside0.mk (Kd.R_lower ho15 (below_size (stB HB.out)))
      have n2_ := Aside0.mk (below_step (stB HB.out) hb)
      clear HO_0
      clear HB
      have HO_0 := n0_
      have HO445 := n1_
      have HB := n2_
      clear n0_ n1_ n2_
      clear hb ho15
      obtain ⟨Ao16, co16, eo16⟩ := Kd.R_slice HO_0.out
      (first | subst eo16 | (injection eo16 with f1_ f2_ f3_; have f4_ := f1_.symm; have f5_ := f3_.symm; clear f1_ f2_ f3_; subst f4_; subst f5_))
      obtain ⟨Ao17, co17, eo17⟩ := Kd.R_slice HO445.out
      (first | subst eo17 | (injection eo17 with f1_ f2_ f3_; have f4_ := f1_.symm; have f5_ := f3_.symm; clear f1_ f2_ f3_; subst f4_; subst f5_))
      refine hK.out _ _ ⟨(cu HB.out hw442_0), (cu HB.out hw442_1), (cu HB.out hw442_2), (cu HB.out hw442_3), (cu HB.out hw442_4), (cu HB.out hw449_0), (cu HB.out hw449_1), (cu HB.out hw449_2), (cu HB.out hw449_3), (cu HB.out hw449_4)⟩ (fun hHeld => ?_)
      clear hK K
      refine norm_ (a' := ?_) ?_ ?_
      rotate_left
      ·show Act.put _ (some 23) _ = _
       simp only [Act.put, sq1, sq2, sq3, i64_w, i32_w]
       rfl
      refine one_ (i := 7) (N := some 24) #[true, true, true, true, true, true, true, true, true, true, true, true, true, false, false, false] rfl rfl (one_of HT_.out (by kernel_rfl)) (by decide) (fun K hK => ?_)
      refine goes_ Tryz.func97 (by kernel_rfl) rfl #[.slice Ao16 x0_1.length co16, .slice Ao17 y443.length co17] (by rfl) rfl rfl (by (try simp only [List.map_toArray, List.map_cons, List.map_nil]); first | done | rfl | (simp only [List.length_drop, List.length_take]; rfl)) ?_
      with_reducible refine (trivetref04_num.calls k1 _ _ x0_1 _ _ y443 t446 _ ?side1 ?side2 ?side3 ?side4 A10.out).mono ?_
      (case side1 => exact stC ((Kd.R_reads' HO_0.out).2.2))
      (case side2 => exact (Kd.R_reads' HO_0.out).2.1)
      (case side3 => exact stC ((Kd.R_reads' HO445.out).2.2))
      (case side4 => exact (Kd.R_reads' HO445.out).2.1)
      rintro e w18 ⟨v447, rfl, ho0, hb⟩
      refine ⟨_, rfl, ?_⟩
      have n0_ := Aside0.mk (Kd.R_elder' (stR HO_0.out) (Kd.R_base ho0) hb)
      have n1_ := Aside0.mk (Kd.R_below (stR HO445.out) hb)
      have n2_ := Aside0.mk (Kd.R_lower (Kd.R_new' ho0 (Kd.R_lt (stR HO_0.out))) (below_size (stB HB.out)))
      have n3_ := Aside0.mk (below_step (stB HB.out) hb)
      clear HO_0
      clear HO445
      clear HB
      have HO_0 := n0_
      have HO445 := n1_
      have HO448 := n2_
      have HB := n3_
      clear n0_ n1_ n2_ n3_
      (try clear hb)
      (try clear hb2)
      (try clear hk)
      (try clear hi)
      (try clear ho0)
      refine hK.out _ _ ⟨(cu HB.out hw442_0), (cu HB.out hw442_1), (cu HB.out hw442_2), (cu HB.out hw442_3), (cu HB.out hw442_4), (cu HB.out hw449_0), (cu HB.out hw449_1), (cu HB.out hw449_2), (cu HB.out hw449_3), (cu HB.out hw449_4)⟩ (fun hHeld => ?_)
      clear hK K
      refine norm_ (a' := ?_) ?_ ?_
      rotate_left
      ·show Act.put _ (some 24) _ = _
       simp only [Act.put, sq1, sq2, sq3, i64_w, i32_w]
       rfl
      refine one_ (i := 13) (N := some 30) #[true, true, true, true, true, true, true, true, true, true, true, true, true, true, false, false] rfl rfl (one_of HT_.out (by kernel_rfl)) (by decide) (fun K hK => ?_)
      refine goes_ Tryz.func49 (by kernel_rfl) rfl #[.agg #[.int .i64 ((rd_T63 l1 x5_1).f1.f0), .int .i64 ((rd_T63 l1 x5_1).f1.f1), .int .i64 ((rd_T63 l1 x5_1).f1.f2), .slice A442_4 ((rd_T63 l1 x5_1).f1.f3).length c442_4]] (by rfl) rfl rfl (by (try simp only [List.map_toArray, List.map_cons, List.map_nil]); first | done | rfl | (simp only [List.length_drop, List.length_take]; rfl)) ?_
      with_reducible refine (trivetref04_EntryForm.calls k1 ((rd_T63 l1 x5_1).f1.f0) ((rd_T63 l1 x5_1).f1.f1) ((rd_T63 l1 x5_1).f1.f2) _ _ ((rd_T63 l1 x5_1).f1.f3) t450 _ ?side1 ?side2 A11.out).mono ?_
      (case side1 => exact stC (Kd.C_below HR449_4.out HB.out))
      (case side2 => exact HC449_4.out)
      rintro e w19 ⟨v451, rfl, ho0, hb⟩
      refine ⟨_, rfl, ?_⟩
      have n0_ := Aside0.mk (Kd.R_elder' (stR HO_0.out) (Kd.R_base ho0) hb)
      have n1_ := Aside0.mk (Kd.R_below (stR HO445.out) hb)
      have n2_ := Aside0.mk (Kd.R_elder' (stR HO448.out) (Kd.R_base ho0) hb)
      have n3_ := Aside0.mk (Kd.R_lower (Kd.R_new' (Kd.R_new' ho0 (Kd.R_lt (stR HO_0.out))) (Kd.R_lt (stR HO448.out))) (below_size (stB HB.out)))
      have n4_ := Aside0.mk (below_step (stB HB.out) hb)
      clear HO_0
      clear HO445
      clear HO448
      clear HB
      have HO_0 := n0_
      have HO445 := n1_
      have HO448 := n2_
      have HO452 := n3_
      have HB := n4_
      clear n0_ n1_ n2_ n3_ n4_
      (try clear hb)
      (try clear hb2)
      (try clear hk)
      (try clear hi)
      (try clear ho0)
      obtain ⟨Ao21, co21, eo21⟩ := Kd.R_slice HO452.out
      (first | subst eo21 | (injection eo21 with f1_ f2_ f3_; have f4_ := f1_.symm; have f5_ := f3_.symm; clear f1_ f2_ f3_; subst f4_; subst f5_))
      refine hK.out _ _ ⟨(cu HB.out hw442_0), (cu HB.out hw442_1), (cu HB.out hw442_2), (cu HB.out hw442_3), (cu HB.out hw442_4), (cu HB.out hw449_0), (cu HB.out hw449_1), (cu HB.out hw449_2), (cu HB.out hw449_3), (cu HB.out hw449_4)⟩ (fun hHeld => ?_)
      clear hK K
      refine norm_ (a' := ?_) ?_ ?_
      rotate_left
      ·show Act.put _ (some 30) _ = _
       simp only [Act.put, sq1, sq2, sq3, i64_w, i32_w]
       rfl
      refine one_ (i := 14) (N := some 31) #[true, true, true, true, true, true, true, true, true, true, true, true, true, true, true, false] rfl rfl (one_of HT_.out (by kernel_rfl)) (by decide) (fun K hK => ?_)
      refine Kd.R_append_rows_step (Kd.int .u8) (w0 := w) w.heap.size (by rfl) (.tmp 24) (.tmp 30) 23 5 (.int .u8 0) 1 rfl Tryz.underlying23 info5 rfl (by decide) (by omega) v447 t446 t450 _ _ _ (fun k_ => some k_ ≠ (.slice Ao16 x0_1.length co16 : Value).ownBlock ∧ some k_ ≠ (.slice Ao21 t450.length co21 : Value).ownBlock) (fun _ => False) rfl rfl ?aO ?aR (fun _ _ h => h) (fun _ h => h.elim) ?aF ?aB ?aS ?aL ?_
      (case aR => exact stC ((Kd.R_reads' HO452.out).2.2))
      (case aB => exact (stB HB.out))
      (case aF => exact (fun k_ hk => ⟨Kd.fresh' (Kd.R_lt (stR HO_0.out)) k_ hk, Kd.fresh' (Kd.R_lt (stR HO452.out)) k_ hk⟩))
      (case aO => exact (by (with_reducible repeat (first|apply Kd.R_alloc | apply Kd.R_drewN | apply Kd.R_drew)); exact Kd.R_mono HO448.out (fun _ hk => ⟨hk.1.2, hk.2⟩)))
      (case aS => exact (below_size (stB HB.out)))
      (case aL => have := LMc12.out; omega)
      intro v454 w20 ho hb hg hat
      rw [← Ny453.out] at ho
      have n0_ := Aside0.mk (Kd.R_after (ok := (fun k_ => some k_ ≠ (.slice Ao21 t450.length co21 : Value).ownBlock)) (by (with_reducible repeat (first|apply Kd.R_alloc | apply Kd.R_drewN | apply Kd.R_drew)); exact Kd.R_mono HO_0.out (fun _ hk => ⟨hk.2, hk.1.2⟩)) hg hat)
      have n1_ := Aside0.mk (Kd.R_over' (stR HO445.out) (Kd.R_typed (stR HO448.out)) (by decide) hg)
      have n2_ := Aside0.mk (Kd.R_after (ok := (fun k_ => some k_ ≠ (.slice Ao16 x0_1.length co16 : Value).ownBlock)) (by (with_reducible repeat (first|apply Kd.R_alloc | apply Kd.R_drewN | apply Kd.R_drew)); exact Kd.R_mono HO452.out (fun _ hk => ⟨hk.1.2, hk.2⟩)) hg hat)
      have n3_ := Aside0.mk (hb)
      have n4_ := Aside0.mk (ho)
      clear HO_0
      clear HO445
      clear HO452
      clear HB
      clear HO448
      have HO_0 := n0_
      have HO445 := n1_
      have HO452 := n2_
      have HB := n3_
      have HO455 := n4_
      clear n0_ n1_ n2_ n3_ n4_
      clear ho hb hg hat
      refine hK.out _ _ ⟨(cu HB.out hw442_0), (cu HB.out hw442_1), (cu HB.out hw442_2), (cu HB.out hw442_3), (cu HB.out hw442_4), (cu HB.out hw449_0), (cu HB.out hw449_1), (cu HB.out hw449_2), (cu HB.out hw449_3), (cu HB.out hw449_4)⟩ (fun hHeld => ?_)
      clear hK K
      refine norm_ (a' := ?_) ?_ ?_
      rotate_left
      ·show Act.put _ (some 31) _ = _
       simp only [Act.put, sq1, sq2, sq3, i64_w, i32_w]
       rfl
      refine pure_ (i := 15) (N := some 0) (v := ?_) (a' := ?_) #[true, true, true, true, true, true, true, true, true, true, true, true, true, true, true, true] rfl rfl (any_of HT_.out (by kernel_rfl)) (fun _ _ _ h => h) (Or.inl ⟨by rfl, ?_⟩) ?_ ?_
      rotate_left
      ·intro w'
       go_simp
       with_reducible rfl
      rotate_left
      ·simp only [Act.put, sq1, sq2, sq3, i64_w, i32_w]
       rfl
      refine done_ (done_of HT_.out (by kernel_rfl)) ?_
      try go_wp2
      go_roundg k1
      case measure => have := HK1.out; omega
      case rel => exact ⟨(y453), (wrap64 (x5_1 + 1)), (by first | rfl | (simp; done) | (simp [*]; done)), H', ⟨by have := HK1.out; omega⟩, ⟨by (with_reducible repeat (first|apply Kd.R_alloc | apply Kd.R_drewN | apply Kd.R_drew)); exact Kd.R_mono HO455.out (fun _ hk => trivial)⟩, ⟨stB HB.out⟩⟩
     ·rw [if_neg c12] at H
      exact absurd H (by simp)
    ·rw [if_neg c9] at H
     exact absurd H (by simp)
   ·rw [if_neg c8] at H
    have c8b0 : decide (x5_1 < (l1.length : Int)) = false := decide_eq_false c8
    clear c8
    obtain rfl := Option.some.inj H
    go_wp2
    go_ret
    exact ⟨_, by first | rfl | (simp [errW_none, errW_some] <;> rfl) | (simp [*, errW_none, errW_some] <;> rfl), stR HO_0.out, stB HB.out⟩
def trivetref04_PartForm.f (k : Nat) (a0_0 : Int) (a0_1 : Int) (a0_2 : Int) (l0_3 : List Int) : Option (List Int) := (trivetref04_num.f k ([] : List Int) (([a0_0, a0_1, a0_2] : List Int))).bind fun t460 => ((trivetref01_Blob.f k t460 l0_3).bind fun t463 => (some t463))
def trivetref04_PartForm.T1 : Bool × List (List Nat × List Nat) := (true, [([], []), ([0], [0]), ([], []), ([2], [2]), ([], []), ([4], [4]), ([1, 3, 5], [1, 3, 5]), ([6], [6]), ([], []), ([8], [8]), ([7, 9, 7], [7, 9]), ([10, 10, 0, 1, 2, 3, 4, 5, 6, 7, 8, 9, 10], [10])])
def trivetref04_PartForm.B1 : List Nat := [0, 1, 0, 4, 0, 16, 63, 127, 0, 256, 1023, 2047]
theorem trivetref04_PartForm.tab1 : rtab .any (opsOf Tryz.f106 1) = trivetref04_PartForm.T1 := by kernel_rfl
theorem trivetref04_PartForm.bits1 : waitsOk trivetref04_PartForm.T1.2 trivetref04_PartForm.B1 = true := by kernel_rfl
set_option maxHeartbeats 8000000 in
set_option maxRecDepth 100000 in
theorem trivetref04_PartForm.calls (k : Nat) (a0_0 : Int) (a0_1 : Int) (a0_2 : Int) (A0_3 : Option Addr) (c0_3 : Nat) (l0_3 : List Int) (r : List Int) (w : World) (hr0_3 : Kd.C (Kd.int .u8) w A0_3 l0_3.length l0_3) (hc0_3 : l0_3.length ≤ c0_3) (h : trivetref04_PartForm.f k a0_0 a0_1 a0_2 l0_3 = some r) :
  Calls Tryz.prog 106 #[.agg #[.int .i64 a0_0, .int .i64 a0_1, .int .i64 a0_2, .slice A0_3 l0_3.length c0_3]] w fun e w' => ∃ v0_ : Value, e = .returned (v0_) ∧ Kd.R (Kd.int .u8) 5 w' w.heap.size (fun _ => True) v0_ r ∧ Below w.heap.size w w' := by
 have hu32 := Tryz.underlying32
 have HR0_3 := Aside0.mk hr0_3
 have HC0_3 := Aside0.mk hc0_3
 clear hr0_3 hc0_3
 have HB := Aside0.mk (Below.refl w.heap.size w)
 have H : ((trivetref04_num.f k ([] : List Int) (([a0_0, a0_1, a0_2] : List Int))).bind fun t460 => ((trivetref01_Blob.f k t460 l0_3).bind fun t463 => (some t463))) = some r := h
 clear h
 obtain ⟨y457, hy457⟩ : ∃ y_ : List Int, y_ = (([a0_0, a0_1, a0_2] : List Int)) := ⟨_, rfl⟩
 replace H : ((trivetref04_num.f k ([] : List Int) y457).bind fun t460 => ((trivetref01_Blob.f k t460 l0_3).bind fun t463 => (some t463))) = some r := by first | (rw [hy457]; with_reducible exact H) | (have H2_ := (Option.bind_some _ _).symm.trans H; rw [hy457]; with_reducible exact H2_) | (have H2_ := (Option.bind_some _ _).symm.trans H; with_reducible exact H2_) | with_reducible exact H | (rw [hy457]; exact H) | exact H
 have Ny457 := Aside0.mk hy457
 clear hy457
 replace H := Option.bind_eq_some_iff.mp H
 obtain ⟨t460, A20, H⟩ := H
 replace H : ((trivetref01_Blob.f k t460 l0_3).bind fun t463 => (some t463)) = some r := H
 have A2 := Aside0.mk A20
 clear A20
 replace H := Option.bind_eq_some_iff.mp H
 obtain ⟨t463, A30, H⟩ := H
 replace H : (some t463) = some r := H
 have A3 := Aside0.mk A30
 clear A30
 obtain rfl := Option.some.inj H
 go_enter Tryz.func106, Tryz.ntmps106
 try go_wp2_with (first | ((with_reducible refine gate_dst (N := 1) rfl ?_); refine box_event ?hg (N := 1) ?hd (cs := #[.int .i64 a0_0, .int .i64 a0_1, .int .i64 a0_2, .slice A0_3 l0_3.length c0_3]) (t := 32) ?hr ?_; (case hd => rfl); (case hg => rfl); (case hr => first | (go_simp; done) | (go_simp; rfl)); intro gb456 hg w4 hbox hb; have n0_ := Aside0.mk (below_step (stB HB.out) hb); have n1_ := Aside0.mk (hbox); have n2_ := Aside0.mk ((by rw [hg]; exact (below_size (stB HB.out)) : w.heap.size ≤ gb456)); have n3_ := Aside0.mk ((by rw [hg]; exact (below_size (stB HB.out)) : w.heap.size ≤ gb456)); clear HB; have HB := n0_; have BK456 := n1_; have GW456 := n2_; have GE456 := n3_; clear n0_ n1_ n2_ n3_; clear hb hbox hg))
 have n0_ := Aside0.mk (blk_drew BK456.out)
 have n1_ := Aside0.mk (below_drew1 HB.out)
 clear BK456
 clear HB
 have BK456 := n0_
 have HB := n1_
 clear n0_ n1_
 refine start_ (n := 12) (S := fun w' => w'.cell? ⟨gb456, 0, none⟩ = some (.int .i64 a0_0) ∧ w'.cell? ⟨gb456, 1, none⟩ = some (.int .i64 a0_1) ∧ w'.cell? ⟨gb456, 2, none⟩ = some (.int .i64 a0_2) ∧ w'.cell? ⟨gb456, 3, none⟩ = some (.slice A0_3 l0_3.length c0_3)) (ds := []) #[false, false, false, false, false, false, false, false, false, false, false, false] (by kernel_rfl) rfl rfl (bc4 BK456.out) (fun hHeld => ?_); refine with_tabW trivetref04_PartForm.tab1 trivetref04_PartForm.bits1 (fun HT_ HW_ => ?_)
 generalize w4.drew = w5 at BK456 HB hHeld ⊢
 refine pure_ (i := 0) (N := some 3) (v := ?_) (a' := ?_) #[true, false, false, false, false, false, false, false, false, false, false, false] rfl rfl (any_of HT_.out (by kernel_rfl)) (fun _ _ _ h => h) (Or.inl ⟨by rfl, ?_⟩) ?_ ?_
 rotate_left
 ·intro w'
  go_simp
  with_reducible rfl
 rotate_left
 ·simp only [Act.put, sq1, sq2, sq3, i64_w, i32_w]
  rfl
 refine pure_ (i := 2) (N := some 5) (v := ?_) (a' := ?_) #[true, false, true, false, false, false, false, false, false, false, false, false] rfl rfl (any_of HT_.out (by kernel_rfl)) (fun _ _ _ h => h) (Or.inl ⟨by rfl, ?_⟩) ?_ ?_
 rotate_left
 ·intro w'
  go_simp
  with_reducible rfl
 rotate_left
 ·simp only [Act.put, sq1, sq2, sq3, i64_w, i32_w]
  rfl
 refine pure_ (i := 4) (N := some 7) (v := ?_) (a' := ?_) #[true, false, true, false, true, false, false, false, false, false, false, false] rfl rfl (any_of HT_.out (by kernel_rfl)) (fun _ _ _ h => h) (Or.inl ⟨by rfl, ?_⟩) ?_ ?_
 rotate_left
 ·intro w'
  go_simp
  with_reducible rfl
 rotate_left
 ·simp only [Act.put, sq1, sq2, sq3, i64_w, i32_w]
  rfl
 refine pure_ (i := 8) (N := some 11) (v := ?_) (a' := ?_) #[true, false, true, false, true, false, false, false, true, false, false, false] rfl rfl (any_of HT_.out (by kernel_rfl)) (fun _ _ _ h => h) (Or.inl ⟨by rfl, ?_⟩) ?_ ?_
 rotate_left
 ·intro w'
  go_simp
  with_reducible rfl
 rotate_left
 ·simp only [Act.put, sq1, sq2, sq3, i64_w, i32_w]
  rfl
 refine take_ (i := 1) (N := some 4) (v := ?_) (a' := ?_) #[true, true, true, false, true, false, false, false, true, false, false, false] rfl rfl (take_ofW HT_.out HW_.out (by kernel_rfl)) (fun _ _ _ h => h) (Or.inl ⟨by rfl, ?_⟩) hHeld ?_ ?_
 rotate_left
 ·rintro w' ⟨s0, s1, s2, s3⟩
  go_simp
  with_reducible rfl
 rotate_left
 ·simp only [Act.put, sq1, sq2, sq3, i64_w, i32_w]
  rfl
 refine take_ (i := 3) (N := some 6) (v := ?_) (a' := ?_) #[true, true, true, true, true, false, false, false, true, false, false, false] rfl rfl (take_ofW HT_.out HW_.out (by kernel_rfl)) (fun _ _ _ h => h) (Or.inl ⟨by rfl, ?_⟩) hHeld ?_ ?_
 rotate_left
 ·rintro w' ⟨s0, s1, s2, s3⟩
  go_simp
  with_reducible rfl
 rotate_left
 ·simp only [Act.put, sq1, sq2, sq3, i64_w, i32_w]
  rfl
 refine take_ (i := 5) (N := some 8) (v := ?_) (a' := ?_) #[true, true, true, true, true, true, false, false, true, false, false, false] rfl rfl (take_ofW HT_.out HW_.out (by kernel_rfl)) (fun _ _ _ h => h) (Or.inl ⟨by rfl, ?_⟩) hHeld ?_ ?_
 rotate_left
 ·rintro w' ⟨s0, s1, s2, s3⟩
  go_simp
  with_reducible rfl
 rotate_left
 ·simp only [Act.put, sq1, sq2, sq3, i64_w, i32_w]
  rfl
 refine take_ (i := 9) (N := some 12) (v := ?_) (a' := ?_) #[true, true, true, true, true, true, false, false, true, true, false, false] rfl rfl (take_ofW HT_.out HW_.out (by kernel_rfl)) (fun _ _ _ h => h) (Or.inl ⟨by rfl, ?_⟩) hHeld ?_ ?_
 rotate_left
 ·rintro w' ⟨s0, s1, s2, s3⟩
  go_simp
  with_reducible rfl
 rotate_left
 ·simp only [Act.put, sq1, sq2, sq3, i64_w, i32_w]
  rfl
 refine one_ (i := 6) (N := some 9) #[true, true, true, true, true, true, true, false, true, true, false, false] rfl rfl (one_of HT_.out (by kernel_rfl)) (by decide) (fun K hK => ?_)
 refine Kd.R_lit_step (Kd.int .i64) _ 2 ?hg (N := 9) ?hd (xs := ([a0_0, a0_1, a0_2] : List Int)) (inner := [.int .i64 a0_0, .int .i64 a0_1, .int .i64 a0_2]) (ok := fun _ => True) (okp := fun _ => True) ?hr ?hp (fun _ hk => hk) trivial (Below.refl _ _) (Nat.le_refl _) (by simp) ?_; (case hd => rfl); (case hg => rfl); (case hr => first | (go_simp; done) | (go_simp; rfl)); (case hp => exact (Reps.one (show Kd.M (Kd.int .i64) _ _ _ a0_0 [.int .i64 a0_0] from rfl) (Reps.one (show Kd.M (Kd.int .i64) _ _ _ a0_1 [.int .i64 a0_1] from rfl) (Reps.one (show Kd.M (Kd.int .i64) _ _ _ a0_2 [.int .i64 a0_2] from rfl) (Reps.none _ _)))))
 intro v458 w6 ho7 hb hg_ hnew_
 clear hg_ hnew_
 (first | rw [← Ny457.out] at ho7 | (simp only [Int.reduceToNat] at ho7; rw [← Ny457.out] at ho7))
 have n0_ := Aside0.mk (Kd.R_lower ho7 (below_size (by repeat (first | (with_reducible first | exact HB.out | apply below_alloc | apply pw_below_drewN | apply below_drew1 | refine below_set ?_ GE456.out) | exact HB.out))))
 have n1_ := Aside0.mk (blk_below (g := gb456) (o := .cells #[.int .i64 a0_0, .int .i64 a0_1, .int .i64 a0_2, .slice A0_3 l0_3.length c0_3] 32 (0, 0)) (stK BK456.out) hb)
 have n2_ := Aside0.mk (below_step (by repeat (first | (with_reducible first | exact HB.out | apply below_alloc | apply pw_below_drewN | apply below_drew1 | refine below_set ?_ GE456.out) | exact HB.out)) hb)
 clear BK456
 clear HB
 have HO459 := n0_
 have BK456 := n1_
 have HB := n2_
 clear n0_ n1_ n2_
 clear hb ho7
 obtain ⟨Ao8, co8, eo8⟩ := Kd.R_slice HO459.out
 (first | subst eo8 | (injection eo8 with f1_ f2_ f3_; have f4_ := f1_.symm; have f5_ := f3_.symm; clear f1_ f2_ f3_; subst f4_; subst f5_))
 refine hK.out _ _ (bc4 BK456.out) (fun hHeld => ?_)
 clear hK K
 refine norm_ (a' := ?_) ?_ ?_
 rotate_left
 ·show Act.put _ (some 9) _ = _
  simp only [Act.put, sq1, sq2, sq3, i64_w, i32_w]
  rfl
 refine one_ (i := 7) (N := some 10) #[true, true, true, true, true, true, true, true, true, true, false, false] rfl rfl (one_of HT_.out (by kernel_rfl)) (by decide) (fun K hK => ?_)
 refine goes_ Tryz.func97 (by kernel_rfl) rfl #[.slice none 0 0, .slice Ao8 y457.length co8] (by rfl) rfl rfl (by (try simp only [List.map_toArray, List.map_cons, List.map_nil]); first | done | rfl | (simp only [List.length_drop, List.length_take]; rfl)) ?_
 refine (trivetref04_num.calls k _ _ ([] : List Int) _ _ y457 t460 _ ?side1 ?side2 ?side3 ?side4 A2.out).mono ?_
 (case side1 => exact Kd.C_nil _ _)
 (case side2 => exact Nat.le_refl _)
 (case side3 => exact stC ((Kd.R_reads' HO459.out).2.2))
 (case side4 => exact (Kd.R_reads' HO459.out).2.1)
 rintro e w9 ⟨v461, rfl, ho0, hb⟩
 refine ⟨_, rfl, ?_⟩
 have n0_ := Aside0.mk (Kd.R_below (stR HO459.out) hb)
 have n1_ := Aside0.mk (Kd.R_lower ho0 (below_size (by repeat (first | (with_reducible first | exact HB.out | apply below_alloc | apply pw_below_drewN | apply below_drew1 | refine below_set ?_ GE456.out) | exact HB.out))))
 have n2_ := Aside0.mk (blk_below (g := gb456) (o := .cells #[.int .i64 a0_0, .int .i64 a0_1, .int .i64 a0_2, .slice A0_3 l0_3.length c0_3] 32 (0, 0)) (stK BK456.out) hb)
 have n3_ := Aside0.mk (below_step (by repeat (first | (with_reducible first | exact HB.out | apply below_alloc | apply pw_below_drewN | apply below_drew1 | refine below_set ?_ GE456.out) | exact HB.out)) hb)
 clear HO459
 clear BK456
 clear HB
 have HO459 := n0_
 have HO462 := n1_
 have BK456 := n2_
 have HB := n3_
 clear n0_ n1_ n2_ n3_
 (try clear hb)
 (try clear hb2)
 (try clear hk)
 (try clear hi)
 (try clear ho0)
 obtain ⟨Ao10, co10, eo10⟩ := Kd.R_slice HO462.out
 (first | subst eo10 | (injection eo10 with f1_ f2_ f3_; have f4_ := f1_.symm; have f5_ := f3_.symm; clear f1_ f2_ f3_; subst f4_; subst f5_))
 refine hK.out _ _ (bc4 BK456.out) (fun hHeld => ?_)
 clear hK K
 refine norm_ (a' := ?_) ?_ ?_
 rotate_left
 ·show Act.put _ (some 10) _ = _
  simp only [Act.put, sq1, sq2, sq3, i64_w, i32_w]
  rfl
 refine one_ (i := 10) (N := some 13) #[true, true, true, true, true, true, true, true, true, true, true, false] rfl rfl (one_of HT_.out (by kernel_rfl)) (by decide) (fun K hK => ?_)
 refine goes_ Tryz.func107 (by kernel_rfl) rfl #[.slice Ao10 t460.length co10, .slice A0_3 l0_3.length c0_3] (by rfl) rfl rfl (by (try simp only [List.map_toArray, List.map_cons, List.map_nil]); first | done | rfl | (simp only [List.length_drop, List.length_take]; rfl)) ?_
 with_reducible refine (trivetref01_Blob.calls k _ _ t460 _ _ l0_3 t463 _ ?side1 ?side2 ?side3 ?side4 A3.out).mono ?_
 (case side1 => exact stC ((Kd.R_reads' HO462.out).2.2))
 (case side2 => exact (Kd.R_reads' HO462.out).2.1)
 (case side3 => exact stC (Kd.C_below HR0_3.out HB.out))
 (case side4 => exact HC0_3.out)
 rintro e w11 ⟨v464, rfl, ho0, hb⟩
 refine ⟨_, rfl, ?_⟩
 have n0_ := Aside0.mk (Kd.R_below (stR HO459.out) hb)
 have n1_ := Aside0.mk (Kd.R_elder' (stR HO462.out) (Kd.R_base ho0) hb)
 have n2_ := Aside0.mk (Kd.R_lower (Kd.R_new' ho0 (Kd.R_lt (stR HO462.out))) (below_size (by repeat (first | (with_reducible first | exact HB.out | apply below_alloc | apply pw_below_drewN | apply below_drew1 | refine below_set ?_ GE456.out) | exact HB.out))))
 have n3_ := Aside0.mk (blk_below (g := gb456) (o := .cells #[.int .i64 a0_0, .int .i64 a0_1, .int .i64 a0_2, .slice A0_3 l0_3.length c0_3] 32 (0, 0)) (stK BK456.out) hb)
 have n4_ := Aside0.mk (below_step (by repeat (first | (with_reducible first | exact HB.out | apply below_alloc | apply pw_below_drewN | apply below_drew1 | refine below_set ?_ GE456.out) | exact HB.out)) hb)
 clear HO459
 clear HO462
 clear BK456
 clear HB
 have HO459 := n0_
 have HO462 := n1_
 have HO465 := n2_
 have BK456 := n3_
 have HB := n4_
 clear n0_ n1_ n2_ n3_ n4_
 (try clear hb)
 (try clear hb2)
 (try clear hk)
 (try clear hi)
 (try clear ho0)
 refine hK.out _ _ (bc4 BK456.out) (fun hHeld => ?_)
 clear hK K
 refine norm_ (a' := ?_) ?_ ?_
 rotate_left
 ·show Act.put _ (some 13) _ = _
  simp only [Act.put, sq1, sq2, sq3, i64_w, i32_w]
  rfl
 refine pure_ (i := 11) (N := some 2) (v := ?_) (a' := ?_) #[true, true, true, true, true, true, true, true, true, true, true, true] rfl rfl (any_of HT_.out (by kernel_rfl)) (fun _ _ _ h => h) (Or.inl ⟨by rfl, ?_⟩) ?_ ?_
 rotate_left
 ·intro w'
  go_simp
  with_reducible rfl
 rotate_left
 ·simp only [Act.put, sq1, sq2, sq3, i64_w, i32_w]
  rfl
 refine done_ (done_of HT_.out (by kernel_rfl)) ?_
 try go_wp2
 go_ret
 exact ⟨_, by first | rfl | (simp [errW_none, errW_some] <;> rfl) | (simp [*, errW_none, errW_some] <;> rfl), by (with_reducible repeat (first|apply Kd.R_alloc | apply Kd.R_drewN | apply Kd.R_drew)); exact Kd.R_mono HO465.out (fun _ hk => trivial), by repeat (first | (with_reducible first | exact HB.out | apply below_alloc | apply pw_below_drewN | apply below_drew1 | refine below_set ?_ GE456.out) | exact HB.out)⟩
end Go.Proofs.YtgiefblcckikeaaGreat.G
end

section
-- Written by a program of this session's (wip/gprint.py over the kit's printer).
namespace Go.Proofs.YtgiefblcckikeaaGreat.G
open Go.RowKit Go.Proofs.YtgiefblcckikeaaGreatW.PrintWords Go.Proofs.YtgiefblcckikeaaGreatW.PrintLast Go.Proofs.YtgiefblcckikeaaGreatW.PrintMore
attribute [local go_sem] max2_int min2_int max_two min_two max_three min_three max_four min_four   -- for this text's walks alone
def trivetref04_MsgForm.f (k : Nat) (a0_0 : Int) (a0_1 : Int) (a0_2 : Int) (a0_3 : Int) (a0_4 : Int) (a0_5 : Int) (a0_6 : Int) (a0_7 : Bool) (l0_8 : List (S63)) (a0_9 : Int) (a0_10 : Int) (a0_11 : Int) (l0_12 : List (S26)) (a0_13 : Int) (a0_14 : Int) (a0_15 : Int) (l0_16 : List Int) : Option (List Int) := (trivetref04_num.f k ([] : List Int) (([a0_0, a0_1, a0_2] : List Int))).bind fun t470 => (if a0_0 = 6 then ((trivetref04_EntryForm.f k a0_9 a0_10 a0_11 l0_12).bind fun t473 => (if t470.length + t473.length < 140737488355328 then (some (t470 ++ t473)) else (none))) else (if a0_0 = 1 then ((trivetref04_num.f k t470 (([a0_3, a0_4, a0_5] : List Int))).bind fun t482 => (some t482)) else (if a0_0 = 2 then ((trivetref04_num.f k t470 (([a0_3] : List Int))).bind fun t488 => ((trivetref04_yes.f k t488 a0_7).bind fun t491 => (some t491))) else (if a0_0 = 3 then ((trivetref04_num.f k t470 (([a0_3, a0_4, a0_5, a0_6] : List Int))).bind fun t497 => ((trivetref04_lists.f k t497 l0_8).bind fun t500 => (some t500))) else (if a0_0 = 4 then ((trivetref04_num.f k t470 (([a0_3] : List Int))).bind fun t506 => ((trivetref04_yes.f k t506 a0_7).bind fun t509 => ((trivetref04_num.f k t509 (([a0_4] : List Int))).bind fun t515 => (some t515)))) else ((trivetref04_num.f k t470 (([a0_3, a0_4, a0_5] : List Int))).bind fun t521 => ((trivetref04_PartForm.f k a0_13 a0_14 a0_15 l0_16).bind fun t524 => (if t521.length + t524.length < 140737488355328 then (some (t521 ++ t524)) else (none)))))))))
def trivetref04_MsgForm.T8 : Bool × List (List Nat × List Nat) := (true, [([], []), ([], []), ([1], [1]), ([2], [2]), ([0, 3], [0, 3]), ([], []), ([5], [5]), ([4, 6, 4], [4, 6]), ([7, 7, 0, 1, 2, 3, 4, 5, 6, 7], [7])])
def trivetref04_MsgForm.B8 : List Nat := [0, 0, 2, 6, 15, 0, 32, 127, 255]
theorem trivetref04_MsgForm.tab8 : rtab .any (opsOf Tryz.f52 8) = trivetref04_MsgForm.T8 := by kernel_rfl
theorem trivetref04_MsgForm.bits8 : waitsOk trivetref04_MsgForm.T8.2 trivetref04_MsgForm.B8 = true := by kernel_rfl
def trivetref04_MsgForm.T10 : Bool × List (List Nat × List Nat) := (true, [([], []), ([], []), ([1], [1]), ([], []), ([3], [3]), ([], []), ([5], [5]), ([], []), ([7], [7]), ([2, 4, 6, 8], [2, 4, 6, 8]), ([0, 9], [0, 9]), ([], []), ([11], [11]), ([10, 12, 10], [10, 12]), ([13, 13, 0, 1, 2, 3, 4, 5, 6, 7, 8, 9, 10, 11, 12, 13], [13])])
def trivetref04_MsgForm.B10 : List Nat := [0, 0, 2, 0, 8, 0, 32, 0, 128, 510, 1023, 0, 2048, 8191, 16383]
theorem trivetref04_MsgForm.tab10 : rtab .any (opsOf Tryz.f52 10) = trivetref04_MsgForm.T10 := by kernel_rfl
theorem trivetref04_MsgForm.bits10 : waitsOk trivetref04_MsgForm.T10.2 trivetref04_MsgForm.B10 = true := by kernel_rfl
def trivetref04_MsgForm.T12 : Bool × List (List Nat × List Nat) := (true, [([], []), ([], []), ([1], [1]), ([2], [2]), ([0, 3], [0, 3]), ([], []), ([5], [5]), ([4, 6, 4], [4, 6]), ([], []), ([8], [8]), ([9], [9]), ([7, 10, 7], [7, 10]), ([11, 11, 0, 1, 2, 3, 4, 5, 6, 7, 8, 9, 10, 11], [11])])
def trivetref04_MsgForm.B12 : List Nat := [0, 0, 2, 6, 15, 0, 32, 127, 0, 256, 768, 2047, 4095]
theorem trivetref04_MsgForm.tab12 : rtab .any (opsOf Tryz.f52 12) = trivetref04_MsgForm.T12 := by kernel_rfl
theorem trivetref04_MsgForm.bits12 : waitsOk trivetref04_MsgForm.T12.2 trivetref04_MsgForm.B12 = true := by kernel_rfl
def trivetref04_MsgForm.T13 : Bool × List (List Nat × List Nat) := (true, [([], []), ([], []), ([1], [1]), ([], []), ([3], [3]), ([], []), ([5], [5]), ([2, 4, 6], [2, 4, 6]), ([0, 7], [0, 7]), ([], []), ([9], [9]), ([10, 8], [10]), ([8, 11, 11], [8, 11]), ([12, 12, 0, 1, 2, 3, 4, 5, 6, 7, 8, 9, 10, 11, 12], [12])])
def trivetref04_MsgForm.B13 : List Nat := [0, 0, 2, 0, 8, 0, 32, 126, 255, 0, 512, 2047, 4095, 8191]
theorem trivetref04_MsgForm.tab13 : rtab .any (opsOf Tryz.f52 13) = trivetref04_MsgForm.T13 := by kernel_rfl
theorem trivetref04_MsgForm.bits13 : waitsOk trivetref04_MsgForm.T13.2 trivetref04_MsgForm.B13 = true := by kernel_rfl
set_option maxHeartbeats 8000000 in
theorem trivetref04_MsgForm.calls (k : Nat) (a0_0 : Int) (a0_1 : Int) (a0_2 : Int) (a0_3 : Int) (a0_4 : Int) (a0_5 : Int) (a0_6 : Int) (a0_7 : Bool) (A0_8 : Option Addr) (c0_8 : Nat) (l0_8 : List (S63)) (a0_9 : Int) (a0_10 : Int) (a0_11 : Int) (A0_12 : Option Addr) (c0_12 : Nat) (l0_12 : List (S26)) (a0_13 : Int) (a0_14 : Int) (a0_15 : Int) (A0_16 : Option Addr) (c0_16 : Nat) (l0_16 : List Int) (r : List Int) (w : World) (hr0_8 : Kd.C k63 w A0_8 l0_8.length l0_8) (hc0_8 : l0_8.length ≤ c0_8) (hr0_12 : Kd.C k26 w A0_12 l0_12.length l0_12) (hc0_12 : l0_12.length ≤ c0_12) (hr0_16 : Kd.C (Kd.int .u8) w A0_16 l0_16.length l0_16) (hc0_16 : l0_16.length ≤ c0_16) (h : trivetref04_MsgForm.f k a0_0 a0_1 a0_2 a0_3 a0_4 a0_5 a0_6 a0_7 l0_8 a0_9 a0_10 a0_11 l0_12 a0_13 a0_14 a0_15 l0_16 = some r) :
  Calls Tryz.prog 52 #[.agg #[.int .i64 a0_0, .int .i64 a0_1, .int .i64 a0_2, .int .i64 a0_3, .int .i64 a0_4, .int .i64 a0_5, .int .i64 a0_6, .bool a0_7, .slice A0_8 l0_8.length c0_8, .int .i64 a0_9, .int .i64 a0_10, .int .i64 a0_11, .slice A0_12 l0_12.length c0_12, .int .i64 a0_13, .int .i64 a0_14, .int .i64 a0_15, .slice A0_16 l0_16.length c0_16]] w fun e w' => ∃ v0_ : Value, e = .returned (v0_) ∧ Kd.R (Kd.int .u8) 5 w' w.heap.size (fun _ => True) v0_ r ∧ Below w.heap.size w w' := by
 have R := Aside0.mk (And.intro hr0_8 (And.intro hr0_12 hr0_16)); have C := Aside0.mk (And.intro hc0_8 (And.intro hc0_12 hc0_16))
 clear hr0_8 hr0_12 hr0_16 hc0_8 hc0_12 hc0_16
 obtain ⟨x, hb⟩ := box1 w #[.int .i64 a0_0, .int .i64 a0_1, .int .i64 a0_2, .int .i64 a0_3, .int .i64 a0_4, .int .i64 a0_5, .int .i64 a0_6, .bool a0_7, .slice A0_8 l0_8.length c0_8, .int .i64 a0_9, .int .i64 a0_10, .int .i64 a0_11, .slice A0_12 l0_12.length c0_12, .int .i64 a0_13, .int .i64 a0_14, .int .i64 a0_15, .slice A0_16 l0_16.length c0_16] 34
 unfold trivetref04_MsgForm.f at h
 obtain ⟨t, e, h⟩ := Option.bind_eq_some_iff.1 h
 have E := Aside0.mk e; have H := Aside0.mk h; clear e h
 go_enter Tryz.func52, Tryz.ntmps52
 go_upto_region 1 with fail
 obtain ⟨W, hW⟩ : ∃ W, w.alloc (.cells #[.int .i64 a0_0, .int .i64 a0_1, .int .i64 a0_2, .int .i64 a0_3, .int .i64 a0_4, .int .i64 a0_5, .int .i64 a0_6, .bool a0_7, .slice A0_8 l0_8.length c0_8, .int .i64 a0_9, .int .i64 a0_10, .int .i64 a0_11, .slice A0_12 l0_12.length c0_12, .int .i64 a0_13, .int .i64 a0_14, .int .i64 a0_15, .slice A0_16 l0_16.length c0_16] 34) = W := ⟨_, rfl⟩
 rw [hW] at x hb ⊢
 have X := Aside0.mk x; have B := Aside0.mk hb
 clear x hb hW
 obtain ⟨x0, x1, x2, x3, x4, x5, x6, x7, x8, x9, x10, x11, x12, x13, x14, x15, x16⟩ := bc17 X.out
 go_wp2_with fail
 refine (trivetref04_num.calls k none 0 [] (some ⟨W.heap.size, 0, none⟩) 3 [a0_0, a0_1, a0_2] t _ (Kd.C_nil _ _) (Nat.le_refl _) (clit [a0_0, a0_1, a0_2] (by simp)) (by simp) E.out).mono ?_
 rintro e W1 ⟨v, rfl, ho, d⟩
 obtain ⟨A, c, rfl⟩ := Kd.R_slice ho
 have O := Aside0.mk (Kd.R_reads' ho); have P := Aside0.mk (Kd.R_lower ho (stB B.out).size); have Y := Aside0.mk (blk_below (stK X.out) d); have D := Aside0.mk (below_step (stB B.out) d); have Z := Aside0.mk (show W.heap.size ≤ W1.heap.size from Nat.le_trans stZ d.size); have G := Aside0.mk (blk_lt X.out)
 clear x0 x1 x2 x3 x4 x5 x6 x7 x8 x9 x10 x11 x12 x13 x14 x15 x16 ho d X B E
 obtain ⟨x0, x1, x2, x3, x4, x5, x6, x7, x8, x9, x10, x11, x12, x13, x14, x15, x16⟩ := bc17 Y.out
 by_cases q6 : a0_0 = 6
 ·have h := H.out
  rw [if_pos q6] at h
  have p6 := beq_iff_eq.2 q6
  obtain ⟨t2, e, h⟩ := Option.bind_eq_some_iff.1 h
  have E2 := Aside0.mk e; clear e
  by_cases g : t.length + t2.length < 140737488355328
  rotate_left
  ·rw [if_neg g] at h; cases h
  rw [if_pos g] at h
  obtain rfl := Option.some.inj h
  clear h H q6
  go_wp2_with fail
  refine (trivetref04_EntryForm.calls k a0_9 a0_10 a0_11 A0_12 c0_12 l0_12 t2 _ (Kd.C_below R.out.2.1 D.out) C.out.2.1 E2.out).mono ?_
  rintro e W2 ⟨v, rfl, ho, d⟩
  obtain ⟨A2, c2, rfl⟩ := Kd.R_slice ho
  have O2 := Aside0.mk (Kd.R_reads' ho); have P2 := Aside0.mk (Kd.R_below P.out d); have D2 := Aside0.mk (below_step D.out d)
  clear ho d x0 x1 x2 x3 x4 x5 x6 x7 x8 x9 x10 x11 x12 x13 x14 x15 x16
  go_wp2_with ((with_reducible refine gate_builtin (b := .append) (xs := #[.tmp 16, .tmp 19]) rfl ?_); at_builtin; refine Kd.R_append_rows (Kd.int .u8) (w0 := w) w.heap.size rfl (.tmp 16) (.tmp 19) 23 5 (.int .u8 0) 1 rfl Tryz.underlying23 info5 rfl (by decide) (by omega) _ t t2 _ _ _ (fun _ => True) (fun _ => False) rfl rfl P2.out O2.out.2.2 (fun _ _ h => h) (fun _ h => h.elim) (fun _ _ => trivial) D2.out D2.out.size (by omega) ?_; intro v5 W5 ho d hg hat; have F := Aside0.mk (And.intro ho d); clear ho d hg hat)
  go_wp2_with fail
  go_ret
  exact ⟨_, rfl, F.out.1, F.out.2⟩
 by_cases q1 : a0_0 = 1
 ·have h := H.out
  rw [if_neg q6, if_pos q1] at h
  have p6 := beq_eq_false_iff_ne.2 q6
  have p1 := beq_iff_eq.2 q1
  obtain ⟨t2, e, h⟩ := Option.bind_eq_some_iff.1 h
  have E2 := Aside0.mk e; clear e
  obtain rfl := Option.some.inj h
  clear h H q6 q1
  go_wp2_with fail
  refine (trivetref04_num.calls k A c t (some ⟨W1.heap.size, 0, none⟩) 3 [a0_3, a0_4, a0_5] t2 _ (stC O.out.2.2) O.out.2.1 (clit [a0_3, a0_4, a0_5] (by simp)) (by simp) E2.out).mono ?_
  rintro e W2 ⟨v, rfl, ho, d⟩
  obtain ⟨A2, c2, rfl⟩ := Kd.R_slice ho
  have P2 := Aside0.mk (Kd.R_lower ho (stB D.out).size); have D2 := Aside0.mk (below_step (stB D.out) d)
  clear ho d
  go_wp2_with fail
  go_ret
  exact ⟨_, rfl, P2.out, D2.out⟩
 by_cases q2 : a0_0 = 2
 ·have h := H.out
  rw [if_neg q6, if_neg q1, if_pos q2] at h
  have p6 := beq_eq_false_iff_ne.2 q6
  have p1 := beq_eq_false_iff_ne.2 q1
  have p2 := beq_iff_eq.2 q2
  obtain ⟨t2, e, h⟩ := Option.bind_eq_some_iff.1 h
  have E2 := Aside0.mk e; clear e
  obtain ⟨t3, e, h⟩ := Option.bind_eq_some_iff.1 h
  have E3 := Aside0.mk e; clear e
  obtain rfl := Option.some.inj h
  clear h H q6 q1 q2
  go_wp2_with fail
  go_region_held3 (fun w' => w'.cell? ⟨w.heap.size, 3, none⟩ = some (.int .i64 a0_3) ∧ w'.cell? ⟨w.heap.size, 7, none⟩ = some (.bool a0_7)) (go_keep) (first | (go_at_call 97; refine (trivetref04_num.calls k A c t (some ⟨W1.heap.size, 0, none⟩) 1 [a0_3] t2 _ (stC O.out.2.2) O.out.2.1 (Kd.C_drew (clit (w := W1) [a0_3] (by simp))) (by simp) E2.out).mono ?_; rintro e W2 ⟨v, rfl, ho, d⟩; obtain ⟨A2, c2, rfl⟩ := Kd.R_slice ho; have O2 := Aside0.mk (Kd.R_reads' ho); have P2 := Aside0.mk (Kd.R_lower ho (stB D.out).size); have Y2 := Aside0.mk (blk_below (stK Y.out) d); have D2 := Aside0.mk (below_step (stB D.out) d); clear ho d; have y23 : W2.cell? ⟨w.heap.size, 3, none⟩ = some (.int .i64 a0_3) := (blk_cell Y2.out 3).trans rfl; have y27 : W2.cell? ⟨w.heap.size, 7, none⟩ = some (.bool a0_7) := (blk_cell Y2.out 7).trans rfl) | (go_at_call 104; refine (trivetref04_yes.calls k A2 c2 t2 a0_7 t3 _ (stC O2.out.2.2) O2.out.2.1 E3.out).mono ?_; rintro e W3 ⟨v, rfl, ho, d⟩; obtain ⟨A3, c3, rfl⟩ := Kd.R_slice ho; have O3 := Aside0.mk (Kd.R_reads' ho); have P3 := Aside0.mk (Kd.R_lower ho (stB D2.out).size); have Y3 := Aside0.mk (blk_below (stK Y2.out) d); have D3 := Aside0.mk (below_step (stB D2.out) d); clear ho d; have y33 : W3.cell? ⟨w.heap.size, 3, none⟩ = some (.int .i64 a0_3) := (blk_cell Y3.out 3).trans rfl; have y37 : W3.cell? ⟨w.heap.size, 7, none⟩ = some (.bool a0_7) := (blk_cell Y3.out 7).trans rfl))
  go_wp2_with fail
  go_ret
  exact ⟨_, rfl, P3.out, D3.out⟩
 by_cases q3 : a0_0 = 3
 ·have h := H.out
  rw [if_neg q6, if_neg q1, if_neg q2, if_pos q3] at h
  have p6 := beq_eq_false_iff_ne.2 q6
  have p1 := beq_eq_false_iff_ne.2 q1
  have p2 := beq_eq_false_iff_ne.2 q2
  have p3 := beq_iff_eq.2 q3
  obtain ⟨t2, e, h⟩ := Option.bind_eq_some_iff.1 h
  have E2 := Aside0.mk e; clear e
  obtain ⟨t3, e, h⟩ := Option.bind_eq_some_iff.1 h
  have E3 := Aside0.mk e; clear e
  obtain rfl := Option.some.inj h
  clear h H q6 q1 q2 q3
  go_wp2_with fail
  go_region_held3 (fun w' => w'.cell? ⟨w.heap.size, 3, none⟩ = some (.int .i64 a0_3) ∧ w'.cell? ⟨w.heap.size, 4, none⟩ = some (.int .i64 a0_4) ∧ w'.cell? ⟨w.heap.size, 5, none⟩ = some (.int .i64 a0_5) ∧ w'.cell? ⟨w.heap.size, 6, none⟩ = some (.int .i64 a0_6) ∧ w'.cell? ⟨w.heap.size, 8, none⟩ = some (.slice A0_8 l0_8.length c0_8)) (go_keep) (first | (go_at_call 97; refine (trivetref04_num.calls k A c t (some ⟨W1.heap.size, 0, none⟩) 4 [a0_3, a0_4, a0_5, a0_6] t2 _ (stC O.out.2.2) O.out.2.1 (Kd.C_drew (clit (w := W1) [a0_3, a0_4, a0_5, a0_6] (by simp))) (by simp) E2.out).mono ?_; rintro e W2 ⟨v, rfl, ho, d⟩; obtain ⟨A2, c2, rfl⟩ := Kd.R_slice ho; have O2 := Aside0.mk (Kd.R_reads' ho); have P2 := Aside0.mk (Kd.R_lower ho (stB D.out).size); have Y2 := Aside0.mk (blk_below (stK Y.out) d); have D2 := Aside0.mk (below_step (stB D.out) d); clear ho d; have y23 : W2.cell? ⟨w.heap.size, 3, none⟩ = some (.int .i64 a0_3) := (blk_cell Y2.out 3).trans rfl; have y24 : W2.cell? ⟨w.heap.size, 4, none⟩ = some (.int .i64 a0_4) := (blk_cell Y2.out 4).trans rfl; have y25 : W2.cell? ⟨w.heap.size, 5, none⟩ = some (.int .i64 a0_5) := (blk_cell Y2.out 5).trans rfl; have y26 : W2.cell? ⟨w.heap.size, 6, none⟩ = some (.int .i64 a0_6) := (blk_cell Y2.out 6).trans rfl; have y28 : W2.cell? ⟨w.heap.size, 8, none⟩ = some (.slice A0_8 l0_8.length c0_8) := (blk_cell Y2.out 8).trans rfl) | (go_at_call 105; refine (trivetref04_lists.calls k A2 c2 t2 A0_8 c0_8 l0_8 t3 _ (stC O2.out.2.2) O2.out.2.1 (stC (Kd.C_below R.out.1 D2.out)) C.out.1 E3.out).mono ?_; rintro e W3 ⟨v, rfl, ho, d⟩; obtain ⟨A3, c3, rfl⟩ := Kd.R_slice ho; have O3 := Aside0.mk (Kd.R_reads' ho); have P3 := Aside0.mk (Kd.R_lower ho (stB D2.out).size); have Y3 := Aside0.mk (blk_below (stK Y2.out) d); have D3 := Aside0.mk (below_step (stB D2.out) d); clear ho d; have y33 : W3.cell? ⟨w.heap.size, 3, none⟩ = some (.int .i64 a0_3) := (blk_cell Y3.out 3).trans rfl; have y34 : W3.cell? ⟨w.heap.size, 4, none⟩ = some (.int .i64 a0_4) := (blk_cell Y3.out 4).trans rfl; have y35 : W3.cell? ⟨w.heap.size, 5, none⟩ = some (.int .i64 a0_5) := (blk_cell Y3.out 5).trans rfl; have y36 : W3.cell? ⟨w.heap.size, 6, none⟩ = some (.int .i64 a0_6) := (blk_cell Y3.out 6).trans rfl; have y38 : W3.cell? ⟨w.heap.size, 8, none⟩ = some (.slice A0_8 l0_8.length c0_8) := (blk_cell Y3.out 8).trans rfl))
  go_wp2_with fail
  go_ret
  exact ⟨_, rfl, P3.out, D3.out⟩
 by_cases q4 : a0_0 = 4
 ·have h := H.out
  rw [if_neg q6, if_neg q1, if_neg q2, if_neg q3, if_pos q4] at h
  have p6 := beq_eq_false_iff_ne.2 q6
  have p1 := beq_eq_false_iff_ne.2 q1
  have p2 := beq_eq_false_iff_ne.2 q2
  have p3 := beq_eq_false_iff_ne.2 q3
  have p4 := beq_iff_eq.2 q4
  obtain ⟨t2, e, h⟩ := Option.bind_eq_some_iff.1 h
  have E2 := Aside0.mk e; clear e
  obtain ⟨t3, e, h⟩ := Option.bind_eq_some_iff.1 h
  have E3 := Aside0.mk e; clear e
  obtain ⟨t4, e, h⟩ := Option.bind_eq_some_iff.1 h
  have E4 := Aside0.mk e; clear e
  obtain rfl := Option.some.inj h
  clear h H q6 q1 q2 q3 q4
  go_wp2_with fail
  refine start_ (n := 13) (S := (fun w' => w'.cell? ⟨w.heap.size, 3, none⟩ = some (.int .i64 a0_3) ∧ w'.cell? ⟨w.heap.size, 4, none⟩ = some (.int .i64 a0_4) ∧ w'.cell? ⟨w.heap.size, 7, none⟩ = some (.bool a0_7))) (ds := []) #[false, false, false, false, false, false, false, false, false, false, false, false, false] (by kernel_rfl) rfl rfl ⟨(blk_cell Y.out 3).trans rfl, (blk_cell Y.out 4).trans rfl, (blk_cell Y.out 7).trans rfl⟩ (fun hHeld => ?_)
  refine pure_ (i := 0) (N := some 60) (v := ?_) (a' := ?_) #[true, false, false, false, false, false, false, false, false, false, false, false, false] rfl rfl (by kernel_rfl) (fun _ _ _ h => h) (Or.inl ⟨by rfl, ?_⟩) ?_ ?_
  rotate_left
  ·intro w'
   go_simp
   try with_reducible rfl
  rotate_left
  ·simp only [Act.put, sq1, sq2, sq3, i64_w, i32_w]
   rfl
  refine pure_ (i := 1) (N := some 61) (v := ?_) (a' := ?_) #[true, true, false, false, false, false, false, false, false, false, false, false, false] rfl rfl (by kernel_rfl) (fun _ _ _ h => h) (Or.inl ⟨by rfl, ?_⟩) ?_ ?_
  rotate_left
  ·intro w'
   go_simp
   try with_reducible rfl
  rotate_left
  ·simp only [Act.put, sq1, sq2, sq3, i64_w, i32_w]
   rfl
  refine pure_ (i := 5) (N := some 65) (v := ?_) (a' := ?_) #[true, true, false, false, false, true, false, false, false, false, false, false, false] rfl rfl (by kernel_rfl) (fun _ _ _ h => h) (Or.inl ⟨by rfl, ?_⟩) ?_ ?_
  rotate_left
  ·intro w'
   go_simp
   try with_reducible rfl
  rotate_left
  ·simp only [Act.put, sq1, sq2, sq3, i64_w, i32_w]
   rfl
  refine pure_ (i := 8) (N := some 68) (v := ?_) (a' := ?_) #[true, true, false, false, false, true, false, false, true, false, false, false, false] rfl rfl (by kernel_rfl) (fun _ _ _ h => h) (Or.inl ⟨by rfl, ?_⟩) ?_ ?_
  rotate_left
  ·intro w'
   go_simp
   try with_reducible rfl
  rotate_left
  ·simp only [Act.put, sq1, sq2, sq3, i64_w, i32_w]
   rfl
  refine take_ (i := 2) (N := some 62) (v := ?_) (a' := ?_) #[true, true, true, false, false, true, false, false, true, false, false, false, false] rfl rfl (by kernel_rfl) (fun _ _ _ h => h) (Or.inl ⟨by rfl, ?_⟩) hHeld ?_ ?_
  rotate_left
  ·intro w' hS
   go_simp
   try with_reducible rfl
  rotate_left
  ·simp only [Act.put, sq1, sq2, sq3, i64_w, i32_w]
   rfl
  refine take_ (i := 6) (N := some 66) (v := ?_) (a' := ?_) #[true, true, true, false, false, true, true, false, true, false, false, false, false] rfl rfl (by kernel_rfl) (fun _ _ _ h => h) (Or.inl ⟨by rfl, ?_⟩) hHeld ?_ ?_
  rotate_left
  ·intro w' hS
   go_simp
   try with_reducible rfl
  rotate_left
  ·simp only [Act.put, sq1, sq2, sq3, i64_w, i32_w]
   rfl
  refine take_ (i := 9) (N := some 69) (v := ?_) (a' := ?_) #[true, true, true, false, false, true, true, false, true, true, false, false, false] rfl rfl (by kernel_rfl) (fun _ _ _ h => h) (Or.inl ⟨by rfl, ?_⟩) hHeld ?_ ?_
  rotate_left
  ·intro w' hS
   go_simp
   try with_reducible rfl
  rotate_left
  ·simp only [Act.put, sq1, sq2, sq3, i64_w, i32_w]
   rfl
  have O_ := Aside0.mk O.out.2.2; have N_ := Aside0.mk O.out.2.1
  refine two_ (i := 3) (j := 10) (Ni := some 63) (Nj := some 70) #[true, true, true, true, false, true, true, false, true, true, false, false, false] #[true, true, true, false, false, true, true, false, true, true, true, false, false] rfl rfl rfl rfl (by kernel_rfl) (by decide) (by decide) (fun K hK => ?_) (fun K hK => ?_)
  ·refine value_ (w1 := ?_) (v := ?_) (by rfl) rfl ?_ ?_
   rotate_left 2
   ·go_simp
    constructor <;> rfl
   have Y1_ := Aside0.mk (stK (V := (W1.alloc (.cells #[.int .i64 a0_3] 2)).drew) Y.out); have D1_ := Aside0.mk (stB (V := (W1.alloc (.cells #[.int .i64 a0_3] 2)).drew) D.out); have L3_ := Aside0.mk (Kd.C_drew (clit1 (w := W1) (e := 2) a0_3))
   have O_1_ := Aside0.mk (stC (V := (W1.alloc (.cells #[.int .i64 a0_3] 2)).drew) O_.out)
   obtain ⟨V1_, hV⟩ : ∃ V, (W1.alloc (.cells #[.int .i64 a0_3] 2)).drew = V := ⟨_, rfl⟩
   rw [hV] at Y1_ D1_ L3_ O_1_ ⊢
   clear hV
   refine hK.out _ _ ⟨(blk_cell Y1_.out 3).trans rfl, (blk_cell Y1_.out 4).trans rfl, (blk_cell Y1_.out 7).trans rfl⟩ (fun hHeld => ?_)
   clear hK K
   refine norm_ (a' := ?_) ?_ ?_
   rotate_left
   ·show Act.put _ (some 63) _ = _
    simp only [Act.put, sq1, sq2, sq3, i64_w, i32_w]
    rfl
   refine two_ (i := 4) (j := 10) (Ni := some 64) (Nj := some 70) #[true, true, true, true, true, true, true, false, true, true, false, false, false] #[true, true, true, true, false, true, true, false, true, true, true, false, false] rfl rfl rfl rfl (by kernel_rfl) (by decide) (by decide) (fun K hK => ?_) (fun K hK => ?_)
   ·go_simp
    refine (trivetref04_num.calls k A c t _ 1 [a0_3] t2 _ (stC O_1_.out) N_.out (stC L3_.out) (Nat.le_refl 1) E2.out).mono ?_
    rintro e V2_ ⟨v, rfl, ho, d⟩
    obtain ⟨A2_, c2_, rfl⟩ := Kd.R_slice ho
    have Y2_ := Aside0.mk (blk_below (stK Y1_.out) d); have D2_ := Aside0.mk (below_step (stB D1_.out) d); have P2_ := Aside0.mk (Kd.R_lower ho (stB D1_.out).size); have O2_ := Aside0.mk (Kd.R_reads' ho).2.2; have N2_ := Aside0.mk (Kd.R_reads' ho).2.1
    have L3_2_ := Aside0.mk (Kd.C_below (stC L3_.out) d)
    clear ho d
    refine hK.out _ _ ⟨(blk_cell Y2_.out 3).trans rfl, (blk_cell Y2_.out 4).trans rfl, (blk_cell Y2_.out 7).trans rfl⟩ (fun hHeld => ?_)
    clear hK K
    refine two_ (i := 7) (j := 10) (Ni := some 67) (Nj := some 70) #[true, true, true, true, true, true, true, true, true, true, false, false, false] #[true, true, true, true, true, true, true, false, true, true, true, false, false] rfl rfl rfl rfl (by kernel_rfl) (by decide) (by decide) (fun K hK => ?_) (fun K hK => ?_)
    ·go_simp
     refine (trivetref04_yes.calls k A2_ c2_ t2 a0_7 t3 _ (stC O2_.out) N2_.out E3.out).mono ?_
     rintro e V3_ ⟨v, rfl, ho, d⟩
     obtain ⟨A3_, c3_, rfl⟩ := Kd.R_slice ho
     have Y3_ := Aside0.mk (blk_below (stK Y2_.out) d); have D3_ := Aside0.mk (below_step (stB D2_.out) d); have P3_ := Aside0.mk (Kd.R_lower ho (stB D2_.out).size); have O3_ := Aside0.mk (Kd.R_reads' ho).2.2; have N3_ := Aside0.mk (Kd.R_reads' ho).2.1
     have L3_2_3_ := Aside0.mk (Kd.C_below (stC L3_2_.out) d)
     clear ho d
     refine hK.out _ _ ⟨(blk_cell Y3_.out 3).trans rfl, (blk_cell Y3_.out 4).trans rfl, (blk_cell Y3_.out 7).trans rfl⟩ (fun hHeld => ?_)
     clear hK K
     refine one_ (i := 10) (N := some 70) #[true, true, true, true, true, true, true, true, true, true, true, false, false] rfl rfl (by kernel_rfl) (by decide) (fun K hK => ?_)
     refine value_ (w1 := ?_) (v := ?_) (by rfl) rfl ?_ ?_
     rotate_left 2
     ·go_simp
      constructor <;> rfl
     have Y4_ := Aside0.mk (stK (V := (V3_.alloc (.cells #[.int .i64 a0_4] 2))) Y3_.out); have D4_ := Aside0.mk (stB (V := (V3_.alloc (.cells #[.int .i64 a0_4] 2))) D3_.out); have L10_ := Aside0.mk (clit1 (w := V3_) (e := 2) a0_4)
     have L3_2_3_4_ := Aside0.mk (stC (V := (V3_.alloc (.cells #[.int .i64 a0_4] 2))) L3_2_3_.out)
     have O3_4_ := Aside0.mk (stC (V := (V3_.alloc (.cells #[.int .i64 a0_4] 2))) O3_.out)
     obtain ⟨V4_, hV⟩ : ∃ V, (V3_.alloc (.cells #[.int .i64 a0_4] 2)) = V := ⟨_, rfl⟩
     rw [hV] at Y4_ D4_ L10_ L3_2_3_4_ O3_4_ ⊢
     clear hV
     refine hK.out _ _ ⟨(blk_cell Y4_.out 3).trans rfl, (blk_cell Y4_.out 4).trans rfl, (blk_cell Y4_.out 7).trans rfl⟩ (fun hHeld => ?_)
     clear hK K
     refine norm_ (a' := ?_) ?_ ?_
     rotate_left
     ·show Act.put _ (some 70) _ = _
      simp only [Act.put, sq1, sq2, sq3, i64_w, i32_w]
      rfl
     refine one_ (i := 11) (N := some 71) #[true, true, true, true, true, true, true, true, true, true, true, true, false] rfl rfl (by kernel_rfl) (by decide) (fun K hK => ?_)
     go_simp
     refine (trivetref04_num.calls k A3_ c3_ t3 _ 1 [a0_4] t4 _ (stC O3_4_.out) N3_.out (stC L10_.out) (Nat.le_refl 1) E4.out).mono ?_
     rintro e V5_ ⟨v, rfl, ho, d⟩
     obtain ⟨A5_, c5_, rfl⟩ := Kd.R_slice ho
     have Y5_ := Aside0.mk (blk_below (stK Y4_.out) d); have D5_ := Aside0.mk (below_step (stB D4_.out) d); have P5_ := Aside0.mk (Kd.R_lower ho (stB D4_.out).size); have O5_ := Aside0.mk (Kd.R_reads' ho).2.2; have N5_ := Aside0.mk (Kd.R_reads' ho).2.1
     have L3_2_3_4_5_ := Aside0.mk (Kd.C_below (stC L3_2_3_4_.out) d)
     have L10_5_ := Aside0.mk (Kd.C_below (stC L10_.out) d)
     clear ho d
     refine hK.out _ _ ⟨(blk_cell Y5_.out 3).trans rfl, (blk_cell Y5_.out 4).trans rfl, (blk_cell Y5_.out 7).trans rfl⟩ (fun hHeld => ?_)
     clear hK K
     refine pure_ (i := 12) (N := some 2) (v := ?_) (a' := ?_) #[true, true, true, true, true, true, true, true, true, true, true, true, true] rfl rfl (by kernel_rfl) (fun _ _ _ h => h) (Or.inl ⟨by rfl, ?_⟩) ?_ ?_
     rotate_left
     ·intro w'
      go_simp
      try with_reducible rfl
     rotate_left
     ·simp only [Act.put, sq1, sq2, sq3, i64_w, i32_w]
      rfl
     refine done_ (by kernel_rfl) ?_
     go_wp2_with fail
     go_ret
     exact ⟨_, rfl, P5_.out, D5_.out⟩
    ·refine value_ (w1 := ?_) (v := ?_) (by rfl) rfl ?_ ?_
     rotate_left 2
     ·go_simp
      constructor <;> rfl
     have Y6_ := Aside0.mk (stK (V := (V2_.alloc (.cells #[.int .i64 a0_4] 2))) Y2_.out); have D6_ := Aside0.mk (stB (V := (V2_.alloc (.cells #[.int .i64 a0_4] 2))) D2_.out); have L10_ := Aside0.mk (clit1 (w := V2_) (e := 2) a0_4)
     have L3_2_6_ := Aside0.mk (stC (V := (V2_.alloc (.cells #[.int .i64 a0_4] 2))) L3_2_.out)
     have O2_6_ := Aside0.mk (stC (V := (V2_.alloc (.cells #[.int .i64 a0_4] 2))) O2_.out)
     obtain ⟨V6_, hV⟩ : ∃ V, (V2_.alloc (.cells #[.int .i64 a0_4] 2)) = V := ⟨_, rfl⟩
     rw [hV] at Y6_ D6_ L10_ L3_2_6_ O2_6_ ⊢
     clear hV
     refine hK.out _ _ ⟨(blk_cell Y6_.out 3).trans rfl, (blk_cell Y6_.out 4).trans rfl, (blk_cell Y6_.out 7).trans rfl⟩ (fun hHeld => ?_)
     clear hK K
     refine norm_ (a' := ?_) ?_ ?_
     rotate_left
     ·show Act.put _ (some 70) _ = _
      simp only [Act.put, sq1, sq2, sq3, i64_w, i32_w]
      rfl
     refine one_ (i := 7) (N := some 67) #[true, true, true, true, true, true, true, true, true, true, true, false, false] rfl rfl (by kernel_rfl) (by decide) (fun K hK => ?_)
     go_simp
     refine (trivetref04_yes.calls k A2_ c2_ t2 a0_7 t3 _ (stC O2_6_.out) N2_.out E3.out).mono ?_
     rintro e V7_ ⟨v, rfl, ho, d⟩
     obtain ⟨A7_, c7_, rfl⟩ := Kd.R_slice ho
     have Y7_ := Aside0.mk (blk_below (stK Y6_.out) d); have D7_ := Aside0.mk (below_step (stB D6_.out) d); have P7_ := Aside0.mk (Kd.R_lower ho (stB D6_.out).size); have O7_ := Aside0.mk (Kd.R_reads' ho).2.2; have N7_ := Aside0.mk (Kd.R_reads' ho).2.1
     have L3_2_6_7_ := Aside0.mk (Kd.C_below (stC L3_2_6_.out) d)
     have L10_7_ := Aside0.mk (Kd.C_below (stC L10_.out) d)
     clear ho d
     refine hK.out _ _ ⟨(blk_cell Y7_.out 3).trans rfl, (blk_cell Y7_.out 4).trans rfl, (blk_cell Y7_.out 7).trans rfl⟩ (fun hHeld => ?_)
     clear hK K
     refine one_ (i := 11) (N := some 71) #[true, true, true, true, true, true, true, true, true, true, true, true, false] rfl rfl (by kernel_rfl) (by decide) (fun K hK => ?_)
     go_simp
     refine (trivetref04_num.calls k A7_ c7_ t3 _ 1 [a0_4] t4 _ (stC O7_.out) N7_.out (stC L10_7_.out) (Nat.le_refl 1) E4.out).mono ?_
     rintro e V8_ ⟨v, rfl, ho, d⟩
     obtain ⟨A8_, c8_, rfl⟩ := Kd.R_slice ho
     have Y8_ := Aside0.mk (blk_below (stK Y7_.out) d); have D8_ := Aside0.mk (below_step (stB D7_.out) d); have P8_ := Aside0.mk (Kd.R_lower ho (stB D7_.out).size); have O8_ := Aside0.mk (Kd.R_reads' ho).2.2; have N8_ := Aside0.mk (Kd.R_reads' ho).2.1
     have L3_2_6_7_8_ := Aside0.mk (Kd.C_below (stC L3_2_6_7_.out) d)
     have L10_7_8_ := Aside0.mk (Kd.C_below (stC L10_7_.out) d)
     clear ho d
     refine hK.out _ _ ⟨(blk_cell Y8_.out 3).trans rfl, (blk_cell Y8_.out 4).trans rfl, (blk_cell Y8_.out 7).trans rfl⟩ (fun hHeld => ?_)
     clear hK K
     refine pure_ (i := 12) (N := some 2) (v := ?_) (a' := ?_) #[true, true, true, true, true, true, true, true, true, true, true, true, true] rfl rfl (by kernel_rfl) (fun _ _ _ h => h) (Or.inl ⟨by rfl, ?_⟩) ?_ ?_
     rotate_left
     ·intro w'
      go_simp
      try with_reducible rfl
     rotate_left
     ·simp only [Act.put, sq1, sq2, sq3, i64_w, i32_w]
      rfl
     refine done_ (by kernel_rfl) ?_
     go_wp2_with fail
     go_ret
     exact ⟨_, rfl, P8_.out, D8_.out⟩
   ·refine value_ (w1 := ?_) (v := ?_) (by rfl) rfl ?_ ?_
    rotate_left 2
    ·go_simp
     constructor <;> rfl
    have Y9_ := Aside0.mk (stK (V := (V1_.alloc (.cells #[.int .i64 a0_4] 2))) Y1_.out); have D9_ := Aside0.mk (stB (V := (V1_.alloc (.cells #[.int .i64 a0_4] 2))) D1_.out); have L10_ := Aside0.mk (clit1 (w := V1_) (e := 2) a0_4)
    have O_1_9_ := Aside0.mk (stC (V := (V1_.alloc (.cells #[.int .i64 a0_4] 2))) O_1_.out)
    have L3_9_ := Aside0.mk (stC (V := (V1_.alloc (.cells #[.int .i64 a0_4] 2))) L3_.out)
    obtain ⟨V9_, hV⟩ : ∃ V, (V1_.alloc (.cells #[.int .i64 a0_4] 2)) = V := ⟨_, rfl⟩
    rw [hV] at Y9_ D9_ L10_ O_1_9_ L3_9_ ⊢
    clear hV
    refine hK.out _ _ ⟨(blk_cell Y9_.out 3).trans rfl, (blk_cell Y9_.out 4).trans rfl, (blk_cell Y9_.out 7).trans rfl⟩ (fun hHeld => ?_)
    clear hK K
    refine norm_ (a' := ?_) ?_ ?_
    rotate_left
    ·show Act.put _ (some 70) _ = _
     simp only [Act.put, sq1, sq2, sq3, i64_w, i32_w]
     rfl
    refine one_ (i := 4) (N := some 64) #[true, true, true, true, true, true, true, false, true, true, true, false, false] rfl rfl (by kernel_rfl) (by decide) (fun K hK => ?_)
    go_simp
    refine (trivetref04_num.calls k A c t _ 1 [a0_3] t2 _ (stC O_1_9_.out) N_.out (stC L3_9_.out) (Nat.le_refl 1) E2.out).mono ?_
    rintro e V10_ ⟨v, rfl, ho, d⟩
    obtain ⟨A10_, c10_, rfl⟩ := Kd.R_slice ho
    have Y10_ := Aside0.mk (blk_below (stK Y9_.out) d); have D10_ := Aside0.mk (below_step (stB D9_.out) d); have P10_ := Aside0.mk (Kd.R_lower ho (stB D9_.out).size); have O10_ := Aside0.mk (Kd.R_reads' ho).2.2; have N10_ := Aside0.mk (Kd.R_reads' ho).2.1
    have L3_9_10_ := Aside0.mk (Kd.C_below (stC L3_9_.out) d)
    have L10_10_ := Aside0.mk (Kd.C_below (stC L10_.out) d)
    clear ho d
    refine hK.out _ _ ⟨(blk_cell Y10_.out 3).trans rfl, (blk_cell Y10_.out 4).trans rfl, (blk_cell Y10_.out 7).trans rfl⟩ (fun hHeld => ?_)
    clear hK K
    refine one_ (i := 7) (N := some 67) #[true, true, true, true, true, true, true, true, true, true, true, false, false] rfl rfl (by kernel_rfl) (by decide) (fun K hK => ?_)
    go_simp
    refine (trivetref04_yes.calls k A10_ c10_ t2 a0_7 t3 _ (stC O10_.out) N10_.out E3.out).mono ?_
    rintro e V11_ ⟨v, rfl, ho, d⟩
    obtain ⟨A11_, c11_, rfl⟩ := Kd.R_slice ho
    have Y11_ := Aside0.mk (blk_below (stK Y10_.out) d); have D11_ := Aside0.mk (below_step (stB D10_.out) d); have P11_ := Aside0.mk (Kd.R_lower ho (stB D10_.out).size); have O11_ := Aside0.mk (Kd.R_reads' ho).2.2; have N11_ := Aside0.mk (Kd.R_reads' ho).2.1
    have L3_9_10_11_ := Aside0.mk (Kd.C_below (stC L3_9_10_.out) d)
    have L10_10_11_ := Aside0.mk (Kd.C_below (stC L10_10_.out) d)
    clear ho d
    refine hK.out _ _ ⟨(blk_cell Y11_.out 3).trans rfl, (blk_cell Y11_.out 4).trans rfl, (blk_cell Y11_.out 7).trans rfl⟩ (fun hHeld => ?_)
    clear hK K
    refine one_ (i := 11) (N := some 71) #[true, true, true, true, true, true, true, true, true, true, true, true, false] rfl rfl (by kernel_rfl) (by decide) (fun K hK => ?_)
    go_simp
    refine (trivetref04_num.calls k A11_ c11_ t3 _ 1 [a0_4] t4 _ (stC O11_.out) N11_.out (stC L10_10_11_.out) (Nat.le_refl 1) E4.out).mono ?_
    rintro e V12_ ⟨v, rfl, ho, d⟩
    obtain ⟨A12_, c12_, rfl⟩ := Kd.R_slice ho
    have Y12_ := Aside0.mk (blk_below (stK Y11_.out) d); have D12_ := Aside0.mk (below_step (stB D11_.out) d); have P12_ := Aside0.mk (Kd.R_lower ho (stB D11_.out).size); have O12_ := Aside0.mk (Kd.R_reads' ho).2.2; have N12_ := Aside0.mk (Kd.R_reads' ho).2.1
    have L3_9_10_11_12_ := Aside0.mk (Kd.C_below (stC L3_9_10_11_.out) d)
    have L10_10_11_12_ := Aside0.mk (Kd.C_below (stC L10_10_11_.out) d)
    clear ho d
    refine hK.out _ _ ⟨(blk_cell Y12_.out 3).trans rfl, (blk_cell Y12_.out 4).trans rfl, (blk_cell Y12_.out 7).trans rfl⟩ (fun hHeld => ?_)
    clear hK K
    refine pure_ (i := 12) (N := some 2) (v := ?_) (a' := ?_) #[true, true, true, true, true, true, true, true, true, true, true, true, true] rfl rfl (by kernel_rfl) (fun _ _ _ h => h) (Or.inl ⟨by rfl, ?_⟩) ?_ ?_
    rotate_left
    ·intro w'
     go_simp
     try with_reducible rfl
    rotate_left
    ·simp only [Act.put, sq1, sq2, sq3, i64_w, i32_w]
     rfl
    refine done_ (by kernel_rfl) ?_
    go_wp2_with fail
    go_ret
    exact ⟨_, rfl, P12_.out, D12_.out⟩
  ·refine value_ (w1 := ?_) (v := ?_) (by rfl) rfl ?_ ?_
   rotate_left 2
   ·go_simp
    constructor <;> rfl
   have Y13_ := Aside0.mk (stK (V := (W1.alloc (.cells #[.int .i64 a0_4] 2)).drew) Y.out); have D13_ := Aside0.mk (stB (V := (W1.alloc (.cells #[.int .i64 a0_4] 2)).drew) D.out); have L10_ := Aside0.mk (Kd.C_drew (clit1 (w := W1) (e := 2) a0_4))
   have O_13_ := Aside0.mk (stC (V := (W1.alloc (.cells #[.int .i64 a0_4] 2)).drew) O_.out)
   obtain ⟨V13_, hV⟩ : ∃ V, (W1.alloc (.cells #[.int .i64 a0_4] 2)).drew = V := ⟨_, rfl⟩
   rw [hV] at Y13_ D13_ L10_ O_13_ ⊢
   clear hV
   refine hK.out _ _ ⟨(blk_cell Y13_.out 3).trans rfl, (blk_cell Y13_.out 4).trans rfl, (blk_cell Y13_.out 7).trans rfl⟩ (fun hHeld => ?_)
   clear hK K
   refine norm_ (a' := ?_) ?_ ?_
   rotate_left
   ·show Act.put _ (some 70) _ = _
    simp only [Act.put, sq1, sq2, sq3, i64_w, i32_w]
    rfl
   refine one_ (i := 3) (N := some 63) #[true, true, true, true, false, true, true, false, true, true, true, false, false] rfl rfl (by kernel_rfl) (by decide) (fun K hK => ?_)
   refine value_ (w1 := ?_) (v := ?_) (by rfl) rfl ?_ ?_
   rotate_left 2
   ·go_simp
    constructor <;> rfl
   have Y14_ := Aside0.mk (stK (V := (V13_.alloc (.cells #[.int .i64 a0_3] 2))) Y13_.out); have D14_ := Aside0.mk (stB (V := (V13_.alloc (.cells #[.int .i64 a0_3] 2))) D13_.out); have L3_ := Aside0.mk (clit1 (w := V13_) (e := 2) a0_3)
   have O_13_14_ := Aside0.mk (stC (V := (V13_.alloc (.cells #[.int .i64 a0_3] 2))) O_13_.out)
   have L10_14_ := Aside0.mk (stC (V := (V13_.alloc (.cells #[.int .i64 a0_3] 2))) L10_.out)
   obtain ⟨V14_, hV⟩ : ∃ V, (V13_.alloc (.cells #[.int .i64 a0_3] 2)) = V := ⟨_, rfl⟩
   rw [hV] at Y14_ D14_ L3_ O_13_14_ L10_14_ ⊢
   clear hV
   refine hK.out _ _ ⟨(blk_cell Y14_.out 3).trans rfl, (blk_cell Y14_.out 4).trans rfl, (blk_cell Y14_.out 7).trans rfl⟩ (fun hHeld => ?_)
   clear hK K
   refine norm_ (a' := ?_) ?_ ?_
   rotate_left
   ·show Act.put _ (some 63) _ = _
    simp only [Act.put, sq1, sq2, sq3, i64_w, i32_w]
    rfl
   refine one_ (i := 4) (N := some 64) #[true, true, true, true, true, true, true, false, true, true, true, false, false] rfl rfl (by kernel_rfl) (by decide) (fun K hK => ?_)
   go_simp
   refine (trivetref04_num.calls k A c t _ 1 [a0_3] t2 _ (stC O_13_14_.out) N_.out (stC L3_.out) (Nat.le_refl 1) E2.out).mono ?_
   rintro e V15_ ⟨v, rfl, ho, d⟩
   obtain ⟨A15_, c15_, rfl⟩ := Kd.R_slice ho
   have Y15_ := Aside0.mk (blk_below (stK Y14_.out) d); have D15_ := Aside0.mk (below_step (stB D14_.out) d); have P15_ := Aside0.mk (Kd.R_lower ho (stB D14_.out).size); have O15_ := Aside0.mk (Kd.R_reads' ho).2.2; have N15_ := Aside0.mk (Kd.R_reads' ho).2.1
   have L10_14_15_ := Aside0.mk (Kd.C_below (stC L10_14_.out) d)
   have L3_15_ := Aside0.mk (Kd.C_below (stC L3_.out) d)
   clear ho d
   refine hK.out _ _ ⟨(blk_cell Y15_.out 3).trans rfl, (blk_cell Y15_.out 4).trans rfl, (blk_cell Y15_.out 7).trans rfl⟩ (fun hHeld => ?_)
   clear hK K
   refine one_ (i := 7) (N := some 67) #[true, true, true, true, true, true, true, true, true, true, true, false, false] rfl rfl (by kernel_rfl) (by decide) (fun K hK => ?_)
   go_simp
   refine (trivetref04_yes.calls k A15_ c15_ t2 a0_7 t3 _ (stC O15_.out) N15_.out E3.out).mono ?_
   rintro e V16_ ⟨v, rfl, ho, d⟩
   obtain ⟨A16_, c16_, rfl⟩ := Kd.R_slice ho
   have Y16_ := Aside0.mk (blk_below (stK Y15_.out) d); have D16_ := Aside0.mk (below_step (stB D15_.out) d); have P16_ := Aside0.mk (Kd.R_lower ho (stB D15_.out).size); have O16_ := Aside0.mk (Kd.R_reads' ho).2.2; have N16_ := Aside0.mk (Kd.R_reads' ho).2.1
   have L10_14_15_16_ := Aside0.mk (Kd.C_below (stC L10_14_15_.out) d)
   have L3_15_16_ := Aside0.mk (Kd.C_below (stC L3_15_.out) d)
   clear ho d
   refine hK.out _ _ ⟨(blk_cell Y16_.out 3).trans rfl, (blk_cell Y16_.out 4).trans rfl, (blk_cell Y16_.out 7).trans rfl⟩ (fun hHeld => ?_)
   clear hK K
   refine one_ (i := 11) (N := some 71) #[true, true, true, true, true, true, true, true, true, true, true, true, false] rfl rfl (by kernel_rfl) (by decide) (fun K hK => ?_)
   go_simp
   refine (trivetref04_num.calls k A16_ c16_ t3 _ 1 [a0_4] t4 _ (stC O16_.out) N16_.out (stC L10_14_15_16_.out) (Nat.le_refl 1) E4.out).mono ?_
   rintro e V17_ ⟨v, rfl, ho, d⟩
   obtain ⟨A17_, c17_, rfl⟩ := Kd.R_slice ho
   have Y17_ := Aside0.mk (blk_below (stK Y16_.out) d); have D17_ := Aside0.mk (below_step (stB D16_.out) d); have P17_ := Aside0.mk (Kd.R_lower ho (stB D16_.out).size); have O17_ := Aside0.mk (Kd.R_reads' ho).2.2; have N17_ := Aside0.mk (Kd.R_reads' ho).2.1
   have L10_14_15_16_17_ := Aside0.mk (Kd.C_below (stC L10_14_15_16_.out) d)
   have L3_15_16_17_ := Aside0.mk (Kd.C_below (stC L3_15_16_.out) d)
   clear ho d
   refine hK.out _ _ ⟨(blk_cell Y17_.out 3).trans rfl, (blk_cell Y17_.out 4).trans rfl, (blk_cell Y17_.out 7).trans rfl⟩ (fun hHeld => ?_)
   clear hK K
   refine pure_ (i := 12) (N := some 2) (v := ?_) (a' := ?_) #[true, true, true, true, true, true, true, true, true, true, true, true, true] rfl rfl (by kernel_rfl) (fun _ _ _ h => h) (Or.inl ⟨by rfl, ?_⟩) ?_ ?_
   rotate_left
   ·intro w'
    go_simp
    try with_reducible rfl
   rotate_left
   ·simp only [Act.put, sq1, sq2, sq3, i64_w, i32_w]
    rfl
   refine done_ (by kernel_rfl) ?_
   go_wp2_with fail
   go_ret
   exact ⟨_, rfl, P17_.out, D17_.out⟩
 have h := H.out
 rw [if_neg q6, if_neg q1, if_neg q2, if_neg q3, if_neg q4] at h
 have p6 := beq_eq_false_iff_ne.2 q6
 have p1 := beq_eq_false_iff_ne.2 q1
 have p2 := beq_eq_false_iff_ne.2 q2
 have p3 := beq_eq_false_iff_ne.2 q3
 have p4 := beq_eq_false_iff_ne.2 q4
 obtain ⟨t2, e, h⟩ := Option.bind_eq_some_iff.1 h
 have E2 := Aside0.mk e; clear e
 obtain ⟨t3, e, h⟩ := Option.bind_eq_some_iff.1 h
 have E3 := Aside0.mk e; clear e
 by_cases g : t2.length + t3.length < 140737488355328
 rotate_left
 ·rw [if_neg g] at h; cases h
 rw [if_pos g] at h
 obtain rfl := Option.some.inj h
 clear h H q6 q1 q2 q3 q4
 go_wp2_with fail
 go_region_held3 (fun w' => w'.cell? ⟨w.heap.size, 3, none⟩ = some (.int .i64 a0_3) ∧ w'.cell? ⟨w.heap.size, 4, none⟩ = some (.int .i64 a0_4) ∧ w'.cell? ⟨w.heap.size, 5, none⟩ = some (.int .i64 a0_5) ∧ w'.cell? ⟨w.heap.size, 13, none⟩ = some (.int .i64 a0_13) ∧ w'.cell? ⟨w.heap.size, 14, none⟩ = some (.int .i64 a0_14) ∧ w'.cell? ⟨w.heap.size, 15, none⟩ = some (.int .i64 a0_15) ∧ w'.cell? ⟨w.heap.size, 16, none⟩ = some (.slice A0_16 l0_16.length c0_16)) (go_keep) (first | (go_at_call 97; refine (trivetref04_num.calls k A c t (some ⟨W1.heap.size, 0, none⟩) 3 [a0_3, a0_4, a0_5] t2 _ (stC O.out.2.2) O.out.2.1 (Kd.C_drew (clit (w := W1) [a0_3, a0_4, a0_5] (by simp))) (by simp) E2.out).mono ?_; rintro e W2 ⟨v, rfl, ho, d⟩; obtain ⟨A2, c2, rfl⟩ := Kd.R_slice ho; have O2 := Aside0.mk (Kd.R_reads' ho); have P2 := Aside0.mk (Kd.R_lower ho (stB D.out).size); have Y2 := Aside0.mk (blk_below (stK Y.out) d); have D2 := Aside0.mk (below_step (stB D.out) d); have Q2 := Aside0.mk (Kd.R_lower ho (Nat.le_trans Z.out stZ)); have Z2 := Aside0.mk (Nat.le_trans Z.out (Nat.le_trans stZ d.size)); clear ho d; have y23 : W2.cell? ⟨w.heap.size, 3, none⟩ = some (.int .i64 a0_3) := (blk_cell Y2.out 3).trans rfl; have y24 : W2.cell? ⟨w.heap.size, 4, none⟩ = some (.int .i64 a0_4) := (blk_cell Y2.out 4).trans rfl; have y25 : W2.cell? ⟨w.heap.size, 5, none⟩ = some (.int .i64 a0_5) := (blk_cell Y2.out 5).trans rfl; have y213 : W2.cell? ⟨w.heap.size, 13, none⟩ = some (.int .i64 a0_13) := (blk_cell Y2.out 13).trans rfl; have y214 : W2.cell? ⟨w.heap.size, 14, none⟩ = some (.int .i64 a0_14) := (blk_cell Y2.out 14).trans rfl; have y215 : W2.cell? ⟨w.heap.size, 15, none⟩ = some (.int .i64 a0_15) := (blk_cell Y2.out 15).trans rfl; have y216 : W2.cell? ⟨w.heap.size, 16, none⟩ = some (.slice A0_16 l0_16.length c0_16) := (blk_cell Y2.out 16).trans rfl) | (go_at_call 106; refine (trivetref04_PartForm.calls k a0_13 a0_14 a0_15 A0_16 c0_16 l0_16 t3 _ (stC (Kd.C_below R.out.2.2 D2.out)) C.out.2.2 E3.out).mono ?_; rintro e W3 ⟨v, rfl, ho, d⟩; obtain ⟨A3, c3, rfl⟩ := Kd.R_slice ho; have O3 := Aside0.mk (Kd.R_reads' ho); have P3 := Aside0.mk (Kd.R_lower ho (stB D2.out).size); have Y3 := Aside0.mk (blk_below (stK Y2.out) d); have D3 := Aside0.mk (below_step (stB D2.out) d); have Q3 := Aside0.mk (Kd.R_below (stR Q2.out) d); have Z3 := Aside0.mk (Nat.le_trans Z2.out (Nat.le_trans stZ d.size)); clear ho d; have y33 : W3.cell? ⟨w.heap.size, 3, none⟩ = some (.int .i64 a0_3) := (blk_cell Y3.out 3).trans rfl; have y34 : W3.cell? ⟨w.heap.size, 4, none⟩ = some (.int .i64 a0_4) := (blk_cell Y3.out 4).trans rfl; have y35 : W3.cell? ⟨w.heap.size, 5, none⟩ = some (.int .i64 a0_5) := (blk_cell Y3.out 5).trans rfl; have y313 : W3.cell? ⟨w.heap.size, 13, none⟩ = some (.int .i64 a0_13) := (blk_cell Y3.out 13).trans rfl; have y314 : W3.cell? ⟨w.heap.size, 14, none⟩ = some (.int .i64 a0_14) := (blk_cell Y3.out 14).trans rfl; have y315 : W3.cell? ⟨w.heap.size, 15, none⟩ = some (.int .i64 a0_15) := (blk_cell Y3.out 15).trans rfl; have y316 : W3.cell? ⟨w.heap.size, 16, none⟩ = some (.slice A0_16 l0_16.length c0_16) := (blk_cell Y3.out 16).trans rfl) | (refine Kd.R_append_rows_step (Kd.int .u8) (w0 := W3) W.heap.size (by rfl) (.tmp 80) (.tmp 83) 23 5 (.int .u8 0) 1 rfl Tryz.underlying23 info5 rfl (by decide) (by omega) _ t2 t3 _ _ _ (fun _ => True) (fun _ => False) rfl rfl Q3.out O3.out.2.2 (fun _ _ h => h) (fun _ h => h.elim) (fun _ _ => trivial) (Below.refl _ _) Z3.out (by omega) ?_; intro v5 W5 ho d hg hat; have F := Aside0.mk (And.intro (Kd.R_lower ho (Nat.le_of_lt G.out)) (D3.out.trans (d.mono (Nat.le_of_lt G.out)))); have Y5 := Aside0.mk ((d.block _ G.out).trans Y3.out); clear ho d hg hat; have y53 : W5.cell? ⟨w.heap.size, 3, none⟩ = some (.int .i64 a0_3) := (blk_cell Y5.out 3).trans rfl; have y54 : W5.cell? ⟨w.heap.size, 4, none⟩ = some (.int .i64 a0_4) := (blk_cell Y5.out 4).trans rfl; have y55 : W5.cell? ⟨w.heap.size, 5, none⟩ = some (.int .i64 a0_5) := (blk_cell Y5.out 5).trans rfl; have y513 : W5.cell? ⟨w.heap.size, 13, none⟩ = some (.int .i64 a0_13) := (blk_cell Y5.out 13).trans rfl; have y514 : W5.cell? ⟨w.heap.size, 14, none⟩ = some (.int .i64 a0_14) := (blk_cell Y5.out 14).trans rfl; have y515 : W5.cell? ⟨w.heap.size, 15, none⟩ = some (.int .i64 a0_15) := (blk_cell Y5.out 15).trans rfl; have y516 : W5.cell? ⟨w.heap.size, 16, none⟩ = some (.slice A0_16 l0_16.length c0_16) := (blk_cell Y5.out 16).trans rfl))
 go_wp2_with fail
 go_ret
 exact ⟨_, rfl, F.out.1, F.out.2⟩
end Go.Proofs.YtgiefblcckikeaaGreat.G
end

section
/- An entry's and a message's form (the reference's) are entB, msgB. -/
namespace Go.Proofs.YtgiefblcckikeaaGreat.M
open Go.RowKit Go.Proofs.YtgiefblcckikeaaGreatW.PrintWords Go.Proofs.YtgiefblcckikeaaGreatW.PrintLast Go.Proofs.YtgiefblcckikeaaGreatW.PrintMore Go.Proofs.YtgiefblcckikeaaGreat.G
theorem rdTx_eq {l : List TxD} {i : Nat} {x : TxD} (h : l[i]? = some x) : G.rd_T26 l (i : Int) = x := by unfold G.rd_T26; rw [Int.toNat_natCast, List.getD_eq_getElem?_getD, h]; rfl
theorem rdTr_eq {l : List TrD} {i : Nat} {x : TrD} (h : l[i]? = some x) : G.rd_T63 l (i : Int) = x := by unfold G.rd_T63; rw [Int.toNat_natCast, List.getD_eq_getElem?_getD, h]; rfl
theorem entform_l (x y z : Int) : ∀ (k : Nat) (acc : List Int) (a : List TxD) (i : Nat), a.length + 110 < i + k → i ≤ a.length → (∀ t ∈ a, okT t = true ∧ mayT t = true) → acc.length + 1300 * (a.length - i) < 140737488355000 → a.length ≤ 1000000 → G.trivetref04_EntryForm.l0 k acc (i : Int) x y z a = some (acc ++ (a.drop i).flatMap txB)
 | 0, acc, a, i, hk, hi, _, _, _ => by omega
 | k + 1, acc, a, i, hk, hi, ho, hs, hm => by
  simp only [G.trivetref04_EntryForm.l0]
  by_cases hlt : i < a.length
  ·obtain ⟨t, hx⟩ : ∃ t, a[i]? = some t := ⟨_, List.getElem?_eq_getElem hlt⟩
   have d1 := drop_cons hx
   have hw : wrap64 ((i : Int) + 1) = ((i + 1 : Nat) : Int) := by unfold wrap64; omega
   obtain ⟨h1, h2⟩ := ho t (List.mem_of_getElem? hx)
   have hl := txB_len h1 h2
   rw [if_pos (by omega : (i : Int) < (a.length : Int)), if_pos (by omega : (0 : Int) ≤ (i : Int)), rdTx_eq hx, txform_f k t h1 h2 (by omega), Option.bind_some, if_pos (by omega), hw]
   rw [entform_l x y z k _ a (i + 1) (by omega) (by omega) ho (by rw [List.length_append]; omega) hm, d1, List.flatMap_cons, List.append_assoc]
  ·rw [if_neg (by omega), List.drop_of_length_le (by omega)]
   simp
theorem numsB3 (a b c : Int) : numsB [a, b, c] = numsB [a, b] ++ numB c := by simp [numsB]
theorem entform_f (k : Nat) (e f n : Int) (l : List TxD) (ho : okE e f n l = true) (hm : mayE e f n l = true) (hk : 200 ≤ k) : G.trivetref04_EntryForm.f k e f n l = some (entB e f n l) := by
 obtain ⟨o1, o2, o3⟩ := okE_parts ho
 unfold G.trivetref04_EntryForm.f entB
 have e1 := (numB_len o1).2
 rw [rnum_f k [] [e] (okI1 o1) (by simp) (by simp; omega), Option.bind_some, numsB1, List.nil_append]
 by_cases h0 : e = 0
 ·rw [if_neg (by omega), if_pos h0, h0]
 ·obtain ⟨h1, h2, h3⟩ := mayE_one hm h0
  rw [if_pos h1, if_neg h0]
  have hn : isI64 (l.length : Int) := nat_i64 _ (by omega)
  have e3 := (numB_len hn).2
  have e2 := numsB2_len o2
  have o4 : okI [f, n, (l.length : Int)] = true := by simp only [okI_cons] at o2 ⊢; exact ⟨o2.1, o2.2.1, hn, rfl⟩
  rw [rnum_f k (numB e) [f, n, (l.length : Int)] o4 (by simp only [List.length_cons, List.length_nil]; omega) (by simp; omega), Option.bind_some, numsB3]
  have := entform_l e f n k (numB e ++ (numsB [f, n] ++ numB l.length)) l 0 (by omega) (by omega) (fun t ht => ⟨List.all_eq_true.1 o3 t ht, List.all_eq_true.1 h3 t ht⟩) (by simp only [List.length_append]; omega) (by omega)
  rw [show ((0 : Nat) : Int) = 0 from rfl] at this
  rw [this, List.drop_zero]
  simp only [List.append_assoc]
theorem lists_l : ∀ (k : Nat) (acc : List Int) (a : List TrD) (i : Nat), a.length + 300 < i + k → i ≤ a.length → (∀ x ∈ a, (isI64 x.f0 ∧ okE x.f1.f0 x.f1.f1 x.f1.f2 x.f1.f3 = true) ∧ mayE x.f1.f0 x.f1.f1 x.f1.f2 x.f1.f3 = true) → acc.length + 25009 * (a.length - i) < 140737488355000 → a.length ≤ 1000000 → G.trivetref04_lists.l0 k acc a (i : Int) = some (acc ++ (a.drop i).flatMap trB)
 | 0, acc, a, i, hk, hi, _, _, _ => by omega
 | k + 1, acc, a, i, hk, hi, ho, hs, hm => by
  simp only [G.trivetref04_lists.l0]
  by_cases hlt : i < a.length
  ·obtain ⟨x, hx⟩ : ∃ x, a[i]? = some x := ⟨_, List.getElem?_eq_getElem hlt⟩
   have d1 := drop_cons hx
   have hw : wrap64 ((i : Int) + 1) = ((i + 1 : Nat) : Int) := by unfold wrap64; omega
   obtain ⟨h1, h2⟩ := ho x (List.mem_of_getElem? hx)
   have hl := trB_len h1 h2
   have hl2 : (trB x).length = (numB x.f0).length + (entB x.f1.f0 x.f1.f1 x.f1.f2 x.f1.f3).length := by unfold trB; rw [List.length_append]
   rw [if_pos (by omega : (i : Int) < (a.length : Int)), if_pos (by omega : (0 : Int) ≤ (i : Int)), rdTr_eq hx, rnum_f k acc [x.f0] (okI1 h1.1) (by simp only [List.length_cons, List.length_nil]; omega) (by simp; omega), Option.bind_some, numsB1,
    entform_f k _ _ _ _ h1.2 h2 (by omega), Option.bind_some, if_pos (by rw [List.length_append]; omega), hw]
   rw [lists_l k _ a (i + 1) (by omega) (by omega) ho (by simp only [List.length_append]; omega) hm, d1, List.flatMap_cons]
   unfold trB
   simp only [List.append_assoc]
  ·rw [if_neg (by omega), List.drop_of_length_le (by omega)]
   simp
theorem lists_f (k : Nat) (acc : List Int) (a : List TrD) (hk : a.length + 300 < k) (ho : ∀ x ∈ a, (isI64 x.f0 ∧ okE x.f1.f0 x.f1.f1 x.f1.f2 x.f1.f3 = true) ∧ mayE x.f1.f0 x.f1.f1 x.f1.f2 x.f1.f3 = true) (hs : acc.length + 200000000 < 140737488355000) (hm : a.length ≤ 4096) : G.trivetref04_lists.f k acc a = some (acc ++ numB a.length ++ a.flatMap trB) := by
 have hn : isI64 (a.length : Int) := nat_i64 _ (by omega)
 have hl := (numB_len hn).2
 unfold G.trivetref04_lists.f
 rw [rnum_f k acc [(a.length : Int)] (okI1 hn) (by simp only [List.length_cons, List.length_nil]; omega) (by simp; omega), Option.bind_some, numsB1]
 have := lists_l k (acc ++ numB a.length) a 0 (by omega) (by omega) ho (by rw [List.length_append]; omega) (by omega)
 rw [show ((0 : Nat) : Int) = 0 from rfl] at this
 rw [this, List.drop_zero]
theorem ryes_f (k : Nat) (l : List Int) (b : Bool) (hs : l.length + 9 < 140737488355328) (hk : 11 ≤ k) : G.trivetref04_yes.f k l b = some (l ++ yesB b) := by
 unfold G.trivetref04_yes.f yesB
 cases b with
 | true => rw [if_pos rfl, rnum_f k l [1] (okI1 (by decide)) (by simpa using hs) (by simp; omega), Option.bind_some, numsB1]; rfl
 | false => rw [if_neg (by simp), rnum_f k l [0] (okI1 (by decide)) (by simpa using hs) (by simp; omega), Option.bind_some, numsB1]; rfl
theorem msgform_f (k : Nat) (m : MsgD) (ho : OkM m) (hy : mayMs m = true) (hk : m.f8.length + 400 < k) : G.trivetref04_MsgForm.f k m.f0 m.f1 m.f2 m.f3 m.f4 m.f5 m.f6 m.f7 m.f8 m.f9.f0 m.f9.f1 m.f9.f2 m.f9.f3 m.f10.f0 m.f10.f1 m.f10.f2 m.f10.f3 = some (msgB m) := by
 unfold mayMs at hy
 simp only [Bool.and_eq_true] at hy
 obtain ⟨_, _, _, hkd, _, h8, hl, h5, h6⟩ := hy
 have h8 := of_decide_eq_true h8
 have e0 := numsB_le ho.h 27 (by simp)
 have e1 := ho.t
 simp only [okI_cons] at e1
 have e2 := ho.p
 simp only [okI_cons] at e2
 have o1 : okI [m.f3] = true := okI1 e1.1
 have o3 : okI [m.f3, m.f4, m.f5] = true := by simp only [okI_cons]; exact ⟨e1.1, e1.2.1, e1.2.2.1, rfl⟩
 have a1 := (numB_len e1.1).2
 have a3 := numsB_le o3 27 (by simp)
 have a4 := numsB_le ho.t 36 (by simp)
 have a5 := numsB_le ho.p 27 (by simp)
 have a6 := yesB_len m.f7
 unfold G.trivetref04_MsgForm.f msgB tailB
 rw [rnum_f k [] [m.f0, m.f1, m.f2] ho.h (by simp) (by simp; omega), Option.bind_some, List.nil_append]
 by_cases k6 : m.f0 = 6
 ·rw [k6] at h6
  have hme : mayE m.f9.f0 m.f9.f1 m.f9.f2 m.f9.f3 = true := by simpa using h6
  have e9 := entB_len ho.e hme
  rw [if_pos k6, entform_f k _ _ _ _ ho.e hme (by omega), Option.bind_some, if_pos (by omega), if_neg (by omega), if_neg (by omega), if_neg (by omega), if_neg (by omega), if_neg (by omega)]
 rw [if_neg k6]
 by_cases k1 : m.f0 = 1
 ·rw [if_pos k1, if_pos k1, rnum_f k _ _ o3 (by simp only [List.length_cons, List.length_nil]; omega) (by simp; omega), Option.bind_some]
 rw [if_neg k1, if_neg k1]
 by_cases k2 : m.f0 = 2
 ·rw [if_pos k2, if_pos k2, rnum_f k _ _ o1 (by simp only [List.length_cons, List.length_nil]; omega) (by simp; omega), Option.bind_some, numsB1, ryes_f k _ _ (by rw [List.length_append]; omega) (by omega), Option.bind_some, List.append_assoc]
 rw [if_neg k2, if_neg k2]
 by_cases k3 : m.f0 = 3
 ·rw [if_pos k3, if_pos k3, rnum_f k _ _ ho.t (by simp only [List.length_cons, List.length_nil]; omega) (by simp; omega), Option.bind_some, lists_f k _ _ (by omega) (fun x hx => ⟨ho.l x hx, mayTr_e (List.all_eq_true.1 hl x hx)⟩) (by rw [List.length_append]; omega) (by omega), Option.bind_some]
  simp only [List.append_assoc]
 rw [if_neg k3, if_neg k3]
 by_cases k4 : m.f0 = 4
 ·rw [if_pos k4, if_pos k4, rnum_f k _ _ o1 (by simp only [List.length_cons, List.length_nil]; omega) (by simp; omega), Option.bind_some, numsB1, ryes_f k _ _ (by rw [List.length_append]; omega) (by omega), Option.bind_some, rnum_f k _ [m.f4] (okI1 e1.2.1) (by simp only [List.length_append, List.length_cons, List.length_nil]; omega) (by simp; omega), Option.bind_some, numsB1]
  simp only [List.append_assoc]
 rw [if_neg k4, if_neg k4]
 have k5 : m.f0 = 5 := by
  unfold isKind at hkd
  simp only [Bool.and_eq_true, decide_eq_true_eq] at hkd
  omega
 rw [k5] at h5
 have h7 : mayPt m.f10 = true := by simpa using h5
 unfold mayPt at h7
 simp only [Bool.and_eq_true, decide_eq_true_eq] at h7
 have h9 := h7.2.2.2
 have e9 := (numB_len (nat_i64 m.f10.f3.length (by omega))).2
 rw [if_pos k5, rnum_f k _ _ o3 (by simp only [List.length_cons, List.length_nil]; omega) (by simp; omega), Option.bind_some]
 unfold G.trivetref04_PartForm.f
 rw [rnum_f k [] [m.f10.f0, m.f10.f1, m.f10.f2] ho.p (by simp) (by simp; omega), Option.bind_some, List.nil_append, rblob_f k _ _ (by omega) (by omega), Option.bind_some, Option.bind_some, if_pos (by simp only [List.length_append]; omega)]
 congr 1
 simp [numsB, List.append_assoc]
end Go.Proofs.YtgiefblcckikeaaGreat.M
end

section
/- A message without what its kind does not have: record.bare, the reference's plain (printed by genbare04.py). -/
attribute [local irreducible] Go.wpStill
namespace Go.Proofs.YtgiefblcckikeaaGreat.M
open Go.RowKit Go.Proofs.YtgiefblcckikeaaGreatW.PrintWords Go.Proofs.YtgiefblcckikeaaGreatW.PrintLast Go.Proofs.YtgiefblcckikeaaGreatW.PrintMore Go.Proofs.YtgiefblcckikeaaGreat.G
set_option maxHeartbeats 4000000 in
theorem plain_k6 {w : World} (m : MsgD) {A8 A12 A16 : Option Addr} {c8 c12 c16 : Nat} (hm : MsgC w m A8 c8 A12 c12 A16 c16) (hk : m.f0 = 6) :
  Calls Tryz.prog 68 #[.agg #[.int .i64 m.f0, .int .i64 m.f1, .int .i64 m.f2, .int .i64 m.f3, .int .i64 m.f4, .int .i64 m.f5, .int .i64 m.f6, .bool m.f7, .slice A8 m.f8.length c8, .int .i64 m.f9.f0, .int .i64 m.f9.f1, .int .i64 m.f9.f2, .slice A12 m.f9.f3.length c12, .int .i64 m.f10.f0, .int .i64 m.f10.f1, .int .i64 m.f10.f2, .slice A16 m.f10.f3.length c16]] w fun e w' => BareP w m e w' := by
 have t6 : (m.f0 == 6) = true := by rw [hk]; rfl
 have t1 : (m.f0 == 1) = false := by rw [hk]; rfl
 have t2 : (m.f0 == 2) = false := by rw [hk]; rfl
 have t3 : (m.f0 == 3) = false := by rw [hk]; rfl
 have t4 : (m.f0 == 4) = false := by rw [hk]; rfl
 have t5 : (m.f0 == 5) = false := by rw [hk]; rfl
 have HK := Lib.hid hk
 clear hk
 have HM := Lib.hid hm
 clear hm
 go_enter Tryz.func68, Tryz.ntmps68
 go_upto_region 2 with fail
 obtain ⟨w0, hw, hT⟩ := bare_start w m A8 A12 A16 c8 c12 c16
 rw [← hw]
 have HT0 := Lib.hid hT
 clear hw hT
 obtain ⟨g, hg⟩ : ∃ g, w.heap.size = g := ⟨_, rfl⟩
 have HG := Lib.hid hg
 rw [hg] at HT0 ⊢
 clear hg
 obtain ⟨a0, a1, a2, a3, a4, a5, a6, a7, a8, a9, a10, a11, a12, a13, a14, a15, a16⟩ := MsBox.cell HT0.out.h.now
 have b9 : w0.cell? ⟨g + 1 + 1, 9, none⟩ = some (.int .i64 0) := (blk_cell HT0.out.y 9).trans rfl
 have z9 : w0.frozen? ⟨g + 1 + 1, 9, none⟩ = false := blk_frozen HT0.out.y 9
 have b10 : w0.cell? ⟨g + 1 + 1, 10, none⟩ = some (.int .i64 0) := (blk_cell HT0.out.y 10).trans rfl
 have z10 : w0.frozen? ⟨g + 1 + 1, 10, none⟩ = false := blk_frozen HT0.out.y 10
 have b11 : w0.cell? ⟨g + 1 + 1, 11, none⟩ = some (.int .i64 0) := (blk_cell HT0.out.y 11).trans rfl
 have z11 : w0.frozen? ⟨g + 1 + 1, 11, none⟩ = false := blk_frozen HT0.out.y 11
 have b12 : w0.cell? ⟨g + 1 + 1, 12, none⟩ = some (.slice none 0 0) := (blk_cell HT0.out.y 12).trans rfl
 have z12 : w0.frozen? ⟨g + 1 + 1, 12, none⟩ = false := blk_frozen HT0.out.y 12
 have hne : g + 1 + 1 ≠ g := by omega
 have hne2 : g ≠ g + 1 + 1 := by omega
 go_upto_region 4 with fail
 have hT : Bx w (g + 1 + 1) (g + 1) 34 #[.int .i64 0, .int .i64 0, .int .i64 0, .int .i64 0, .int .i64 0, .int .i64 0, .int .i64 0, .bool false, .slice none 0 0, .int .i64 0, .int .i64 0, .int .i64 0, .slice none 0 0, .int .i64 0, .int .i64 0, .int .i64 0, .slice none 0 0] #[.int .i64 m.f0, .int .i64 m.f1, .int .i64 m.f2, .int .i64 0, .int .i64 0, .int .i64 0, .int .i64 0, .bool false, .slice none 0 0, .int .i64 m.f9.f0, .int .i64 m.f9.f1, .int .i64 m.f9.f2, .slice A12 m.f9.f3.length c12, .int .i64 0, .int .i64 0, .int .i64 0, .slice none 0 0] _ _ := ((((HT0.out.put 9 (.int .i64 m.f9.f0)).put 10 (.int .i64 m.f9.f1)).put 11 (.int .i64 m.f9.f2)).put 12 (.slice A12 m.f9.f3.length c12))
 have HT1 := Lib.hid hT
 clear hT
 obtain ⟨w1, hw⟩ : ∃ w1, ((((w0.setCell ⟨g + 1 + 1, 9, none⟩ (.int .i64 m.f9.f0)).setCell ⟨g + 1 + 1, 10, none⟩ (.int .i64 m.f9.f1)).setCell ⟨g + 1 + 1, 11, none⟩ (.int .i64 m.f9.f2)).setCell ⟨g + 1 + 1, 12, none⟩ (.slice A12 m.f9.f3.length c12)) = w1 := ⟨_, rfl⟩
 rw [hw] at HT1 ⊢
 clear hw
 refine wp_region_list ?_
 refine wpList_load_row rfl 34 (.tmp 4) rfl (g + 1 + 1) rfl 34 _ (0, 0) _ HT1.out.y Tryz.underlying34 rfl (by kernel_rfl) ?_
 refine wpList_store_row rfl 34 (.tmp 2) (.tmp 18) rfl (g + 1) _ rfl rfl 34 _ HT1.out.g0 (by kernel_rfl) rfl (by simp [Value.oneCell']) ?_
 go_wp2_with fail
 refine bodyPost_ret (results_ct rfl _ _ (g + 1) 34 _ (0, 0) _ rfl HT1.out.fin.1 Tryz.underlying34 rfl (by kernel_rfl)) rfl ?_
 have hik : isKind m.f0 = true := by rw [HK.out]; rfl
 refine ⟨⟨m.f0, m.f1, m.f2, 0, 0, 0, 0, false, [], m.f9, zP⟩, none, A12, none, 0, c12, 0, by rw [hik]; rfl, fun _ => by unfold bareM; simp [HK.out], ⟨Nat.le_refl 0, Kd.C_nil _ _, HM.out.l12, Kd.C_below HM.out.g12 HT1.out.fin.2.2, Nat.le_refl 0, Kd.C_nil _ _⟩, HT1.out.fin.2.2⟩
set_option maxHeartbeats 4000000 in
theorem plain_k1 {w : World} (m : MsgD) {A8 A12 A16 : Option Addr} {c8 c12 c16 : Nat} (hm : MsgC w m A8 c8 A12 c12 A16 c16) (hk : m.f0 = 1) :
  Calls Tryz.prog 68 #[.agg #[.int .i64 m.f0, .int .i64 m.f1, .int .i64 m.f2, .int .i64 m.f3, .int .i64 m.f4, .int .i64 m.f5, .int .i64 m.f6, .bool m.f7, .slice A8 m.f8.length c8, .int .i64 m.f9.f0, .int .i64 m.f9.f1, .int .i64 m.f9.f2, .slice A12 m.f9.f3.length c12, .int .i64 m.f10.f0, .int .i64 m.f10.f1, .int .i64 m.f10.f2, .slice A16 m.f10.f3.length c16]] w fun e w' => BareP w m e w' := by
 have t6 : (m.f0 == 6) = false := by rw [hk]; rfl
 have t1 : (m.f0 == 1) = true := by rw [hk]; rfl
 have t2 : (m.f0 == 2) = false := by rw [hk]; rfl
 have t3 : (m.f0 == 3) = false := by rw [hk]; rfl
 have t4 : (m.f0 == 4) = false := by rw [hk]; rfl
 have t5 : (m.f0 == 5) = false := by rw [hk]; rfl
 have HK := Lib.hid hk
 clear hk
 have HM := Lib.hid hm
 clear hm
 go_enter Tryz.func68, Tryz.ntmps68
 go_upto_region 2 with fail
 obtain ⟨w0, hw, hT⟩ := bare_start w m A8 A12 A16 c8 c12 c16
 rw [← hw]
 have HT0 := Lib.hid hT
 clear hw hT
 obtain ⟨g, hg⟩ : ∃ g, w.heap.size = g := ⟨_, rfl⟩
 have HG := Lib.hid hg
 rw [hg] at HT0 ⊢
 clear hg
 obtain ⟨a0, a1, a2, a3, a4, a5, a6, a7, a8, a9, a10, a11, a12, a13, a14, a15, a16⟩ := MsBox.cell HT0.out.h.now
 have b3 : w0.cell? ⟨g + 1 + 1, 3, none⟩ = some (.int .i64 0) := (blk_cell HT0.out.y 3).trans rfl
 have z3 : w0.frozen? ⟨g + 1 + 1, 3, none⟩ = false := blk_frozen HT0.out.y 3
 have b4 : w0.cell? ⟨g + 1 + 1, 4, none⟩ = some (.int .i64 0) := (blk_cell HT0.out.y 4).trans rfl
 have z4 : w0.frozen? ⟨g + 1 + 1, 4, none⟩ = false := blk_frozen HT0.out.y 4
 have b5 : w0.cell? ⟨g + 1 + 1, 5, none⟩ = some (.int .i64 0) := (blk_cell HT0.out.y 5).trans rfl
 have z5 : w0.frozen? ⟨g + 1 + 1, 5, none⟩ = false := blk_frozen HT0.out.y 5
 have hne : g + 1 + 1 ≠ g := by omega
 have hne2 : g ≠ g + 1 + 1 := by omega
 go_upto_region 24 with fail
 have hT : Bx w (g + 1 + 1) (g + 1) 34 #[.int .i64 0, .int .i64 0, .int .i64 0, .int .i64 0, .int .i64 0, .int .i64 0, .int .i64 0, .bool false, .slice none 0 0, .int .i64 0, .int .i64 0, .int .i64 0, .slice none 0 0, .int .i64 0, .int .i64 0, .int .i64 0, .slice none 0 0] #[.int .i64 m.f0, .int .i64 m.f1, .int .i64 m.f2, .int .i64 m.f3, .int .i64 m.f4, .int .i64 m.f5, .int .i64 0, .bool false, .slice none 0 0, .int .i64 0, .int .i64 0, .int .i64 0, .slice none 0 0, .int .i64 0, .int .i64 0, .int .i64 0, .slice none 0 0] _ _ := (((HT0.out.put 3 (.int .i64 m.f3)).put 4 (.int .i64 m.f4)).put 5 (.int .i64 m.f5))
 have HT1 := Lib.hid hT
 clear hT
 obtain ⟨w1, hw⟩ : ∃ w1, (((w0.setCell ⟨g + 1 + 1, 3, none⟩ (.int .i64 m.f3)).setCell ⟨g + 1 + 1, 4, none⟩ (.int .i64 m.f4)).setCell ⟨g + 1 + 1, 5, none⟩ (.int .i64 m.f5)) = w1 := ⟨_, rfl⟩
 rw [hw] at HT1 ⊢
 clear hw
 refine wp_region_list ?_
 refine wpList_load_row rfl 34 (.tmp 4) rfl (g + 1 + 1) rfl 34 _ (0, 0) _ HT1.out.y Tryz.underlying34 rfl (by kernel_rfl) ?_
 refine wpList_store_row rfl 34 (.tmp 2) (.tmp 61) rfl (g + 1) _ rfl rfl 34 _ HT1.out.g0 (by kernel_rfl) rfl (by simp [Value.oneCell']) ?_
 go_wp2_with fail
 refine bodyPost_ret (results_ct rfl _ _ (g + 1) 34 _ (0, 0) _ rfl HT1.out.fin.1 Tryz.underlying34 rfl (by kernel_rfl)) rfl ?_
 have hik : isKind m.f0 = true := by rw [HK.out]; rfl
 refine ⟨⟨m.f0, m.f1, m.f2, m.f3, m.f4, m.f5, 0, false, [], zE, zP⟩, none, none, none, 0, 0, 0, by rw [hik]; rfl, fun _ => by unfold bareM; simp [HK.out], ⟨Nat.le_refl 0, Kd.C_nil _ _, Nat.le_refl 0, Kd.C_nil _ _, Nat.le_refl 0, Kd.C_nil _ _⟩, HT1.out.fin.2.2⟩
set_option maxHeartbeats 4000000 in
theorem plain_k2 {w : World} (m : MsgD) {A8 A12 A16 : Option Addr} {c8 c12 c16 : Nat} (hm : MsgC w m A8 c8 A12 c12 A16 c16) (hk : m.f0 = 2) :
  Calls Tryz.prog 68 #[.agg #[.int .i64 m.f0, .int .i64 m.f1, .int .i64 m.f2, .int .i64 m.f3, .int .i64 m.f4, .int .i64 m.f5, .int .i64 m.f6, .bool m.f7, .slice A8 m.f8.length c8, .int .i64 m.f9.f0, .int .i64 m.f9.f1, .int .i64 m.f9.f2, .slice A12 m.f9.f3.length c12, .int .i64 m.f10.f0, .int .i64 m.f10.f1, .int .i64 m.f10.f2, .slice A16 m.f10.f3.length c16]] w fun e w' => BareP w m e w' := by
 have t6 : (m.f0 == 6) = false := by rw [hk]; rfl
 have t1 : (m.f0 == 1) = false := by rw [hk]; rfl
 have t2 : (m.f0 == 2) = true := by rw [hk]; rfl
 have t3 : (m.f0 == 3) = false := by rw [hk]; rfl
 have t4 : (m.f0 == 4) = false := by rw [hk]; rfl
 have t5 : (m.f0 == 5) = false := by rw [hk]; rfl
 have HK := Lib.hid hk
 clear hk
 have HM := Lib.hid hm
 clear hm
 go_enter Tryz.func68, Tryz.ntmps68
 go_upto_region 2 with fail
 obtain ⟨w0, hw, hT⟩ := bare_start w m A8 A12 A16 c8 c12 c16
 rw [← hw]
 have HT0 := Lib.hid hT
 clear hw hT
 obtain ⟨g, hg⟩ : ∃ g, w.heap.size = g := ⟨_, rfl⟩
 have HG := Lib.hid hg
 rw [hg] at HT0 ⊢
 clear hg
 obtain ⟨a0, a1, a2, a3, a4, a5, a6, a7, a8, a9, a10, a11, a12, a13, a14, a15, a16⟩ := MsBox.cell HT0.out.h.now
 have b3 : w0.cell? ⟨g + 1 + 1, 3, none⟩ = some (.int .i64 0) := (blk_cell HT0.out.y 3).trans rfl
 have z3 : w0.frozen? ⟨g + 1 + 1, 3, none⟩ = false := blk_frozen HT0.out.y 3
 have b7 : w0.cell? ⟨g + 1 + 1, 7, none⟩ = some (.bool false) := (blk_cell HT0.out.y 7).trans rfl
 have z7 : w0.frozen? ⟨g + 1 + 1, 7, none⟩ = false := blk_frozen HT0.out.y 7
 have hne : g + 1 + 1 ≠ g := by omega
 have hne2 : g ≠ g + 1 + 1 := by omega
 go_upto_region 24 with fail
 have hT : Bx w (g + 1 + 1) (g + 1) 34 #[.int .i64 0, .int .i64 0, .int .i64 0, .int .i64 0, .int .i64 0, .int .i64 0, .int .i64 0, .bool false, .slice none 0 0, .int .i64 0, .int .i64 0, .int .i64 0, .slice none 0 0, .int .i64 0, .int .i64 0, .int .i64 0, .slice none 0 0] #[.int .i64 m.f0, .int .i64 m.f1, .int .i64 m.f2, .int .i64 m.f3, .int .i64 0, .int .i64 0, .int .i64 0, .bool m.f7, .slice none 0 0, .int .i64 0, .int .i64 0, .int .i64 0, .slice none 0 0, .int .i64 0, .int .i64 0, .int .i64 0, .slice none 0 0] _ _ := ((HT0.out.put 3 (.int .i64 m.f3)).put 7 (.bool m.f7))
 have HT1 := Lib.hid hT
 clear hT
 obtain ⟨w1, hw⟩ : ∃ w1, ((w0.setCell ⟨g + 1 + 1, 3, none⟩ (.int .i64 m.f3)).setCell ⟨g + 1 + 1, 7, none⟩ (.bool m.f7)) = w1 := ⟨_, rfl⟩
 rw [hw] at HT1 ⊢
 clear hw
 refine wp_region_list ?_
 refine wpList_load_row rfl 34 (.tmp 4) rfl (g + 1 + 1) rfl 34 _ (0, 0) _ HT1.out.y Tryz.underlying34 rfl (by kernel_rfl) ?_
 refine wpList_store_row rfl 34 (.tmp 2) (.tmp 61) rfl (g + 1) _ rfl rfl 34 _ HT1.out.g0 (by kernel_rfl) rfl (by simp [Value.oneCell']) ?_
 go_wp2_with fail
 refine bodyPost_ret (results_ct rfl _ _ (g + 1) 34 _ (0, 0) _ rfl HT1.out.fin.1 Tryz.underlying34 rfl (by kernel_rfl)) rfl ?_
 have hik : isKind m.f0 = true := by rw [HK.out]; rfl
 refine ⟨⟨m.f0, m.f1, m.f2, m.f3, 0, 0, 0, m.f7, [], zE, zP⟩, none, none, none, 0, 0, 0, by rw [hik]; rfl, fun _ => by unfold bareM; simp [HK.out], ⟨Nat.le_refl 0, Kd.C_nil _ _, Nat.le_refl 0, Kd.C_nil _ _, Nat.le_refl 0, Kd.C_nil _ _⟩, HT1.out.fin.2.2⟩
set_option maxHeartbeats 4000000 in
theorem plain_k3 {w : World} (m : MsgD) {A8 A12 A16 : Option Addr} {c8 c12 c16 : Nat} (hm : MsgC w m A8 c8 A12 c12 A16 c16) (hk : m.f0 = 3) :
  Calls Tryz.prog 68 #[.agg #[.int .i64 m.f0, .int .i64 m.f1, .int .i64 m.f2, .int .i64 m.f3, .int .i64 m.f4, .int .i64 m.f5, .int .i64 m.f6, .bool m.f7, .slice A8 m.f8.length c8, .int .i64 m.f9.f0, .int .i64 m.f9.f1, .int .i64 m.f9.f2, .slice A12 m.f9.f3.length c12, .int .i64 m.f10.f0, .int .i64 m.f10.f1, .int .i64 m.f10.f2, .slice A16 m.f10.f3.length c16]] w fun e w' => BareP w m e w' := by
 have t6 : (m.f0 == 6) = false := by rw [hk]; rfl
 have t1 : (m.f0 == 1) = false := by rw [hk]; rfl
 have t2 : (m.f0 == 2) = false := by rw [hk]; rfl
 have t3 : (m.f0 == 3) = true := by rw [hk]; rfl
 have t4 : (m.f0 == 4) = false := by rw [hk]; rfl
 have t5 : (m.f0 == 5) = false := by rw [hk]; rfl
 have HK := Lib.hid hk
 clear hk
 have HM := Lib.hid hm
 clear hm
 go_enter Tryz.func68, Tryz.ntmps68
 go_upto_region 2 with fail
 obtain ⟨w0, hw, hT⟩ := bare_start w m A8 A12 A16 c8 c12 c16
 rw [← hw]
 have HT0 := Lib.hid hT
 clear hw hT
 obtain ⟨g, hg⟩ : ∃ g, w.heap.size = g := ⟨_, rfl⟩
 have HG := Lib.hid hg
 rw [hg] at HT0 ⊢
 clear hg
 obtain ⟨a0, a1, a2, a3, a4, a5, a6, a7, a8, a9, a10, a11, a12, a13, a14, a15, a16⟩ := MsBox.cell HT0.out.h.now
 have b3 : w0.cell? ⟨g + 1 + 1, 3, none⟩ = some (.int .i64 0) := (blk_cell HT0.out.y 3).trans rfl
 have z3 : w0.frozen? ⟨g + 1 + 1, 3, none⟩ = false := blk_frozen HT0.out.y 3
 have b4 : w0.cell? ⟨g + 1 + 1, 4, none⟩ = some (.int .i64 0) := (blk_cell HT0.out.y 4).trans rfl
 have z4 : w0.frozen? ⟨g + 1 + 1, 4, none⟩ = false := blk_frozen HT0.out.y 4
 have b5 : w0.cell? ⟨g + 1 + 1, 5, none⟩ = some (.int .i64 0) := (blk_cell HT0.out.y 5).trans rfl
 have z5 : w0.frozen? ⟨g + 1 + 1, 5, none⟩ = false := blk_frozen HT0.out.y 5
 have b6 : w0.cell? ⟨g + 1 + 1, 6, none⟩ = some (.int .i64 0) := (blk_cell HT0.out.y 6).trans rfl
 have z6 : w0.frozen? ⟨g + 1 + 1, 6, none⟩ = false := blk_frozen HT0.out.y 6
 have b8 : w0.cell? ⟨g + 1 + 1, 8, none⟩ = some (.slice none 0 0) := (blk_cell HT0.out.y 8).trans rfl
 have z8 : w0.frozen? ⟨g + 1 + 1, 8, none⟩ = false := blk_frozen HT0.out.y 8
 have hne : g + 1 + 1 ≠ g := by omega
 have hne2 : g ≠ g + 1 + 1 := by omega
 go_upto_region 24 with fail
 have hT : Bx w (g + 1 + 1) (g + 1) 34 #[.int .i64 0, .int .i64 0, .int .i64 0, .int .i64 0, .int .i64 0, .int .i64 0, .int .i64 0, .bool false, .slice none 0 0, .int .i64 0, .int .i64 0, .int .i64 0, .slice none 0 0, .int .i64 0, .int .i64 0, .int .i64 0, .slice none 0 0] #[.int .i64 m.f0, .int .i64 m.f1, .int .i64 m.f2, .int .i64 m.f3, .int .i64 m.f4, .int .i64 m.f5, .int .i64 m.f6, .bool false, .slice A8 m.f8.length c8, .int .i64 0, .int .i64 0, .int .i64 0, .slice none 0 0, .int .i64 0, .int .i64 0, .int .i64 0, .slice none 0 0] _ _ := (((((HT0.out.put 3 (.int .i64 m.f3)).put 4 (.int .i64 m.f4)).put 5 (.int .i64 m.f5)).put 6 (.int .i64 m.f6)).put 8 (.slice A8 m.f8.length c8))
 have HT1 := Lib.hid hT
 clear hT
 obtain ⟨w1, hw⟩ : ∃ w1, (((((w0.setCell ⟨g + 1 + 1, 3, none⟩ (.int .i64 m.f3)).setCell ⟨g + 1 + 1, 4, none⟩ (.int .i64 m.f4)).setCell ⟨g + 1 + 1, 5, none⟩ (.int .i64 m.f5)).setCell ⟨g + 1 + 1, 6, none⟩ (.int .i64 m.f6)).setCell ⟨g + 1 + 1, 8, none⟩ (.slice A8 m.f8.length c8)) = w1 := ⟨_, rfl⟩
 rw [hw] at HT1 ⊢
 clear hw
 refine wp_region_list ?_
 refine wpList_load_row rfl 34 (.tmp 4) rfl (g + 1 + 1) rfl 34 _ (0, 0) _ HT1.out.y Tryz.underlying34 rfl (by kernel_rfl) ?_
 refine wpList_store_row rfl 34 (.tmp 2) (.tmp 61) rfl (g + 1) _ rfl rfl 34 _ HT1.out.g0 (by kernel_rfl) rfl (by simp [Value.oneCell']) ?_
 go_wp2_with fail
 refine bodyPost_ret (results_ct rfl _ _ (g + 1) 34 _ (0, 0) _ rfl HT1.out.fin.1 Tryz.underlying34 rfl (by kernel_rfl)) rfl ?_
 have hik : isKind m.f0 = true := by rw [HK.out]; rfl
 refine ⟨⟨m.f0, m.f1, m.f2, m.f3, m.f4, m.f5, m.f6, false, m.f8, zE, zP⟩, A8, none, none, c8, 0, 0, by rw [hik]; rfl, fun _ => by unfold bareM; simp [HK.out], ⟨HM.out.l8, Kd.C_below HM.out.g8 HT1.out.fin.2.2, Nat.le_refl 0, Kd.C_nil _ _, Nat.le_refl 0, Kd.C_nil _ _⟩, HT1.out.fin.2.2⟩
set_option maxHeartbeats 4000000 in
theorem plain_k4 {w : World} (m : MsgD) {A8 A12 A16 : Option Addr} {c8 c12 c16 : Nat} (hm : MsgC w m A8 c8 A12 c12 A16 c16) (hk : m.f0 = 4) :
  Calls Tryz.prog 68 #[.agg #[.int .i64 m.f0, .int .i64 m.f1, .int .i64 m.f2, .int .i64 m.f3, .int .i64 m.f4, .int .i64 m.f5, .int .i64 m.f6, .bool m.f7, .slice A8 m.f8.length c8, .int .i64 m.f9.f0, .int .i64 m.f9.f1, .int .i64 m.f9.f2, .slice A12 m.f9.f3.length c12, .int .i64 m.f10.f0, .int .i64 m.f10.f1, .int .i64 m.f10.f2, .slice A16 m.f10.f3.length c16]] w fun e w' => BareP w m e w' := by
 have t6 : (m.f0 == 6) = false := by rw [hk]; rfl
 have t1 : (m.f0 == 1) = false := by rw [hk]; rfl
 have t2 : (m.f0 == 2) = false := by rw [hk]; rfl
 have t3 : (m.f0 == 3) = false := by rw [hk]; rfl
 have t4 : (m.f0 == 4) = true := by rw [hk]; rfl
 have t5 : (m.f0 == 5) = false := by rw [hk]; rfl
 have HK := Lib.hid hk
 clear hk
 have HM := Lib.hid hm
 clear hm
 go_enter Tryz.func68, Tryz.ntmps68
 go_upto_region 2 with fail
 obtain ⟨w0, hw, hT⟩ := bare_start w m A8 A12 A16 c8 c12 c16
 rw [← hw]
 have HT0 := Lib.hid hT
 clear hw hT
 obtain ⟨g, hg⟩ : ∃ g, w.heap.size = g := ⟨_, rfl⟩
 have HG := Lib.hid hg
 rw [hg] at HT0 ⊢
 clear hg
 obtain ⟨a0, a1, a2, a3, a4, a5, a6, a7, a8, a9, a10, a11, a12, a13, a14, a15, a16⟩ := MsBox.cell HT0.out.h.now
 have b3 : w0.cell? ⟨g + 1 + 1, 3, none⟩ = some (.int .i64 0) := (blk_cell HT0.out.y 3).trans rfl
 have z3 : w0.frozen? ⟨g + 1 + 1, 3, none⟩ = false := blk_frozen HT0.out.y 3
 have b7 : w0.cell? ⟨g + 1 + 1, 7, none⟩ = some (.bool false) := (blk_cell HT0.out.y 7).trans rfl
 have z7 : w0.frozen? ⟨g + 1 + 1, 7, none⟩ = false := blk_frozen HT0.out.y 7
 have b4 : w0.cell? ⟨g + 1 + 1, 4, none⟩ = some (.int .i64 0) := (blk_cell HT0.out.y 4).trans rfl
 have z4 : w0.frozen? ⟨g + 1 + 1, 4, none⟩ = false := blk_frozen HT0.out.y 4
 have hne : g + 1 + 1 ≠ g := by omega
 have hne2 : g ≠ g + 1 + 1 := by omega
 go_upto_region 24 with fail
 have hT : Bx w (g + 1 + 1) (g + 1) 34 #[.int .i64 0, .int .i64 0, .int .i64 0, .int .i64 0, .int .i64 0, .int .i64 0, .int .i64 0, .bool false, .slice none 0 0, .int .i64 0, .int .i64 0, .int .i64 0, .slice none 0 0, .int .i64 0, .int .i64 0, .int .i64 0, .slice none 0 0] #[.int .i64 m.f0, .int .i64 m.f1, .int .i64 m.f2, .int .i64 m.f3, .int .i64 m.f4, .int .i64 0, .int .i64 0, .bool m.f7, .slice none 0 0, .int .i64 0, .int .i64 0, .int .i64 0, .slice none 0 0, .int .i64 0, .int .i64 0, .int .i64 0, .slice none 0 0] _ _ := (((HT0.out.put 3 (.int .i64 m.f3)).put 7 (.bool m.f7)).put 4 (.int .i64 m.f4))
 have HT1 := Lib.hid hT
 clear hT
 obtain ⟨w1, hw⟩ : ∃ w1, (((w0.setCell ⟨g + 1 + 1, 3, none⟩ (.int .i64 m.f3)).setCell ⟨g + 1 + 1, 7, none⟩ (.bool m.f7)).setCell ⟨g + 1 + 1, 4, none⟩ (.int .i64 m.f4)) = w1 := ⟨_, rfl⟩
 rw [hw] at HT1 ⊢
 clear hw
 refine wp_region_list ?_
 refine wpList_load_row rfl 34 (.tmp 4) rfl (g + 1 + 1) rfl 34 _ (0, 0) _ HT1.out.y Tryz.underlying34 rfl (by kernel_rfl) ?_
 refine wpList_store_row rfl 34 (.tmp 2) (.tmp 61) rfl (g + 1) _ rfl rfl 34 _ HT1.out.g0 (by kernel_rfl) rfl (by simp [Value.oneCell']) ?_
 go_wp2_with fail
 refine bodyPost_ret (results_ct rfl _ _ (g + 1) 34 _ (0, 0) _ rfl HT1.out.fin.1 Tryz.underlying34 rfl (by kernel_rfl)) rfl ?_
 have hik : isKind m.f0 = true := by rw [HK.out]; rfl
 refine ⟨⟨m.f0, m.f1, m.f2, m.f3, m.f4, 0, 0, m.f7, [], zE, zP⟩, none, none, none, 0, 0, 0, by rw [hik]; rfl, fun _ => by unfold bareM; simp [HK.out], ⟨Nat.le_refl 0, Kd.C_nil _ _, Nat.le_refl 0, Kd.C_nil _ _, Nat.le_refl 0, Kd.C_nil _ _⟩, HT1.out.fin.2.2⟩
set_option maxHeartbeats 4000000 in
theorem plain_k5 {w : World} (m : MsgD) {A8 A12 A16 : Option Addr} {c8 c12 c16 : Nat} (hm : MsgC w m A8 c8 A12 c12 A16 c16) (hk : m.f0 = 5) :
  Calls Tryz.prog 68 #[.agg #[.int .i64 m.f0, .int .i64 m.f1, .int .i64 m.f2, .int .i64 m.f3, .int .i64 m.f4, .int .i64 m.f5, .int .i64 m.f6, .bool m.f7, .slice A8 m.f8.length c8, .int .i64 m.f9.f0, .int .i64 m.f9.f1, .int .i64 m.f9.f2, .slice A12 m.f9.f3.length c12, .int .i64 m.f10.f0, .int .i64 m.f10.f1, .int .i64 m.f10.f2, .slice A16 m.f10.f3.length c16]] w fun e w' => BareP w m e w' := by
 have t6 : (m.f0 == 6) = false := by rw [hk]; rfl
 have t1 : (m.f0 == 1) = false := by rw [hk]; rfl
 have t2 : (m.f0 == 2) = false := by rw [hk]; rfl
 have t3 : (m.f0 == 3) = false := by rw [hk]; rfl
 have t4 : (m.f0 == 4) = false := by rw [hk]; rfl
 have t5 : (m.f0 == 5) = true := by rw [hk]; rfl
 have HK := Lib.hid hk
 clear hk
 have HM := Lib.hid hm
 clear hm
 go_enter Tryz.func68, Tryz.ntmps68
 go_upto_region 2 with fail
 obtain ⟨w0, hw, hT⟩ := bare_start w m A8 A12 A16 c8 c12 c16
 rw [← hw]
 have HT0 := Lib.hid hT
 clear hw hT
 obtain ⟨g, hg⟩ : ∃ g, w.heap.size = g := ⟨_, rfl⟩
 have HG := Lib.hid hg
 rw [hg] at HT0 ⊢
 clear hg
 obtain ⟨a0, a1, a2, a3, a4, a5, a6, a7, a8, a9, a10, a11, a12, a13, a14, a15, a16⟩ := MsBox.cell HT0.out.h.now
 have b3 : w0.cell? ⟨g + 1 + 1, 3, none⟩ = some (.int .i64 0) := (blk_cell HT0.out.y 3).trans rfl
 have z3 : w0.frozen? ⟨g + 1 + 1, 3, none⟩ = false := blk_frozen HT0.out.y 3
 have b4 : w0.cell? ⟨g + 1 + 1, 4, none⟩ = some (.int .i64 0) := (blk_cell HT0.out.y 4).trans rfl
 have z4 : w0.frozen? ⟨g + 1 + 1, 4, none⟩ = false := blk_frozen HT0.out.y 4
 have b5 : w0.cell? ⟨g + 1 + 1, 5, none⟩ = some (.int .i64 0) := (blk_cell HT0.out.y 5).trans rfl
 have z5 : w0.frozen? ⟨g + 1 + 1, 5, none⟩ = false := blk_frozen HT0.out.y 5
 have b13 : w0.cell? ⟨g + 1 + 1, 13, none⟩ = some (.int .i64 0) := (blk_cell HT0.out.y 13).trans rfl
 have z13 : w0.frozen? ⟨g + 1 + 1, 13, none⟩ = false := blk_frozen HT0.out.y 13
 have b14 : w0.cell? ⟨g + 1 + 1, 14, none⟩ = some (.int .i64 0) := (blk_cell HT0.out.y 14).trans rfl
 have z14 : w0.frozen? ⟨g + 1 + 1, 14, none⟩ = false := blk_frozen HT0.out.y 14
 have b15 : w0.cell? ⟨g + 1 + 1, 15, none⟩ = some (.int .i64 0) := (blk_cell HT0.out.y 15).trans rfl
 have z15 : w0.frozen? ⟨g + 1 + 1, 15, none⟩ = false := blk_frozen HT0.out.y 15
 have b16 : w0.cell? ⟨g + 1 + 1, 16, none⟩ = some (.slice none 0 0) := (blk_cell HT0.out.y 16).trans rfl
 have z16 : w0.frozen? ⟨g + 1 + 1, 16, none⟩ = false := blk_frozen HT0.out.y 16
 have hne : g + 1 + 1 ≠ g := by omega
 have hne2 : g ≠ g + 1 + 1 := by omega
 go_upto_region 24 with fail
 have hT : Bx w (g + 1 + 1) (g + 1) 34 #[.int .i64 0, .int .i64 0, .int .i64 0, .int .i64 0, .int .i64 0, .int .i64 0, .int .i64 0, .bool false, .slice none 0 0, .int .i64 0, .int .i64 0, .int .i64 0, .slice none 0 0, .int .i64 0, .int .i64 0, .int .i64 0, .slice none 0 0] #[.int .i64 m.f0, .int .i64 m.f1, .int .i64 m.f2, .int .i64 m.f3, .int .i64 m.f4, .int .i64 m.f5, .int .i64 0, .bool false, .slice none 0 0, .int .i64 0, .int .i64 0, .int .i64 0, .slice none 0 0, .int .i64 m.f10.f0, .int .i64 m.f10.f1, .int .i64 m.f10.f2, .slice A16 m.f10.f3.length c16] _ _ := (((((((HT0.out.put 3 (.int .i64 m.f3)).put 4 (.int .i64 m.f4)).put 5 (.int .i64 m.f5)).put 13 (.int .i64 m.f10.f0)).put 14 (.int .i64 m.f10.f1)).put 15 (.int .i64 m.f10.f2)).put 16 (.slice A16 m.f10.f3.length c16))
 have HT1 := Lib.hid hT
 clear hT
 obtain ⟨w1, hw⟩ : ∃ w1, (((((((w0.setCell ⟨g + 1 + 1, 3, none⟩ (.int .i64 m.f3)).setCell ⟨g + 1 + 1, 4, none⟩ (.int .i64 m.f4)).setCell ⟨g + 1 + 1, 5, none⟩ (.int .i64 m.f5)).setCell ⟨g + 1 + 1, 13, none⟩ (.int .i64 m.f10.f0)).setCell ⟨g + 1 + 1, 14, none⟩ (.int .i64 m.f10.f1)).setCell ⟨g + 1 + 1, 15, none⟩ (.int .i64 m.f10.f2)).setCell ⟨g + 1 + 1, 16, none⟩ (.slice A16 m.f10.f3.length c16)) = w1 := ⟨_, rfl⟩
 rw [hw] at HT1 ⊢
 clear hw
 refine wp_region_list ?_
 refine wpList_load_row rfl 34 (.tmp 4) rfl (g + 1 + 1) rfl 34 _ (0, 0) _ HT1.out.y Tryz.underlying34 rfl (by kernel_rfl) ?_
 refine wpList_store_row rfl 34 (.tmp 2) (.tmp 61) rfl (g + 1) _ rfl rfl 34 _ HT1.out.g0 (by kernel_rfl) rfl (by simp [Value.oneCell']) ?_
 go_wp2_with fail
 refine bodyPost_ret (results_ct rfl _ _ (g + 1) 34 _ (0, 0) _ rfl HT1.out.fin.1 Tryz.underlying34 rfl (by kernel_rfl)) rfl ?_
 have hik : isKind m.f0 = true := by rw [HK.out]; rfl
 refine ⟨⟨m.f0, m.f1, m.f2, m.f3, m.f4, m.f5, 0, false, [], zE, m.f10⟩, none, none, A16, 0, 0, c16, by rw [hik]; rfl, fun _ => by unfold bareM; simp [HK.out], ⟨Nat.le_refl 0, Kd.C_nil _ _, Nat.le_refl 0, Kd.C_nil _ _, HM.out.l16, Kd.C_below HM.out.g16 HT1.out.fin.2.2⟩, HT1.out.fin.2.2⟩
set_option maxHeartbeats 4000000 in
theorem plain_k0 {w : World} (m : MsgD) {A8 A12 A16 : Option Addr} {c8 c12 c16 : Nat} (hm : MsgC w m A8 c8 A12 c12 A16 c16) (hk : isKind m.f0 = false) :
  Calls Tryz.prog 68 #[.agg #[.int .i64 m.f0, .int .i64 m.f1, .int .i64 m.f2, .int .i64 m.f3, .int .i64 m.f4, .int .i64 m.f5, .int .i64 m.f6, .bool m.f7, .slice A8 m.f8.length c8, .int .i64 m.f9.f0, .int .i64 m.f9.f1, .int .i64 m.f9.f2, .slice A12 m.f9.f3.length c12, .int .i64 m.f10.f0, .int .i64 m.f10.f1, .int .i64 m.f10.f2, .slice A16 m.f10.f3.length c16]] w fun e w' => BareP w m e w' := by
 have t6 : (m.f0 == 6) = false := by rw [beq_eq_false_iff_ne]; intro h; rw [h] at hk; cases hk
 have t1 : (m.f0 == 1) = false := by rw [beq_eq_false_iff_ne]; intro h; rw [h] at hk; cases hk
 have t2 : (m.f0 == 2) = false := by rw [beq_eq_false_iff_ne]; intro h; rw [h] at hk; cases hk
 have t3 : (m.f0 == 3) = false := by rw [beq_eq_false_iff_ne]; intro h; rw [h] at hk; cases hk
 have t4 : (m.f0 == 4) = false := by rw [beq_eq_false_iff_ne]; intro h; rw [h] at hk; cases hk
 have t5 : (m.f0 == 5) = false := by rw [beq_eq_false_iff_ne]; intro h; rw [h] at hk; cases hk
 have HK := Lib.hid hk
 clear hk
 have HM := Lib.hid hm
 clear hm
 go_enter Tryz.func68, Tryz.ntmps68
 go_upto_region 2 with fail
 obtain ⟨w0, hw, hT⟩ := bare_start w m A8 A12 A16 c8 c12 c16
 rw [← hw]
 have HT0 := Lib.hid hT
 clear hw hT
 obtain ⟨g, hg⟩ : ∃ g, w.heap.size = g := ⟨_, rfl⟩
 have HG := Lib.hid hg
 rw [hg] at HT0 ⊢
 clear hg
 obtain ⟨a0, a1, a2, a3, a4, a5, a6, a7, a8, a9, a10, a11, a12, a13, a14, a15, a16⟩ := MsBox.cell HT0.out.h.now
 have b3 : w0.cell? ⟨g + 1 + 1, 3, none⟩ = some (.int .i64 0) := (blk_cell HT0.out.y 3).trans rfl
 have z3 : w0.frozen? ⟨g + 1 + 1, 3, none⟩ = false := blk_frozen HT0.out.y 3
 have hne : g + 1 + 1 ≠ g := by omega
 have hne2 : g ≠ g + 1 + 1 := by omega
 go_upto_region 7 with fail
 have HT1 := Lib.hid (HT0.out.set 3 (.int .i64 m.f3) #[.int .i64 m.f0, .int .i64 m.f1, .int .i64 m.f2, .int .i64 m.f3, .int .i64 0, .int .i64 0, .int .i64 0, .bool false, .slice none 0 0, .int .i64 0, .int .i64 0, .int .i64 0, .slice none 0 0, .int .i64 0, .int .i64 0, .int .i64 0, .slice none 0 0] (blk_put HT0.out.y 3 _ rfl))
 obtain ⟨w1, hw⟩ : ∃ w1, w0.setCell ⟨g + 1 + 1, 3, none⟩ (.int .i64 m.f3) = w1 := ⟨_, rfl⟩
 rw [hw] at HT1 ⊢
 clear hw
 refine wp_region_list ?_
 refine wpList_load_row rfl 34 (.tmp 4) rfl (g + 1 + 1) rfl 34 _ (0, 0) _ HT1.out.y Tryz.underlying34 rfl (by kernel_rfl) ?_
 refine wpList_store_row rfl 34 (.tmp 2) (.tmp 24) rfl (g + 1) #[.int .i64 m.f0, .int .i64 m.f1, .int .i64 m.f2, .int .i64 m.f3, .int .i64 0, .int .i64 0, .int .i64 0, .bool false, .slice none 0 0, .int .i64 0, .int .i64 0, .int .i64 0, .slice none 0 0, .int .i64 0, .int .i64 0, .int .i64 0, .slice none 0 0] rfl rfl 34 _ HT1.out.g0 (by kernel_rfl) rfl (by simp [Value.oneCell']) ?_
 go_wp2_with fail
 refine bodyPost_ret (results_ct rfl _ _ (g + 1) 34 _ (0, 0) _ rfl HT1.out.fin.1 Tryz.underlying34 rfl (by kernel_rfl)) rfl ?_
 exact ⟨⟨m.f0, m.f1, m.f2, m.f3, 0, 0, 0, false, [], zE, zP⟩, none, none, none, 0, 0, 0, by rw [HK.out]; rfl, fun h => (by rw [HK.out] at h; cases h), ⟨Nat.le_refl 0, Kd.C_nil _ _, Nat.le_refl 0, Kd.C_nil _ _, Nat.le_refl 0, Kd.C_nil _ _⟩, HT1.out.fin.2.2⟩
theorem plain_is {w : World} (m : MsgD) {A8 A12 A16 : Option Addr} {c8 c12 c16 : Nat} (hm : MsgC w m A8 c8 A12 c12 A16 c16) :
  Calls Tryz.prog 68 #[.agg #[.int .i64 m.f0, .int .i64 m.f1, .int .i64 m.f2, .int .i64 m.f3, .int .i64 m.f4, .int .i64 m.f5, .int .i64 m.f6, .bool m.f7, .slice A8 m.f8.length c8, .int .i64 m.f9.f0, .int .i64 m.f9.f1, .int .i64 m.f9.f2, .slice A12 m.f9.f3.length c12, .int .i64 m.f10.f0, .int .i64 m.f10.f1, .int .i64 m.f10.f2, .slice A16 m.f10.f3.length c16]] w fun e w' => BareP w m e w' := by
 cases hk : isKind m.f0 with
 | false => exact plain_k0 m hm hk
 | true =>
  have h2 : 1 ≤ m.f0 ∧ m.f0 ≤ 6 := by
   unfold isKind at hk
   rw [Bool.and_eq_true, decide_eq_true_eq, decide_eq_true_eq] at hk
   exact hk
  by_cases h1 : m.f0 = 1
  ·exact plain_k1 m hm h1
  ·by_cases h3 : m.f0 = 2
   ·exact plain_k2 m hm h3
   ·by_cases h4 : m.f0 = 3
    ·exact plain_k3 m hm h4
    ·by_cases h5 : m.f0 = 4
     ·exact plain_k4 m hm h5
     ·by_cases h6 : m.f0 = 5
      ·exact plain_k5 m hm h6
      ·exact plain_k6 m hm (by omega)
end Go.Proofs.YtgiefblcckikeaaGreat.M
end

section
/- Which messages are the same: record.SameMsg, the reference's SameMsg (printed by gensame04.py). -/
attribute [local irreducible] Go.wpStill
namespace Go.Proofs.YtgiefblcckikeaaGreat.M
open Go.RowKit Go.Proofs.YtgiefblcckikeaaGreatW.PrintWords Go.Proofs.YtgiefblcckikeaaGreatW.PrintLast Go.Proofs.YtgiefblcckikeaaGreatW.PrintMore Go.Proofs.YtgiefblcckikeaaGreat.G
set_option maxHeartbeats 1000000 in
theorem refSamePt_is {w : World} (a b : PartD) {A B : Option Addr} {c d : Nat} (hc : a.f3.length ≤ c) (ha : Kd.C (Kd.int .u8) w A a.f3.length a.f3) (hd : b.f3.length ≤ d) (hb : Kd.C (Kd.int .u8) w B b.f3.length b.f3) :
  Calls Tryz.prog 65 #[.agg #[.int .i64 a.f0, .int .i64 a.f1, .int .i64 a.f2, .slice A a.f3.length c], .agg #[.int .i64 b.f0, .int .i64 b.f1, .int .i64 b.f2, .slice B b.f3.length d]] w fun e w' => e = .returned (.bool (eqPt a b)) ∧ Below w.heap.size w w' := by
 have HBX := Lib.hid (show Below w.heap.size w ((w.alloc (.cells #[.int .i64 a.f0, .int .i64 a.f1, .int .i64 a.f2, .slice A a.f3.length c] 32)).alloc (.cells #[.int .i64 b.f0, .int .i64 b.f1, .int .i64 b.f2, .slice B b.f3.length d] 32)) from ((Below.refl _ _).alloc (Nat.le_refl _) _).alloc (by simp) _)
 have HA := Lib.hid (Kd.C_below ha HBX.out); have HB := Lib.hid (Kd.C_below hb HBX.out)
 have hz1 : (w.alloc (.cells #[.int .i64 a.f0, .int .i64 a.f1, .int .i64 a.f2, .slice A a.f3.length c] 32)).heap.size = w.heap.size + 1 := by simp
 have hx : ((w.alloc (.cells #[.int .i64 a.f0, .int .i64 a.f1, .int .i64 a.f2, .slice A a.f3.length c] 32)).alloc (.cells #[.int .i64 b.f0, .int .i64 b.f1, .int .i64 b.f2, .slice B b.f3.length d] 32)).heap[w.heap.size]? = some (.cells #[.int .i64 a.f0, .int .i64 a.f1, .int .i64 a.f2, .slice A a.f3.length c] 32) := (((Below.refl _ (w.alloc (.cells #[.int .i64 a.f0, .int .i64 a.f1, .int .i64 a.f2, .slice A a.f3.length c] 32))).alloc (Nat.le_refl _) _).block w.heap.size (by omega)).trans (heap_alloc_new w _)
 have hy : ((w.alloc (.cells #[.int .i64 a.f0, .int .i64 a.f1, .int .i64 a.f2, .slice A a.f3.length c] 32)).alloc (.cells #[.int .i64 b.f0, .int .i64 b.f1, .int .i64 b.f2, .slice B b.f3.length d] 32)).heap[w.heap.size + 1]? = some (.cells #[.int .i64 b.f0, .int .i64 b.f1, .int .i64 b.f2, .slice B b.f3.length d] 32) := by rw [← hz1]; exact heap_alloc_new _ _
 have HX := Lib.hid hx; have HY := Lib.hid hy
 obtain ⟨q0, hq0⟩ : ∃ q0 : Bool, (a.f0 == b.f0) = q0 := ⟨_, rfl⟩
 obtain ⟨q1, hq1⟩ : ∃ q1 : Bool, (a.f1 == b.f1) = q1 := ⟨_, rfl⟩
 obtain ⟨q2, hq2⟩ : ∃ q2 : Bool, (a.f2 == b.f2) = q2 := ⟨_, rfl⟩
 obtain ⟨q3, hq3⟩ : ∃ q3 : Bool, ((strOfNums a.f3).toList == (strOfNums b.f3).toList) = q3 := ⟨_, rfl⟩
 obtain ⟨r, hr⟩ : ∃ r, eqPt a b = r := ⟨_, rfl⟩
 rw [hr]
 have HR := Lib.hid (show r = (q0 && (q1 && (q2 && q3))) by rw [← hr, ← hq0, ← hq1, ← hq2, ← hq3]; rfl)
 clear hr ha hb hc hd hx hy hz1
 go_enter Tryz.func65, Tryz.ntmps65
 go_upto_region 1 with fail
 obtain ⟨w1, hw1⟩ : ∃ w1, (w.alloc (.cells #[.int .i64 a.f0, .int .i64 a.f1, .int .i64 a.f2, .slice A a.f3.length c] 32)).alloc (.cells #[.int .i64 b.f0, .int .i64 b.f1, .int .i64 b.f2, .slice B b.f3.length d] 32) = w1 := ⟨_, rfl⟩
 obtain ⟨g, hg⟩ : ∃ g, w.heap.size = g := ⟨_, rfl⟩
 rw [hw1]
 rw [hw1] at HBX HX HY HA HB
 rw [hg] at HX HY ⊢
 have HG := Lib.hid hg
 clear hw1 hg
 have hcv3 := Kd.C_string (P := Tryz.prog) (A := A) (c := c) Tryz.underlying23 Tryz.underlying5 Tryz.underlying9 HA.out
 have hcv4 := Kd.C_string (P := Tryz.prog) (A := B) (c := d) Tryz.underlying23 Tryz.underlying5 Tryz.underlying9 HB.out
 have a0 : w1.cell? ⟨g, 0, none⟩ = some (.int .i64 a.f0) := (blk_cell HX.out 0).trans rfl
 have b0 : w1.cell? ⟨g + 1, 0, none⟩ = some (.int .i64 b.f0) := (blk_cell HY.out 0).trans rfl
 have a1 : w1.cell? ⟨g, 1, none⟩ = some (.int .i64 a.f1) := (blk_cell HX.out 1).trans rfl
 have b1 : w1.cell? ⟨g + 1, 1, none⟩ = some (.int .i64 b.f1) := (blk_cell HY.out 1).trans rfl
 have a2 : w1.cell? ⟨g, 2, none⟩ = some (.int .i64 a.f2) := (blk_cell HX.out 2).trans rfl
 have b2 : w1.cell? ⟨g + 1, 2, none⟩ = some (.int .i64 b.f2) := (blk_cell HY.out 2).trans rfl
 have a3 : w1.cell? ⟨g, 3, none⟩ = some (.slice A a.f3.length c) := (blk_cell HX.out 3).trans rfl
 have b3 : w1.cell? ⟨g + 1, 3, none⟩ = some (.slice B b.f3.length d) := (blk_cell HY.out 3).trans rfl
 refine wp_region_list ?_
 refine with_fin (fun a' W => a'.tmps[4]? = some (.bool r) ∧ a'.defers = [] ∧ Below w.heap.size w W) (fun a' W h => ?_) (fun HF => ?_)
 ·obtain ⟨h1, h2, h3⟩ := h
  refine ‹∀ (a : Act) (w : World), Code.wp Tryz.prog Code.ret _ a w → _› _ _ ?_
  exact wp_ret (bodyPost_ret (v := .bool r) (results_slot rfl h1) h2 ⟨by first | rfl | (rw [HG.out]; rfl), by first | exact h3 | (rw [HG.out]; exact h3)⟩)
 simp only [List.append_eq, List.cons_append, List.nil_append, List.take_succ_cons, List.take_zero, List.drop_succ_cons, List.drop_zero]
 refine wpList_cut 5 ?_
 simp only [List.append_eq, List.cons_append, List.nil_append, List.take_succ_cons, List.take_zero, List.drop_succ_cons, List.drop_zero]
 go_wp2_with fail
 refine Halt.mk ?_
 cases q0 with
 | false => exact chain_to 33 4 false [(9, some false)] (by kernel_rfl) (Knows.cons rfl (Knows.nil _)) (Nat.le_refl 33) (fun a' h1 h2 => HF.out a' _ ⟨by rw [h1, HR.out]; simp, h2, HBX.out⟩)
 | true =>
  refine wpList_cut 6 ?_
  simp only [List.append_eq, List.cons_append, List.nil_append, List.take_succ_cons, List.take_zero, List.drop_succ_cons, List.drop_zero]
  go_wp2_with fail
  refine Halt.mk ?_
  cases q1 with
  | false => exact chain_to 33 4 false [(10, some true), (15, some false)] (by kernel_rfl) (Knows.cons rfl (Knows.cons rfl (Knows.nil _))) (Nat.le_refl 33) (fun a' h1 h2 => HF.out a' _ ⟨by rw [h1, HR.out]; simp, h2, HBX.out⟩)
  | true =>
   refine wpList_cut 7 ?_
   simp only [List.append_eq, List.cons_append, List.nil_append, List.take_succ_cons, List.take_zero, List.drop_succ_cons, List.drop_zero]
   go_wp2_with fail
   refine Halt.mk ?_
   cases q2 with
   | false => exact chain_to 33 4 false [(17, some true), (22, some false)] (by kernel_rfl) (Knows.cons rfl (Knows.cons rfl (Knows.nil _))) (Nat.le_refl 33) (fun a' h1 h2 => HF.out a' _ ⟨by rw [h1, HR.out]; simp, h2, HBX.out⟩)
   | true =>
    refine wpList_cut 9 ?_
    simp only [List.append_eq, List.cons_append, List.nil_append, List.take_succ_cons, List.take_zero, List.drop_succ_cons, List.drop_zero]
    go_wp2_with fail
    refine Halt.mk ?_
    cases q3 with
    | false => exact chain_to 33 4 false [(24, some true), (31, some false)] (by kernel_rfl) (Knows.cons rfl (Knows.cons rfl (Knows.nil _))) (Nat.le_refl 33) (fun a' h1 h2 => HF.out a' _ ⟨by rw [h1, HR.out]; simp, h2, HBX.out⟩)
    | true => exact chain_to 33 4 true [(24, some true), (31, some true)] (by kernel_rfl) (Knows.cons rfl (Knows.cons rfl (Knows.nil _))) (Nat.le_refl 33) (fun a' h1 h2 => HF.out a' _ ⟨by rw [h1, HR.out]; simp, h2, HBX.out⟩)
set_option maxHeartbeats 4000000 in
theorem refSameMs_is {w : World} (m n : MsgD) {A8 A12 A16 B8 B12 B16 : Option Addr} {c8 c12 c16 d8 d12 d16 : Nat} (hm : MsgC w m A8 c8 A12 c12 A16 c16) (hn : MsgC w n B8 d8 B12 d12 B16 d16) :
  Calls Tryz.prog 28 #[.agg (msgCells m A8 c8 A12 c12 A16 c16), .agg (msgCells n B8 d8 B12 d12 B16 d16)] w fun e w' => e = .returned (.bool (eqMs m n)) ∧ Below w.heap.size w w' := by
 have hb1 : Below w.heap.size w ((w.alloc (.cells (msgCells m A8 c8 A12 c12 A16 c16) 34)).alloc (.cells (msgCells n B8 d8 B12 d12 B16 d16) 34)) := ((Below.refl _ _).alloc (Nat.le_refl _) _).alloc (by simp) _
 have hz1 : (w.alloc (.cells (msgCells m A8 c8 A12 c12 A16 c16) 34)).heap.size = w.heap.size + 1 := by simp
 have hx : MsBox ((w.alloc (.cells (msgCells m A8 c8 A12 c12 A16 c16) 34)).alloc (.cells (msgCells n B8 d8 B12 d12 B16 d16) 34)) w.heap.size m A8 c8 A12 c12 A16 c16 := (((Below.refl _ (w.alloc (.cells (msgCells m A8 c8 A12 c12 A16 c16) 34))).alloc (Nat.le_refl _) _).block w.heap.size (by omega)).trans (heap_alloc_new w _)
 have hy : MsBox ((w.alloc (.cells (msgCells m A8 c8 A12 c12 A16 c16) 34)).alloc (.cells (msgCells n B8 d8 B12 d12 B16 d16) 34)) (w.heap.size + 1) n B8 d8 B12 d12 B16 d16 := by rw [← hz1]; exact heap_alloc_new _ _
 have HB := Lib.hid hb1; have HX := Lib.hid hx; have HY := Lib.hid hy; have HM := Lib.hid (hm.below hb1); have HN := Lib.hid (hn.below hb1)
 clear hm hn hb1 hz1 hx hy
 obtain ⟨r, hr⟩ : ∃ r, eqMs m n = r := ⟨_, rfl⟩
 have HR0 := Lib.hid hr.symm
 rw [hr]
 clear hr
 obtain ⟨q0, hq0⟩ : ∃ q0 : Bool, (m.f0 == n.f0) = q0 := ⟨_, rfl⟩
 obtain ⟨q1, hq1⟩ : ∃ q1 : Bool, (m.f1 == n.f1) = q1 := ⟨_, rfl⟩
 obtain ⟨q2, hq2⟩ : ∃ q2 : Bool, (m.f2 == n.f2) = q2 := ⟨_, rfl⟩
 obtain ⟨q3, hq3⟩ : ∃ q3 : Bool, (m.f3 == n.f3) = q3 := ⟨_, rfl⟩
 obtain ⟨q4, hq4⟩ : ∃ q4 : Bool, (m.f4 == n.f4) = q4 := ⟨_, rfl⟩
 obtain ⟨q5, hq5⟩ : ∃ q5 : Bool, (m.f5 == n.f5) = q5 := ⟨_, rfl⟩
 obtain ⟨q6, hq6⟩ : ∃ q6 : Bool, (m.f6 == n.f6) = q6 := ⟨_, rfl⟩
 obtain ⟨q7, hq7⟩ : ∃ q7 : Bool, (m.f7 == n.f7) = q7 := ⟨_, rfl⟩
 obtain ⟨q8, hq8⟩ : ∃ q8 : Bool, eqTrs m.f8 n.f8 = q8 := ⟨_, rfl⟩
 obtain ⟨q9, hq9⟩ : ∃ q9 : Bool, eqEn m.f9.f0 m.f9.f1 m.f9.f2 m.f9.f3 n.f9.f0 n.f9.f1 n.f9.f2 n.f9.f3 = q9 := ⟨_, rfl⟩
 obtain ⟨q10, hq10⟩ : ∃ q10 : Bool, eqPt m.f10 n.f10 = q10 := ⟨_, rfl⟩
 have HR := Lib.hid (show r = (q0 && (q1 && (q2 && (q3 && (q4 && (q5 && (q6 && (q7 && (q8 && (q9 && q10)))))))))) by rw [HR0.out, ← hq0, ← hq1, ← hq2, ← hq3, ← hq4, ← hq5, ← hq6, ← hq7, ← hq8, ← hq9, ← hq10]; rfl)
 have HQ8 := Lib.hid hq8; have HQ9 := Lib.hid hq9; have HQ10 := Lib.hid hq10
 clear hq8 hq9 hq10 HR0
 go_enter Tryz.func28, Tryz.ntmps28
 go_upto_region 1 with fail
 obtain ⟨w1, hw1⟩ : ∃ w1, (w.alloc (.cells (msgCells m A8 c8 A12 c12 A16 c16) 34)).alloc (.cells (msgCells n B8 d8 B12 d12 B16 d16) 34) = w1 := ⟨_, rfl⟩
 obtain ⟨g, hg⟩ : ∃ g, w.heap.size = g := ⟨_, rfl⟩
 rw [hw1]
 rw [hw1] at HB HX HY HM HN
 rw [hg] at HX HY ⊢
 have HG := Lib.hid hg
 clear hw1 hg
 obtain ⟨a0, a1, a2, a3, a4, a5, a6, a7, a8, a9, a10, a11, a12, a13, a14, a15, a16⟩ := HX.out.cell
 obtain ⟨b0, b1, b2, b3, b4, b5, b6, b7, b8, b9, b10, b11, b12, b13, b14, b15, b16⟩ := HY.out.cell
 refine wp_region_list ?_
 refine with_fin (fun a' W => a'.tmps[4]? = some (.bool r) ∧ a'.defers = [] ∧ Below w.heap.size w W) (fun a' W h => ?_) (fun HF => ?_)
 ·obtain ⟨h1, h2, h3⟩ := h
  refine ‹∀ (a : Act) (w : World), Code.wp Tryz.prog Code.ret _ a w → _› _ _ ?_
  exact wp_ret (bodyPost_ret (v := .bool r) (results_slot rfl h1) h2 ⟨by first | rfl | (rw [HG.out]; rfl), by first | exact h3 | (rw [HG.out]; exact h3)⟩)
 simp only [List.append_eq, List.cons_append, List.nil_append, List.take_succ_cons, List.take_zero, List.drop_succ_cons, List.drop_zero]
 refine wpList_cut 5 ?_
 simp only [List.append_eq, List.cons_append, List.nil_append, List.take_succ_cons, List.take_zero, List.drop_succ_cons, List.drop_zero]
 go_wp2_with fail
 refine Halt.mk ?_
 cases q0 with
 | false => exact chain_to 80 4 false [(9, some false)] (by kernel_rfl) (Knows.cons rfl (Knows.nil _)) (Nat.le_refl 80) (fun a' h1 h2 => HF.out a' _ ⟨by rw [h1, HR.out]; simp, h2, HB.out⟩)
 | true =>
  refine wpList_cut 6 ?_
  simp only [List.append_eq, List.cons_append, List.nil_append, List.take_succ_cons, List.take_zero, List.drop_succ_cons, List.drop_zero]
  go_wp2_with fail
  refine Halt.mk ?_
  cases q1 with
  | false => exact chain_to 80 4 false [(10, some true), (15, some false)] (by kernel_rfl) (Knows.cons rfl (Knows.cons rfl (Knows.nil _))) (Nat.le_refl 80) (fun a' h1 h2 => HF.out a' _ ⟨by rw [h1, HR.out]; simp, h2, HB.out⟩)
  | true =>
   refine wpList_cut 7 ?_
   simp only [List.append_eq, List.cons_append, List.nil_append, List.take_succ_cons, List.take_zero, List.drop_succ_cons, List.drop_zero]
   go_wp2_with fail
   refine Halt.mk ?_
   cases q2 with
   | false => exact chain_to 80 4 false [(17, some true), (22, some false)] (by kernel_rfl) (Knows.cons rfl (Knows.cons rfl (Knows.nil _))) (Nat.le_refl 80) (fun a' h1 h2 => HF.out a' _ ⟨by rw [h1, HR.out]; simp, h2, HB.out⟩)
   | true =>
    refine wpList_cut 7 ?_
    simp only [List.append_eq, List.cons_append, List.nil_append, List.take_succ_cons, List.take_zero, List.drop_succ_cons, List.drop_zero]
    go_wp2_with fail
    refine Halt.mk ?_
    cases q3 with
    | false => exact chain_to 80 4 false [(24, some true), (29, some false)] (by kernel_rfl) (Knows.cons rfl (Knows.cons rfl (Knows.nil _))) (Nat.le_refl 80) (fun a' h1 h2 => HF.out a' _ ⟨by rw [h1, HR.out]; simp, h2, HB.out⟩)
    | true =>
     refine wpList_cut 7 ?_
     simp only [List.append_eq, List.cons_append, List.nil_append, List.take_succ_cons, List.take_zero, List.drop_succ_cons, List.drop_zero]
     go_wp2_with fail
     refine Halt.mk ?_
     cases q4 with
     | false => exact chain_to 80 4 false [(31, some true), (36, some false)] (by kernel_rfl) (Knows.cons rfl (Knows.cons rfl (Knows.nil _))) (Nat.le_refl 80) (fun a' h1 h2 => HF.out a' _ ⟨by rw [h1, HR.out]; simp, h2, HB.out⟩)
     | true =>
      refine wpList_cut 7 ?_
      simp only [List.append_eq, List.cons_append, List.nil_append, List.take_succ_cons, List.take_zero, List.drop_succ_cons, List.drop_zero]
      go_wp2_with fail
      refine Halt.mk ?_
      cases q5 with
      | false => exact chain_to 80 4 false [(38, some true), (43, some false)] (by kernel_rfl) (Knows.cons rfl (Knows.cons rfl (Knows.nil _))) (Nat.le_refl 80) (fun a' h1 h2 => HF.out a' _ ⟨by rw [h1, HR.out]; simp, h2, HB.out⟩)
      | true =>
       refine wpList_cut 7 ?_
       simp only [List.append_eq, List.cons_append, List.nil_append, List.take_succ_cons, List.take_zero, List.drop_succ_cons, List.drop_zero]
       go_wp2_with fail
       refine Halt.mk ?_
       cases q6 with
       | false => exact chain_to 80 4 false [(45, some true), (50, some false)] (by kernel_rfl) (Knows.cons rfl (Knows.cons rfl (Knows.nil _))) (Nat.le_refl 80) (fun a' h1 h2 => HF.out a' _ ⟨by rw [h1, HR.out]; simp, h2, HB.out⟩)
       | true =>
        refine wpList_cut 7 ?_
        simp only [List.append_eq, List.cons_append, List.nil_append, List.take_succ_cons, List.take_zero, List.drop_succ_cons, List.drop_zero]
        go_wp2_with fail
        refine Halt.mk ?_
        cases q7 with
        | false => exact chain_to 80 4 false [(52, some true), (57, some false)] (by kernel_rfl) (Knows.cons rfl (Knows.cons rfl (Knows.nil _))) (Nat.le_refl 80) (fun a' h1 h2 => HF.out a' _ ⟨by rw [h1, HR.out]; simp, h2, HB.out⟩)
        | true =>
         refine wpList_cut 7 ?_
         simp only [List.append_eq, List.cons_append, List.nil_append, List.take_succ_cons, List.take_zero, List.drop_succ_cons, List.drop_zero]
         go_wp2_with fail
         refine (refSameTrs_is A8 B8 c8 d8 m.f8 n.f8 w1 HM.out.g8 HN.out.g8).mono ?_
         rw [HQ8.out]
         rintro e w2 ⟨rfl, hb⟩
         have HB2 := Lib.hid (HB.out.trans (hb.mono HB.out.size)); have HX2 := Lib.hid (HX.out.below hb); have HY2 := Lib.hid (HY.out.below hb); have HM2 := Lib.hid (HM.out.below hb); have HN2 := Lib.hid (HN.out.below hb)
         clear hb HB HX HY HM HN a0 a1 a2 a3 a4 a5 a6 a7 a8 a9 a10 a11 a12 a13 a14 a15 a16 b0 b1 b2 b3 b4 b5 b6 b7 b8 b9 b10 b11 b12 b13 b14 b15 b16
         obtain ⟨a0, a1, a2, a3, a4, a5, a6, a7, a8, a9, a10, a11, a12, a13, a14, a15, a16⟩ := HX2.out.cell
         obtain ⟨b0, b1, b2, b3, b4, b5, b6, b7, b8, b9, b10, b11, b12, b13, b14, b15, b16⟩ := HY2.out.cell
         go_wp2_with fail
         refine Halt.mk ?_
         cases q8 with
         | false => exact chain_to 80 4 false [(59, some true), (64, some false)] (by kernel_rfl) (Knows.cons rfl (Knows.cons rfl (Knows.nil _))) (Nat.le_refl 80) (fun a' h1 h2 => HF.out a' _ ⟨by rw [h1, HR.out]; simp, h2, HB2.out⟩)
         | true =>
          refine wpList_cut 7 ?_
          simp only [List.append_eq, List.cons_append, List.nil_append, List.take_succ_cons, List.take_zero, List.drop_succ_cons, List.drop_zero]
          go_wp2_with fail
          refine (refSameEn_is m.f9.f0 m.f9.f1 m.f9.f2 A12 c12 m.f9.f3 n.f9.f0 n.f9.f1 n.f9.f2 B12 d12 n.f9.f3 w2 HM2.out.g12 HM2.out.l12 HN2.out.g12 HN2.out.l12).mono ?_
          rw [HQ9.out]
          rintro e w3 ⟨rfl, hb⟩
          have HB3 := Lib.hid (HB2.out.trans (hb.mono HB2.out.size)); have HX3 := Lib.hid (HX2.out.below hb); have HY3 := Lib.hid (HY2.out.below hb); have HM3 := Lib.hid (HM2.out.below hb); have HN3 := Lib.hid (HN2.out.below hb)
          clear hb HB2 HX2 HY2 HM2 HN2 a0 a1 a2 a3 a4 a5 a6 a7 a8 a9 a10 a11 a12 a13 a14 a15 a16 b0 b1 b2 b3 b4 b5 b6 b7 b8 b9 b10 b11 b12 b13 b14 b15 b16
          obtain ⟨a0, a1, a2, a3, a4, a5, a6, a7, a8, a9, a10, a11, a12, a13, a14, a15, a16⟩ := HX3.out.cell
          obtain ⟨b0, b1, b2, b3, b4, b5, b6, b7, b8, b9, b10, b11, b12, b13, b14, b15, b16⟩ := HY3.out.cell
          go_wp2_with fail
          refine Halt.mk ?_
          cases q9 with
          | false => exact chain_to 80 4 false [(66, some true), (71, some false)] (by kernel_rfl) (Knows.cons rfl (Knows.cons rfl (Knows.nil _))) (Nat.le_refl 80) (fun a' h1 h2 => HF.out a' _ ⟨by rw [h1, HR.out]; simp, h2, HB3.out⟩)
          | true =>
           refine wpList_cut 7 ?_
           simp only [List.append_eq, List.cons_append, List.nil_append, List.take_succ_cons, List.take_zero, List.drop_succ_cons, List.drop_zero]
           go_wp2_with fail
           refine (refSamePt_is m.f10 n.f10 HM3.out.l16 HM3.out.g16 HN3.out.l16 HN3.out.g16).mono ?_
           rw [HQ10.out]
           rintro e w4 ⟨rfl, hb⟩
           have HB4 := Lib.hid (HB3.out.trans (hb.mono HB3.out.size)); have HX4 := Lib.hid (HX3.out.below hb); have HY4 := Lib.hid (HY3.out.below hb); have HM4 := Lib.hid (HM3.out.below hb); have HN4 := Lib.hid (HN3.out.below hb)
           clear hb HB3 HX3 HY3 HM3 HN3 a0 a1 a2 a3 a4 a5 a6 a7 a8 a9 a10 a11 a12 a13 a14 a15 a16 b0 b1 b2 b3 b4 b5 b6 b7 b8 b9 b10 b11 b12 b13 b14 b15 b16
           go_wp2_with fail
           refine Halt.mk ?_
           cases q10 with
           | false => exact chain_to 80 4 false [(73, some true), (78, some false)] (by kernel_rfl) (Knows.cons rfl (Knows.cons rfl (Knows.nil _))) (Nat.le_refl 80) (fun a' h1 h2 => HF.out a' _ ⟨by rw [h1, HR.out]; simp, h2, HB4.out⟩)
           | true => exact chain_to 80 4 true [(73, some true), (78, some true)] (by kernel_rfl) (Knows.cons rfl (Knows.cons rfl (Knows.nil _))) (Nat.le_refl 80) (fun a' h1 h2 => HF.out a' _ ⟨by rw [h1, HR.out]; simp, h2, HB4.out⟩)
end Go.Proofs.YtgiefblcckikeaaGreat.M
end

section
/- The reference's words on which messages may be. -/
attribute [local irreducible] Go.wpStill
namespace Go.Proofs.YtgiefblcckikeaaGreat.M
open Go.RowKit Go.Proofs.YtgiefblcckikeaaGreatW.PrintWords Go.Proofs.YtgiefblcckikeaaGreatW.PrintLast Go.Proofs.YtgiefblcckikeaaGreatW.PrintMore Go.Proofs.YtgiefblcckikeaaGreat.G
theorem dec_comm {α : Type} [DecidableEq α] (a b : α) : decide (a = b) = decide (b = a) := decide_eq_decide.2 ⟨Eq.symm, Eq.symm⟩
theorem eqS_comm (a b : List Int) : eqS a b = eqS b a := by unfold eqS; exact BEq.comm
theorem eqTx_comm (a b : TxD) : eqTx a b = eqTx b a := by
 unfold eqTx
 rw [BEq.comm (a := a.f0), BEq.comm (a := a.f1), eqS_comm, dec_comm a.f3, dec_comm a.f4, dec_comm a.f5]
theorem eqTs_comm : ∀ a b : List TxD, eqTs a b = eqTs b a
 | [], [] => rfl
 | [], _ :: _ => rfl
 | _ :: _, [] => rfl
 | x :: a, y :: b => by unfold eqTs; rw [eqTx_comm, eqTs_comm a b]
theorem eqEn_comm (k f n : Int) (l : List TxD) (k' f' n' : Int) (l' : List TxD) : eqEn k f n l k' f' n' l' = eqEn k' f' n' l' k f n l := by
 unfold eqEn
 rw [BEq.comm (a := k), BEq.comm (a := f), BEq.comm (a := n), eqTs_comm]
theorem eqTr_comm (a b : TrD) : eqTr a b = eqTr b a := by unfold eqTr; rw [BEq.comm (a := a.f0), eqEn_comm]
theorem eqTrs_comm : ∀ a b : List TrD, eqTrs a b = eqTrs b a
 | [], [] => rfl
 | [], _ :: _ => rfl
 | _ :: _, [] => rfl
 | x :: a, y :: b => by unfold eqTrs; rw [eqTr_comm, eqTrs_comm a b]
theorem eqPt_comm (a b : PartD) : eqPt a b = eqPt b a := by unfold eqPt; rw [BEq.comm (a := a.f0), BEq.comm (a := a.f1), BEq.comm (a := a.f2), eqS_comm]
theorem eqMs_comm (a b : MsgD) : eqMs a b = eqMs b a := by
 unfold eqMs
 rw [BEq.comm (a := a.f0), BEq.comm (a := a.f1), BEq.comm (a := a.f2), BEq.comm (a := a.f3), BEq.comm (a := a.f4), BEq.comm (a := a.f5), BEq.comm (a := a.f6), BEq.comm (a := a.f7), eqTrs_comm, eqEn_comm, eqPt_comm]
def mayLs (l : List TrD) : Bool := l.all mayTr && decide ((l.length : Int) ≤ 4096)
def maySw (m : MsgD) : Bool := if m.f0 = 3 then mayLs m.f8 else if m.f0 = 6 then mayE m.f9.f0 m.f9.f1 m.f9.f2 m.f9.f3 else if m.f0 = 5 then mayPt m.f10 else true
theorem bare_list {m : MsgD} (hk : isKind m.f0 = true) (he : eqMs (bareM m) m = true) (h3 : m.f0 ≠ 3) : m.f8 = [] := by
 have hb : (bareM m).f8 = [] := by unfold bareM; repeat' first | contradiction | rfl | split
 have h : eqTrs (bareM m).f8 m.f8 = true := by
  unfold eqMs at he
  simp only [Bool.and_eq_true] at he
  exact he.2.2.2.2.2.2.2.2.1
 rw [hb] at h
 cases hl : m.f8 with
 | nil => rfl
 | cons x l => rw [hl] at h; cases h
theorem mayMs_ref (m : MsgD) : mayMs m = (isKind m.f0 && (eqMs m (bareM m) && (inB 0 4 [m.f1] && (inB 0 4 [m.f2] && (inB 0 1099511627776 [m.f3] && (inB 0 1099511627776 [m.f4] && (inB 0 1099511627776 [m.f5] && (inB 0 1099511627776 [m.f6] && maySw m)))))))) := by
 unfold mayMs
 rw [eqMs_comm m]
 cases hk : isKind m.f0 with
 | false => simp
 | true =>
  cases he : eqMs (bareM m) m with
  | false => simp
  | true =>
   have e4 : inB 0 1099511627776 [m.f3, m.f4, m.f5, m.f6] = (inB 0 1099511627776 [m.f3] && (inB 0 1099511627776 [m.f4] && (inB 0 1099511627776 [m.f5] && inB 0 1099511627776 [m.f6]))) := by
    simp [inB]
   have es : (decide ((m.f8.length : Int) ≤ 4096) && (m.f8.all mayTr && ((!(m.f0 == 5) || mayPt m.f10) && (!(m.f0 == 6) || mayE m.f9.f0 m.f9.f1 m.f9.f2 m.f9.f3)))) = maySw m := by
    unfold maySw
    by_cases h3 : m.f0 = 3
    ·rw [if_pos h3, h3]
     unfold mayLs
     simp [Bool.and_comm]
    ·rw [if_neg h3, bare_list hk he h3]
     by_cases h6 : m.f0 = 6
     ·rw [if_pos h6, h6]; simp
     ·rw [if_neg h6]
      by_cases h5 : m.f0 = 5
      ·rw [if_pos h5, h5]; simp
      ·rw [if_neg h5, beq_eq_false_iff_ne.2 h5, beq_eq_false_iff_ne.2 h6]; simp
   rw [e4, es]
   simp [Bool.and_assoc]
theorem refWho_is (n : Int) (w : World) : Calls Tryz.prog 66 #[.int .i64 n] w fun e w' => e = .returned (.bool (inB 0 4 [n])) ∧ Below w.heap.size w w' :=
 (G.trivetref04_replica.calls n (inB 0 4 [n]) w (by
  unfold G.trivetref04_replica.f inB
  by_cases h : n ≥ 0
  ·rw [if_pos h]
   have e : decide (n < 5) = decide (n ≤ 4) := decide_eq_decide.2 (by omega)
   simp [e, h]
  ·rw [if_neg h]
   have : ¬ 0 ≤ n := h
   simp [this])).mono (fun e w' ⟨h1, k, h2⟩ => ⟨h1, by subst h2; exact pw_below_drewN (Below.refl _ _) k⟩)
theorem refCount_is (n : Int) (w : World) : Calls Tryz.prog 67 #[.int .i64 n] w fun e w' => e = .returned (.bool (inB 0 1099511627776 [n])) ∧ Below w.heap.size w w' :=
 (G.trivetref04_count.calls n (inB 0 1099511627776 [n]) w (by rw [count_f]; simp [inB])).mono (fun e w' ⟨h1, k, h2⟩ => ⟨h1, by subst h2; exact pw_below_drewN (Below.refl _ _) k⟩)
theorem refMayEn_is (k f n : Int) (A : Option Addr) (c : Nat) (l : List TxD) (w : World) (hr : Kd.C G.k26 w A l.length l) (hc : l.length ≤ c) :
  Calls Tryz.prog 29 #[.agg #[.int .i64 k, .int .i64 f, .int .i64 n, .slice A l.length c]] w fun e w' => e = .returned (.bool (mayE k f n l)) ∧ Below w.heap.size w w' := by
 obtain ⟨M, hM⟩ := bound_T l
 refine G.trivetref04_MayEntry.calls (M + l.length + 3) k f n A c l _ w hr hc (mayE_r _ k f n l (fun t ht => by have := hM t ht; omega) (by omega) hr.2.1 (fun t ht => ?_))
 obtain ⟨i, hi⟩ := List.getElem?_of_mem ht
 obtain ⟨ad, A2, c2, A3, c3, A4, c4, A5, c5, _, _, hX⟩ := tx_get hr hi
 exact hX.ls
theorem refPart_is {w : World} (a : PartD) {A : Option Addr} {c : Nat} (hc : a.f3.length ≤ c) (ha : Kd.C (Kd.int .u8) w A a.f3.length a.f3) :
  Calls Tryz.prog 70 #[.agg #[.int .i64 a.f0, .int .i64 a.f1, .int .i64 a.f2, .slice A a.f3.length c]] w fun e w' => e = .returned (.bool (mayPt a)) ∧ Below w.heap.size w w' :=
 G.trivetref04_MayPart.calls a.f0 a.f1 a.f2 A c a.f3 (mayPt a) w ha hc (by
  unfold G.trivetref04_MayPart.f mayPt
  rw [count_f, Option.bind_some]
  have e0 : inB 0 1099511627776 [a.f0] = (decide (0 ≤ a.f0) && decide (a.f0 ≤ 1099511627776)) := by simp [inB]
  rw [e0]
  cases (decide (0 ≤ a.f0) && decide (a.f0 ≤ 1099511627776)) with
  | false => rw [if_neg (by simp)]; rfl
  | true =>
   rw [if_pos rfl, Bool.true_and]
   by_cases h1 : a.f2 ≥ 1
   ·rw [if_pos h1]
    by_cases h2 : a.f2 ≤ 4096
    ·rw [if_pos h2]
     have e1 : inB 1 4096 [a.f2] = true := by simp [inB]; omega
     rw [e1, Bool.true_and]
     by_cases h3 : a.f1 ≥ 0
     ·rw [if_pos h3]
      by_cases h4 : a.f1 < a.f2
      ·rw [if_pos h4]
       have e2 : inB 0 (a.f2 - 1) [a.f1] = true := by simp [inB]; omega
       rw [e2, Bool.true_and]
      ·rw [if_neg h4]
       have e2 : inB 0 (a.f2 - 1) [a.f1] = false := by simp [inB]; omega
       rw [e2]; rfl
     ·rw [if_neg h3]
      have e2 : inB 0 (a.f2 - 1) [a.f1] = false := by simp [inB]; omega
      rw [e2]; rfl
    ·rw [if_neg h2]
     have e1 : inB 1 4096 [a.f2] = false := by simp [inB]; omega
     rw [e1]; rfl
   ·rw [if_neg h1]
    have e1 : inB 1 4096 [a.f2] = false := by simp [inB]; omega
    rw [e1]; rfl)
def LsI (l : List TrD) (w : World) (i : Value) (wr : World) : Prop := ∃ k : Nat, k ≤ l.length ∧ i = .int .i64 k ∧ (l.take k).all mayTr = true ∧ Below w.heap.size w wr
set_option maxHeartbeats 1000000 in
theorem refList_is (A : Option Addr) (c : Nat) (l : List TrD) (w : World) (hr : Kd.C G.k63 w A l.length l) :
  Calls Tryz.prog 69 #[.slice A l.length c] w fun e w' => e = .returned (.bool (mayLs l)) ∧ Below w.heap.size w w' := by
 have hlm : l.length ≤ 9223372036854775807 := hr.2.1
 have HR := Lib.hid hr
 clear hr
 go_enter Tryz.func69, Tryz.ntmps69
 go_wp2_with fail
 go_loopw [3] (fun i wr => LsI l w i wr) (fun i _ => l.length - (intOf i).toNat)
 case atStart => exact ⟨0, Nat.zero_le _, rfl, by simp, Below.refl _ _⟩
 case round =>
  obtain ⟨k, hk, rfl, hin, hb⟩ := hrel
  have HIN := Lib.hid hin; have HBr := Lib.hid hb
  clear hin hb
  by_cases hlt : k < l.length
  ·obtain ⟨x, hx⟩ : ∃ x, l[k]? = some x := ⟨_, List.getElem?_eq_getElem hlt⟩
   obtain ⟨ad, A4, c4, rfl, x0, x1, x2, x3, x4, hl, hX⟩ := tr_get (Kd.C_below HR.out HBr.out) hx
   have HXX := Lib.hid (And.intro hl hX)
   have HX := Lib.hid (show l.take (k + 1) = l.take k ++ [x] by rw [List.take_add_one, hx]; rfl)
   have HM := Lib.hid (List.mem_of_getElem? hx)
   have HXr := Lib.hid hx
   obtain ⟨q0, hq0⟩ : ∃ q, inB 0 1099511627776 [x.f0] = q := ⟨_, rfl⟩
   obtain ⟨q1, hq1⟩ : ∃ q, mayE x.f1.f0 x.f1.f1 x.f1.f2 x.f1.f3 = q := ⟨_, rfl⟩
   have HV := Lib.hid (show mayTr x = (q0 && q1) by rw [← hq0, ← hq1]; rfl)
   have H0 := Lib.hid hq0; have H1 := Lib.hid hq1
   clear hx hX hl hq0 hq1
   go_wp2_with fail
   have h4 := refCount_is x.f0 wr
   rw [H0.out] at h4
   refine h4.mono ?_
   rintro e w2 ⟨rfl, hb⟩
   have HB2 := Lib.hid (HBr.out.trans (hb.mono HBr.out.size)); have HXX2 := Lib.hid (Kd.C_below HXX.out.2 hb)
   obtain ⟨ad2, A42, c42, had, y0, y1, y2, y3, y4, hl2, hX2⟩ := tr_get (Kd.C_below HR.out HB2.out) HXr.out
   obtain rfl : ad2 = ad := by simpa using had.symm
   have HXX3 := Lib.hid (And.intro hl2 hX2)
   clear hb h4 x0 x1 x2 x3 x4 hl2 hX2 had
   cases q0 with
   | false =>
    have HB := Lib.hid (show mayLs l = false by
     unfold mayLs
     have : l.all mayTr = false := by rw [List.all_eq_false]; exact ⟨x, HM.out, by rw [HV.out]; simp⟩
     rw [this]; rfl)
    go_wp2_with fail
    go_ret
    exact ⟨by rw [HB.out]; rfl, HB2.out⟩
   | true =>
    go_wp2_with fail
    have h4 := refMayEn_is x.f1.f0 x.f1.f1 x.f1.f2 A42 c42 x.f1.f3 w2 HXX3.out.2 HXX3.out.1
    rw [H1.out] at h4
    refine h4.mono ?_
    rintro e w3 ⟨rfl, hb⟩
    have HB3 := Lib.hid (HB2.out.trans (hb.mono HB2.out.size))
    clear hb h4 y0 y1 y2 y3 y4
    cases q1 with
    | false =>
     have HB := Lib.hid (show mayLs l = false by
      unfold mayLs
      have : l.all mayTr = false := by rw [List.all_eq_false]; exact ⟨x, HM.out, by rw [HV.out]; simp⟩
      rw [this]; rfl)
     go_wp2_with fail
     go_ret
     exact ⟨by rw [HB.out]; rfl, HB3.out⟩
    | true =>
     have HB := Lib.hid (show (l.take (k + 1)).all mayTr = true by rw [HX.out, List.all_append, HIN.out]; simp [HV.out])
     go_wp2_with fail
     go_roundw
     case rel => exact ⟨k + 1, hlt, by go_num, HB.out, HB3.out⟩
     case measure => simp [intOf]; omega
  ·have HB := Lib.hid (show mayLs l = decide ((l.length : Int) ≤ 4096) by
    have := HIN.out
    rw [List.take_of_length_le (by omega)] at this
    unfold mayLs
    rw [this, Bool.true_and])
   obtain ⟨q, hq⟩ : ∃ q : Bool, decide ((l.length : Int) ≤ 4096) = q := ⟨_, rfl⟩
   rw [hq] at HB
   go_wp2_with fail
   go_ret
   exact ⟨by rw [HB.out]; rfl, HBr.out⟩
end Go.Proofs.YtgiefblcckikeaaGreat.M
end

section
/- The reference's MayMsg, CheckMsg (printed by genmsg04b.py). -/
attribute [local irreducible] Go.wpStill
namespace Go.Proofs.YtgiefblcckikeaaGreat.M
open Go.RowKit Go.Proofs.YtgiefblcckikeaaGreatW.PrintWords Go.Proofs.YtgiefblcckikeaaGreatW.PrintLast Go.Proofs.YtgiefblcckikeaaGreatW.PrintMore Go.Proofs.YtgiefblcckikeaaGreat.G
set_option maxHeartbeats 8000000 in
theorem refMayMs_is {w : World} (m : MsgD) {A8 A12 A16 : Option Addr} {c8 c12 c16 : Nat} (hm : MsgC w m A8 c8 A12 c12 A16 c16) :
  Calls Tryz.prog 30 #[.agg #[.int .i64 m.f0, .int .i64 m.f1, .int .i64 m.f2, .int .i64 m.f3, .int .i64 m.f4, .int .i64 m.f5, .int .i64 m.f6, .bool m.f7, .slice A8 m.f8.length c8, .int .i64 m.f9.f0, .int .i64 m.f9.f1, .int .i64 m.f9.f2, .slice A12 m.f9.f3.length c12, .int .i64 m.f10.f0, .int .i64 m.f10.f1, .int .i64 m.f10.f2, .slice A16 m.f10.f3.length c16]] w fun e w' => e = .returned (.bool (mayMs m)) ∧ Below w.heap.size w w' := by
 have hb := (Below.refl _ w).alloc (Nat.le_refl _) (.cells #[.int .i64 m.f0, .int .i64 m.f1, .int .i64 m.f2, .int .i64 m.f3, .int .i64 m.f4, .int .i64 m.f5, .int .i64 m.f6, .bool m.f7, .slice A8 m.f8.length c8, .int .i64 m.f9.f0, .int .i64 m.f9.f1, .int .i64 m.f9.f2, .slice A12 m.f9.f3.length c12, .int .i64 m.f10.f0, .int .i64 m.f10.f1, .int .i64 m.f10.f2, .slice A16 m.f10.f3.length c16] 34)
 have HB0 := Lib.hid hb; have HX0 := Lib.hid (show MsBox (w.alloc (.cells #[.int .i64 m.f0, .int .i64 m.f1, .int .i64 m.f2, .int .i64 m.f3, .int .i64 m.f4, .int .i64 m.f5, .int .i64 m.f6, .bool m.f7, .slice A8 m.f8.length c8, .int .i64 m.f9.f0, .int .i64 m.f9.f1, .int .i64 m.f9.f2, .slice A12 m.f9.f3.length c12, .int .i64 m.f10.f0, .int .i64 m.f10.f1, .int .i64 m.f10.f2, .slice A16 m.f10.f3.length c16] 34)) w.heap.size m A8 c8 A12 c12 A16 c16 from heap_alloc_new w _); have HM0 := Lib.hid (hm.below hb)
 obtain ⟨q, hq⟩ : ∃ q, mayMs m = q := ⟨_, rfl⟩
 have HQ := Lib.hid (hq.symm.trans (mayMs_ref m))
 rw [hq]
 clear hq hm hb
 go_enter Tryz.func30, Tryz.ntmps30
 go_upto_region 1 with fail
 obtain ⟨v0, hw⟩ : ∃ v, w.alloc (.cells #[.int .i64 m.f0, .int .i64 m.f1, .int .i64 m.f2, .int .i64 m.f3, .int .i64 m.f4, .int .i64 m.f5, .int .i64 m.f6, .bool m.f7, .slice A8 m.f8.length c8, .int .i64 m.f9.f0, .int .i64 m.f9.f1, .int .i64 m.f9.f2, .slice A12 m.f9.f3.length c12, .int .i64 m.f10.f0, .int .i64 m.f10.f1, .int .i64 m.f10.f2, .slice A16 m.f10.f3.length c16] 34) = v := ⟨_, rfl⟩
 obtain ⟨g, hg⟩ : ∃ g, w.heap.size = g := ⟨_, rfl⟩
 have HG := Lib.hid hg
 rw [hw] at HB0 HX0 HM0 ⊢
 rw [hg] at HX0 ⊢
 clear hw hg
 obtain ⟨b3, hb3⟩ : ∃ b, isKind m.f0 = b := ⟨_, rfl⟩
 obtain ⟨b4, hb4⟩ : ∃ b, eqMs m (bareM m) = b := ⟨_, rfl⟩
 obtain ⟨p1, hp1⟩ : ∃ b, inB 0 4 [m.f1] = b := ⟨_, rfl⟩
 obtain ⟨p2, hp2⟩ : ∃ b, inB 0 4 [m.f2] = b := ⟨_, rfl⟩
 obtain ⟨p3, hp3⟩ : ∃ b, inB 0 1099511627776 [m.f3] = b := ⟨_, rfl⟩
 obtain ⟨p4, hp4⟩ : ∃ b, inB 0 1099511627776 [m.f4] = b := ⟨_, rfl⟩
 obtain ⟨p5, hp5⟩ : ∃ b, inB 0 1099511627776 [m.f5] = b := ⟨_, rfl⟩
 obtain ⟨p6, hp6⟩ : ∃ b, inB 0 1099511627776 [m.f6] = b := ⟨_, rfl⟩
 obtain ⟨s, hs⟩ : ∃ b, maySw m = b := ⟨_, rfl⟩
 obtain ⟨k3, hk3⟩ : ∃ b : Bool, (m.f0 == 3) = b := ⟨_, rfl⟩
 obtain ⟨k6, hk6⟩ : ∃ b : Bool, (m.f0 == 6) = b := ⟨_, rfl⟩
 obtain ⟨k5, hk5⟩ : ∃ b : Bool, (m.f0 == 5) = b := ⟨_, rfl⟩
 have HV := Lib.hid (show q = (b3 && (b4 && (p1 && (p2 && (p3 && (p4 && (p5 && (p6 && s)))))))) by rw [HQ.out, hb3, hb4, hp1, hp2, hp3, hp4, hp5, hp6, hs])
 have HS := Lib.hid (show s = if k3 = true then mayLs m.f8 else if k6 = true then mayE m.f9.f0 m.f9.f1 m.f9.f2 m.f9.f3 else if k5 = true then mayPt m.f10 else true by
  rw [← hs, ← hk3, ← hk6, ← hk5]
  unfold maySw
  simp only [beq_iff_eq])
 have H3 := Lib.hid hb3; have H4 := Lib.hid hb4; have P1 := Lib.hid hp1; have P2 := Lib.hid hp2; have P3 := Lib.hid hp3; have P4 := Lib.hid hp4; have P5 := Lib.hid hp5; have P6 := Lib.hid hp6
 clear hb3 hb4 hp1 hp2 hp3 hp4 hp5 hp6 hs HQ
 refine wp_region_list ?_
 refine wpList_load_row rfl 34 (.tmp 1) rfl g rfl 34 #[.int .i64 m.f0, .int .i64 m.f1, .int .i64 m.f2, .int .i64 m.f3, .int .i64 m.f4, .int .i64 m.f5, .int .i64 m.f6, .bool m.f7, .slice A8 m.f8.length c8, .int .i64 m.f9.f0, .int .i64 m.f9.f1, .int .i64 m.f9.f2, .slice A12 m.f9.f3.length c12, .int .i64 m.f10.f0, .int .i64 m.f10.f1, .int .i64 m.f10.f2, .slice A16 m.f10.f3.length c16] (0, 0) _ HX0.out Tryz.underlying34 rfl (by kernel_rfl) ?_
 go_wp2_with fail
 have h4 := plain_is m HM0.out
 refine h4.mono ?_
 rintro e v1 ⟨y, B8, B12, B16, d8, d12, d16, rfl, hy, hyc, hb⟩
 rw [H3.out] at hy ⊢
 have HB1 := Lib.hid (HB0.out.trans (hb.mono HB0.out.size)); have HX1 := Lib.hid (HX0.out.below hb); have HM1 := Lib.hid (HM0.out.below hb); have HY := Lib.hid hy; have HYC := Lib.hid hyc
 clear h4 hb HB0 HX0 HM0 hy hyc
 go_upto_region 2 with fail
 have hbx := heap_alloc_new v1 (.cells #[.int .i64 y.f0, .int .i64 y.f1, .int .i64 y.f2, .int .i64 y.f3, .int .i64 y.f4, .int .i64 y.f5, .int .i64 y.f6, .bool y.f7, .slice B8 y.f8.length d8, .int .i64 y.f9.f0, .int .i64 y.f9.f1, .int .i64 y.f9.f2, .slice B12 y.f9.f3.length d12, .int .i64 y.f10.f0, .int .i64 y.f10.f1, .int .i64 y.f10.f2, .slice B16 y.f10.f3.length d16] 34)
 have hay := (Below.refl _ v1).alloc (Nat.le_refl _) (.cells #[.int .i64 y.f0, .int .i64 y.f1, .int .i64 y.f2, .int .i64 y.f3, .int .i64 y.f4, .int .i64 y.f5, .int .i64 y.f6, .bool y.f7, .slice B8 y.f8.length d8, .int .i64 y.f9.f0, .int .i64 y.f9.f1, .int .i64 y.f9.f2, .slice B12 y.f9.f3.length d12, .int .i64 y.f10.f0, .int .i64 y.f10.f1, .int .i64 y.f10.f2, .slice B16 y.f10.f3.length d16] 34)
 obtain ⟨v2, hw⟩ : ∃ v, v1.alloc (.cells #[.int .i64 y.f0, .int .i64 y.f1, .int .i64 y.f2, .int .i64 y.f3, .int .i64 y.f4, .int .i64 y.f5, .int .i64 y.f6, .bool y.f7, .slice B8 y.f8.length d8, .int .i64 y.f9.f0, .int .i64 y.f9.f1, .int .i64 y.f9.f2, .slice B12 y.f9.f3.length d12, .int .i64 y.f10.f0, .int .i64 y.f10.f1, .int .i64 y.f10.f2, .slice B16 y.f10.f3.length d16] 34) = v := ⟨_, rfl⟩
 rw [hw] at hbx hay ⊢
 clear hw
 have HB2 := Lib.hid (HB1.out.trans (hay.mono HB1.out.size)); have HX2 := Lib.hid (HX1.out.below hay); have HM2 := Lib.hid (HM1.out.below hay); have HYD := Lib.hid (HYC.out.below hay)
 obtain ⟨gy, hgy⟩ : ∃ gy, v1.heap.size = gy := ⟨_, rfl⟩
 rw [hgy] at hbx ⊢
 have HYX := Lib.hid (show MsBox v2 gy y B8 d8 B12 d12 B16 d16 from hbx)
 clear hbx hay hgy HB1 HX1 HM1 HYC
 obtain ⟨a0, a1, a2, a3, a4, a5, a6, a7, a8, a9, a10, a11, a12, a13, a14, a15, a16⟩ := HX2.out.cell
 cases b3 with
 | false =>
  have HW := Lib.hid (show q = false by rw [HV.out]; simp)
  go_wp2_with fail
  go_ret
  exact ⟨by rw [HW.out]; rfl, HB2.out⟩
 | true =>
  have HYE := Lib.hid (HY.out rfl)
  refine wp_region_list ?_
  refine wpList_cut 3 ?_
  simp only [List.take_succ_cons, List.take_zero, List.drop_succ_cons, List.drop_zero]
  go_wp2_with fail
  refine Halt.mk ?_
  refine gate_guard (by rfl) ?_
  dsimp only
  refine wpList_load_row rfl 34 (.tmp 1) rfl g rfl 34 #[.int .i64 m.f0, .int .i64 m.f1, .int .i64 m.f2, .int .i64 m.f3, .int .i64 m.f4, .int .i64 m.f5, .int .i64 m.f6, .bool m.f7, .slice A8 m.f8.length c8, .int .i64 m.f9.f0, .int .i64 m.f9.f1, .int .i64 m.f9.f2, .slice A12 m.f9.f3.length c12, .int .i64 m.f10.f0, .int .i64 m.f10.f1, .int .i64 m.f10.f2, .slice A16 m.f10.f3.length c16] (0, 0) _ HX2.out Tryz.underlying34 rfl (by kernel_rfl) ?_
  refine gate_guard (by rfl) ?_
  dsimp only
  refine wpList_load_row rfl 34 (.tmp 3) rfl gy rfl 34 #[.int .i64 y.f0, .int .i64 y.f1, .int .i64 y.f2, .int .i64 y.f3, .int .i64 y.f4, .int .i64 y.f5, .int .i64 y.f6, .bool y.f7, .slice B8 y.f8.length d8, .int .i64 y.f9.f0, .int .i64 y.f9.f1, .int .i64 y.f9.f2, .slice B12 y.f9.f3.length d12, .int .i64 y.f10.f0, .int .i64 y.f10.f1, .int .i64 y.f10.f2, .slice B16 y.f10.f3.length d16] (0, 0) _ HYX.out Tryz.underlying34 rfl (by kernel_rfl) ?_
  go_wp2_with fail
  have H4' := Lib.hid (show eqMs m y = b4 by rw [HYE.out]; exact H4.out)
  clear HYE HY
  have h4 := refSameMs_is m y HM2.out HYD.out
  rw [H4'.out] at h4
  refine h4.mono ?_
  rintro e v3 ⟨rfl, hb⟩
  have HB3 := Lib.hid (HB2.out.trans (hb.mono HB2.out.size)); have HX3 := Lib.hid (HX2.out.below hb); have HM3 := Lib.hid (HM2.out.below hb)
  clear h4 hb HB2 HX2 HM2 a0 a1 a2 a3 a4 a5 a6 a7 a8 a9 a10 a11 a12 a13 a14 a15 a16
  obtain ⟨a0, a1, a2, a3, a4, a5, a6, a7, a8, a9, a10, a11, a12, a13, a14, a15, a16⟩ := HX3.out.cell
  cases b4 with
  | false =>
   have HW := Lib.hid (show q = false by rw [HV.out]; simp)
   go_wp2_with fail
   go_ret
   exact ⟨by rw [HW.out]; rfl, HB3.out⟩
  | true =>
   go_wp2_with fail
   have h4 := refWho_is m.f1 v3
   rw [P1.out] at h4
   refine h4.mono ?_
   rintro e v4 ⟨rfl, hb⟩
   have HB4 := Lib.hid (HB3.out.trans (hb.mono HB3.out.size)); have HX4 := Lib.hid (HX3.out.below hb); have HM4 := Lib.hid (HM3.out.below hb)
   clear h4 hb HB3 HX3 HM3 a0 a1 a2 a3 a4 a5 a6 a7 a8 a9 a10 a11 a12 a13 a14 a15 a16
   obtain ⟨a0, a1, a2, a3, a4, a5, a6, a7, a8, a9, a10, a11, a12, a13, a14, a15, a16⟩ := HX4.out.cell
   cases p1 with
   | false =>
    have HW := Lib.hid (show q = false by rw [HV.out]; simp)
    go_wp2_with fail
    go_ret
    exact ⟨by rw [HW.out]; rfl, HB4.out⟩
   | true =>
    go_wp2_with fail
    have h4 := refWho_is m.f2 v4
    rw [P2.out] at h4
    refine h4.mono ?_
    rintro e v5 ⟨rfl, hb⟩
    have HB5 := Lib.hid (HB4.out.trans (hb.mono HB4.out.size)); have HX5 := Lib.hid (HX4.out.below hb); have HM5 := Lib.hid (HM4.out.below hb)
    clear h4 hb HB4 HX4 HM4 a0 a1 a2 a3 a4 a5 a6 a7 a8 a9 a10 a11 a12 a13 a14 a15 a16
    obtain ⟨a0, a1, a2, a3, a4, a5, a6, a7, a8, a9, a10, a11, a12, a13, a14, a15, a16⟩ := HX5.out.cell
    cases p2 with
    | false =>
     have HW := Lib.hid (show q = false by rw [HV.out]; simp)
     go_wp2_with fail
     go_ret
     exact ⟨by rw [HW.out]; rfl, HB5.out⟩
    | true =>
     go_wp2_with fail
     have h4 := refCount_is m.f3 v5
     rw [P3.out] at h4
     refine h4.mono ?_
     rintro e v6 ⟨rfl, hb⟩
     have HB6 := Lib.hid (HB5.out.trans (hb.mono HB5.out.size)); have HX6 := Lib.hid (HX5.out.below hb); have HM6 := Lib.hid (HM5.out.below hb)
     clear h4 hb HB5 HX5 HM5 a0 a1 a2 a3 a4 a5 a6 a7 a8 a9 a10 a11 a12 a13 a14 a15 a16
     obtain ⟨a0, a1, a2, a3, a4, a5, a6, a7, a8, a9, a10, a11, a12, a13, a14, a15, a16⟩ := HX6.out.cell
     cases p3 with
     | false =>
      have HW := Lib.hid (show q = false by rw [HV.out]; simp)
      go_wp2_with fail
      go_ret
      exact ⟨by rw [HW.out]; rfl, HB6.out⟩
     | true =>
      go_wp2_with fail
      have h4 := refCount_is m.f4 v6
      rw [P4.out] at h4
      refine h4.mono ?_
      rintro e v7 ⟨rfl, hb⟩
      have HB7 := Lib.hid (HB6.out.trans (hb.mono HB6.out.size)); have HX7 := Lib.hid (HX6.out.below hb); have HM7 := Lib.hid (HM6.out.below hb)
      clear h4 hb HB6 HX6 HM6 a0 a1 a2 a3 a4 a5 a6 a7 a8 a9 a10 a11 a12 a13 a14 a15 a16
      obtain ⟨a0, a1, a2, a3, a4, a5, a6, a7, a8, a9, a10, a11, a12, a13, a14, a15, a16⟩ := HX7.out.cell
      cases p4 with
      | false =>
       have HW := Lib.hid (show q = false by rw [HV.out]; simp)
       go_wp2_with fail
       go_ret
       exact ⟨by rw [HW.out]; rfl, HB7.out⟩
      | true =>
       go_wp2_with fail
       have h4 := refCount_is m.f5 v7
       rw [P5.out] at h4
       refine h4.mono ?_
       rintro e v8 ⟨rfl, hb⟩
       have HB8 := Lib.hid (HB7.out.trans (hb.mono HB7.out.size)); have HX8 := Lib.hid (HX7.out.below hb); have HM8 := Lib.hid (HM7.out.below hb)
       clear h4 hb HB7 HX7 HM7 a0 a1 a2 a3 a4 a5 a6 a7 a8 a9 a10 a11 a12 a13 a14 a15 a16
       obtain ⟨a0, a1, a2, a3, a4, a5, a6, a7, a8, a9, a10, a11, a12, a13, a14, a15, a16⟩ := HX8.out.cell
       cases p5 with
       | false =>
        have HW := Lib.hid (show q = false by rw [HV.out]; simp)
        go_wp2_with fail
        go_ret
        exact ⟨by rw [HW.out]; rfl, HB8.out⟩
       | true =>
        go_wp2_with fail
        have h4 := refCount_is m.f6 v8
        rw [P6.out] at h4
        refine h4.mono ?_
        rintro e v9 ⟨rfl, hb⟩
        have HB9 := Lib.hid (HB8.out.trans (hb.mono HB8.out.size)); have HX9 := Lib.hid (HX8.out.below hb); have HM9 := Lib.hid (HM8.out.below hb)
        clear h4 hb HB8 HX8 HM8 a0 a1 a2 a3 a4 a5 a6 a7 a8 a9 a10 a11 a12 a13 a14 a15 a16
        obtain ⟨a0, a1, a2, a3, a4, a5, a6, a7, a8, a9, a10, a11, a12, a13, a14, a15, a16⟩ := HX9.out.cell
        cases p6 with
        | false =>
         have HW := Lib.hid (show q = false by rw [HV.out]; simp)
         go_wp2_with fail
         go_ret
         exact ⟨by rw [HW.out]; rfl, HB9.out⟩
        | true =>
         cases k3 with
         | true =>
          obtain ⟨r, hr⟩ : ∃ r, mayLs m.f8 = r := ⟨_, rfl⟩
          have HW := Lib.hid (show q = r by rw [HV.out, HS.out, ← hr]; simp)
          have HR := Lib.hid hr
          clear hr
          go_wp2_with fail
          have h4 := refList_is A8 c8 m.f8 v9 HM9.out.g8
          rw [HR.out] at h4
          refine h4.mono ?_
          rintro e v10 ⟨rfl, hb⟩
          have HB10 := Lib.hid (HB9.out.trans (hb.mono HB9.out.size)); have HX10 := Lib.hid (HX9.out.below hb); have HM10 := Lib.hid (HM9.out.below hb)
          clear h4 hb HB9 HX9 HM9 a0 a1 a2 a3 a4 a5 a6 a7 a8 a9 a10 a11 a12 a13 a14 a15 a16
          obtain ⟨a0, a1, a2, a3, a4, a5, a6, a7, a8, a9, a10, a11, a12, a13, a14, a15, a16⟩ := HX10.out.cell
          go_wp2_with fail
          go_ret
          exact ⟨by rw [HW.out]; rfl, HB10.out⟩
         | false =>
          cases k6 with
          | true =>
           obtain ⟨r, hr⟩ : ∃ r, mayE m.f9.f0 m.f9.f1 m.f9.f2 m.f9.f3 = r := ⟨_, rfl⟩
           have HW := Lib.hid (show q = r by rw [HV.out, HS.out, ← hr]; simp)
           have HR := Lib.hid hr
           clear hr
           go_wp2_with fail
           have h4 := refMayEn_is m.f9.f0 m.f9.f1 m.f9.f2 A12 c12 m.f9.f3 v9 HM9.out.g12 HM9.out.l12
           rw [HR.out] at h4
           refine h4.mono ?_
           rintro e v10 ⟨rfl, hb⟩
           have HB10 := Lib.hid (HB9.out.trans (hb.mono HB9.out.size)); have HX10 := Lib.hid (HX9.out.below hb); have HM10 := Lib.hid (HM9.out.below hb)
           clear h4 hb HB9 HX9 HM9 a0 a1 a2 a3 a4 a5 a6 a7 a8 a9 a10 a11 a12 a13 a14 a15 a16
           obtain ⟨a0, a1, a2, a3, a4, a5, a6, a7, a8, a9, a10, a11, a12, a13, a14, a15, a16⟩ := HX10.out.cell
           go_wp2_with fail
           go_ret
           exact ⟨by rw [HW.out]; rfl, HB10.out⟩
          | false =>
           cases k5 with
           | true =>
            obtain ⟨r, hr⟩ : ∃ r, mayPt m.f10 = r := ⟨_, rfl⟩
            have HW := Lib.hid (show q = r by rw [HV.out, HS.out, ← hr]; simp)
            have HR := Lib.hid hr
            clear hr
            go_wp2_with fail
            have h4 := refPart_is m.f10 HM9.out.l16 HM9.out.g16
            rw [HR.out] at h4
            refine h4.mono ?_
            rintro e v10 ⟨rfl, hb⟩
            have HB10 := Lib.hid (HB9.out.trans (hb.mono HB9.out.size)); have HX10 := Lib.hid (HX9.out.below hb); have HM10 := Lib.hid (HM9.out.below hb)
            clear h4 hb HB9 HX9 HM9 a0 a1 a2 a3 a4 a5 a6 a7 a8 a9 a10 a11 a12 a13 a14 a15 a16
            obtain ⟨a0, a1, a2, a3, a4, a5, a6, a7, a8, a9, a10, a11, a12, a13, a14, a15, a16⟩ := HX10.out.cell
            go_wp2_with fail
            go_ret
            exact ⟨by rw [HW.out]; rfl, HB10.out⟩
           | false =>
            have HW := Lib.hid (show q = true by rw [HV.out, HS.out]; simp)
            go_wp2_with fail
            go_ret
            exact ⟨by rw [HW.out]; rfl, HB9.out⟩
end Go.Proofs.YtgiefblcckikeaaGreat.M
end

section
-- Written by a program of this session's (wip/gprint.py over the kit's printer).
namespace Go.Proofs.YtgiefblcckikeaaGreat.G
open Go.RowKit Go.Proofs.YtgiefblcckikeaaGreatW.PrintWords Go.Proofs.YtgiefblcckikeaaGreatW.PrintLast Go.Proofs.YtgiefblcckikeaaGreatW.PrintMore
attribute [local go_sem] max2_int min2_int max_two min_two max_three min_three max_four min_four   -- for this text's walks alone
def trivetref01_low.l0 : Nat → Int → List Int → Int → Option (List Int)
 | 0, _, _, _ => none
 | k + 1, x0, x3, x4 => if x4 < 8 then (if 0 ≤ (wrap64 (8 * x4)) then (if x3.length < 140737488355328 then (trivetref01_low.l0 k x0 (x3 ++ [(shr .u64 x0 (wrap64 (8 * x4))) % 256]) (wrap64 (x4 + 1))) else (none)) else (none)) else (some x3)
def trivetref01_low.f (k : Nat) (a0 : Int) : Option (List Int) := trivetref01_low.l0 k a0 ([] : List Int) 0
set_option maxHeartbeats 8000000 in
set_option maxRecDepth 100000 in
theorem trivetref01_low.calls (k : Nat) (a0 : Int) (r : List Int) (w : World) (h : trivetref01_low.f k a0 = some r) :
  Calls Tryz.prog 108 #[.int .u64 a0] w fun e w' => ∃ v0_ : Value, e = .returned (v0_) ∧ Kd.R (Kd.int .u8) 5 w' w.heap.size (fun _ => True) v0_ r ∧ Below w.heap.size w w' := by
 have HB := Aside0.mk (Below.refl w.heap.size w)
 have H : (trivetref01_low.l0 k a0 ([] : List Int) 0) = some r := h
 clear h
 have H' := Aside0.mk H
 clear H
 go_enter Tryz.func108, Tryz.ntmps108
 go_wp2
 go_loopg [3, 4] k (fun kq v3 v4 w' => ∃ (x3_1 : List Int) (x4_1 : Int), v4 = .int .i64 x4_1 ∧ Aside0 (trivetref01_low.l0 kq a0 x3_1 x4_1 = some r) ∧ Aside0 (kq ≤ k) ∧ Aside0 (Kd.R (Kd.int .u8) 5 w' w.heap.size (fun _ => True) v3 x3_1) ∧ Aside0 (Below w.heap.size w w'))
 case atStart => exact ⟨(([] : List Int)), (0), (by first | rfl | (simp; done) | (simp [*]; done)), H', ⟨Nat.le_refl _⟩, ⟨by first | exact Kd.R_nil _ _ _ _ _ | exact Kd.N_nil _ _ _ _ _ | exact Kd.V_nil _ _ _ _ _ | exact Kd.Q_nil _ _ _ _ _ | exact Kd.S_nil _ _ _ _ _⟩, ⟨stB HB.out⟩⟩
 case round =>
  clear H'
  try clear c1
  obtain ⟨x3_1, x4_1, rfl, HA, HK1, HO_3, HB⟩ := hrel
  cases gk with
  | zero => exact absurd HA.out (by simp [trivetref01_low.l0])
  | succ k1 =>
   have H := HA.out
   clear HA
   simp only [trivetref01_low.l0] at H
   by_cases c2 : x4_1 < 8
   ·rw [if_pos c2] at H
    have c2b0 : decide (x4_1 < 8) = true := decide_eq_true c2
    clear c2
    obtain ⟨ji3, hji3⟩ : ∃ j_ : Int, (wrap64 (8 * x4_1)) = j_ := ⟨_, rfl⟩
    replace H : (if 0 ≤ (ji3) then (if x3_1.length < 140737488355328 then (trivetref01_low.l0 k1 a0 (x3_1 ++ [(shr .u64 a0 (ji3)) % 256]) (wrap64 (x4_1 + 1))) else (none)) else (none)) = some r := by first | (rw [hji3] at H; exact H) | (simp only [hji3] at H ⊢; exact H)
    have hji3w : (IntKind.i64.wrap (8 * x4_1)) = ji3 := (i64_w _).trans hji3
    by_cases c4 : 0 ≤ (ji3)
    ·rw [if_pos c4] at H
     have c4b0 := eq_true c4
     have c4b1 : decide (0 ≤ (ji3)) = true := decide_eq_true c4
     clear c4
     obtain ⟨ji5, hji5⟩ : ∃ j_ : Int, (shr .u64 a0 (ji3)) = j_ := ⟨_, rfl⟩
     replace H : (if x3_1.length < 140737488355328 then (trivetref01_low.l0 k1 a0 (x3_1 ++ [(ji5) % 256]) (wrap64 (x4_1 + 1))) else (none)) = some r := by first | (rw [hji5] at H; exact H) | (simp only [hji5] at H ⊢; exact H)
     have hji5_ : (a0 / 2 ^ min (ji3).toNat 64) = ji5 := hji5
     have hji5z : (ji3) ≤ 64 → (a0 / 2 ^ (ji3).toNat) = ji5 := shr_small hji5
     by_cases c6 : x3_1.length < 140737488355328
     ·rw [if_pos c6] at H
      have LMc6 := Aside0.mk c6
      clear c6
      obtain ⟨y530, hy530⟩ : ∃ y_ : List Int, y_ = (x3_1 ++ [(ji5) % 256]) := ⟨_, rfl⟩
      replace H : (trivetref01_low.l0 k1 a0 y530 (wrap64 (x4_1 + 1))) = some r := by first | (rw [hy530]; with_reducible exact H) | (have H2_ := (Option.bind_some _ _).symm.trans H; rw [hy530]; with_reducible exact H2_) | (have H2_ := (Option.bind_some _ _).symm.trans H; with_reducible exact H2_) | with_reducible exact H | (rw [hy530]; exact H) | exact H
      have Ny530 := Aside0.mk hy530
      clear hy530
      have H' := Aside0.mk H
      clear H
      go_wp2_with (first | ((with_reducible refine gate_builtin (b := .append) (xs := #[.tmp 9, .tmp 15]) rfl ?_); at_builtin; refine Kd.R_append (Kd.int .u8) (w0 := w) w.heap.size rfl (.tmp 9) (.tmp 15) 23 5 (.int .u8 0) 1 rfl Tryz.underlying23 info5 rfl (by decide) (by omega) u3 x3_1 ((ji5) % 256) [.int .u8 ((ji5) % 256)] (fun _ => True) (fun _ => False) rfl rfl ?aP (fun _ hk => hk.elim) ?aF ?aO ?aB ?aS ?aL ?_; (case aP => exact rfl); (case aB => exact (stB HB.out)); (case aF => exact (fun _ _ => trivial)); (case aO => exact (stR HO_3.out)); (case aS => exact (below_size (stB HB.out))); (case aL => have := LMc6.out; omega); intro v531 w7 ho hb hg hat; rw [← Ny530.out] at ho; have n0_ := Aside0.mk (hb); have n1_ := Aside0.mk (ho); clear HB; clear HO_3; have HB := n0_; have HO532 := n1_; clear n0_ n1_; clear ho hb hg hat))
      go_roundg k1
      case measure => have := HK1.out; omega
      case rel => exact ⟨(y530), (wrap64 (x4_1 + 1)), (by first | rfl | (simp; done) | (simp [*]; done)), H', ⟨by have := HK1.out; omega⟩, ⟨stR HO532.out⟩, ⟨stB HB.out⟩⟩
     ·rw [if_neg c6] at H
      exact absurd H (by simp)
    ·rw [if_neg c4] at H
     exact absurd H (by simp)
   ·rw [if_neg c2] at H
    have c2b0 : decide (x4_1 < 8) = false := decide_eq_false c2
    clear c2
    obtain rfl := Option.some.inj H
    go_wp2
    go_ret
    exact ⟨_, by first | rfl | (simp [errW_none, errW_some] <;> rfl) | (simp [*, errW_none, errW_some] <;> rfl), stR HO_3.out, stB HB.out⟩
def trivetref01_Check.l0 : Nat → List Int → Int → Int → Option (Int)
 | 0, _, _, _ => none
 | k + 1, x0, x3, x4 => if x4 < (x0.length : Int) then (if 0 ≤ x4 then (trivetref01_Check.l0 k x0 (IntKind.u64.wrap ((Go.bits .xor .u64 x3 (IntKind.u64.wrap (rd x0 x4))) * 1099511628211)) (wrap64 (x4 + 1))) else (none)) else (some x3)
def trivetref01_Check.f (k : Nat) (l0 : List Int) : Option (Int) := trivetref01_Check.l0 k l0 14695981039346656037 0
set_option maxHeartbeats 8000000 in
set_option maxRecDepth 100000 in
theorem trivetref01_Check.calls (k : Nat) (A0 : Option Addr) (c0 : Nat) (l0 : List Int) (r : Int) (w : World) (hr0 : Kd.C (Kd.int .u8) w A0 l0.length l0) (hc0 : l0.length ≤ c0) (h : trivetref01_Check.f k l0 = some r) :
  Calls Tryz.prog 109 #[.slice A0 l0.length c0] w fun e w' => e = .returned (.int .u64 r) ∧ Drawn0 w w' := by
 have HR0 := Aside0.mk hr0
 have HC0 := Aside0.mk hc0
 clear hr0 hc0
 have H : (trivetref01_Check.l0 k l0 14695981039346656037 0) = some r := h
 clear h
 have H' := Aside0.mk H
 clear H
 go_enter Tryz.func109, Tryz.ntmps109
 go_wp2
 go_loopg [3, 4] k (fun kq v3 v4 w' => ∃ (x3_1 : Int) (x4_1 : Int), v3 = .int .u64 x3_1 ∧ v4 = .int .i64 x4_1 ∧ Aside0 (trivetref01_Check.l0 kq l0 x3_1 x4_1 = some r) ∧ Aside0 (kq ≤ k) ∧ Drawn0 w w')
 case atStart => exact ⟨(14695981039346656037), (0), (by first | rfl | (simp; done) | (simp [*]; done)), (by first | rfl | (simp; done) | (simp [*]; done)), H', ⟨Nat.le_refl _⟩, by repeat (first | exact Drawn0.refl _ | apply Drawn0.step)⟩
 case round =>
  clear H'
  try clear c1
  obtain ⟨x3_1, x4_1, rfl, rfl, HA, HK1, ⟨m1, rfl⟩⟩ := hrel
  cases gk with
  | zero => exact absurd HA.out (by simp [trivetref01_Check.l0])
  | succ k1 =>
   have H := HA.out
   clear HA
   simp only [trivetref01_Check.l0] at H
   by_cases c2 : x4_1 < (l0.length : Int)
   ·rw [if_pos c2] at H
    have c2b0 : decide (x4_1 < (l0.length : Int)) = true := decide_eq_true c2
    clear c2
    by_cases c3 : 0 ≤ x4_1
    ·rw [if_pos c3] at H
     have c3b0 : decide (0 ≤ x4_1) = true := decide_eq_true c3
     clear c3
     have H' := Aside0.mk H
     clear H
     have p533 : 0 ≤ (x4_1 : Int) := of_decide_eq_true (by first | (with_reducible assumption) | assumption)
     have q533 : x4_1 < (l0.length : Int) := of_decide_eq_true (by first | (with_reducible assumption) | assumption)
     obtain ⟨ad533, e533, hx533_0⟩ := Kd.at_int HR0.out x4_1 p533 q533
     cases e533
     replace p533 := eq_true p533
     replace q533 := eq_true q533
     go_wp2
     go_roundg k1
     case measure => have := HK1.out; omega
     case rel => exact ⟨(IntKind.u64.wrap ((Go.bits .xor .u64 x3_1 (IntKind.u64.wrap (rd l0 x4_1))) * 1099511628211)), (wrap64 (x4_1 + 1)), (by first | rfl | (simp; done) | (simp [*]; done)), (by first | rfl | (simp; done) | (simp [*]; done)), H', ⟨by have := HK1.out; omega⟩, by repeat (first | exact Drawn0.refl _ | apply Drawn0.step)⟩
    ·rw [if_neg c3] at H
     exact absurd H (by simp)
   ·rw [if_neg c2] at H
    have c2b0 : decide (x4_1 < (l0.length : Int)) = false := decide_eq_false c2
    clear c2
    obtain rfl := Option.some.inj H
    go_wp2
    go_ret
    exact ⟨by first | rfl | (simp; done) | (simp [*]; done), by repeat (first | exact Drawn0.refl _ | apply Drawn0.step)⟩
def trivetref01_Seal.f (k : Nat) (l0 : List Int) : Option (List Int × Int) := if (l0.length : Int) > 1048576 then (some (([] : List Int), 3)) else ((trivetref01_Blob.f k ([] : List Int) l0).bind fun t534 => ((trivetref01_Check.f k l0).bind fun t537 => ((trivetref01_low.f k t537).bind fun t538 => (if t534.length + t538.length < 140737488355328 then (some ((t534 ++ t538), 0)) else (none)))))
set_option maxHeartbeats 8000000 in
set_option maxRecDepth 100000 in
theorem trivetref01_Seal.calls (k : Nat) (A0 : Option Addr) (c0 : Nat) (l0 : List Int) (r1 : List Int) (r2 : Int) (w : World) (hr0 : Kd.C (Kd.int .u8) w A0 l0.length l0) (hc0 : l0.length ≤ c0) (h : trivetref01_Seal.f k l0 = some (r1, r2)) :
  Calls Tryz.prog 53 #[.slice A0 l0.length c0] w fun e w' => ∃ v0_ : Value, e = .returned (.tuple #[v0_, .int .i64 r2]) ∧ Kd.R (Kd.int .u8) 5 w' w.heap.size (fun _ => True) v0_ r1 ∧ Below w.heap.size w w' := by
 have HR0 := Aside0.mk hr0
 have HC0 := Aside0.mk hc0
 clear hr0 hc0
 have HB := Aside0.mk (Below.refl w.heap.size w)
 have H : (if (l0.length : Int) > 1048576 then (some (([] : List Int), 3)) else ((trivetref01_Blob.f k ([] : List Int) l0).bind fun t534 => ((trivetref01_Check.f k l0).bind fun t537 => ((trivetref01_low.f k t537).bind fun t538 => (if t534.length + t538.length < 140737488355328 then (some ((t534 ++ t538), 0)) else (none)))))) = some (r1, r2) := h
 clear h
 by_cases c2 : (l0.length : Int) > 1048576
 ·rw [if_pos c2] at H
  have c2b0 : decide (1048576 < (l0.length : Int)) = true := decide_eq_true c2
  have c2b1 : decide (1048576 < l0.length) = true := decide_eq_true (by omega)
  clear c2
  simp only [Option.some.injEq, Prod.mk.injEq] at H
  obtain ⟨rfl, rfl⟩ := H
  go_enter Tryz.func53, Tryz.ntmps53
  go_wp2
  go_ret2
  exact ⟨_, by first | rfl | (simp [errW_none, errW_some] <;> rfl) | (simp [*, errW_none, errW_some] <;> rfl), by first | exact Kd.R_nil _ _ _ _ _ | exact Kd.N_nil _ _ _ _ _ | exact Kd.V_nil _ _ _ _ _ | exact Kd.Q_nil _ _ _ _ _ | exact Kd.S_nil _ _ _ _ _, stB HB.out⟩
 ·rw [if_neg c2] at H
  have c2b0 : decide (1048576 < (l0.length : Int)) = false := decide_eq_false c2
  have c2b1 : decide (1048576 < l0.length) = false := decide_eq_false (by omega)
  clear c2
  replace H := Option.bind_eq_some_iff.mp H
  obtain ⟨t534, A30, H⟩ := H
  replace H : ((trivetref01_Check.f k l0).bind fun t537 => ((trivetref01_low.f k t537).bind fun t538 => (if t534.length + t538.length < 140737488355328 then (some ((t534 ++ t538), 0)) else (none)))) = some (r1, r2) := H
  have A3 := Aside0.mk A30
  clear A30
  replace H := Option.bind_eq_some_iff.mp H
  obtain ⟨t537, A40, H⟩ := H
  replace H : ((trivetref01_low.f k t537).bind fun t538 => (if t534.length + t538.length < 140737488355328 then (some ((t534 ++ t538), 0)) else (none))) = some (r1, r2) := H
  have A4 := Aside0.mk A40
  clear A40
  replace H := Option.bind_eq_some_iff.mp H
  obtain ⟨t538, A50, H⟩ := H
  replace H : (if t534.length + t538.length < 140737488355328 then (some ((t534 ++ t538), 0)) else (none)) = some (r1, r2) := H
  have A5 := Aside0.mk A50
  clear A50
  by_cases c6 : t534.length + t538.length < 140737488355328
  ·rw [if_pos c6] at H
   have LMc6 := Aside0.mk c6
   clear c6
   obtain ⟨y541, hy541⟩ : ∃ y_ : List Int, y_ = (t534 ++ t538) := ⟨_, rfl⟩
   replace H : (some (y541, 0)) = some (r1, r2) := by first | (rw [hy541]; with_reducible exact H) | (have H2_ := (Option.bind_some _ _).symm.trans H; rw [hy541]; with_reducible exact H2_) | (have H2_ := (Option.bind_some _ _).symm.trans H; with_reducible exact H2_) | with_reducible exact H | (rw [hy541]; exact H) | exact H
   have Ny541 := Aside0.mk hy541
   clear hy541
   simp only [Option.some.injEq, Prod.mk.injEq] at H
   obtain ⟨rfl, rfl⟩ := H
   go_enter Tryz.func53, Tryz.ntmps53
   go_wp2_with (first | ((with_reducible refine gate_callee (f := 107) rfl ?_); refine goesL_ (some 8) rfl rfl Tryz.func107 (by kernel_rfl) rfl #[.slice none 0 0, .slice A0 l0.length c0] rfl (by (try simp only [List.map_toArray, List.map_cons, List.map_nil]); first | done | rfl | (simp only [List.length_drop, List.length_take]; rfl)) ?_; (refine (trivetref01_Blob.calls k _ _ ([] : List Int) _ _ l0 t534 _ ?side1 ?side2 ?side3 ?side4 A3.out).mono ?_); (case side1 => exact Kd.C_nil _ _); (case side2 => exact Nat.le_refl _); (case side3 => exact stC HR0.out); (case side4 => exact HC0.out); rintro e w7 ⟨v535, rfl, ho0, hb⟩; refine ⟨_, rfl, ?_⟩; have n0_ := Aside0.mk (Kd.R_lower ho0 (below_size (stB HB.out))); have n1_ := Aside0.mk (below_step (stB HB.out) hb); clear HB; have HO536 := n0_; have HB := n1_; clear n0_ n1_; (try clear hb); (try clear hb2); (try clear hk); (try clear hi); (try clear ho0)) | ((with_reducible refine gate_callee (f := 109) rfl ?_); refine goesL_ (some 10) rfl rfl Tryz.func109 (by kernel_rfl) rfl #[.slice A0 l0.length c0] rfl (by (try simp only [List.map_toArray, List.map_cons, List.map_nil]); first | done | rfl | (simp only [List.length_drop, List.length_take]; rfl)) ?_; (with_reducible refine (trivetref01_Check.calls k _ _ l0 t537 _ ?side1 ?side2 A4.out).mono ?_); (case side1 => exact stC (Kd.C_below HR0.out HB.out)); (case side2 => exact HC0.out); rintro e w' ⟨rfl, ⟨nd, rfl⟩⟩; refine ⟨_, rfl, ?_⟩) | ((with_reducible refine gate_callee (f := 108) rfl ?_); refine goesL_ (some 11) rfl rfl Tryz.func108 (by kernel_rfl) rfl #[.int .u64 t537] rfl (by (try simp only [List.map_toArray, List.map_cons, List.map_nil]); first | done | rfl | (simp only [List.length_drop, List.length_take]; rfl)) ?_; (with_reducible refine (trivetref01_low.calls k t537 t538 _ A5.out).mono ?_); rintro e w8 ⟨v539, rfl, ho0, hb⟩; refine ⟨_, rfl, ?_⟩; have n0_ := Aside0.mk (Kd.R_elder' (stR HO536.out) (Kd.R_base ho0) hb); have n1_ := Aside0.mk (Kd.R_lower (Kd.R_new' ho0 (Kd.R_lt (stR HO536.out))) (below_size (stB HB.out))); have n2_ := Aside0.mk (below_step (stB HB.out) hb); clear HO536; clear HB; have HO536 := n0_; have HO540 := n1_; have HB := n2_; clear n0_ n1_ n2_; (try clear hb); (try clear hb2); (try clear hk); (try clear hi); (try clear ho0); obtain ⟨Ao10, co10, eo10⟩ := Kd.R_slice HO540.out; subst eo10) | ((with_reducible refine gate_builtin (b := .append) (xs := #[.tmp 8, .tmp 11]) rfl ?_); at_builtin; refine Kd.R_append_rows (Kd.int .u8) (w0 := w) w.heap.size rfl (.tmp 8) (.tmp 11) 23 5 (.int .u8 0) 1 rfl Tryz.underlying23 info5 rfl (by decide) (by omega) v535 t534 t538 _ _ _ (fun k_ => some k_ ≠ (.slice Ao10 t538.length co10 : Value).ownBlock) (fun _ => False) rfl rfl ?aO ?aR (fun _ _ h => h) (fun _ h => h.elim) ?aF ?aB ?aS ?aL ?_; (case aR => exact stC ((Kd.R_reads' HO540.out).2.2)); (case aB => exact (stB HB.out)); (case aF => exact (fun k_ hk => Kd.fresh' (Kd.R_lt (stR HO540.out)) k_ hk)); (case aO => exact (by (with_reducible repeat (first|apply Kd.R_alloc | apply Kd.R_drewN | apply Kd.R_drew)); exact Kd.R_mono HO536.out (fun _ hk => hk.2))); (case aS => exact (below_size (stB HB.out))); (case aL => have := LMc6.out; omega); intro v542 w9 ho hb hg hat; rw [← Ny541.out] at ho; have n0_ := Aside0.mk (Kd.R_after (ok := (fun _ => True)) (stR HO540.out) hg hat); have n1_ := Aside0.mk (hb); have n2_ := Aside0.mk (ho); clear HO540; clear HB; clear HO536; have HO540 := n0_; have HB := n1_; have HO543 := n2_; clear n0_ n1_ n2_; clear ho hb hg hat))
   go_ret2
   exact ⟨_, by first | rfl | (simp [errW_none, errW_some] <;> rfl) | (simp [*, errW_none, errW_some] <;> rfl), by (with_reducible repeat (first|apply Kd.R_alloc | apply Kd.R_drewN | apply Kd.R_drew)); exact Kd.R_mono HO543.out (fun _ hk => trivial), stB HB.out⟩
  ·rw [if_neg c6] at H
   exact absurd H (by simp)
def IsS86 (w0 W : World) (g : Nat) (f0 : List Int) (f1 : Int) (f2 : Int) (f3 : Bool) : Prop := ∃ A0 c0, W.heap[g]? = some (.cells #[.slice A0 f0.length c0, .int .i64 f1, .int .i64 f2, .bool f3] 86 (0, 0)) ∧ w0.heap.size ≤ g ∧ Kd.C (Kd.int .u8) w0 A0 f0.length f0
theorem IsS86.grown {w0 W : World} {g : Nat} {f0 : List Int} {f1 : Int} {f2 : Int} {f3 : Bool} {W1 : World} {row : Option Nat} (h : IsS86 w0 W g f0 f1 f2 f3) (hw : W.grownBy W1 row) (hne : some g ≠ row) : IsS86 w0 W1 g f0 f1 f2 f3 := by
 obtain ⟨A0, c0, hb, hg, hr0⟩ := h
 exact ⟨A0, c0, blk_grown hb hw hne, hg, hr0⟩
theorem IsS86.own_neN {w0 W : World} {g : Nat} {f0 : List Int} {f1 : Int} {f2 : Int} {f3 : Bool} {α : Type} {d : Kd α} {e : Nat} {base : Nat} {ok : Nat → Prop} {v : Value} {xs : List α} (h : IsS86 w0 W g f0 f1 f2 f3) (ho : Kd.N d e W base ok v xs) (ht : e ≠ 86) : some g ≠ v.ownBlock := by
 obtain ⟨A0, c0, hb, hg, hr0⟩ := h
 exact Kd.N_ne ho hb ht
theorem IsS86.fresh {w0 W : World} {g : Nat} {f0 : List Int} {f1 : Int} {f2 : Int} {f3 : Bool} (h : IsS86 w0 W g f0 f1 f2 f3) : ∀ k, W.heap.size ≤ k → k ≠ g := by
 obtain ⟨A0, c0, hb, hg, hr0⟩ := h
 exact Kd.freshB hb
theorem IsS86.kept {w0 W : World} {g : Nat} {f0 : List Int} {f1 : Int} {f2 : Int} {f3 : Bool} {W1 : World} {S : Nat → Prop} (h : IsS86 w0 W g f0 f1 f2 f3) (hk : Kept W W1 S) (hne : ¬ S g) : IsS86 w0 W1 g f0 f1 f2 f3 := by
 obtain ⟨A0, c0, hb, hg, hr0⟩ := h
 exact ⟨A0, c0, blk_kept hb hk hne, hg, hr0⟩
theorem IsS86.below {w0 W : World} {g : Nat} {f0 : List Int} {f1 : Int} {f2 : Int} {f3 : Bool} {W1 : World} (h : IsS86 w0 W g f0 f1 f2 f3) (hw : Below W.heap.size W W1) : IsS86 w0 W1 g f0 f1 f2 f3 := h.grown (grown_of_below hw none) (by simp)
theorem IsS86.alloc {w0 W : World} {g : Nat} {f0 : List Int} {f1 : Int} {f2 : Int} {f3 : Bool} (h : IsS86 w0 W g f0 f1 f2 f3) (o : Obj) : IsS86 w0 (W.alloc o) g f0 f1 f2 f3 := h.below (below_alloc (Below.refl _ _) o)
theorem IsS86.drewN {w0 W : World} {g : Nat} {f0 : List Int} {f1 : Int} {f2 : Int} {f3 : Bool} (h : IsS86 w0 W g f0 f1 f2 f3) (m : Nat) : IsS86 w0 (W.drewN m) g f0 f1 f2 f3 := h
theorem IsS86.drew {w0 W : World} {g : Nat} {f0 : List Int} {f1 : Int} {f2 : Int} {f3 : Bool} (h : IsS86 w0 W g f0 f1 f2 f3) : IsS86 w0 W.drew g f0 f1 f2 f3 := h
theorem IsS86.at_ {w0 W : World} {g : Nat} {f0 : List Int} {f1 : Int} {f2 : Int} {f3 : Bool} {w' : World} {m : Nat} (hq : W.drewN m = w') (h : IsS86 w0 W g f0 f1 f2 f3) : IsS86 w0 w' g f0 f1 f2 f3 := by subst hq; exact IsS86.drewN h m
theorem IsS86.apart {w0 W : World} {g : Nat} {f0 : List Int} {f1 : Int} {f2 : Int} {f3 : Bool} {α : Type} {d : Kd α} {e : Nat} {base : Nat} {ok : Nat → Prop} {v : Value} {xs : List α} (h : IsS86 w0 W g f0 f1 f2 f3) (ho : d.R e W base ok v xs) (ht : ∀ q, q ∈ e :: d.E → q ≠ 86) : d.R e W base (fun k => ok k ∧ k ≠ g) v xs := by
 obtain ⟨A0, c0, hb, hg, hr0⟩ := h
 exact Kd.R_types ho hb ht
theorem IsS86.own_ne {w0 W : World} {g : Nat} {f0 : List Int} {f1 : Int} {f2 : Int} {f3 : Bool} {α : Type} {d : Kd α} {e : Nat} {base : Nat} {ok : Nat → Prop} {v : Value} {xs : List α} (h : IsS86 w0 W g f0 f1 f2 f3) (ho : d.R e W base ok v xs) (ht : e ≠ 86) : some g ≠ v.ownBlock := by
 obtain ⟨A0, c0, hb, hg, hr0⟩ := h
 exact Kd.R_ne ho hb ht
theorem IsS86.apartQ {w0 W : World} {g : Nat} {f0 : List Int} {f1 : Int} {f2 : Int} {f3 : Bool} {α : Type} {d : Kd α} {e : Nat} {base : Nat} {ok : Nat → Prop} {v : Value} {xs : List α} (h : IsS86 w0 W g f0 f1 f2 f3) (ho : d.Q e W base ok v xs) (ht : ∀ q, q ∈ e :: d.E → q ≠ 86) : d.Q e W base (fun k => ok k ∧ k ≠ g) v xs := by
 obtain ⟨A0, c0, hb, hg, hr0⟩ := h
 exact Kd.Q_types ho hb ht
theorem IsS86.own_neQ {w0 W : World} {g : Nat} {f0 : List Int} {f1 : Int} {f2 : Int} {f3 : Bool} {α : Type} {d : Kd α} {e : Nat} {base : Nat} {ok : Nat → Prop} {v : Value} {xs : List α} (h : IsS86 w0 W g f0 f1 f2 f3) (ho : d.Q e W base ok v xs) (ht : e ≠ 86) : some g ≠ v.ownBlock := by
 obtain ⟨A0, c0, hb, hg, hr0⟩ := h
 exact Kd.Q_ne ho hb ht
theorem IsS86.apartS {w0 W : World} {g : Nat} {f0 : List Int} {f1 : Int} {f2 : Int} {f3 : Bool} {α : Type} {d : Kd α} {e : Nat} {base : Nat} {ok : Nat → Prop} {v : Value} {xs : List α} (h : IsS86 w0 W g f0 f1 f2 f3) (ho : d.S e W base ok v xs) (ht : ∀ q, q ∈ e :: d.E → q ≠ 86) : d.S e W base (fun k => ok k ∧ k ≠ g) v xs := by
 obtain ⟨A0, c0, hb, hg, hr0⟩ := h
 exact Kd.S_types ho hb ht
theorem IsS86.own_neS {w0 W : World} {g : Nat} {f0 : List Int} {f1 : Int} {f2 : Int} {f3 : Bool} {α : Type} {d : Kd α} {e : Nat} {base : Nat} {ok : Nat → Prop} {v : Value} {xs : List α} (h : IsS86 w0 W g f0 f1 f2 f3) (ho : d.S e W base ok v xs) (ht : e ≠ 86) : some g ≠ v.ownBlock := by
 obtain ⟨A0, c0, hb, hg, hr0⟩ := h
 exact Kd.S_ne ho hb ht
theorem IsS86.lt {w0 W : World} {g : Nat} {f0 : List Int} {f1 : Int} {f2 : Int} {f3 : Bool} (h : IsS86 w0 W g f0 f1 f2 f3) : g < W.heap.size := by
 obtain ⟨A0, c0, hb, hg, hr0⟩ := h
 exact blk_lt hb
theorem IsS86.ge {w0 W : World} {g : Nat} {f0 : List Int} {f1 : Int} {f2 : Int} {f3 : Bool} (h : IsS86 w0 W g f0 f1 f2 f3) : w0.heap.size ≤ g := by
 obtain ⟨A0, c0, hb, hg, hr0⟩ := h
 exact hg
theorem IsS86.ne_blk {w0 W : World} {g : Nat} {f0 : List Int} {f1 : Int} {f2 : Int} {f3 : Bool} {a : Nat} {cs : Array Value} {t : TypeId} {fr : Nat × Nat} (h : IsS86 w0 W g f0 f1 f2 f3) (hb2 : W.heap[a]? = some (.cells cs t fr)) (ht : t ≠ 86) : g ≠ a := by
 obtain ⟨A0, c0, hb, hg, hr0⟩ := h
 rintro rfl
 rw [hb] at hb2
 injection hb2 with hb2
 injection hb2 with _ ht2
 exact ht ht2.symm
theorem IsS86.far {w0 W : World} {g : Nat} {f0 : List Int} {f1 : Int} {f2 : Int} {f3 : Bool} {p : Addr} (h : IsS86 w0 W g f0 f1 f2 f3) (hne : g ≠ p.block) (u : Value) : IsS86 w0 (W.setCell p u) g f0 f1 f2 f3 := by
 obtain ⟨A0, c0, hb, hg, hr0⟩ := h
 exact ⟨A0, c0, blk_far hb hne u, hg, hr0⟩
theorem cellS86_0 {W : World} {g : Nat} {A0 : Option Addr} {c0 : Nat} {f0 : List Int} {f1 : Int} {f2 : Int} {f3 : Bool} (h : W.heap[g]? = some (.cells #[.slice A0 f0.length c0, .int .i64 f1, .int .i64 f2, .bool f3] 86 (0, 0))) : W.cell? ⟨g, 0, none⟩ = some (.slice A0 f0.length c0) := (blk_cell h 0).trans rfl
theorem cellS86_1 {W : World} {g : Nat} {A0 : Option Addr} {c0 : Nat} {f0 : List Int} {f1 : Int} {f2 : Int} {f3 : Bool} (h : W.heap[g]? = some (.cells #[.slice A0 f0.length c0, .int .i64 f1, .int .i64 f2, .bool f3] 86 (0, 0))) : W.cell? ⟨g, 1, none⟩ = some (.int .i64 f1) := (blk_cell h 1).trans rfl
theorem IsS86.set_1 {w0 W : World} {g : Nat} {f0 : List Int} {f1 : Int} {f2 : Int} {f3 : Bool} (h : IsS86 w0 W g f0 f1 f2 f3) (x : Int) : IsS86 w0 (W.setCell ⟨g, 1, none⟩ (.int .i64 x)) g f0 x f2 f3 := by
 obtain ⟨A0, c0, hb, hg, hr0⟩ := h
 exact ⟨A0, c0, by simpa using blk_set hb 1 (.int .i64 x), hg, hr0⟩
theorem cellS86_2 {W : World} {g : Nat} {A0 : Option Addr} {c0 : Nat} {f0 : List Int} {f1 : Int} {f2 : Int} {f3 : Bool} (h : W.heap[g]? = some (.cells #[.slice A0 f0.length c0, .int .i64 f1, .int .i64 f2, .bool f3] 86 (0, 0))) : W.cell? ⟨g, 2, none⟩ = some (.int .i64 f2) := (blk_cell h 2).trans rfl
theorem IsS86.set_2 {w0 W : World} {g : Nat} {f0 : List Int} {f1 : Int} {f2 : Int} {f3 : Bool} (h : IsS86 w0 W g f0 f1 f2 f3) (x : Int) : IsS86 w0 (W.setCell ⟨g, 2, none⟩ (.int .i64 x)) g f0 f1 x f3 := by
 obtain ⟨A0, c0, hb, hg, hr0⟩ := h
 exact ⟨A0, c0, by simpa using blk_set hb 2 (.int .i64 x), hg, hr0⟩
theorem cellS86_3 {W : World} {g : Nat} {A0 : Option Addr} {c0 : Nat} {f0 : List Int} {f1 : Int} {f2 : Int} {f3 : Bool} (h : W.heap[g]? = some (.cells #[.slice A0 f0.length c0, .int .i64 f1, .int .i64 f2, .bool f3] 86 (0, 0))) : W.cell? ⟨g, 3, none⟩ = some (.bool f3) := (blk_cell h 3).trans rfl
theorem IsS86.set_3 {w0 W : World} {g : Nat} {f0 : List Int} {f1 : Int} {f2 : Int} {f3 : Bool} (h : IsS86 w0 W g f0 f1 f2 f3) (x : Bool) : IsS86 w0 (W.setCell ⟨g, 3, none⟩ (.bool x)) g f0 f1 f2 x := by
 obtain ⟨A0, c0, hb, hg, hr0⟩ := h
 exact ⟨A0, c0, by simpa using blk_set hb 3 (.bool x), hg, hr0⟩
theorem IsS86.new (w0 W : World) (A0 : Option Addr) (c0 : Nat) (f0 : List Int) (f1 : Int) (f2 : Int) (f3 : Bool) (hB : Below w0.heap.size w0 W) (hr0 : Kd.C (Kd.int .u8) w0 A0 f0.length f0) : IsS86 w0 (W.alloc (.cells #[.slice A0 f0.length c0, .int .i64 f1, .int .i64 f2, .bool f3] 86)) W.heap.size f0 f1 f2 f3 := ⟨A0, c0, by simpa using heap_alloc_new W _, hB.size, hr0⟩
end Go.Proofs.YtgiefblcckikeaaGreat.G
end

section
/- The reference's Marshal. -/
attribute [local irreducible] Go.wpStill
namespace Go.Proofs.YtgiefblcckikeaaGreat.M
open Go.RowKit Go.Proofs.YtgiefblcckikeaaGreatW.PrintWords Go.Proofs.YtgiefblcckikeaaGreatW.PrintLast Go.Proofs.YtgiefblcckikeaaGreatW.PrintMore Go.Proofs.YtgiefblcckikeaaGreat.G
def marF (S : List Int → List Int) (m : MsgD) : List Int × Int := if mayMs m = true then (if 1048576 < (msgB m).length then ([], 3) else (S (msgB m), 0)) else ([], 40)
set_option maxHeartbeats 4000000 in
theorem refMar_is {w : World} (m : MsgD) {A8 A12 A16 : Option Addr} {c8 c12 c16 : Nat} (hm : MsgC w m A8 c8 A12 c12 A16 c16) (ho : OkM m) (S : List Int → List Int) (hS : ∀ l : List Int, l.length ≤ 1048576 → ∃ k, G.trivetref01_Seal.f k l = some (S l, 0)) :
  Calls Tryz.prog 21 #[.agg #[.int .i64 m.f0, .int .i64 m.f1, .int .i64 m.f2, .int .i64 m.f3, .int .i64 m.f4, .int .i64 m.f5, .int .i64 m.f6, .bool m.f7, .slice A8 m.f8.length c8, .int .i64 m.f9.f0, .int .i64 m.f9.f1, .int .i64 m.f9.f2, .slice A12 m.f9.f3.length c12, .int .i64 m.f10.f0, .int .i64 m.f10.f1, .int .i64 m.f10.f2, .slice A16 m.f10.f3.length c16]] w fun e w' => BytesP w (marF S m).1 (marF S m).2 e w' := by
 have hb := (Below.refl _ w).alloc (Nat.le_refl _) (.cells #[.int .i64 m.f0, .int .i64 m.f1, .int .i64 m.f2, .int .i64 m.f3, .int .i64 m.f4, .int .i64 m.f5, .int .i64 m.f6, .bool m.f7, .slice A8 m.f8.length c8, .int .i64 m.f9.f0, .int .i64 m.f9.f1, .int .i64 m.f9.f2, .slice A12 m.f9.f3.length c12, .int .i64 m.f10.f0, .int .i64 m.f10.f1, .int .i64 m.f10.f2, .slice A16 m.f10.f3.length c16] 34)
 have HB0 := Lib.hid hb; have HX0 := Lib.hid (show MsBox (w.alloc (.cells #[.int .i64 m.f0, .int .i64 m.f1, .int .i64 m.f2, .int .i64 m.f3, .int .i64 m.f4, .int .i64 m.f5, .int .i64 m.f6, .bool m.f7, .slice A8 m.f8.length c8, .int .i64 m.f9.f0, .int .i64 m.f9.f1, .int .i64 m.f9.f2, .slice A12 m.f9.f3.length c12, .int .i64 m.f10.f0, .int .i64 m.f10.f1, .int .i64 m.f10.f2, .slice A16 m.f10.f3.length c16] 34)) w.heap.size m A8 c8 A12 c12 A16 c16 from heap_alloc_new w _); have HM0 := Lib.hid (hm.below hb); have HO := Lib.hid ho; have HS := Lib.hid hS
 clear hm hb ho hS
 go_enter Tryz.func21, Tryz.ntmps21
 go_upto_region 1 with fail
 obtain ⟨v0, hw⟩ : ∃ v, w.alloc (.cells #[.int .i64 m.f0, .int .i64 m.f1, .int .i64 m.f2, .int .i64 m.f3, .int .i64 m.f4, .int .i64 m.f5, .int .i64 m.f6, .bool m.f7, .slice A8 m.f8.length c8, .int .i64 m.f9.f0, .int .i64 m.f9.f1, .int .i64 m.f9.f2, .slice A12 m.f9.f3.length c12, .int .i64 m.f10.f0, .int .i64 m.f10.f1, .int .i64 m.f10.f2, .slice A16 m.f10.f3.length c16] 34) = v := ⟨_, rfl⟩
 obtain ⟨g, hg⟩ : ∃ g, w.heap.size = g := ⟨_, rfl⟩
 have HG := Lib.hid hg
 rw [hw] at HB0 HX0 HM0 ⊢
 rw [hg] at HX0 ⊢
 clear hw hg
 refine wp_region_list ?_
 refine wpList_load_row rfl 34 (.tmp 1) rfl g rfl 34 #[.int .i64 m.f0, .int .i64 m.f1, .int .i64 m.f2, .int .i64 m.f3, .int .i64 m.f4, .int .i64 m.f5, .int .i64 m.f6, .bool m.f7, .slice A8 m.f8.length c8, .int .i64 m.f9.f0, .int .i64 m.f9.f1, .int .i64 m.f9.f2, .slice A12 m.f9.f3.length c12, .int .i64 m.f10.f0, .int .i64 m.f10.f1, .int .i64 m.f10.f2, .slice A16 m.f10.f3.length c16] (0, 0) _ HX0.out Tryz.underlying34 rfl (by kernel_rfl) ?_
 go_wp2_with fail
 refine (refMayMs_is m HM0.out).mono ?_
 rintro e v1 ⟨rfl, hb⟩
 have HB1 := Lib.hid (HB0.out.trans (hb.mono HB0.out.size)); have HX1 := Lib.hid (HX0.out.below hb); have HM1 := Lib.hid (HM0.out.below hb)
 clear hb
 cases hy : mayMs m with
 | false =>
  have HF := Lib.hid (show marF S m = ([], 40) by unfold marF; rw [if_neg (by rw [hy]; simp)])
  clear hy
  go_wp2_with fail
  go_ret2
  refine ⟨.slice none 0 0, by rw [HF.out]; rfl, by rw [HF.out]; exact Kd.R_nil _ _ _ _ _, HB1.out⟩
 | true =>
  have HY := Lib.hid hy
  have HF := Lib.hid (show marF S m = (if 1048576 < (msgB m).length then ([], 3) else (S (msgB m), 0)) by unfold marF; rw [if_pos hy])
  clear hy
  go_upto_region 3 with fail
  refine wp_region_list ?_
  refine wpList_load_row rfl 34 (.tmp 1) rfl g rfl 34 #[.int .i64 m.f0, .int .i64 m.f1, .int .i64 m.f2, .int .i64 m.f3, .int .i64 m.f4, .int .i64 m.f5, .int .i64 m.f6, .bool m.f7, .slice A8 m.f8.length c8, .int .i64 m.f9.f0, .int .i64 m.f9.f1, .int .i64 m.f9.f2, .slice A12 m.f9.f3.length c12, .int .i64 m.f10.f0, .int .i64 m.f10.f1, .int .i64 m.f10.f2, .slice A16 m.f10.f3.length c16] (0, 0) _ HX1.out Tryz.underlying34 rfl (by kernel_rfl) ?_
  have HMF := Lib.hid (msgform_f (m.f8.length + 401) m HO.out HY.out (by omega))
  go_wp2_with fail
  refine (G.trivetref04_MsgForm.calls (m.f8.length + 401) m.f0 m.f1 m.f2 m.f3 m.f4 m.f5 m.f6 m.f7 A8 c8 m.f8 m.f9.f0 m.f9.f1 m.f9.f2 A12 c12 m.f9.f3 m.f10.f0 m.f10.f1 m.f10.f2 A16 c16 m.f10.f3 (msgB m) v1 HM1.out.g8 HM1.out.l8 HM1.out.g12 HM1.out.l12 HM1.out.g16 HM1.out.l16 HMF.out).mono ?_
  rintro e v2 ⟨v, rfl, hv, hb⟩
  have HB2 := Lib.hid (HB1.out.trans (hb.mono HB1.out.size))
  obtain ⟨Av, cv, rfl⟩ := Kd.R_slice hv
  have HV := Lib.hid (Kd.R_reads' hv)
  clear hb hv
  obtain ⟨l, hl⟩ : ∃ l, msgB m = l := ⟨_, rfl⟩
  rw [hl] at HF HV ⊢
  clear hl
  by_cases hlen : 1048576 < l.length
  ·have q1 : decide ((l.length : Int) > 1048576) = true := decide_eq_true (by omega)
   have HFF := Lib.hid (show marF S m = ([], 3) by rw [HF.out, if_pos hlen])
   clear hlen
   go_wp2_with fail
   go_ret2
   refine ⟨.slice none 0 0, by rw [HFF.out]; rfl, by rw [HFF.out]; exact Kd.R_nil _ _ _ _ _, HB2.out⟩
  ·have q1 : decide ((l.length : Int) > 1048576) = false := decide_eq_false (by omega)
   have HFF := Lib.hid (show marF S m = (S l, 0) by rw [HF.out, if_neg hlen])
   obtain ⟨k, hk⟩ := HS.out l (by omega)
   have HK := Lib.hid hk
   clear hlen hk
   go_wp2_with fail
   refine (G.trivetref01_Seal.calls k Av cv l (S l) 0 v2 HV.out.2.2 HV.out.2.1 HK.out).mono ?_
   rintro e v3 ⟨v, rfl, hv, hb⟩
   have HB3 := Lib.hid (HB2.out.trans (hb.mono HB2.out.size))
   have HR := Lib.hid (Kd.R_lower hv HB2.out.size)
   obtain ⟨Aw, cw, rfl⟩ := Kd.R_slice hv
   clear hb hv
   go_wp2_with fail
   go_ret2
   exact ⟨.slice Aw (S l).length cw, by rw [HFF.out]; rfl, by rw [HFF.out]; exact HR.out, HB3.out⟩
end Go.Proofs.YtgiefblcckikeaaGreat.M
end

section
/- record.Marshal. -/
attribute [local irreducible] Go.wpStill
namespace Go.Proofs.YtgiefblcckikeaaGreat.M
open Go.RowKit Go.Proofs.YtgiefblcckikeaaGreatW.PrintWords Go.Proofs.YtgiefblcckikeaaGreatW.PrintLast Go.Proofs.YtgiefblcckikeaaGreatW.PrintMore Go.Proofs.YtgiefblcckikeaaGreat.G
def SealC (S : List Int → List Int) : Prop := ∀ (ok : Nat → Prop) (A : Option Addr) (c : Nat) (l : List Int) (w : World), Kd.V (Kd.int .u8) 5 w w.heap.size ok (.slice A l.length c) l → l.length ≤ 1048576 → Calls Tryz.prog 51 #[.slice A l.length c] w fun e w' => BytesP w (S l) 0 e w'
set_option maxHeartbeats 4000000 in
theorem mar_is {w : World} (m : MsgD) {A8 A12 A16 : Option Addr} {c8 c12 c16 : Nat} (hm : MsgC w m A8 c8 A12 c12 A16 c16) (ho : OkM m) (S : List Int → List Int) (hS : SealC S) :
  Calls Tryz.prog 20 #[.agg #[.int .i64 m.f0, .int .i64 m.f1, .int .i64 m.f2, .int .i64 m.f3, .int .i64 m.f4, .int .i64 m.f5, .int .i64 m.f6, .bool m.f7, .slice A8 m.f8.length c8, .int .i64 m.f9.f0, .int .i64 m.f9.f1, .int .i64 m.f9.f2, .slice A12 m.f9.f3.length c12, .int .i64 m.f10.f0, .int .i64 m.f10.f1, .int .i64 m.f10.f2, .slice A16 m.f10.f3.length c16]] w fun e w' => BytesP w (marF S m).1 (marF S m).2 e w' := by
 have hb := (Below.refl _ w).alloc (Nat.le_refl _) (.cells #[.int .i64 m.f0, .int .i64 m.f1, .int .i64 m.f2, .int .i64 m.f3, .int .i64 m.f4, .int .i64 m.f5, .int .i64 m.f6, .bool m.f7, .slice A8 m.f8.length c8, .int .i64 m.f9.f0, .int .i64 m.f9.f1, .int .i64 m.f9.f2, .slice A12 m.f9.f3.length c12, .int .i64 m.f10.f0, .int .i64 m.f10.f1, .int .i64 m.f10.f2, .slice A16 m.f10.f3.length c16] 34)
 have HB0 := Lib.hid hb; have HX0 := Lib.hid (show MsBox (w.alloc (.cells #[.int .i64 m.f0, .int .i64 m.f1, .int .i64 m.f2, .int .i64 m.f3, .int .i64 m.f4, .int .i64 m.f5, .int .i64 m.f6, .bool m.f7, .slice A8 m.f8.length c8, .int .i64 m.f9.f0, .int .i64 m.f9.f1, .int .i64 m.f9.f2, .slice A12 m.f9.f3.length c12, .int .i64 m.f10.f0, .int .i64 m.f10.f1, .int .i64 m.f10.f2, .slice A16 m.f10.f3.length c16] 34)) w.heap.size m A8 c8 A12 c12 A16 c16 from heap_alloc_new w _); have HM0 := Lib.hid (hm.below hb); have HM := Lib.hid hm; have HO := Lib.hid ho; have HS := Lib.hid hS
 have hi2 := ho.p
 simp only [okI_cons] at hi2
 have HI2 := Lib.hid hi2.2.2.1
 clear hm hb ho hS hi2
 go_enter Tryz.func20, Tryz.ntmps20
 go_upto_region 1 with fail
 obtain ⟨v0, hw⟩ : ∃ v, w.alloc (.cells #[.int .i64 m.f0, .int .i64 m.f1, .int .i64 m.f2, .int .i64 m.f3, .int .i64 m.f4, .int .i64 m.f5, .int .i64 m.f6, .bool m.f7, .slice A8 m.f8.length c8, .int .i64 m.f9.f0, .int .i64 m.f9.f1, .int .i64 m.f9.f2, .slice A12 m.f9.f3.length c12, .int .i64 m.f10.f0, .int .i64 m.f10.f1, .int .i64 m.f10.f2, .slice A16 m.f10.f3.length c16] 34) = v := ⟨_, rfl⟩
 obtain ⟨g, hg⟩ : ∃ g, w.heap.size = g := ⟨_, rfl⟩
 have HG := Lib.hid hg
 rw [hw] at HB0 HX0 HM0 ⊢
 rw [hg] at HX0 ⊢
 clear hw hg
 refine wp_region_list ?_
 refine wpList_load_row rfl 34 (.tmp 1) rfl g rfl 34 #[.int .i64 m.f0, .int .i64 m.f1, .int .i64 m.f2, .int .i64 m.f3, .int .i64 m.f4, .int .i64 m.f5, .int .i64 m.f6, .bool m.f7, .slice A8 m.f8.length c8, .int .i64 m.f9.f0, .int .i64 m.f9.f1, .int .i64 m.f9.f2, .slice A12 m.f9.f3.length c12, .int .i64 m.f10.f0, .int .i64 m.f10.f1, .int .i64 m.f10.f2, .slice A16 m.f10.f3.length c16] (0, 0) _ HX0.out Tryz.underlying34 rfl (by kernel_rfl) ?_
 go_wp2_with fail
 refine (msg_is m HM0.out HI2.out).mono ?_
 rintro e v1 ⟨rfl, hb⟩
 have HB1 := Lib.hid (HB0.out.trans (hb.mono HB0.out.size)); have HX1 := Lib.hid (HX0.out.below hb)
 clear hb
 cases hy : mayMs m with
 | false =>
  have HF := Lib.hid (show marF S m = ([], 40) by unfold marF; rw [if_neg (by rw [hy]; simp)])
  clear hy
  go_wp2_with fail
  go_ret2
  refine ⟨.slice none 0 0, by rw [HF.out]; rfl, by rw [HF.out]; exact Kd.R_nil _ _ _ _ _, HB1.out⟩
 | true =>
  have HY := Lib.hid hy
  have HF := Lib.hid (show marF S m = (if 1048576 < (msgB m).length then ([], 3) else (S (msgB m), 0)) by unfold marF; rw [if_pos hy])
  clear hy
  go_wp2_with fail
  refine (newPen_is none 0 [] v1 (Kd.C_nil _ _) (by simp) (by simp)).mono ?_
  rintro e v2 ⟨p, rfl, hI, hb⟩
  have HB2 := Lib.hid (HB1.out.trans (hb.mono HB1.out.size)); have HX2 := Lib.hid (HX1.out.below hb)
  have HI2 := Lib.hid (show IsPen v2 w.heap.size p [] by
   obtain ⟨A', c', h1, h2, h3, h4⟩ := hI
   have hz := HB1.out.size
   exact ⟨A', c', h1, by omega, h3, Kd.R_lower h4 hz⟩)
  clear hI hb
  go_upto_region 4 with fail
  refine wp_region_list ?_
  refine wpList_cut 1 ?_
  simp only [List.take_succ_cons, List.take_zero, List.drop_succ_cons, List.drop_zero]
  go_wp2_with fail
  refine Halt.mk ?_
  refine wpList_load_row rfl 34 (.tmp 1) rfl g rfl 34 #[.int .i64 m.f0, .int .i64 m.f1, .int .i64 m.f2, .int .i64 m.f3, .int .i64 m.f4, .int .i64 m.f5, .int .i64 m.f6, .bool m.f7, .slice A8 m.f8.length c8, .int .i64 m.f9.f0, .int .i64 m.f9.f1, .int .i64 m.f9.f2, .slice A12 m.f9.f3.length c12, .int .i64 m.f10.f0, .int .i64 m.f10.f1, .int .i64 m.f10.f2, .slice A16 m.f10.f3.length c16] (0, 0) _ HX2.out Tryz.underlying34 rfl (by kernel_rfl) ?_
  go_wp2_with fail
  refine (penMsg_is HI2.out HB2.out HI2.out.ge m HM.out HO.out HY.out (by simp)).mono ?_
  rintro e v3 ⟨rfl, h1, h2, h3⟩
  have HB3 := Lib.hid h2
  obtain ⟨A', c', hh, _, hc', hR⟩ := h1
  have HRR := Lib.hid hR
  rw [List.nil_append] at hh HRR
  obtain ⟨bs, hbs⟩ : ∃ bs, msgB m = bs := ⟨_, rfl⟩
  rw [hbs] at hh HRR HF
  have p0 : v3.cell? ⟨p, 0, none⟩ = some (.slice A' bs.length c') := by simp [World.cell?, hh]
  clear h2 h3 hh hc' hR hbs
  go_wp2_with fail
  refine (fits_is HB3.out HRR.out).mono ?_
  by_cases hlen : 1048576 < bs.length
  ·have HFF := Lib.hid (show marF S m = ([], 3) by rw [HF.out, if_pos hlen])
   rw [if_pos hlen, if_pos hlen]
   rintro e v4 ⟨v, rfl, hv, hb⟩
   have HB4 := Lib.hid hb
   obtain ⟨Av, cv, rfl⟩ := Kd.R_slice hv
   clear hv hb hlen
   go_wp2_with fail
   go_ret2
   exact ⟨.slice none 0 0, by rw [HFF.out]; rfl, by rw [HFF.out]; exact Kd.R_nil _ _ _ _ _, HB4.out⟩
  ·have HFF := Lib.hid (show marF S m = (S bs, 0) by rw [HF.out, if_neg hlen])
   rw [if_neg hlen, if_neg hlen]
   rintro e v4 ⟨v, rfl, hv, hb⟩
   have HB4 := Lib.hid hb
   obtain ⟨Av, cv, rfl⟩ := Kd.R_slice hv
   have HV := Lib.hid (Kd.R_reads' hv)
   have HSC := Lib.hid (HS.out _ Av cv bs v4 (Kd.R_V hv) (by omega))
   clear hv hb hlen
   go_wp2_with fail
   refine HSC.out.mono ?_
   rintro e v5 ⟨v, rfl, hv, hb⟩
   have HB5 := Lib.hid (HB4.out.trans (hb.mono HB4.out.size))
   have HR := Lib.hid (Kd.R_lower hv HB4.out.size)
   obtain ⟨Aw, cw, rfl⟩ := Kd.R_slice hv
   clear hb hv
   go_wp2_with fail
   go_ret2
   exact ⟨.slice Aw (S bs).length cw, by rw [HFF.out]; rfl, by rw [HFF.out]; exact HR.out, HB5.out⟩
end Go.Proofs.YtgiefblcckikeaaGreat.M
end

section
/- The eye's lists: transactions (printed by geneye04.py). -/
attribute [local irreducible] Go.wpStill
namespace Go.Proofs.YtgiefblcckikeaaGreat.M
open Go.RowKit Go.Proofs.YtgiefblcckikeaaGreatW.PrintWords Go.Proofs.YtgiefblcckikeaaGreatW.PrintLast Go.Proofs.YtgiefblcckikeaaGreatW.PrintMore Go.Proofs.YtgiefblcckikeaaGreat.G
def LiI_txns (g : EyeS → TxD × EyeS) (n : Int) (s0 : EyeS) (w0 w : World) (x : Nat) (v i : Value) (W : World) : Prop := ∃ (U : List TxD) (s : EyeS), i = .int .i64 (U.length : Int) ∧ U.length ≤ 4096 ∧ U.length ≤ n.toNat ∧ (s.e = 0 → n ≤ 4096) ∧ Kd.S G.k26 26 W w.heap.size (fun _ => True) v U ∧ IsEye w0 W x s ∧ Below w0.heap.size w0 W ∧ KeepS (fun i => i = x) w W ∧ okS s ∧ eList g s0 = (U ++ (eMany g (n.toNat - U.length) s).1, (eMany g (n.toNat - U.length) s).2)
set_option maxHeartbeats 2000000 in
theorem eList_txns {w0 w : World} {x : Nat} {s : EyeS} (hI : IsEye w0 w x s) (hB : Below w0.heap.size w0 w) (hok : okS s) :
  Calls Tryz.prog 113 #[.pointer (some ⟨x, 0, none⟩), .func (.func 114) #[.pointer (some ⟨x, 0, none⟩)] #[]] w fun e w' => LiP G.k26 26 w0 w x (eList eTxn s).1 (eList eTxn s).2 e w' := by
 have HN := Lib.hid (eNum_is hI hB hok)
 have HOK := Lib.hid (okS_num hok)
 have HLT := Lib.hid hI.lt
 have HGEW := Lib.hid (show w0.heap.size ≤ w.heap.size from hB.size)
 obtain ⟨n, hn⟩ : ∃ n, (eNum s).1 = n := ⟨_, rfl⟩
 obtain ⟨s1, hs1⟩ : ∃ s1, (eNum s).2 = s1 := ⟨_, rfl⟩
 have HCT := Lib.hid (show eCount s = eWrong (decide (n < 0) || decide (4096 < n)) s1 by unfold eCount; rw [hn, hs1])
 have Hapi.Txn := Lib.hid (show eList eTxn s = eMany eTxn n.toNat (eCount s) by unfold eList; rw [hn])
 rw [hn, hs1] at HN
 rw [hs1] at HOK
 clear hI hB hok hn hs1
 go_enter Tryz.func113, Tryz.ntmps113
 go_wp2_with fail
 refine HN.out.mono ?_
 rintro e w1 ⟨rfl, h1, h2, h3⟩
 have H1 := Lib.hid h1; have H2 := Lib.hid h2; have H3 := Lib.hid h3
 clear h1 h2 h3 HN
 go_upto_region 2 with fail
 go_cut [] (fun wx => IsEye w0 wx x (eCount s) ∧ Below w0.heap.size w0 wx ∧ KeepS (fun i => i = x) w wx)
 case first =>
  by_cases ha : n < 0
  ·have hq : decide (n < 0) = true := decide_eq_true ha
   have HW := Lib.hid (eWrong_is H1.out H2.out true)
   have HC2 := Lib.hid (show eCount s = eWrong true s1 by rw [HCT.out, hq, Bool.true_or])
   clear ha
   go_wp2_with fail
   refine HW.out.mono ?_
   rintro e w2 ⟨rfl, h1, h2, h3⟩
   have G1 := Lib.hid h1; have G2 := Lib.hid h2; have G3 := Lib.hid (H3.out.trans h3)
   clear h1 h2 h3
   go_wp2_with fail
   go_meet
   exact ⟨by rw [HC2.out]; exact G1.out, G2.out, G3.out⟩
  ·have hq : decide (n < 0) = false := decide_eq_false ha
   obtain ⟨b, hb⟩ : ∃ b, decide ((4096 : Int) < n) = b := ⟨_, rfl⟩
   have HW := Lib.hid (eWrong_is H1.out H2.out b)
   have HC2 := Lib.hid (show eCount s = eWrong b s1 by rw [HCT.out, hq, hb, Bool.false_or])
   clear ha
   go_wp2_with fail
   refine HW.out.mono ?_
   rintro e w2 ⟨rfl, h1, h2, h3⟩
   have G1 := Lib.hid h1; have G2 := Lib.hid h2; have G3 := Lib.hid (H3.out.trans h3)
   clear h1 h2 h3
   go_wp2_with fail
   go_meet
   exact ⟨by rw [HC2.out]; exact G1.out, G2.out, G3.out⟩
 case rest =>
  obtain ⟨h1, h2, h3⟩ := hcut
  have G1 := Lib.hid h1; have G2 := Lib.hid h2; have G3 := Lib.hid h3
  have HE0 := Lib.hid (show (eCount s).e = 0 → n ≤ 4096 by
   intro h
   rw [HCT.out] at h
   by_cases h5 : (4096 : Int) < n
   ·rw [decide_eq_true h5, Bool.or_true] at h
    unfold eWrong at h
    split at h
    ·cases h
    ·next h6 => exact absurd ⟨h, rfl⟩ h6
   ·omega)
  have HOC := Lib.hid (show okS (eCount s) by rw [HCT.out]; exact okS_wrong _ HOK.out)
  clear h1 h2 h3
  go_wp2_with fail
  go_loopw [6, 7] (fun v i wr => LiI_txns eTxn n s w0 w x v i wr) (fun _ i _ => n.toNat - (intOf i).toNat)
  case atStart => exact ⟨[], eCount s, rfl, by simp, by simp, HE0.out, Kd.S_nil _ _ _ _ _, G1.out, G2.out, G3.out, HOC.out, by simpa using Hapi.Txn.out⟩
  case round =>
   obtain ⟨U, s2, rfl, hU, hUn, hE, hS, hI, hB, hK, hO, hF⟩ := hrel
   have HI := Lib.hid hI; have HB := Lib.hid hB; have HK := Lib.hid hK; have HO := Lib.hid hO; have HF := Lib.hid hF; have HS := Lib.hid hS; have HUN := Lib.hid hUn; have HE := Lib.hid hE
   obtain ⟨Av, cv, rfl⟩ := Kd.S_slice hS
   obtain ⟨A, c, g1, g2, g3, g4⟩ := hI
   have c1 : wr.cell? ⟨x, 1, none⟩ = some (.int .i64 s2.e) := by simp [World.cell?, g1]
   clear hB hK hO hF hS hUn hE g1 g2 g3 g4
   by_cases hlt : (U.length : Int) < n
   ·by_cases he : s2.e = 0
    ·have hq1 : decide ((U.length : Int) < n) = true := decide_eq_true hlt
     have hq2 : (s2.e == 0) = true := by rw [he]; rfl
     have HN4 := Lib.hid (HE.out he)
     have HG := Lib.hid (eTxn_is HI.out HB.out HO.out)
     have HGO := Lib.hid (okS_txn HO.out)
     obtain ⟨y, hy⟩ : ∃ y, (eTxn s2).1 = y := ⟨_, rfl⟩
     obtain ⟨s3, hs3⟩ : ∃ s3, (eTxn s2).2 = s3 := ⟨_, rfl⟩
     have HF2 := Lib.hid (show eList eTxn s = ((U ++ [y]) ++ (eMany eTxn (n.toNat - (U ++ [y]).length) s3).1, (eMany eTxn (n.toNat - (U ++ [y]).length) s3).2) by
      rw [HF.out]
      have e1 : n.toNat - U.length = (n.toNat - (U ++ [y]).length) + 1 := by simp; omega
      rw [e1]
      simp only [eMany, he, if_true, hy, hs3, List.append_assoc, List.singleton_append])
     have HLT2 := Lib.hid hlt
     rw [hy, hs3] at HG
     rw [hs3] at HGO
     clear hlt he hy hs3
     go_wp2_with fail
     refine HG.out.mono ?_
     rintro e w3 ⟨v2, v3, v4, v5, rfl, r2, r3, r4, r5, h1, h2, h3⟩
     obtain ⟨A2, c2, rfl⟩ := Kd.R_slice r2
     obtain ⟨A3, c3, rfl⟩ := Kd.R_slice r3
     obtain ⟨A4, c4, rfl⟩ := Kd.R_slice r4
     obtain ⟨A5, c5, rfl⟩ := Kd.R_slice r5
     have HBW := Lib.hid (show w.heap.size ≤ wr.heap.size from HK.out.size)
     have R2 := Lib.hid (show Kd.R (Kd.int .u8) 5 w3 w.heap.size (fun k => wr.heap.size ≤ k) _ y.f2 from Kd.R_mono (Kd.R_lower (Kd.R_bound r2) HBW.out) (fun k hk => hk.2.1))
     have R3 := Lib.hid (show Kd.R (Kd.int .i64) 2 w3 w.heap.size (fun k => wr.heap.size ≤ k) _ y.f3 from Kd.R_mono (Kd.R_lower (Kd.R_bound r3) HBW.out) (fun k hk => hk.2.1))
     have R4 := Lib.hid (show Kd.R G.k101 101 w3 w.heap.size (fun k => wr.heap.size ≤ k) _ y.f4 from Kd.R_mono (Kd.R_lower (Kd.R_bound r4) HBW.out) (fun k hk => hk.2.1))
     have R5 := Lib.hid (show Kd.R G.k101 101 w3 w.heap.size (fun k => wr.heap.size ≤ k) _ y.f5 from Kd.R_mono (Kd.R_lower (Kd.R_bound r5) HBW.out) (fun k hk => hk.2.1))
     have HS3 := Lib.hid (show Kd.S G.k26 26 w3 w.heap.size (fun k => True ∧ ¬ wr.heap.size ≤ k) (.slice Av U.length cv) U from Kd.S_mono (Kd.S_step (Kd.S_bound HS.out) (fun k hk2 hlt => h3.block k hlt (fun e => by have := hk2.2.1; have := HLT.out; omega))) (fun k hk => ⟨trivial, by have := hk.2.2.1; omega⟩))
     have HOWN := Lib.hid (Kd.S_lt HS.out)
     have HZ3 := Lib.hid (Nat.le_trans HK.out.size h3.size)
     have K1 := Lib.hid h1; have K2 := Lib.hid h2; have K3 := Lib.hid (HK.out.trans h3)
     clear h1 h2 h3 r2 r3 r4 r5
     go_wp2_with ((with_reducible refine gate_builtin (b := .append) (xs := #[.tmp 30, .tmp 33]) rfl ?_); at_builtin; refine Kd.S_append G.k26 (w0 := w3) w.heap.size rfl (.tmp 30) (.tmp 33) 27 26 (.agg #[.int .i64 0, .int .i64 0, .slice none 0 0, .slice none 0 0, .slice none 0 0, .slice none 0 0]) 112 rfl Tryz.underlying27 G.info26 rfl (by decide) (by omega) _ U y [.int .i64 y.f0, .int .i64 y.f1, .slice A2 y.f2.length c2, .slice A3 y.f3.length c3, .slice A4 y.f4.length c4, .slice A5 y.f5.length c5] (fun _ => True) (fun k => wr.heap.size ≤ k) rfl rfl (G.k26_mkM _ _ _ y R2.out R3.out R4.out R5.out) (fun k hk => ⟨trivial, fun e => by have := HOWN.out k e.symm; omega⟩) (fun _ _ => trivial) HS3.out (Below.refl _ _) HZ3.out (by omega) ?_; intro v1 w5 ho hb5 hg5 hat; obtain ⟨A9, c9, rfl⟩ := Kd.S_slice ho; have HS5 := Lib.hid ho; have HK5 := Lib.hid (K3.out.then_base hb5); have HI5 := Lib.hid (K1.out.at (hb5.block x HLT.out)); have HB5 := Lib.hid (K2.out.trans (hb5.mono HGEW.out)); clear ho hb5 hg5 hat)
     go_roundw
     case rel =>
      refine ⟨U ++ [y], s3, by rw [List.length_append]; go_num, ?_, ?_, fun _ => HN4.out, (by have h9 := HS5.out; rw [List.length_append] at h9; exact h9), HI5.out, HB5.out, HK5.out, HGO.out, HF2.out⟩
      ·have h1 := HN4.out; have h2 := HLT2.out
       rw [List.length_append, List.length_singleton]
       omega
      ·have h2 := HLT2.out
       rw [List.length_append, List.length_singleton]
       omega
     case measure => simp [intOf]; have h2 := HLT2.out; omega
    ·have hq1 : decide ((U.length : Int) < n) = true := decide_eq_true hlt
     have hq2 : (s2.e == 0) = false := beq_eq_false_iff_ne.2 he
     have HF2 := Lib.hid (show eList eTxn s = (U, s2) by rw [HF.out, eMany_stop he, List.append_nil])
     clear hlt he
     go_wp2_with fail
     go_ret
     exact ⟨_, rfl, by rw [HF2.out]; exact HS.out, by rw [HF2.out]; exact HI.out, HB.out, HK.out⟩
   ·have hq1 : decide ((U.length : Int) < n) = false := decide_eq_false hlt
    have HF2 := Lib.hid (show eList eTxn s = (U, s2) by
     have e1 : n.toNat - U.length = 0 := by omega
     rw [HF.out, e1]
     simp only [eMany, List.append_nil])
    clear hlt
    go_wp2_with fail
    go_ret
    exact ⟨_, rfl, by rw [HF2.out]; exact HS.out, by rw [HF2.out]; exact HI.out, HB.out, HK.out⟩
end Go.Proofs.YtgiefblcckikeaaGreat.M
end

section
/- The eye: an entry (printed by geneyee04.py). -/
attribute [local irreducible] Go.wpStill
namespace Go.Proofs.YtgiefblcckikeaaGreat.M
open Go.RowKit Go.Proofs.YtgiefblcckikeaaGreatW.PrintWords Go.Proofs.YtgiefblcckikeaaGreatW.PrintLast Go.Proofs.YtgiefblcckikeaaGreatW.PrintMore Go.Proofs.YtgiefblcckikeaaGreat.G
abbrev EnD := Int × Int × Int × List TxD
def eKind (s : EyeS) : EyeS := eWrong (decide ((eNum s).1 ≠ 0) && decide ((eNum s).1 ≠ 1)) (eNum s).2
def eBody (s : EyeS) : EnD × EyeS := ((1, (eSmall s).1, (eNum (eSmall s).2).1, (eList eTxn (eNum (eSmall s).2).2).1), (eList eTxn (eNum (eSmall s).2).2).2)
def eEntry (s : EyeS) : EnD × EyeS := if ¬ (eKind s).e = 0 ∨ (eNum s).1 = 0 then ((0, 0, 0, []), eKind s) else eBody (eKind s)
theorem okS_kind {s : EyeS} (h : okS s) : okS (eKind s) := okS_wrong _ (okS_num h)
def EnP (w0 w : World) (x : Nat) (y : EnD) (s' : EyeS) (e : Ending) (w' : World) : Prop := ∃ v : Value, e = .returned (.agg #[.int .i64 y.1, .int .i64 y.2.1, .int .i64 y.2.2.1, v]) ∧ Kd.S G.k26 26 w' w.heap.size (fun _ => True) v y.2.2.2 ∧ IsEye w0 w' x s' ∧ Below w0.heap.size w0 w' ∧ KeepS (fun i => i = x) w w'
abbrev zEnt : Obj := .cells #[.int .i64 0, .int .i64 0, .int .i64 0, .slice none 0 0] 29
set_option maxHeartbeats 4000000 in
theorem eEntry_is {w0 w : World} {x : Nat} {s : EyeS} (hI : IsEye w0 w x s) (hB : Below w0.heap.size w0 w) (hok : okS s) :
  Calls Tryz.prog 54 #[.pointer (some ⟨x, 0, none⟩)] w fun e w' => EnP w0 w x (eEntry s).1 (eEntry s).2 e w' := by
 have hbx := heap_alloc_new w zEnt
 have hb1 := (Below.refl _ w).alloc (Nat.le_refl _) zEnt
 have HLT := Lib.hid (show x < w.heap.size from hI.lt); have HGEW := Lib.hid (show w0.heap.size ≤ w.heap.size from hB.size)
 have HN := Lib.hid (eNum_is (hI.below hb1) (hB.alloc hB.size _) hok)
 have HK1 := Lib.hid (KeepS.of_below (fun i => i = x) hb1)
 have HOK := Lib.hid (okS_kind hok)
 obtain ⟨k, hk⟩ : ∃ k, (eNum s).1 = k := ⟨_, rfl⟩
 obtain ⟨s1, hs1⟩ : ∃ s1, (eNum s).2 = s1 := ⟨_, rfl⟩
 have HKD := Lib.hid (show eKind s = eWrong (decide (k ≠ 0) && decide (k ≠ 1)) s1 by unfold eKind; rw [hk, hs1])
 have HF := Lib.hid (show eEntry s = if ¬ (eKind s).e = 0 ∨ k = 0 then ((0, 0, 0, []), eKind s) else eBody (eKind s) by unfold eEntry; rw [hk])
 rw [hk, hs1] at HN
 have HBX := Lib.hid hbx
 have HZ := Lib.hid (show w.heap.size < (w.alloc zEnt).heap.size by simp)
 clear hk hs1 hI hB hok hbx hb1
 go_enter Tryz.func54, Tryz.ntmps54
 go_wp2_with fail
 refine HN.out.mono ?_
 rintro e w1 ⟨rfl, h1, h2, h3⟩
 have H1 := Lib.hid h1; have H2 := Lib.hid h2
 have HZ1 := Lib.hid (Nat.lt_of_lt_of_le HZ.out h3.size)
 have HB1 := Lib.hid ((h3.block w.heap.size HZ.out (by have := HLT.out; omega)).trans HBX.out)
 have HK2 := Lib.hid (HK1.out.trans h3)
 clear h1 h2 h3
 go_upto_region 2 with fail
 go_cut [] (fun wx => IsEye w0 wx x (eKind s) ∧ Below w0.heap.size w0 wx ∧ KeepS (fun i => i = x) w1 wx)
 case first =>
  by_cases ha : k = 0
  ·have hq : (k != 0) = false := by rw [ha]; rfl
   have HW := Lib.hid (eWrong_is H1.out H2.out false)
   have HC2 := Lib.hid (show eKind s = eWrong false s1 by rw [HKD.out, decide_eq_false (fun h => h ha), Bool.false_and])
   clear ha
   go_wp2_with fail
   refine HW.out.mono ?_
   rintro e w2 ⟨rfl, h1, h2, h3⟩
   have G1 := Lib.hid h1; have G2 := Lib.hid h2; have G3 := Lib.hid h3
   clear h1 h2 h3
   go_wp2_with fail
   go_meet
   exact ⟨by rw [HC2.out]; exact G1.out, G2.out, G3.out⟩
  ·have hq : (k != 0) = true := bne_iff_ne.2 ha
   obtain ⟨b, hb⟩ : ∃ b, (k != 1) = b := ⟨_, rfl⟩
   have HW := Lib.hid (eWrong_is H1.out H2.out b)
   have HC2 := Lib.hid (show eKind s = eWrong b s1 by
    rw [HKD.out, decide_eq_true ha, Bool.true_and]
    have : decide (k ≠ 1) = b := by
     rw [← hb, Bool.eq_iff_iff, decide_eq_true_eq, bne_iff_ne]
    rw [this])
   clear ha
   go_wp2_with fail
   refine HW.out.mono ?_
   rintro e w2 ⟨rfl, h1, h2, h3⟩
   have G1 := Lib.hid h1; have G2 := Lib.hid h2; have G3 := Lib.hid h3
   clear h1 h2 h3
   go_wp2_with fail
   go_meet
   exact ⟨by rw [HC2.out]; exact G1.out, G2.out, G3.out⟩
 case rest =>
  obtain ⟨h1, h2, h3⟩ := hcut
  obtain ⟨w2, rfl⟩ : ∃ w2, w2 = wc := ⟨_, rfl⟩
  have HIX := Lib.hid h1; have HDX := Lib.hid h2
  have HZ2 := Lib.hid (Nat.lt_of_lt_of_le HZ1.out h3.size)
  have HB2 := Lib.hid ((h3.block w.heap.size HZ1.out (by have := HLT.out; omega)).trans HB1.out)
  have HQX := Lib.hid (HK2.out.trans h3)
  obtain ⟨s2, hs2⟩ : ∃ s2, eKind s = s2 := ⟨_, rfl⟩
  rw [hs2] at HIX HF HOK
  have HIX := Lib.hid HIX.out
  have c1 : w2.cell? ⟨x, 1, none⟩ = some (.int .i64 s2.e) := by
   obtain ⟨A, c, g1, _⟩ := HIX.out
   simp [World.cell?, g1]
  have x0 : w2.cell? ⟨w.heap.size, 0, none⟩ = some (.int .i64 0) := by simp [World.cell?, HB2.out]
  have x1 : w2.cell? ⟨w.heap.size, 1, none⟩ = some (.int .i64 0) := by simp [World.cell?, HB2.out]
  have x2 : w2.cell? ⟨w.heap.size, 2, none⟩ = some (.int .i64 0) := by simp [World.cell?, HB2.out]
  have x3 : w2.cell? ⟨w.heap.size, 3, none⟩ = some (.slice none 0 0) := by simp [World.cell?, HB2.out]
  obtain ⟨y0, y1, y2, y3⟩ := bf4 HB2.out
  clear h1 h2 h3 hs2 HN HK1 HBX H1 H2 HB1 HK2 HZ HKD
  by_cases he : s2.e = 0
  ·have hq1 : (s2.e != 0) = false := by rw [he]; rfl
   by_cases hk : k = 0
   ·have hq2 : (k == 0) = true := by rw [hk]; rfl
    have HR := Lib.hid (show eEntry s = ((0, 0, 0, []), s2) by rw [HF.out, if_pos (.inr hk)])
    clear he hk
    go_wp2_with fail
    have HEB := Lib.hid (blk_put (cs := #[.int .i64 0, .int .i64 0, .int .i64 0, .slice none 0 0]) (blk_put (cs := #[.int .i64 0, .int .i64 0, .int .i64 0, .slice none 0 0]) (blk_put (cs := #[.int .i64 0, .int .i64 0, .int .i64 0, .slice none 0 0]) (blk_put (cs := #[.int .i64 0, .int .i64 0, .int .i64 0, .slice none 0 0]) (HB2.out) 0 (.int .i64 0) rfl) 1 (.int .i64 0) rfl) 2 (.int .i64 0) rfl) 3 (.slice none 0 0) rfl)
    have HKS := Lib.hid ((((((KeepS.refl (fun i => i = w.heap.size) w2)).set (p := ⟨w.heap.size, 0, none⟩) (.inl rfl) (.int .i64 0)).set (p := ⟨w.heap.size, 1, none⟩) (.inl rfl) (.int .i64 0)).set (p := ⟨w.heap.size, 2, none⟩) (.inl rfl) (.int .i64 0)).set (p := ⟨w.heap.size, 3, none⟩) (.inl rfl) (.slice none 0 0))
    obtain ⟨W, hW⟩ : ∃ W, ((((w2).setCell ⟨w.heap.size, 0, none⟩ (.int .i64 0)).setCell ⟨w.heap.size, 1, none⟩ (.int .i64 0)).setCell ⟨w.heap.size, 2, none⟩ (.int .i64 0)).setCell ⟨w.heap.size, 3, none⟩ (.slice none 0 0) = W := ⟨_, rfl⟩
    rw [hW] at HEB HKS ⊢
    clear hW
    refine bodyPost_ret (results_cell_row rfl _ _ w.heap.size 29 #[.int .i64 0, .int .i64 0, .int .i64 0, .slice none 0 0] (0, 0) _ rfl HEB.out Tryz.underlying29 rfl (by kernel_rfl)) rfl ?_
    rw [HR.out]
    have hz := HZ2.out
    have hlt := HLT.out
    have hgw := HGEW.out
    exact ⟨_, rfl, Kd.S_nil _ _ _ _ _, HIX.out.at (HKS.out.block x (by omega) (by show ¬ x = w.heap.size; omega)), HDX.out.trans (HKS.out.below (B := w0.heap.size) HDX.out.size (by rintro i rfl; omega)), HQX.out.then_base (HKS.out.below (B := w.heap.size) (by omega) (by rintro i rfl; omega))⟩
   ·have hq2 : (k == 0) = false := beq_eq_false_iff_ne.2 hk
    have HR := Lib.hid (show eEntry s = eBody s2 by rw [HF.out, if_neg (fun h => h.elim (fun h => h he) hk)])
    clear he hk
    obtain ⟨r, HR0⟩ : ∃ r, eBody s2 = r := ⟨_, rfl⟩
    have HR1 := HR0
    unfold eBody at HR1
    have ho2 := HOK.out
    obtain ⟨f, hf⟩ : ∃ f, (eSmall s2).1 = f := ⟨_, rfl⟩
    obtain ⟨s3, hs3⟩ : ∃ s3, (eSmall s2).2 = s3 := ⟨_, rfl⟩
    have ho3 := okS_small ho2
    rw [hf, hs3] at HR1
    rw [hs3] at ho3
    obtain ⟨n, hn⟩ : ∃ n, (eNum s3).1 = n := ⟨_, rfl⟩
    obtain ⟨s4, hs4⟩ : ∃ s4, (eNum s3).2 = s4 := ⟨_, rfl⟩
    have ho4 := okS_num ho3
    rw [hn, hs4] at HR1
    rw [hs4] at ho4
    obtain ⟨l, hl⟩ : ∃ l, (eList eTxn s4).1 = l := ⟨_, rfl⟩
    obtain ⟨s5, hs5⟩ : ∃ s5, (eList eTxn s4).2 = s5 := ⟨_, rfl⟩
    rw [hl, hs5] at HR1
    have HR2 := Lib.hid (show eEntry s = _ from HR.out.trans (HR0.trans HR1.symm))
    have HO1 := Lib.hid ho2; have HO2 := Lib.hid ho3; have HO3 := Lib.hid ho4
    have HE1 := Lib.hid (And.intro hf hs3); have HE2 := Lib.hid (And.intro hn hs4); have HE3 := Lib.hid (And.intro hl hs5)
    clear hf hs3 hn hs4 hl hs5 ho2 ho3 ho4 HR HR0 HR1 HF HOK y0 y1 y2 y3 x0 x1 x2 x3
    go_wp2_with fail
    have hby := heap_alloc_new w2 (.cells #[.int .i64 1, .int .i64 0, .int .i64 0, .slice none 0 0] 29)
    have hay := (Below.refl _ w2).alloc (Nat.le_refl _) (.cells #[.int .i64 1, .int .i64 0, .int .i64 0, .slice none 0 0] 29)
    have hzy : (w2.alloc (.cells #[.int .i64 1, .int .i64 0, .int .i64 0, .slice none 0 0] 29)).heap.size = w2.heap.size + 1 := by simp
    obtain ⟨w4, hw4⟩ : ∃ w4, w2.alloc (.cells #[.int .i64 1, .int .i64 0, .int .i64 0, .slice none 0 0] 29) = w4 := ⟨_, rfl⟩
    rw [hw4] at hby hay hzy ⊢
    obtain ⟨g, hg⟩ : ∃ g, w2.heap.size = g := ⟨_, rfl⟩
    have HI4 := Lib.hid (HIX.out.below hay)
    have HD4 := Lib.hid (HDX.out.trans (hay.mono HDX.out.size))
    have HB4 := Lib.hid ((hay.block w.heap.size HZ2.out).trans HB2.out)
    have HQ4 := Lib.hid (HQX.out.then_below hay)
    rw [hg] at hby hzy HZ2 ⊢
    have HY4 := Lib.hid hby
    have HGZ := Lib.hid (show w.heap.size < g ∧ x < w.heap.size from ⟨HZ2.out, HLT.out⟩)
    have HZZ4 := Lib.hid (show g < w4.heap.size by omega)
    clear hw4 hg hby hay hzy HIX HDX HB2 HQX c1
    have h4 := eSmall_is HI4.out HD4.out HO1.out
    rw [HE1.out.1, HE1.out.2] at h4
    have HNN1 := Lib.hid h4
    clear h4
    refine HNN1.out.mono ?_
    rintro e w5 ⟨rfl, h1, h2, h3⟩
    have HB5 := Lib.hid ((h3.block w.heap.size (by have := HGZ.out; have := HZZ4.out; omega) (by have := HGZ.out; omega)).trans HB4.out)
    have HY5 := Lib.hid ((h3.block g HZZ4.out (by have := HGZ.out; omega)).trans HY4.out)
    have HQ5 := Lib.hid (HQ4.out.trans h3)
    have HZZ5 := Lib.hid (Nat.lt_of_lt_of_le HZZ4.out h3.size)
    have HI5 := Lib.hid h1
    have HD5 := Lib.hid h2
    have d1 : w5.cell? ⟨g, 1, none⟩ = some (.int .i64 0) := by simp [World.cell?, HY5.out]
    have z1 : w5.frozen? ⟨g, 1, none⟩ = false := by simp [World.frozen?, HY5.out]
    clear h1 h2 h3 HNN1
    go_wp2_with fail
    have HY6 := Lib.hid (blk_put (cs := #[.int .i64 1, .int .i64 0, .int .i64 0, .slice none 0 0]) HY5.out 1 (.int .i64 f) rfl)
    have HB6 := Lib.hid ((Below.heap_setCell w5 ⟨g, 1, none⟩ (.int .i64 f) w.heap.size (by have := HGZ.out; simp; omega)).trans HB5.out)
    have HI6 := Lib.hid (HI5.out.at (Below.heap_setCell w5 ⟨g, 1, none⟩ (.int .i64 f) x (by have := HGZ.out; simp; omega)))
    have HD6 := Lib.hid (HD5.out.setCell (p := ⟨g, 1, none⟩) (by have := HGZ.out; have := HGEW.out; simp; omega) (.int .i64 f))
    have HQ6 := Lib.hid (HQ5.out.set (p := ⟨g, 1, none⟩) (.inr (by have := HGZ.out; simp; omega)) (.int .i64 f))
    have HZZ6 := Lib.hid (show g < (w5.setCell ⟨g, 1, none⟩ (.int .i64 f)).heap.size by rw [World.size_setCell]; exact HZZ5.out)
    obtain ⟨w6, hw6⟩ : ∃ w6, w5.setCell ⟨g, 1, none⟩ (.int .i64 f) = w6 := ⟨_, rfl⟩
    rw [hw6] at HY6 HB6 HI6 HD6 HQ6 HZZ6 ⊢
    clear hw6 HY5 HB5 HI5 HD5 HQ5 HZZ5 d1 z1
    have h4 := eNum_is HI6.out HD6.out HO2.out
    rw [HE2.out.1, HE2.out.2] at h4
    have HNN2 := Lib.hid h4
    clear h4
    refine HNN2.out.mono ?_
    rintro e w7 ⟨rfl, h1, h2, h3⟩
    have HB7 := Lib.hid ((h3.block w.heap.size (by have := HGZ.out; have := HZZ6.out; omega) (by have := HGZ.out; omega)).trans HB6.out)
    have HY7 := Lib.hid ((h3.block g HZZ6.out (by have := HGZ.out; omega)).trans HY6.out)
    have HQ7 := Lib.hid (HQ6.out.trans h3)
    have HZZ7 := Lib.hid (Nat.lt_of_lt_of_le HZZ6.out h3.size)
    have HI7 := Lib.hid h1
    have HD7 := Lib.hid h2
    have d2 : w7.cell? ⟨g, 2, none⟩ = some (.int .i64 0) := by simp [World.cell?, HY7.out]
    have z2 : w7.frozen? ⟨g, 2, none⟩ = false := by simp [World.frozen?, HY7.out]
    clear h1 h2 h3 HNN2
    go_wp2_with fail
    have HY8 := Lib.hid (blk_put (cs := #[.int .i64 1, .int .i64 f, .int .i64 0, .slice none 0 0]) HY7.out 2 (.int .i64 n) rfl)
    have HB8 := Lib.hid ((Below.heap_setCell w7 ⟨g, 2, none⟩ (.int .i64 n) w.heap.size (by have := HGZ.out; simp; omega)).trans HB7.out)
    have HI8 := Lib.hid (HI7.out.at (Below.heap_setCell w7 ⟨g, 2, none⟩ (.int .i64 n) x (by have := HGZ.out; simp; omega)))
    have HD8 := Lib.hid (HD7.out.setCell (p := ⟨g, 2, none⟩) (by have := HGZ.out; have := HGEW.out; simp; omega) (.int .i64 n))
    have HQ8 := Lib.hid (HQ7.out.set (p := ⟨g, 2, none⟩) (.inr (by have := HGZ.out; simp; omega)) (.int .i64 n))
    have HZZ8 := Lib.hid (show g < (w7.setCell ⟨g, 2, none⟩ (.int .i64 n)).heap.size by rw [World.size_setCell]; exact HZZ7.out)
    obtain ⟨w8, hw8⟩ : ∃ w8, w7.setCell ⟨g, 2, none⟩ (.int .i64 n) = w8 := ⟨_, rfl⟩
    rw [hw8] at HY8 HB8 HI8 HD8 HQ8 HZZ8 ⊢
    clear hw8 HY7 HB7 HI7 HD7 HQ7 HZZ7 d2 z2
    have h4 := eList_txns HI8.out HD8.out HO3.out
    rw [HE3.out.1, HE3.out.2] at h4
    have HNN3 := Lib.hid h4
    clear h4
    refine HNN3.out.mono ?_
    rintro e w9 ⟨vl, rfl, hv, h1, h2, h3⟩
    obtain ⟨Al, cl, rfl⟩ := Kd.S_slice hv
    have HV := Lib.hid (show Kd.S G.k26 26 w9 w.heap.size (fun k => k ≠ g ∧ k ≠ w.heap.size) _ l from Kd.S_mono (Kd.S_lower (Kd.S_bound hv) HQ8.out.size) (fun k hk => by
     have h7 := hk.2.1; have h9 := HGZ.out; have h8 := HZZ8.out; constructor <;> omega))
    clear hv
    have HB9 := Lib.hid ((h3.block w.heap.size (by have := HGZ.out; have := HZZ8.out; omega) (by have := HGZ.out; omega)).trans HB8.out)
    have HY9 := Lib.hid ((h3.block g HZZ8.out (by have := HGZ.out; omega)).trans HY8.out)
    have HQ9 := Lib.hid (HQ8.out.trans h3)
    have HZZ9 := Lib.hid (Nat.lt_of_lt_of_le HZZ8.out h3.size)
    have HI9 := Lib.hid h1
    have HD9 := Lib.hid h2
    have d3 : w9.cell? ⟨g, 3, none⟩ = some (.slice none 0 0) := by simp [World.cell?, HY9.out]
    have z3 : w9.frozen? ⟨g, 3, none⟩ = false := by simp [World.frozen?, HY9.out]
    clear h1 h2 h3 HNN3
    have d0 : w9.cell? ⟨g, 0, none⟩ = some (.int .i64 1) := by simp [World.cell?, HY9.out]
    have d1 : w9.cell? ⟨g, 1, none⟩ = some (.int .i64 f) := by simp [World.cell?, HY9.out]
    have d2 : w9.cell? ⟨g, 2, none⟩ = some (.int .i64 n) := by simp [World.cell?, HY9.out]
    have x0 : w9.cell? ⟨w.heap.size, 0, none⟩ = some (.int .i64 0) := by simp [World.cell?, HB9.out]
    have x1 : w9.cell? ⟨w.heap.size, 1, none⟩ = some (.int .i64 0) := by simp [World.cell?, HB9.out]
    have x2 : w9.cell? ⟨w.heap.size, 2, none⟩ = some (.int .i64 0) := by simp [World.cell?, HB9.out]
    have x3 : w9.cell? ⟨w.heap.size, 3, none⟩ = some (.slice none 0 0) := by simp [World.cell?, HB9.out]
    obtain ⟨y0, y1, y2, y3⟩ := bf4 HB9.out
    have HGN : w.heap.size ≠ g := by have := HGZ.out; omega
    go_wp2_with fail
    have HEB := Lib.hid (blk_put (cs := #[.int .i64 1, .int .i64 f, .int .i64 n, .slice none 0 0]) (blk_put (cs := #[.int .i64 1, .int .i64 f, .int .i64 0, .slice none 0 0]) (blk_put (cs := #[.int .i64 1, .int .i64 0, .int .i64 0, .slice none 0 0]) (blk_put (cs := #[.int .i64 0, .int .i64 0, .int .i64 0, .slice none 0 0]) ((Below.heap_setCell w9 ⟨g, 3, none⟩ (.slice Al l.length cl) w.heap.size HGN).trans HB9.out) 0 (.int .i64 1) rfl) 1 (.int .i64 f) rfl) 2 (.int .i64 n) rfl) 3 (.slice Al l.length cl) rfl)
    have HKS := Lib.hid (((((((KeepS.refl (fun i => i = g ∨ i = w.heap.size) w9)).set (p := ⟨g, 3, none⟩) (.inl (.inl rfl)) (.slice Al l.length cl)).set (p := ⟨w.heap.size, 0, none⟩) (.inl (.inr rfl)) (.int .i64 1)).set (p := ⟨w.heap.size, 1, none⟩) (.inl (.inr rfl)) (.int .i64 f)).set (p := ⟨w.heap.size, 2, none⟩) (.inl (.inr rfl)) (.int .i64 n)).set (p := ⟨w.heap.size, 3, none⟩) (.inl (.inr rfl)) (.slice Al l.length cl))
    obtain ⟨W, hW⟩ : ∃ W, ((((w9.setCell ⟨g, 3, none⟩ (.slice Al l.length cl)).setCell ⟨w.heap.size, 0, none⟩ (.int .i64 1)).setCell ⟨w.heap.size, 1, none⟩ (.int .i64 f)).setCell ⟨w.heap.size, 2, none⟩ (.int .i64 n)).setCell ⟨w.heap.size, 3, none⟩ (.slice Al l.length cl) = W := ⟨_, rfl⟩
    rw [hW] at HEB HKS ⊢
    clear hW
    refine bodyPost_ret (results_cell_row rfl _ _ w.heap.size 29 #[.int .i64 1, .int .i64 f, .int .i64 n, .slice Al l.length cl] (0, 0) _ rfl HEB.out Tryz.underlying29 rfl (by kernel_rfl)) rfl ?_
    rw [HR2.out]
    have hq := HQ9.out.size
    have hgz := HGZ.out
    refine ⟨_, rfl, Kd.S_mono (Kd.S_step HV.out (fun k hk hlt => HKS.out.block k hlt ?_)) (fun _ _ => trivial), HI9.out.at (HKS.out.block x (by omega) ?_), HD9.out.trans (HKS.out.below (B := w0.heap.size) HD9.out.size ?_), HQ9.out.then_base (HKS.out.below (B := w.heap.size) hq ?_)⟩
    ·rintro (h | h); exact hk.1 h; exact hk.2 h
    ·rintro (h | h) <;> omega
    ·have := HGEW.out
     rintro i (h | h) <;> omega
    ·rintro i (h | h) <;> omega
  ·have hq1 : (s2.e != 0) = true := bne_iff_ne.2 he
   have HR := Lib.hid (show eEntry s = ((0, 0, 0, []), s2) by rw [HF.out, if_pos (.inl he)])
   clear he
   go_wp2_with fail
   have HEB := Lib.hid (blk_put (cs := #[.int .i64 0, .int .i64 0, .int .i64 0, .slice none 0 0]) (blk_put (cs := #[.int .i64 0, .int .i64 0, .int .i64 0, .slice none 0 0]) (blk_put (cs := #[.int .i64 0, .int .i64 0, .int .i64 0, .slice none 0 0]) (blk_put (cs := #[.int .i64 0, .int .i64 0, .int .i64 0, .slice none 0 0]) (HB2.out) 0 (.int .i64 0) rfl) 1 (.int .i64 0) rfl) 2 (.int .i64 0) rfl) 3 (.slice none 0 0) rfl)
   have HKS := Lib.hid ((((((KeepS.refl (fun i => i = w.heap.size) w2)).set (p := ⟨w.heap.size, 0, none⟩) (.inl rfl) (.int .i64 0)).set (p := ⟨w.heap.size, 1, none⟩) (.inl rfl) (.int .i64 0)).set (p := ⟨w.heap.size, 2, none⟩) (.inl rfl) (.int .i64 0)).set (p := ⟨w.heap.size, 3, none⟩) (.inl rfl) (.slice none 0 0))
   obtain ⟨W, hW⟩ : ∃ W, ((((w2).setCell ⟨w.heap.size, 0, none⟩ (.int .i64 0)).setCell ⟨w.heap.size, 1, none⟩ (.int .i64 0)).setCell ⟨w.heap.size, 2, none⟩ (.int .i64 0)).setCell ⟨w.heap.size, 3, none⟩ (.slice none 0 0) = W := ⟨_, rfl⟩
   rw [hW] at HEB HKS ⊢
   clear hW
   refine bodyPost_ret (results_cell_row rfl _ _ w.heap.size 29 #[.int .i64 0, .int .i64 0, .int .i64 0, .slice none 0 0] (0, 0) _ rfl HEB.out Tryz.underlying29 rfl (by kernel_rfl)) rfl ?_
   rw [HR.out]
   have hz := HZ2.out
   have hlt := HLT.out
   have hgw := HGEW.out
   exact ⟨_, rfl, Kd.S_nil _ _ _ _ _, HIX.out.at (HKS.out.block x (by omega) (by show ¬ x = w.heap.size; omega)), HDX.out.trans (HKS.out.below (B := w0.heap.size) HDX.out.size (by rintro i rfl; omega)), HQX.out.then_base (HKS.out.below (B := w.heap.size) (by omega) (by rintro i rfl; omega))⟩
end Go.Proofs.YtgiefblcckikeaaGreat.M
end
