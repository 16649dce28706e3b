/- SkipSameSaid: contracts of the functions that the law goes through, put together in build order (part 3 of 3). -/
import Derived.Test.YtdolmkiiflhehaaPart1
import Derived.Deep.RegionHeld3
section
/- SkipSame: the walk. -/
set_option linter.unusedVariables false
set_option linter.unusedSimpArgs false
set_option maxRecDepth 100000
attribute [local irreducible] Go.wpStill
namespace Go.Proofs.Ytdolmkiiflhehaa.M
open Go.RowKit Go.Proofs.YtdolmkiiflhehaaW.PrintWords Go.Proofs.YtdolmkiiflhehaaW.PrintLast Go.Proofs.YtdolmkiiflhehaaW.PrintMore
theorem wf_i64 {x : Int} (h : I64 x) : isI64 x := by
  unfold I64 at h
  simp only [Lit.wf, Bool.and_eq_true, decide_eq_true_eq] at h
  have e1 : IntKind.i64.min = -9223372036854775808 := rfl
  have e2 : IntKind.i64.max = 9223372036854775807 := rfl
  unfold isI64
  omega
theorem wf_op {o : OpD} (h : okOp o) : WfC o.c := by
  obtain ⟨_, ⟨⟨h1, h2⟩, h3, h4⟩, _⟩ := h
  refine ⟨?_, wf_i64 h2, wf_i64 h3, wf_i64 h4⟩
  unfold I32 at h1
  simp only [Lit.wf, Bool.and_eq_true, decide_eq_true_eq] at h1
  have e1 : IntKind.i32.min = -2147483648 := rfl
  have e2 : IntKind.i32.max = 2147483647 := rfl
  have e3 : o.c.key.1 = o.c.table := rfl
  omega
structure Bo (w W : World) (s1 q1 s2 q2 : Nat) : Prop where
  bo : ∃ (T1 T2 : Nat → Prop) (L1 L2 : List Nd) (x1 x2 : Int), Pk W s1 q1 T1 L1 x1 ∧ Pk W s2 q2 T2 L2 x2 ∧ (∀ i, T1 i → ¬ T2 i) ∧ (∀ i, T1 i → w.heap.size ≤ i) ∧ ∀ i, T2 i → w.heap.size ≤ i
  below : Below w.heap.size w W
namespace Bo
variable {w W W' : World} {s1 q1 s2 q2 : Nat}
theorem swap (h : Bo w W s1 q1 s2 q2) : Bo w W s2 q2 s1 q1 := by
  obtain ⟨T1, T2, L1, L2, x1, x2, h1, h2, h3, h4, h5⟩ := h.bo
  exact ⟨⟨T2, T1, L2, L1, x2, x1, h2, h1, fun i hi hj => h3 i hj hi, h5, h4⟩, h.below⟩
theorem next (h : Bo w W s1 q1 s2 q2) (hb : Below W.heap.size W W') : Bo w W' s1 q1 s2 q2 := by
  obtain ⟨T1, T2, L1, L2, x1, x2, h1, h2, h3⟩ := h.bo
  exact ⟨⟨T1, T2, L1, L2, x1, x2, h1.below hb, h2.below hb, h3⟩, h.below.trans (hb.mono h.below.size)⟩
theorem step (h : Bo w W s1 q1 s2 q2) (o : OpD) (hc : WfC o.c) (hd : o.Do ≠ 3 ∧ o.Do ≠ 4) :
    Calls Try.prog 32 #[.pointer (some ⟨s1, 0, none⟩), .pointer (some ⟨q1, 0, none⟩), .agg #[.int .i64 o.Do, .int .i32 o.c.table, .int .i64 o.c.row, .int .i64 o.c.value, .int .i64 o.c.slot, .int .i32 o.tk.1, .int .i64 o.tk.2, .int .u64 o.seed, .int .i64 o.stop]] W fun e w' => ∃ v, e = .returned v ∧ Bo w w' s1 q1 s2 q2 := by
  obtain ⟨T1, T2, L1, L2, x1, x2, h1, h2, h3, h4, h5⟩ := h.bo
  refine (step_low h1 o hc hd).mono ?_
  rintro e w' ⟨T', L', x', rfl, k1, k2, k3⟩
  refine ⟨_, rfl, ⟨T', T2, L', L2, x', x2, k1, h2.keep k2 (fun i hi hj => h3 i hj hi), fun i hi hj => ?_, fun i hi => ?_, h5⟩, h.below.trans (k2.below h.below.size h4)⟩
  · rcases k3 i hi with h | h
    · exact h3 i h hj
    · have := h2.lt i hj; omega
  · rcases k3 i hi with h' | h'
    · exact h4 i h'
    · exact Nat.le_trans h.below.size h'
end Bo
theorem same_self {w : World} {s h : Nat} {L : List Nd} {x : Int} {nx : Nat → Nat → Option Nat} (H : IsSk w s h L x nx) (hL : L.length ≤ 1048576) :
    Calls Try.prog 26 #[.pointer (some ⟨s, 0, none⟩), .pointer (some ⟨s, 0, none⟩)] w fun e w' => e = .returned (.bool true) ∧ Below w.heap.size w w' := by
  have h1 := same_is H H hL hL
  rw [show decide (cellsL L = cellsL L) = true by simp] at h1
  exact h1
set_option maxHeartbeats 8000000 in
theorem same_walk (w : World) (A1 : Option Addr) (c1 : Nat) (l1 : List OpD) (hF1 : Kd.F opK w (fun k => k < w.heap.size) A1 l1.length l1) (ok1 : ∀ o ∈ l1, okOp o) (A2 : Option Addr) (c2 : Nat) (l2 : List OpD) (hF2 : Kd.F opK w (fun k => k < w.heap.size) A2 l2.length l2) (ok2 : ∀ o ∈ l2, okOp o) (a b : Int) :
    Calls Try.prog 7 #[.slice A1 l1.length c1, .slice A2 l2.length c2, .int .u64 a, .int .u64 b] w fun e w' => e = .returned (.bool true) ∧ Below w.heap.size w w' := by
  have HF1 := Lib.hid hF1; have HF2 := Lib.hid hF2; have HOK1 := Lib.hid ok1; have HOK2 := Lib.hid ok2
  have hlm1 : l1.length ≤ 9223372036854775807 := Kd.F_max hF1
  have hlm2 : l2.length ≤ 9223372036854775807 := Kd.F_max hF2
  clear hF1 hF2 ok1 ok2
  go_enter Try.func7, Try.ntmps7
  go_wp2_with fail
  refine (new_is a w).mono ?_
  rintro e w1 ⟨rfl, hs1, hb1⟩
  have HS1 := Lib.hid hs1; have HB1 := Lib.hid hb1
  clear hs1 hb1
  go_wp2_with fail
  refine (new_is b w1).mono ?_
  rintro e w2 ⟨rfl, hs2, hb2⟩
  have HS2 := Lib.hid hs2; have HB2 := Lib.hid hb2
  clear hs2 hb2
  go_wp2_with fail
  refine (rnew_is a w2).mono ?_
  rintro e w3 ⟨rfl, hr1, hb3⟩
  have HR1 := Lib.hid hr1; have HB3 := Lib.hid hb3
  clear hr1 hb3
  go_wp2_with fail
  refine (rnew_is b w3).mono ?_
  rintro e w4 ⟨rfl, hr2, hb4⟩
  have HR2 := Lib.hid hr2; have HB4 := Lib.hid hb4
  have HBo := Lib.hid (show Bo w w4 (w.heap.size + 1) w2.heap.size (w1.heap.size + 1) w3.heap.size by
    have b1 := HB1.out; have b2 := HB2.out; have b3 := HB3.out; have b4 := HB4.out
    have z1 := HS1.out.slt; have z2 := HS2.out.slt; have z3 := HR1.out.lt; have z4 := HR2.out.lt
    have z5 := HS1.out.hlt; have z6 := HS2.out.hlt
    have k1 : Below w1.heap.size w1 w4 := b2.trans ((b3.trans (b4.mono b3.size)).mono b2.size)
    have k2 : Below w2.heap.size w2 w4 := b3.trans (b4.mono b3.size)
    have s1 := HS1.out.below k1
    have s2 := HS2.out.below k2
    have r1 := HR1.out.below b4
    have y1 := b2.size; have y2 := b3.size; have y3 := b4.size
    refine ⟨⟨_, _, [], [], a, b, Pk.new s1 r1 ?_ ?_, Pk.new s2 HR2.out ?_ ?_, ?_, ?_, ?_⟩, b1.trans (k1.mono b1.size)⟩
    all_goals (intro i h1)
    all_goals (try intro h2)
    all_goals (try simp only [IsSk.Own, List.map_nil, List.mem_cons, List.not_mem_nil, or_false] at h1)
    all_goals (try simp only [IsSk.Own, List.map_nil, List.mem_cons, List.not_mem_nil, or_false] at h2)
    all_goals omega)
  clear hr2 hb4
  go_wp2_with fail
  refine (begun_is w4).mono ?_
  rintro e w5 ⟨rfl, hb⟩
  have HB0 := Lib.hid (HBo.out.next hb)
  obtain ⟨s1, hs1⟩ : ∃ g, w.heap.size + 1 = g := ⟨_, rfl⟩
  obtain ⟨s2, hs2⟩ : ∃ g, w1.heap.size + 1 = g := ⟨_, rfl⟩
  obtain ⟨q1, hq1⟩ : ∃ g, w2.heap.size = g := ⟨_, rfl⟩
  obtain ⟨q2, hq2⟩ : ∃ g, w3.heap.size = g := ⟨_, rfl⟩
  rw [hs1, hs2, hq1, hq2] at HB0
  rw [hs1, hs2, hq1, hq2]
  clear hb HBo HB1 HB2 HB3 HB4 HS1 HS2 HR1 HR2 hs1 hs2 hq1 hq2
  go_wp2_with fail
  go_loopw [41] (fun i wr => ∃ j : Nat, i = .int .i64 (j : Int) ∧ j ≤ l1.length ∧ Bo w wr s1 q1 s2 q2) (fun i _ => l1.length - (intOf i).toNat)
  case atStart => exact ⟨0, rfl, Nat.zero_le _, HB0.out⟩
  case round =>
    obtain ⟨j, rfl, hj, hB⟩ := hrel
    have HB := Lib.hid hB
    have HFr := Lib.hid (Kd.F_below HF1.out hB.below)
    clear hB
    by_cases hlt : j < l1.length
    · obtain ⟨o, ho⟩ : ∃ o, l1[j]? = some o := ⟨_, List.getElem?_eq_getElem hlt⟩
      obtain ⟨ad, hAd, x0, x1, x2, x3, x4, x5, x6, x7, x8⟩ := op_get HFr.out ho
      have HOO := Lib.hid (HOK1.out o (List.mem_of_getElem? ho))
      subst hAd
      have HLT := Lib.hid hlt
      have r1 : decide (j < l1.length) = true := decide_eq_true hlt
      clear ho
      go_upto_region 8 with fail
      have hb1 := (Below.refl wr.heap.size wr).alloc (Nat.le_refl _) (.cells #[.int .i64 o.Do, .int .i32 o.c.table, .int .i64 o.c.row, .int .i64 o.c.value, .int .i64 o.c.slot, .int .i32 o.tk.1, .int .i64 o.tk.2, .int .u64 o.seed, .int .i64 o.stop] 33)
      have HX := Lib.hid (heap_alloc_new wr (.cells #[.int .i64 o.Do, .int .i32 o.c.table, .int .i64 o.c.row, .int .i64 o.c.value, .int .i64 o.c.slot, .int .i32 o.tk.1, .int .i64 o.tk.2, .int .u64 o.seed, .int .i64 o.stop] 33))
      have HBb := Lib.hid (HB.out.next hb1)
      obtain ⟨bx, hbx⟩ : ∃ g, wr.heap.size = g := ⟨_, rfl⟩
      obtain ⟨wb, hwb⟩ : ∃ V, wr.alloc (.cells #[.int .i64 o.Do, .int .i32 o.c.table, .int .i64 o.c.row, .int .i64 o.c.value, .int .i64 o.c.slot, .int .i32 o.tk.1, .int .i64 o.tk.2, .int .u64 o.seed, .int .i64 o.stop] 33) = V := ⟨_, rfl⟩
      rw [hwb] at HX HBb ⊢
      rw [hbx] at HX ⊢
      clear hb1 hbx hwb x0 x1 x2 x3 x4 x5 x6 x7 x8
      have y0 : wb.cell? ⟨bx, 0, none⟩ = some (.int .i64 o.Do) := (blk_cell HX.out 0).trans rfl; have y1 : wb.cell? ⟨bx, 1, none⟩ = some (.int .i32 o.c.table) := (blk_cell HX.out 1).trans rfl; have y2 : wb.cell? ⟨bx, 2, none⟩ = some (.int .i64 o.c.row) := (blk_cell HX.out 2).trans rfl; have y3 : wb.cell? ⟨bx, 3, none⟩ = some (.int .i64 o.c.value) := (blk_cell HX.out 3).trans rfl; have y4 : wb.cell? ⟨bx, 4, none⟩ = some (.int .i64 o.c.slot) := (blk_cell HX.out 4).trans rfl; have y5 : wb.cell? ⟨bx, 5, none⟩ = some (.int .i32 o.tk.1) := (blk_cell HX.out 5).trans rfl; have y6 : wb.cell? ⟨bx, 6, none⟩ = some (.int .i64 o.tk.2) := (blk_cell HX.out 6).trans rfl; have y7 : wb.cell? ⟨bx, 7, none⟩ = some (.int .u64 o.seed) := (blk_cell HX.out 7).trans rfl; have y8 : wb.cell? ⟨bx, 8, none⟩ = some (.int .i64 o.stop) := (blk_cell HX.out 8).trans rfl
      by_cases hd : o.Do < 3
      · have r2 : decide (o.Do < 3) = true := decide_eq_true hd
        have HD := Lib.hid hd
        clear hd
        go_wp2_with fail
        refine (Bo.step HBb.out o (wf_op HOO.out) (by have := HD.out; constructor <;> omega)).mono ?_
        rintro e w3 ⟨v, rfl, hB3⟩
        have HB3 := Lib.hid hB3
        clear hB3 y0 y1 y2 y3 y4 y5 y6 y7 y8
        go_wp2_with fail
        go_roundw
        case rel => exact ⟨j + 1, by go_num, HLT.out, HB3.out⟩
        case measure => have := HLT.out; simp [intOf]; omega
      · have r2 : decide (o.Do < 3) = false := decide_eq_false hd
        clear hd
        go_wp2_with fail
        go_roundw
        case rel => exact ⟨j + 1, by go_num, HLT.out, HBb.out⟩
        case measure => have := HLT.out; simp [intOf]; omega
    have r1 : decide (j < l1.length) = false := decide_eq_false hlt
    clear hlt HB0 HFr
    have HB0 := HB
    clear HB
    obtain ⟨wa, rfl⟩ : ∃ x, x = wr := ⟨_, rfl⟩
    go_wp2_with fail
    go_loopw [55] (fun i wr => ∃ j : Nat, i = .int .i64 (j : Int) ∧ j ≤ l2.length ∧ Bo w wr s1 q1 s2 q2) (fun i _ => l2.length - (intOf i).toNat)
    case atStart => exact ⟨0, rfl, Nat.zero_le _, HB0.out⟩
    case round =>
      obtain ⟨j, rfl, hj, hB⟩ := hrel
      have HB := Lib.hid hB
      have HFr := Lib.hid (Kd.F_below HF2.out hB.below)
      clear hB
      by_cases hlt : j < l2.length
      · obtain ⟨o, ho⟩ : ∃ o, l2[j]? = some o := ⟨_, List.getElem?_eq_getElem hlt⟩
        obtain ⟨ad, hAd, x0, x1, x2, x3, x4, x5, x6, x7, x8⟩ := op_get HFr.out ho
        have HOO := Lib.hid (HOK2.out o (List.mem_of_getElem? ho))
        subst hAd
        have HLT := Lib.hid hlt
        have r1 : decide (j < l2.length) = true := decide_eq_true hlt
        clear ho
        go_upto_region 14 with fail
        have hb1 := (Below.refl wr.heap.size wr).alloc (Nat.le_refl _) (.cells #[.int .i64 o.Do, .int .i32 o.c.table, .int .i64 o.c.row, .int .i64 o.c.value, .int .i64 o.c.slot, .int .i32 o.tk.1, .int .i64 o.tk.2, .int .u64 o.seed, .int .i64 o.stop] 33)
        have HX := Lib.hid (heap_alloc_new wr (.cells #[.int .i64 o.Do, .int .i32 o.c.table, .int .i64 o.c.row, .int .i64 o.c.value, .int .i64 o.c.slot, .int .i32 o.tk.1, .int .i64 o.tk.2, .int .u64 o.seed, .int .i64 o.stop] 33))
        have HBb := Lib.hid (HB.out.next hb1)
        obtain ⟨bx, hbx⟩ : ∃ g, wr.heap.size = g := ⟨_, rfl⟩
        obtain ⟨wb, hwb⟩ : ∃ V, wr.alloc (.cells #[.int .i64 o.Do, .int .i32 o.c.table, .int .i64 o.c.row, .int .i64 o.c.value, .int .i64 o.c.slot, .int .i32 o.tk.1, .int .i64 o.tk.2, .int .u64 o.seed, .int .i64 o.stop] 33) = V := ⟨_, rfl⟩
        rw [hwb] at HX HBb ⊢
        rw [hbx] at HX ⊢
        clear hb1 hbx hwb x0 x1 x2 x3 x4 x5 x6 x7 x8
        have y0 : wb.cell? ⟨bx, 0, none⟩ = some (.int .i64 o.Do) := (blk_cell HX.out 0).trans rfl; have y1 : wb.cell? ⟨bx, 1, none⟩ = some (.int .i32 o.c.table) := (blk_cell HX.out 1).trans rfl; have y2 : wb.cell? ⟨bx, 2, none⟩ = some (.int .i64 o.c.row) := (blk_cell HX.out 2).trans rfl; have y3 : wb.cell? ⟨bx, 3, none⟩ = some (.int .i64 o.c.value) := (blk_cell HX.out 3).trans rfl; have y4 : wb.cell? ⟨bx, 4, none⟩ = some (.int .i64 o.c.slot) := (blk_cell HX.out 4).trans rfl; have y5 : wb.cell? ⟨bx, 5, none⟩ = some (.int .i32 o.tk.1) := (blk_cell HX.out 5).trans rfl; have y6 : wb.cell? ⟨bx, 6, none⟩ = some (.int .i64 o.tk.2) := (blk_cell HX.out 6).trans rfl; have y7 : wb.cell? ⟨bx, 7, none⟩ = some (.int .u64 o.seed) := (blk_cell HX.out 7).trans rfl; have y8 : wb.cell? ⟨bx, 8, none⟩ = some (.int .i64 o.stop) := (blk_cell HX.out 8).trans rfl
        by_cases hd : o.Do < 3
        · have r2 : decide (o.Do < 3) = true := decide_eq_true hd
          have HD := Lib.hid hd
          clear hd
          go_wp2_with fail
          refine (Bo.step HBb.out.swap o (wf_op HOO.out) (by have := HD.out; constructor <;> omega)).mono ?_
          rintro e w3 ⟨v, rfl, hB3⟩
          have HB3 := Lib.hid hB3.swap
          clear hB3 y0 y1 y2 y3 y4 y5 y6 y7 y8
          go_wp2_with fail
          go_roundw
          case rel => exact ⟨j + 1, by go_num, HLT.out, HB3.out⟩
          case measure => have := HLT.out; simp [intOf]; omega
        · have r2 : decide (o.Do < 3) = false := decide_eq_false hd
          clear hd
          go_wp2_with fail
          go_roundw
          case rel => exact ⟨j + 1, by go_num, HLT.out, HBb.out⟩
          case measure => have := HLT.out; simp [intOf]; omega
      have r1 : decide (j < l2.length) = false := decide_eq_false hlt
      clear hlt HB0 HFr
      have HB0 := HB
      clear HB
      obtain ⟨wb, rfl⟩ : ∃ x, x = wr := ⟨_, rfl⟩
      obtain ⟨T1, T2, L1, L2, x1, x2, P1, P2, _, h4, h5⟩ := HB0.out.bo
      obtain ⟨hh1, nx1, S1, k1, k2, _, _⟩ := P1.st
      have HP1 := Lib.hid P1; have HP2 := Lib.hid P2; have HSK := Lib.hid k1
      clear P1 P2 k1 k2 h4 h5
      go_wp2_with fail
      refine (range_is HSK.out HP1.out.len (-2147483648, -9223372036854775808) (2147483647, 0)).mono ?_
      rintro e w6 ⟨Ar, cr, rfl, hF, hb⟩
      have HFR := Lib.hid hF; have HB6 := Lib.hid hb
      have hRm := Kd.F_max hF
      obtain ⟨R, hR⟩ : ∃ R, inR (cellsL (L1.drop (rank L1 (-2147483648, -9223372036854775808)))) (2147483647, 0) = R := ⟨_, rfl⟩
      rw [hR] at HFR hRm
      rw [hR]
      clear hF hb hR
      go_wp2_with fail
      go_loopw [72] (fun i wr => ∃ j : Nat, i = .int .i64 (j : Int) ∧ j ≤ R.length ∧ Below w6.heap.size w6 wr) (fun i _ => R.length - (intOf i).toNat)
      case atStart => exact ⟨0, rfl, Nat.zero_le _, Below.refl _ _⟩
      case round =>
        obtain ⟨j, rfl, hj, hB⟩ := hrel
        have HB7 := Lib.hid hB
        have hC := Kd.F_now (Kd.F_below (Kd.F_bound HFR.out) hB)
        clear hB
        by_cases hlt : j < R.length
        · obtain ⟨y, hy⟩ : ∃ y, R[j]? = some y := ⟨_, List.getElem?_eq_getElem hlt⟩
          obtain ⟨ad, rfl, d0, d1, d2, d3⟩ := cell_get hC hy
          have HLT := Lib.hid hlt
          have r1 : decide (j < R.length) = true := decide_eq_true hlt
          clear hy hC
          go_upto_region 20 with fail
          have HY := Lib.hid (heap_alloc_new wr (.cells #[.int .i32 y.1.1, .int .i64 y.1.2, .int .i64 y.2.1, .int .i64 y.2.2] 31))
          have HBy := Lib.hid (HB7.out.alloc HB7.out.size (.cells #[.int .i32 y.1.1, .int .i64 y.1.2, .int .i64 y.2.1, .int .i64 y.2.2] 31))
          have HLe := Lib.hid HB7.out.size
          obtain ⟨bx, hbx⟩ : ∃ g, wr.heap.size = g := ⟨_, rfl⟩
          obtain ⟨wc, hwc⟩ : ∃ V, wr.alloc (.cells #[.int .i32 y.1.1, .int .i64 y.1.2, .int .i64 y.2.1, .int .i64 y.2.2] 31) = V := ⟨_, rfl⟩
          rw [hwc] at HY HBy ⊢
          rw [hbx] at HY HLe ⊢
          clear hbx hwc d0 d1 d2 d3
          have y2 : wc.cell? ⟨bx, 2, none⟩ = some (.int .i64 y.2.1) := (blk_cell HY.out 2).trans rfl
          have z2 : wc.frozen? ⟨bx, 2, none⟩ = false := blk_frozen HY.out 2
          go_wp2_with fail
          go_roundw
          case rel => exact ⟨j + 1, by go_num, HLT.out, HBy.out.setCell (by exact HLe.out) _⟩
          case measure => have := HLT.out; simp [intOf]; omega
        have r1 : decide (j < R.length) = false := decide_eq_false hlt
        clear hlt hC
        obtain ⟨w7, rfl⟩ : ∃ x, x = wr := ⟨_, rfl⟩
        have HX7 := Lib.hid (HB6.out.trans (HB7.out.mono HB6.out.size))
        go_wp2_with fail
        refine (bytes_is (HSK.out.below HX7.out) HP1.out.len HP1.out.wf).mono ?_
        rintro e w8 ⟨v, rfl, hO, hb⟩
        obtain ⟨Ab, cb, rfl⟩ := Kd.R_slice hO
        obtain ⟨X0, hX0⟩ : ∃ X, bytesL L1 = X := ⟨_, rfl⟩
        rw [hX0] at hO
        rw [hX0]
        obtain ⟨nb, hnb⟩ : ∃ n, X0.length = n := ⟨_, rfl⟩
        rw [hnb] at hO
        rw [hnb]
        have HNB := Lib.hid hnb
        have HO8 := Lib.hid hO; have HB8 := Lib.hid hb
        have hnm : nb ≤ 9223372036854775807 := by have := Kd.C_max (Kd.R_reads' hO).2.2; omega
        clear hO hb hX0 hnb
        go_wp2_with fail
        go_loopw [85] (fun i wr => ∃ (j : Nat) (X : List Int), i = .int .i64 (j : Int) ∧ j ≤ nb ∧ X.length = nb ∧ Own wr w7.heap.size (.slice Ab nb cb) X ∧ Below w7.heap.size w7 wr) (fun i _ => nb - (intOf i).toNat)
        case atStart => exact ⟨0, X0, rfl, Nat.zero_le _, HNB.out, HO8.out, HB8.out⟩
        case round =>
          obtain ⟨j, X, rfl, hj, hXl, hO, hB⟩ := hrel
          have HXL := Lib.hid hXl; have HO9 := Lib.hid hO; have HB9 := Lib.hid hB
          clear hO hB
          by_cases hlt : j < nb
          · obtain ⟨g, cap, hg1, hg2, hg3, _⟩ := Kd.R_form HO9.out (by omega)
            simp only [Value.slice.injEq] at hg1
            obtain ⟨rfl, _, rfl⟩ := hg1
            have HG2 := Lib.hid hg2
            obtain ⟨x0, z0⟩ := Kd.R_celln (0 : Int) HO9.out (j : Int) (by omega) (by omega)
            rw [Int.toNat_natCast] at x0 z0
            have HLT := Lib.hid hlt
            have r1 : decide (j < nb) = true := decide_eq_true hlt
            have r2 : decide ((j : Int) < (nb : Int)) = true := decide_eq_true (by omega)
            have i0 : (0 : Int) ≤ (j : Int) := by omega
            have i1 : (j : Int) < (nb : Int) := by omega
            clear hlt hXl hg2 hg3
            obtain ⟨xv, hxv⟩ : ∃ y, rdOf (0 : Int) X (j : Int) = y := ⟨_, rfl⟩
            rw [hxv] at x0
            clear hxv
            go_wp2_with fail
            go_roundw
            case rel =>
              have hp := Kd.R_putn HO9.out (j : Int) (bits BinOp.xor .u8 xv 85)
              rw [Int.toNat_natCast] at hp
              exact ⟨j + 1, _, by go_num, HLT.out, by rw [List.length_set]; exact HXL.out, hp, HB9.out.setCell (by exact HG2.out) _⟩
            case measure => have := HLT.out; simp [intOf]; omega
          have r1 : decide (j < nb) = false := decide_eq_false hlt
          have r2 : decide ((j : Int) < (nb : Int)) = false := decide_eq_false (by omega)
          clear hlt hXl
          obtain ⟨w9, rfl⟩ : ∃ x, x = wr := ⟨_, rfl⟩
          have HX9 := Lib.hid (HX7.out.trans (HB9.out.mono HX7.out.size))
          have HBo9 := Lib.hid (HB0.out.below.trans (HX9.out.mono HB0.out.below.size))
          have Pa := HP1.out.below (HX9.out.drew); have Pb := HP2.out.below (HX9.out.drew)
          obtain ⟨h1', nx1', S1', k1, k2, _, _⟩ := Pa.st
          obtain ⟨h2', nx2', S2', k3, k4, _, _⟩ := Pb.st
          have HSd := Lib.hid k1; have HRd := Lib.hid k2; have HTd := Lib.hid k3
          obtain ⟨Aq1, aq1, Bq1, bq1, ⟨c0, _, _⟩, _, _, hC1, _⟩ := k2.cells
          obtain ⟨Aq2, aq2, Bq2, bq2, ⟨c1, _, _⟩, _, _, hC2, _⟩ := k4.cells
          have HQ1 := Lib.hid hC1; have HQ2 := Lib.hid hC2
          obtain ⟨vv, hvv⟩ : ∃ r, decide (cellsL L1 = cellsL L2) = r := ⟨_, rfl⟩
          have HV := Lib.hid hvv
          have qv : (vv == vv) = true := by simp
          clear Pa Pb k1 k2 k3 k4 hC1 hC2 hvv
          go_wp2_with fail
          go_region_held3 (fun w' => w'.cell? ⟨q1, 0, none⟩ = some (.slice Aq1 L1.length aq1) ∧ w'.cell? ⟨q2, 0, none⟩ = some (.slice Aq2 L2.length aq2)) (go_keep) (first
          | (have hg_ := HC6; clear hg_; go_at_call 30; refine (equal_same Ax Ay _ _ _ _ (bytesL L1) HOx2.out HOy.out).mono ?_; rintro e we7 ⟨rfl, hq_⟩; have hb := (hq_ ▸ Below.refl _ _ : Below (we6).heap.size we6 we7); clear hq_; have HC7 := Lib.hid (HC6.out.trans (hb.mono HC6.out.size)); have c7_0 := (hb.cell (World.block_lt_of_cell? _ _ c6_0)).trans c6_0; have c7_1 := (hb.cell (World.block_lt_of_cell? _ _ c6_1)).trans c6_1; clear hb)
          | (have hg_ := HC5; clear hg_; go_at_call 34; refine (rbytes_is (HRd.out.below HC5.out) HP1.out.len HP1.out.wf).mono ?_; rintro e we6 ⟨vb, rfl, hO, hb⟩; obtain ⟨Ay, cy, rfl⟩ := Kd.R_slice hO; have HOy := Lib.hid (Kd.R_reads' hO).2.2; have HOx2 := Lib.hid (Kd.C_below HOx.out hb); clear hO; have HC6 := Lib.hid (HC5.out.trans (hb.mono HC5.out.size)); have c6_0 := (hb.cell (World.block_lt_of_cell? _ _ c5_0)).trans c5_0; have c6_1 := (hb.cell (World.block_lt_of_cell? _ _ c5_1)).trans c5_1; clear hb)
          | (have hg_ := HC4; clear hg_; go_at_call 24; refine (bytes_is (HSd.out.below HC4.out) HP1.out.len HP1.out.wf).mono ?_; rintro e we5 ⟨vb, rfl, hO, hb⟩; obtain ⟨Ax, cx, rfl⟩ := Kd.R_slice hO; have HOx := Lib.hid (Kd.R_reads' hO).2.2; clear hO; have HC5 := Lib.hid (HC4.out.trans (hb.mono HC4.out.size)); have c5_0 := (hb.cell (World.block_lt_of_cell? _ _ c4_0)).trans c4_0; have c5_1 := (hb.cell (World.block_lt_of_cell? _ _ c4_1)).trans c4_1; clear hb)
          | (have hg_ := HC3; clear hg_; go_at_call 26; refine (same_none (isN_nil _)).mono ?_; rintro e we4 ⟨rfl, hq_⟩; have hb := (hq_ ▸ Below.refl _ _ : Below (we3).heap.size we3 we4); clear hq_; have HC4 := Lib.hid (HC3.out.trans (hb.mono HC3.out.size)); have c4_0 := (hb.cell (World.block_lt_of_cell? _ _ c3_0)).trans c3_0; have c4_1 := (hb.cell (World.block_lt_of_cell? _ _ c3_1)).trans c3_1; clear hb)
          | (have hg_ := HC2; clear hg_; go_at_call 26; refine (same_nil_r (HSd.out.below HC2.out)).mono ?_; rintro e we3 ⟨rfl, hq_⟩; have hb := (hq_ ▸ Below.refl _ _ : Below (we2).heap.size we2 we3); clear hq_; have HC3 := Lib.hid (HC2.out.trans (hb.mono HC2.out.size)); have c3_0 := (hb.cell (World.block_lt_of_cell? _ _ c2_0)).trans c2_0; have c3_1 := (hb.cell (World.block_lt_of_cell? _ _ c2_1)).trans c2_1; clear hb)
          | (have hg_ := HC1; clear hg_; go_at_call 26; refine (same_self (HSd.out.below HC1.out) HP1.out.len).mono ?_; rintro e we2 ⟨rfl, hb⟩; have HC2 := Lib.hid (HC1.out.trans (hb.mono HC1.out.size)); have c2_0 := (hb.cell (World.block_lt_of_cell? _ _ c1_0)).trans c1_0; have c2_1 := (hb.cell (World.block_lt_of_cell? _ _ c1_1)).trans c1_1; clear hb)
          | (have hg_ := HC0; clear hg_; go_at_call 33; refine (same_cells Aq1 Aq2 _ _ _ _ _ _ (Kd.C_below HQ1.out HC0.out) (Kd.C_below HQ2.out HC0.out)).mono ?_; rintro e we1 ⟨rfl, hb⟩; rw [HV.out]; have HC1 := Lib.hid (HC0.out.trans (hb.mono HC0.out.size)); have c1_0 := (hb.cell (World.block_lt_of_cell? _ _ c0_0)).trans c0_0; have c1_1 := (hb.cell (World.block_lt_of_cell? _ _ c0_1)).trans c0_1; clear hb)
          | (go_at_call 26; refine (same_is HSd.out HTd.out HP1.out.len HP2.out.len).mono ?_; rintro e we0 ⟨rfl, hb⟩; rw [HV.out]; have HC0 := Lib.hid hb; have c0_0 := (hb.cell (World.block_lt_of_cell? _ _ c0)).trans c0; have c0_1 := (hb.cell (World.block_lt_of_cell? _ _ c1)).trans c1; clear hb))
          go_wp2_with fail
          go_ret
          exact ⟨rfl, HBo9.out.trans (((Below.refl _ w9).drew.trans HC7.out).mono HBo9.out.size)⟩
end Go.Proofs.Ytdolmkiiflhehaa.M
end
