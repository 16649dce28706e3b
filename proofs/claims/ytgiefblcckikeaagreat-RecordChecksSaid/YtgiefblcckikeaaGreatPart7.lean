/- RecordChecksSaid: contracts of the functions that the law goes through, put together in build order (part 8 of 8). -/
import Derived.Test.YtgiefblcckikeaaGreatPart6
section
/- RecordChecks returns true (printed by genchecks04.py). -/
--@needs record_CheckKeys.calls trivetref04_CheckKeys.calls record_CheckTxn.calls trivetref04_CheckTxn.calls record_CheckEntry.calls trivetref04_CheckEntry.calls
set_option maxRecDepth 100000
set_option linter.unusedVariables false
set_option linter.unusedSimpArgs false
attribute [local irreducible] Go.wpStill
namespace Go.Proofs.YtgiefblcckikeaaGreat.M
open Go.RowKit Go.Proofs.YtgiefblcckikeaaGreatW.PrintWords Go.Proofs.YtgiefblcckikeaaGreatW.PrintLast Go.Proofs.YtgiefblcckikeaaGreatW.PrintMore Go.Proofs.YtgiefblcckikeaaGreat.G
abbrev okN (b : Bool) : Int := if b = true then 0 else 40
theorem says_f (b : Bool) : G.record_says.f b = some (okN b) := by cases b <;> rfl
theorem errno_f (b : Bool) : G.trivetref04_Errno.f b = some (okN b) := by cases b <;> rfl
theorem cK_is (A : Option Addr) (c : Nat) (l : List KeyD) (w : World) (hr : Kd.C G.k101 w A l.length l) (hc : l.length ≤ c) : Calls Tryz.prog 10 #[.slice A l.length c] w fun e w' => e = .returned (.int .i64 (okN (mayK l))) ∧ Below w.heap.size w w' :=
  G.record_CheckKeys.calls A c l _ w hr hc (by unfold G.record_CheckKeys.f G.record_keys.f; rw [Option.bind_some, says_f, Option.bind_some])
theorem rK_is (A : Option Addr) (c : Nat) (l : List KeyD) (w : World) (hr : Kd.C G.k101 w A l.length l) (hc : l.length ≤ c) : Calls Tryz.prog 11 #[.slice A l.length c] w fun e w' => e = .returned (.int .i64 (okN (mayK l))) ∧ Below w.heap.size w w' :=
  G.trivetref04_CheckKeys.calls (l.length + 1) A c l _ w hr hc (by unfold G.trivetref04_CheckKeys.f; rw [mayK_r _ l (by omega) (Kd.C_max hr), Option.bind_some, errno_f, Option.bind_some])
theorem cT_is {w : World} (t : TxD) {T2 T3 T4 T5 : Option Addr} {t2 t3 t4 t5 : Nat} (h : TxC w t T2 t2 T3 t3 T4 t4 T5 t5) : Calls Tryz.prog 12 #[.agg #[.int .i64 t.f0, .int .i64 t.f1, .slice T2 t.f2.length t2, .slice T3 t.f3.length t3, .slice T4 t.f4.length t4, .slice T5 t.f5.length t5]] w fun e w' => e = .returned (.int .i64 (okN (mayT t))) ∧ Below w.heap.size w w' :=
  G.record_CheckTxn.calls t.f0 t.f1 T2 t2 t.f2 T3 t3 t.f3 T4 t4 t.f4 T5 t5 t.f5 _ w h.g2 h.l2 h.g3 h.l3 h.g4 h.l4 h.g5 h.l5 (by unfold G.record_CheckTxn.f; rw [record_txn_f, Option.bind_some, says_f, Option.bind_some])
theorem rT_is {w : World} (t : TxD) {T2 T3 T4 T5 : Option Addr} {t2 t3 t4 t5 : Nat} (h : TxC w t T2 t2 T3 t3 T4 t4 T5 t5) : Calls Tryz.prog 13 #[.agg #[.int .i64 t.f0, .int .i64 t.f1, .slice T2 t.f2.length t2, .slice T3 t.f3.length t3, .slice T4 t.f4.length t4, .slice T5 t.f5.length t5]] w fun e w' => e = .returned (.int .i64 (okN (mayT t))) ∧ Below w.heap.size w w' :=
  G.trivetref04_CheckTxn.calls (mT t + 1) t.f0 t.f1 T2 t2 t.f2 T3 t3 t.f3 T4 t4 t.f4 T5 t5 t.f5 _ w h.g2 h.l2 h.g3 h.l3 h.g4 h.l4 h.g5 h.l5 (by unfold G.trivetref04_CheckTxn.f; rw [mayT_r _ t (by omega) h.ls, Option.bind_some, errno_f, Option.bind_some])
theorem cE_is {w : World} (e : EntD) {E : Option Addr} {ce : Nat} (hr : Kd.C G.k26 w E e.f3.length e.f3) (hc : e.f3.length ≤ ce) : Calls Tryz.prog 14 #[.agg #[.int .i64 e.f0, .int .i64 e.f1, .int .i64 e.f2, .slice E e.f3.length ce]] w fun x w' => x = .returned (.int .i64 (okN (mayE e.f0 e.f1 e.f2 e.f3))) ∧ Below w.heap.size w w' :=
  G.record_CheckEntry.calls e.f0 e.f1 e.f2 E ce e.f3 _ w hr hc (by unfold G.record_CheckEntry.f G.record_entry.f; rw [Option.bind_some, says_f, Option.bind_some])
theorem rE_is {w : World} (e : EntD) {E : Option Addr} {ce : Nat} (hr : Kd.C G.k26 w E e.f3.length e.f3) (hc : e.f3.length ≤ ce) : Calls Tryz.prog 15 #[.agg #[.int .i64 e.f0, .int .i64 e.f1, .int .i64 e.f2, .slice E e.f3.length ce]] w fun x w' => x = .returned (.int .i64 (okN (mayE e.f0 e.f1 e.f2 e.f3))) ∧ Below w.heap.size w w' := by
  obtain ⟨M, hM⟩ := bound_T e.f3
  refine G.trivetref04_CheckEntry.calls (M + e.f3.length + 3) e.f0 e.f1 e.f2 E ce e.f3 _ w hr hc ?_
  unfold G.trivetref04_CheckEntry.f
  rw [mayE_r _ e.f0 e.f1 e.f2 e.f3 (fun t ht => by have := hM t ht; omega) (by omega) hr.2.1 (fun t ht => ?_), Option.bind_some, errno_f, Option.bind_some]
  obtain ⟨i, hi⟩ := List.getElem?_of_mem ht
  obtain ⟨ad, A2, c2, A3, c3, A4, c4, A5, c5, _, _, hX⟩ := tx_get hr hi
  exact hX.ls
def checks1_T : Bool × List (List Nat × List Nat) := (true, [([], []), ([0, 0], [0]), ([1], [1]), ([2, 1, 1], [1, 2]), ([1], [1]), ([4, 3, 1], [1, 4]), ([3, 5, 1], [1, 3, 5]), ([1, 6], [1, 6]), ([7, 5], [7]), ([8], [8]), ([9, 8, 8], [8, 9]), ([8], [8]), ([11, 10, 8], [8, 11]), ([10, 12, 8], [8, 10, 12]), ([8, 13], [8, 13]), ([14, 12], [14]), ([15], [15]), ([16, 15, 15], [15, 16]), ([15], [15]), ([18, 17, 15], [15, 18]), ([17, 19, 15], [15, 17, 19]), ([15, 20], [15, 20]), ([21, 19], [21]), ([22], [22]), ([23, 22, 22], [22, 23]), ([22], [22]), ([25, 24, 22], [22, 25]), ([24, 26, 22], [22, 24, 26]), ([22, 27], [22, 27]), ([28, 26, 0, 1, 2, 3, 4, 5, 6, 7, 8, 9, 10, 11, 12, 13, 14, 15, 16, 17, 18, 19, 20, 21, 22, 23, 24, 25, 26, 27, 28], [28])])
def checks1_B : List Nat := [0, 1, 3, 7, 3, 31, 63, 127, 255, 511, 1023, 511, 4095, 8191, 16383, 32767, 65535, 131071, 65535, 524287, 1048575, 2097151, 4194303, 8388607, 16777215, 8388607, 67108863, 134217727, 268435455, 536870911]
theorem checks1_tab : rtab .any (opsOf Tryz.f3 1) = checks1_T := by kernel_rfl
theorem checks1_bits : waitsOk checks1_T.2 checks1_B = true := by kernel_rfl
set_option maxHeartbeats 8000000 in
theorem checks_walk (w : World) (l : List KeyD) (t : TxD) (e : EntD) (m : MsgD) {KA : Option Addr} {ck : Nat} {T2 T3 T4 T5 : Option Addr} {t2 t3 t4 t5 : Nat} {E : Option Addr} {ce : Nat} {A8 A12 A16 : Option Addr} {c8 c12 c16 : Nat} (hk : Kd.C G.k101 w KA l.length l) (hkl : l.length ≤ ck) (ht : TxC w t T2 t2 T3 t3 T4 t4 T5 t5) (he : Kd.C G.k26 w E e.f3.length e.f3) (hel : e.f3.length ≤ ce) (hm : MsgC w m A8 c8 A12 c12 A16 c16) (hp : isI64 m.f10.f2) :
    Calls Tryz.prog 3 #[.slice KA l.length ck, .agg #[.int .i64 t.f0, .int .i64 t.f1, .slice T2 t.f2.length t2, .slice T3 t.f3.length t3, .slice T4 t.f4.length t4, .slice T5 t.f5.length t5], .agg #[.int .i64 e.f0, .int .i64 e.f1, .int .i64 e.f2, .slice E e.f3.length ce], .agg #[.int .i64 m.f0, .int .i64 m.f1, .int .i64 m.f2, .int .i64 m.f3, .int .i64 m.f4, .int .i64 m.f5, .int .i64 m.f6, .bool m.f7, .slice A8 m.f8.length c8, .int .i64 m.f9.f0, .int .i64 m.f9.f1, .int .i64 m.f9.f2, .slice A12 m.f9.f3.length c12, .int .i64 m.f10.f0, .int .i64 m.f10.f1, .int .i64 m.f10.f2, .slice A16 m.f10.f3.length c16]] w fun e w' => e = .returned (.bool true) ∧ Below w.heap.size w w' := by
  obtain ⟨hb1, hx⟩ : Below w.heap.size w (((w.alloc (.cells #[.int .i64 t.f0, .int .i64 t.f1, .slice T2 t.f2.length t2, .slice T3 t.f3.length t3, .slice T4 t.f4.length t4, .slice T5 t.f5.length t5] 26)).alloc (.cells #[.int .i64 e.f0, .int .i64 e.f1, .int .i64 e.f2, .slice E e.f3.length ce] 29)).alloc (.cells #[.int .i64 m.f0, .int .i64 m.f1, .int .i64 m.f2, .int .i64 m.f3, .int .i64 m.f4, .int .i64 m.f5, .int .i64 m.f6, .bool m.f7, .slice A8 m.f8.length c8, .int .i64 m.f9.f0, .int .i64 m.f9.f1, .int .i64 m.f9.f2, .slice A12 m.f9.f3.length c12, .int .i64 m.f10.f0, .int .i64 m.f10.f1, .int .i64 m.f10.f2, .slice A16 m.f10.f3.length c16] 34)) ∧ ((((w.alloc (.cells #[.int .i64 t.f0, .int .i64 t.f1, .slice T2 t.f2.length t2, .slice T3 t.f3.length t3, .slice T4 t.f4.length t4, .slice T5 t.f5.length t5] 26)).alloc (.cells #[.int .i64 e.f0, .int .i64 e.f1, .int .i64 e.f2, .slice E e.f3.length ce] 29)).alloc (.cells #[.int .i64 m.f0, .int .i64 m.f1, .int .i64 m.f2, .int .i64 m.f3, .int .i64 m.f4, .int .i64 m.f5, .int .i64 m.f6, .bool m.f7, .slice A8 m.f8.length c8, .int .i64 m.f9.f0, .int .i64 m.f9.f1, .int .i64 m.f9.f2, .slice A12 m.f9.f3.length c12, .int .i64 m.f10.f0, .int .i64 m.f10.f1, .int .i64 m.f10.f2, .slice A16 m.f10.f3.length c16] 34)).heap[w.heap.size]? = some (.cells #[.int .i64 t.f0, .int .i64 t.f1, .slice T2 t.f2.length t2, .slice T3 t.f3.length t3, .slice T4 t.f4.length t4, .slice T5 t.f5.length t5] 26) ∧ (((w.alloc (.cells #[.int .i64 t.f0, .int .i64 t.f1, .slice T2 t.f2.length t2, .slice T3 t.f3.length t3, .slice T4 t.f4.length t4, .slice T5 t.f5.length t5] 26)).alloc (.cells #[.int .i64 e.f0, .int .i64 e.f1, .int .i64 e.f2, .slice E e.f3.length ce] 29)).alloc (.cells #[.int .i64 m.f0, .int .i64 m.f1, .int .i64 m.f2, .int .i64 m.f3, .int .i64 m.f4, .int .i64 m.f5, .int .i64 m.f6, .bool m.f7, .slice A8 m.f8.length c8, .int .i64 m.f9.f0, .int .i64 m.f9.f1, .int .i64 m.f9.f2, .slice A12 m.f9.f3.length c12, .int .i64 m.f10.f0, .int .i64 m.f10.f1, .int .i64 m.f10.f2, .slice A16 m.f10.f3.length c16] 34)).heap[w.heap.size + 1]? = some (.cells #[.int .i64 e.f0, .int .i64 e.f1, .int .i64 e.f2, .slice E e.f3.length ce] 29) ∧ (((w.alloc (.cells #[.int .i64 t.f0, .int .i64 t.f1, .slice T2 t.f2.length t2, .slice T3 t.f3.length t3, .slice T4 t.f4.length t4, .slice T5 t.f5.length t5] 26)).alloc (.cells #[.int .i64 e.f0, .int .i64 e.f1, .int .i64 e.f2, .slice E e.f3.length ce] 29)).alloc (.cells #[.int .i64 m.f0, .int .i64 m.f1, .int .i64 m.f2, .int .i64 m.f3, .int .i64 m.f4, .int .i64 m.f5, .int .i64 m.f6, .bool m.f7, .slice A8 m.f8.length c8, .int .i64 m.f9.f0, .int .i64 m.f9.f1, .int .i64 m.f9.f2, .slice A12 m.f9.f3.length c12, .int .i64 m.f10.f0, .int .i64 m.f10.f1, .int .i64 m.f10.f2, .slice A16 m.f10.f3.length c16] 34)).heap[w.heap.size + 1 + 1]? = some (.cells #[.int .i64 m.f0, .int .i64 m.f1, .int .i64 m.f2, .int .i64 m.f3, .int .i64 m.f4, .int .i64 m.f5, .int .i64 m.f6, .bool m.f7, .slice A8 m.f8.length c8, .int .i64 m.f9.f0, .int .i64 m.f9.f1, .int .i64 m.f9.f2, .slice A12 m.f9.f3.length c12, .int .i64 m.f10.f0, .int .i64 m.f10.f1, .int .i64 m.f10.f2, .slice A16 m.f10.f3.length c16] 34)) := by
    have z1 : (w.alloc (.cells #[.int .i64 t.f0, .int .i64 t.f1, .slice T2 t.f2.length t2, .slice T3 t.f3.length t3, .slice T4 t.f4.length t4, .slice T5 t.f5.length t5] 26)).heap.size = w.heap.size + 1 := by simp
    have z2 : ((w.alloc (.cells #[.int .i64 t.f0, .int .i64 t.f1, .slice T2 t.f2.length t2, .slice T3 t.f3.length t3, .slice T4 t.f4.length t4, .slice T5 t.f5.length t5] 26)).alloc (.cells #[.int .i64 e.f0, .int .i64 e.f1, .int .i64 e.f2, .slice E e.f3.length ce] 29)).heap.size = w.heap.size + 1 + 1 := by simp
    obtain ⟨u1, h1⟩ : ∃ u, w.alloc (.cells #[.int .i64 t.f0, .int .i64 t.f1, .slice T2 t.f2.length t2, .slice T3 t.f3.length t3, .slice T4 t.f4.length t4, .slice T5 t.f5.length t5] 26) = u := ⟨_, rfl⟩
    have b1 := (Below.refl _ w).alloc (Nat.le_refl _) (.cells #[.int .i64 t.f0, .int .i64 t.f1, .slice T2 t.f2.length t2, .slice T3 t.f3.length t3, .slice T4 t.f4.length t4, .slice T5 t.f5.length t5] 26)
    have x1 := heap_alloc_new w (.cells #[.int .i64 t.f0, .int .i64 t.f1, .slice T2 t.f2.length t2, .slice T3 t.f3.length t3, .slice T4 t.f4.length t4, .slice T5 t.f5.length t5] 26)
    rw [h1] at b1 x1 z1 z2 ⊢
    obtain ⟨u2, h2⟩ : ∃ u, u1.alloc (.cells #[.int .i64 e.f0, .int .i64 e.f1, .int .i64 e.f2, .slice E e.f3.length ce] 29) = u := ⟨_, rfl⟩
    have b2 := (Below.refl _ u1).alloc (Nat.le_refl _) (.cells #[.int .i64 e.f0, .int .i64 e.f1, .int .i64 e.f2, .slice E e.f3.length ce] 29)
    have x2 := heap_alloc_new u1 (.cells #[.int .i64 e.f0, .int .i64 e.f1, .int .i64 e.f2, .slice E e.f3.length ce] 29)
    rw [h2] at b2 x2 z2 ⊢
    have b3 := (Below.refl _ u2).alloc (Nat.le_refl _) (.cells #[.int .i64 m.f0, .int .i64 m.f1, .int .i64 m.f2, .int .i64 m.f3, .int .i64 m.f4, .int .i64 m.f5, .int .i64 m.f6, .bool m.f7, .slice A8 m.f8.length c8, .int .i64 m.f9.f0, .int .i64 m.f9.f1, .int .i64 m.f9.f2, .slice A12 m.f9.f3.length c12, .int .i64 m.f10.f0, .int .i64 m.f10.f1, .int .i64 m.f10.f2, .slice A16 m.f10.f3.length c16] 34)
    have x3 := heap_alloc_new u2 (.cells #[.int .i64 m.f0, .int .i64 m.f1, .int .i64 m.f2, .int .i64 m.f3, .int .i64 m.f4, .int .i64 m.f5, .int .i64 m.f6, .bool m.f7, .slice A8 m.f8.length c8, .int .i64 m.f9.f0, .int .i64 m.f9.f1, .int .i64 m.f9.f2, .slice A12 m.f9.f3.length c12, .int .i64 m.f10.f0, .int .i64 m.f10.f1, .int .i64 m.f10.f2, .slice A16 m.f10.f3.length c16] 34)
    rw [z1] at x2
    rw [z2] at x3
    exact ⟨b1.trans ((b2.mono (by omega)).trans (b3.mono (by omega))), (b3.block _ (by omega)).trans ((b2.block _ (by omega)).trans x1), (b3.block _ (by omega)).trans x2, x3⟩
  have HW := Lib.hid hb1; have HX := Lib.hid hx; have HK := Lib.hid (Kd.C_below hk hb1); have HT := Lib.hid (ht.below hb1); have HE := Lib.hid (Kd.C_below he hb1); have HM := Lib.hid (hm.below hb1); have HL := Lib.hid (And.intro hkl hel); have HP := Lib.hid hp
  clear hk ht he hm hb1 hx hkl hel hp
  go_enter Tryz.func3, Tryz.ntmps3
  go_upto_region 1 with fail
  obtain ⟨w1, hw⟩ : ∃ w1, (((w.alloc (.cells #[.int .i64 t.f0, .int .i64 t.f1, .slice T2 t.f2.length t2, .slice T3 t.f3.length t3, .slice T4 t.f4.length t4, .slice T5 t.f5.length t5] 26)).alloc (.cells #[.int .i64 e.f0, .int .i64 e.f1, .int .i64 e.f2, .slice E e.f3.length ce] 29)).alloc (.cells #[.int .i64 m.f0, .int .i64 m.f1, .int .i64 m.f2, .int .i64 m.f3, .int .i64 m.f4, .int .i64 m.f5, .int .i64 m.f6, .bool m.f7, .slice A8 m.f8.length c8, .int .i64 m.f9.f0, .int .i64 m.f9.f1, .int .i64 m.f9.f2, .slice A12 m.f9.f3.length c12, .int .i64 m.f10.f0, .int .i64 m.f10.f1, .int .i64 m.f10.f2, .slice A16 m.f10.f3.length c16] 34)) = w1 := ⟨_, rfl⟩
  obtain ⟨g, hg⟩ : ∃ g, w.heap.size = g := ⟨_, rfl⟩
  rw [hw] at HW HX HK HT HE HM ⊢
  have HG := Lib.hid hg
  rw [hg] at HX ⊢
  clear hw hg
  have HX0 := Lib.hid (show (w1.drew.heap[g]? = some (.cells #[.int .i64 t.f0, .int .i64 t.f1, .slice T2 t.f2.length t2, .slice T3 t.f3.length t3, .slice T4 t.f4.length t4, .slice T5 t.f5.length t5] 26) ∧ w1.drew.heap[g + 1]? = some (.cells #[.int .i64 e.f0, .int .i64 e.f1, .int .i64 e.f2, .slice E e.f3.length ce] 29) ∧ w1.drew.heap[g + 1 + 1]? = some (.cells #[.int .i64 m.f0, .int .i64 m.f1, .int .i64 m.f2, .int .i64 m.f3, .int .i64 m.f4, .int .i64 m.f5, .int .i64 m.f6, .bool m.f7, .slice A8 m.f8.length c8, .int .i64 m.f9.f0, .int .i64 m.f9.f1, .int .i64 m.f9.f2, .slice A12 m.f9.f3.length c12, .int .i64 m.f10.f0, .int .i64 m.f10.f1, .int .i64 m.f10.f2, .slice A16 m.f10.f3.length c16] 34)) from HX.out)
  have HB0 := Lib.hid ((Below.refl w1.heap.size w1).drew)
  refine start_ (n := 30) (S := fun w' => (w'.heap[g]? = some (.cells #[.int .i64 t.f0, .int .i64 t.f1, .slice T2 t.f2.length t2, .slice T3 t.f3.length t3, .slice T4 t.f4.length t4, .slice T5 t.f5.length t5] 26) ∧ w'.heap[g + 1]? = some (.cells #[.int .i64 e.f0, .int .i64 e.f1, .int .i64 e.f2, .slice E e.f3.length ce] 29) ∧ w'.heap[g + 1 + 1]? = some (.cells #[.int .i64 m.f0, .int .i64 m.f1, .int .i64 m.f2, .int .i64 m.f3, .int .i64 m.f4, .int .i64 m.f5, .int .i64 m.f6, .bool m.f7, .slice A8 m.f8.length c8, .int .i64 m.f9.f0, .int .i64 m.f9.f1, .int .i64 m.f9.f2, .slice A12 m.f9.f3.length c12, .int .i64 m.f10.f0, .int .i64 m.f10.f1, .int .i64 m.f10.f2, .slice A16 m.f10.f3.length c16] 34))) (ds := []) #[false, false, false, false, false, false, false, false, false, false, false, false, false, false, false, false, false, false, false, false, false, false, false, false, false, false, false, false, false, false] (by kernel_rfl) rfl rfl HX0.out (fun hHeld => ?_)
  refine with_tabW checks1_tab checks1_bits (fun HT_ HW_ => ?_)
  obtain ⟨v0, hwa⟩ : ∃ wa, w1.drew = wa := ⟨_, rfl⟩
  rw [hwa] at HX0 HB0 hHeld ⊢
  clear hwa
  obtain ⟨k, hk⟩ : ∃ n : Int, okN (mayK l) = n := ⟨_, rfl⟩
  have Hk := Lib.hid hk
  have ek : (k == k) = true := by simp
  clear hk
  obtain ⟨p, hp⟩ : ∃ n : Int, okN (mayT t) = n := ⟨_, rfl⟩
  have Hp := Lib.hid hp
  have ep : (p == p) = true := by simp
  clear hp
  obtain ⟨q, hq⟩ : ∃ n : Int, okN (mayE e.f0 e.f1 e.f2 e.f3) = n := ⟨_, rfl⟩
  have Hq := Lib.hid hq
  have eq : (q == q) = true := by simp
  clear hq
  obtain ⟨s, hs⟩ : ∃ n : Int, (if mayMs m = true then 0 else 40) = n := ⟨_, rfl⟩
  have Hs := Lib.hid hs
  have es : (s == s) = true := by simp
  clear hs
  refine one_ (i := 0) (N := some 9) #[true, false, false, false, false, false, false, false, false, false, false, false, false, false, false, false, false, false, false, false, false, false, false, false, false, false, false, false, false, false] rfl rfl (one_of HT_.out (by kernel_rfl)) (by decide) (fun K hK => ?_)
  go_simp
  have h4 := begun_is v0
  refine h4.mono ?_
  rintro x v1 ⟨rfl, hb⟩
  have HX1 := Lib.hid (show (v1.heap[g]? = some (.cells #[.int .i64 t.f0, .int .i64 t.f1, .slice T2 t.f2.length t2, .slice T3 t.f3.length t3, .slice T4 t.f4.length t4, .slice T5 t.f5.length t5] 26) ∧ v1.heap[g + 1]? = some (.cells #[.int .i64 e.f0, .int .i64 e.f1, .int .i64 e.f2, .slice E e.f3.length ce] 29) ∧ v1.heap[g + 1 + 1]? = some (.cells #[.int .i64 m.f0, .int .i64 m.f1, .int .i64 m.f2, .int .i64 m.f3, .int .i64 m.f4, .int .i64 m.f5, .int .i64 m.f6, .bool m.f7, .slice A8 m.f8.length c8, .int .i64 m.f9.f0, .int .i64 m.f9.f1, .int .i64 m.f9.f2, .slice A12 m.f9.f3.length c12, .int .i64 m.f10.f0, .int .i64 m.f10.f1, .int .i64 m.f10.f2, .slice A16 m.f10.f3.length c16] 34)) from ⟨(hb.block _ (Array.getElem?_eq_some_iff.1 HX0.out.1).1).trans HX0.out.1, (hb.block _ (Array.getElem?_eq_some_iff.1 HX0.out.2.1).1).trans HX0.out.2.1, (hb.block _ (Array.getElem?_eq_some_iff.1 HX0.out.2.2).1).trans HX0.out.2.2⟩); have HB1 := Lib.hid (HB0.out.trans (hb.mono HB0.out.size))
  clear h4 hb HX0 HB0
  refine hK.out _ _ HX1.out (fun hHeld => ?_)
  clear hK K
  refine pure_ (i := 1) (N := some 10) (v := ?_) (a' := ?_) #[true, true, false, false, false, false, false, false, false, false, false, false, false, false, false, false, false, false, false, false, false, false, false, false, false, false, false, false, false, false] rfl rfl (any_of HT_.out (by kernel_rfl)) (fun _ _ _ h => h) (Or.inl ⟨by rfl, ?_⟩) ?_ ?_
  rotate_left
  · intro w'
    go_simp
    try with_reducible rfl
  rotate_left
  · simp only [Act.put, List.setIfInBounds_toArray, List.set_cons_zero, List.set_cons_succ, i64_w, i32_w]
    rfl
  refine pure_ (i := 2) (N := some 11) (v := ?_) (a' := ?_) #[true, true, true, false, false, false, false, false, false, false, false, false, false, false, false, false, false, false, false, false, false, false, false, false, false, false, false, false, false, false] rfl rfl (any_of HT_.out (by kernel_rfl)) (fun _ _ _ h => h) (Or.inl ⟨by rfl, ?_⟩) ?_ ?_
  rotate_left
  · intro w'
    go_simp
    try with_reducible rfl
  rotate_left
  · simp only [Act.put, List.setIfInBounds_toArray, List.set_cons_zero, List.set_cons_succ, i64_w, i32_w]
    rfl
  refine pure_ (i := 4) (N := some 13) (v := ?_) (a' := ?_) #[true, true, true, false, true, false, false, false, false, false, false, false, false, false, false, false, false, false, false, false, false, false, false, false, false, false, false, false, false, false] rfl rfl (any_of HT_.out (by kernel_rfl)) (fun _ _ _ h => h) (Or.inl ⟨by rfl, ?_⟩) ?_ ?_
  rotate_left
  · intro w'
    go_simp
    try with_reducible rfl
  rotate_left
  · simp only [Act.put, List.setIfInBounds_toArray, List.set_cons_zero, List.set_cons_succ, i64_w, i32_w]
    rfl
  refine one_ (i := 3) (N := some 12) #[true, true, true, true, true, false, false, false, false, false, false, false, false, false, false, false, false, false, false, false, false, false, false, false, false, false, false, false, false, false] rfl rfl (one_of HT_.out (by kernel_rfl)) (by decide) (fun K hK => ?_)
  go_simp
  have h4 := cK_is KA ck l v1 (Kd.C_below HK.out HB1.out) HL.out.1
  rw [Hk.out] at h4
  refine h4.mono ?_
  rintro x v2 ⟨rfl, hb⟩
  have HX2 := Lib.hid (show (v2.heap[g]? = some (.cells #[.int .i64 t.f0, .int .i64 t.f1, .slice T2 t.f2.length t2, .slice T3 t.f3.length t3, .slice T4 t.f4.length t4, .slice T5 t.f5.length t5] 26) ∧ v2.heap[g + 1]? = some (.cells #[.int .i64 e.f0, .int .i64 e.f1, .int .i64 e.f2, .slice E e.f3.length ce] 29) ∧ v2.heap[g + 1 + 1]? = some (.cells #[.int .i64 m.f0, .int .i64 m.f1, .int .i64 m.f2, .int .i64 m.f3, .int .i64 m.f4, .int .i64 m.f5, .int .i64 m.f6, .bool m.f7, .slice A8 m.f8.length c8, .int .i64 m.f9.f0, .int .i64 m.f9.f1, .int .i64 m.f9.f2, .slice A12 m.f9.f3.length c12, .int .i64 m.f10.f0, .int .i64 m.f10.f1, .int .i64 m.f10.f2, .slice A16 m.f10.f3.length c16] 34)) from ⟨(hb.block _ (Array.getElem?_eq_some_iff.1 HX1.out.1).1).trans HX1.out.1, (hb.block _ (Array.getElem?_eq_some_iff.1 HX1.out.2.1).1).trans HX1.out.2.1, (hb.block _ (Array.getElem?_eq_some_iff.1 HX1.out.2.2).1).trans HX1.out.2.2⟩); have HB2 := Lib.hid (HB1.out.trans (hb.mono HB1.out.size))
  clear h4 hb HX1 HB1
  refine hK.out _ _ HX2.out (fun hHeld => ?_)
  clear hK K
  refine one_ (i := 5) (N := some 14) #[true, true, true, true, true, true, false, false, false, false, false, false, false, false, false, false, false, false, false, false, false, false, false, false, false, false, false, false, false, false] rfl rfl (one_of HT_.out (by kernel_rfl)) (by decide) (fun K hK => ?_)
  go_simp
  have h4 := rK_is KA ck l v2 (Kd.C_below HK.out HB2.out) HL.out.1
  rw [Hk.out] at h4
  refine h4.mono ?_
  rintro x v3 ⟨rfl, hb⟩
  have HX3 := Lib.hid (show (v3.heap[g]? = some (.cells #[.int .i64 t.f0, .int .i64 t.f1, .slice T2 t.f2.length t2, .slice T3 t.f3.length t3, .slice T4 t.f4.length t4, .slice T5 t.f5.length t5] 26) ∧ v3.heap[g + 1]? = some (.cells #[.int .i64 e.f0, .int .i64 e.f1, .int .i64 e.f2, .slice E e.f3.length ce] 29) ∧ v3.heap[g + 1 + 1]? = some (.cells #[.int .i64 m.f0, .int .i64 m.f1, .int .i64 m.f2, .int .i64 m.f3, .int .i64 m.f4, .int .i64 m.f5, .int .i64 m.f6, .bool m.f7, .slice A8 m.f8.length c8, .int .i64 m.f9.f0, .int .i64 m.f9.f1, .int .i64 m.f9.f2, .slice A12 m.f9.f3.length c12, .int .i64 m.f10.f0, .int .i64 m.f10.f1, .int .i64 m.f10.f2, .slice A16 m.f10.f3.length c16] 34)) from ⟨(hb.block _ (Array.getElem?_eq_some_iff.1 HX2.out.1).1).trans HX2.out.1, (hb.block _ (Array.getElem?_eq_some_iff.1 HX2.out.2.1).1).trans HX2.out.2.1, (hb.block _ (Array.getElem?_eq_some_iff.1 HX2.out.2.2).1).trans HX2.out.2.2⟩); have HB3 := Lib.hid (HB2.out.trans (hb.mono HB2.out.size))
  clear h4 hb HX2 HB2
  refine hK.out _ _ HX3.out (fun hHeld => ?_)
  clear hK K
  refine pure_ (i := 6) (N := some 15) (v := ?_) (a' := ?_) #[true, true, true, true, true, true, true, false, false, false, false, false, false, false, false, false, false, false, false, false, false, false, false, false, false, false, false, false, false, false] rfl rfl (any_of HT_.out (by kernel_rfl)) (fun _ _ _ h => h) (Or.inl ⟨by rfl, ?_⟩) ?_ ?_
  rotate_left
  · intro w'
    go_simp
    try with_reducible rfl
  rotate_left
  · simp only [Act.put, List.setIfInBounds_toArray, List.set_cons_zero, List.set_cons_succ, i64_w, i32_w]
    rfl
  refine pure_ (i := 7) (N := some 16) (v := ?_) (a' := ?_) #[true, true, true, true, true, true, true, true, false, false, false, false, false, false, false, false, false, false, false, false, false, false, false, false, false, false, false, false, false, false] rfl rfl (any_of HT_.out (by kernel_rfl)) (fun _ _ _ h => h) (Or.inl ⟨by rfl, ?_⟩) ?_ ?_
  rotate_left
  · intro w'
    go_simp
    try with_reducible rfl
  rotate_left
  · simp only [Act.put, List.setIfInBounds_toArray, List.set_cons_zero, List.set_cons_succ, i64_w, i32_w]
    rfl
  refine pure_ (i := 8) (N := some 17) (v := ?_) (a' := ?_) #[true, true, true, true, true, true, true, true, true, false, false, false, false, false, false, false, false, false, false, false, false, false, false, false, false, false, false, false, false, false] rfl rfl (any_of HT_.out (by kernel_rfl)) (fun _ _ _ h => h) (Or.inl ⟨by rfl, ?_⟩) ?_ ?_
  rotate_left
  · intro w'
    go_simp
    try with_reducible rfl
  rotate_left
  · simp only [Act.put, List.setIfInBounds_toArray, List.set_cons_zero, List.set_cons_succ, i64_w, i32_w]
    rfl
  refine take_ (i := 9) (N := some 18) (v := _) (a' := ?_) #[true, true, true, true, true, true, true, true, true, true, false, false, false, false, false, false, false, false, false, false, false, false, false, false, false, false, false, false, false, false] rfl rfl (take_ofW HT_.out HW_.out (by kernel_rfl)) (fun _ _ _ h => h) (Or.inl ⟨by rfl, fun w' hS => exec_load_row rfl rfl (hS.1) Tryz.underlying26 rfl (by kernel_rfl)⟩) hHeld ?_ ?_
  rotate_left
  · simp only [Act.put, List.setIfInBounds_toArray, List.set_cons_zero, List.set_cons_succ, i64_w, i32_w]
    rfl
  refine take_ (i := 11) (N := some 20) (v := _) (a' := ?_) #[true, true, true, true, true, true, true, true, true, true, false, true, false, false, false, false, false, false, false, false, false, false, false, false, false, false, false, false, false, false] rfl rfl (take_ofW HT_.out HW_.out (by kernel_rfl)) (fun _ _ _ h => h) (Or.inl ⟨by rfl, fun w' hS => exec_load_row rfl rfl (hS.1) Tryz.underlying26 rfl (by kernel_rfl)⟩) hHeld ?_ ?_
  rotate_left
  · simp only [Act.put, List.setIfInBounds_toArray, List.set_cons_zero, List.set_cons_succ, i64_w, i32_w]
    rfl
  refine one_ (i := 10) (N := some 19) #[true, true, true, true, true, true, true, true, true, true, true, true, false, false, false, false, false, false, false, false, false, false, false, false, false, false, false, false, false, false] rfl rfl (one_of HT_.out (by kernel_rfl)) (by decide) (fun K hK => ?_)
  go_simp
  have h4 := cT_is t (HT.out.below HB3.out)
  rw [Hp.out] at h4
  refine h4.mono ?_
  rintro x v4 ⟨rfl, hb⟩
  have HX4 := Lib.hid (show (v4.heap[g]? = some (.cells #[.int .i64 t.f0, .int .i64 t.f1, .slice T2 t.f2.length t2, .slice T3 t.f3.length t3, .slice T4 t.f4.length t4, .slice T5 t.f5.length t5] 26) ∧ v4.heap[g + 1]? = some (.cells #[.int .i64 e.f0, .int .i64 e.f1, .int .i64 e.f2, .slice E e.f3.length ce] 29) ∧ v4.heap[g + 1 + 1]? = some (.cells #[.int .i64 m.f0, .int .i64 m.f1, .int .i64 m.f2, .int .i64 m.f3, .int .i64 m.f4, .int .i64 m.f5, .int .i64 m.f6, .bool m.f7, .slice A8 m.f8.length c8, .int .i64 m.f9.f0, .int .i64 m.f9.f1, .int .i64 m.f9.f2, .slice A12 m.f9.f3.length c12, .int .i64 m.f10.f0, .int .i64 m.f10.f1, .int .i64 m.f10.f2, .slice A16 m.f10.f3.length c16] 34)) from ⟨(hb.block _ (Array.getElem?_eq_some_iff.1 HX3.out.1).1).trans HX3.out.1, (hb.block _ (Array.getElem?_eq_some_iff.1 HX3.out.2.1).1).trans HX3.out.2.1, (hb.block _ (Array.getElem?_eq_some_iff.1 HX3.out.2.2).1).trans HX3.out.2.2⟩); have HB4 := Lib.hid (HB3.out.trans (hb.mono HB3.out.size))
  clear h4 hb HX3 HB3
  refine hK.out _ _ HX4.out (fun hHeld => ?_)
  clear hK K
  refine one_ (i := 12) (N := some 21) #[true, true, true, true, true, true, true, true, true, true, true, true, true, false, false, false, false, false, false, false, false, false, false, false, false, false, false, false, false, false] rfl rfl (one_of HT_.out (by kernel_rfl)) (by decide) (fun K hK => ?_)
  go_simp
  have h4 := rT_is t (HT.out.below HB4.out)
  rw [Hp.out] at h4
  refine h4.mono ?_
  rintro x v5 ⟨rfl, hb⟩
  have HX5 := Lib.hid (show (v5.heap[g]? = some (.cells #[.int .i64 t.f0, .int .i64 t.f1, .slice T2 t.f2.length t2, .slice T3 t.f3.length t3, .slice T4 t.f4.length t4, .slice T5 t.f5.length t5] 26) ∧ v5.heap[g + 1]? = some (.cells #[.int .i64 e.f0, .int .i64 e.f1, .int .i64 e.f2, .slice E e.f3.length ce] 29) ∧ v5.heap[g + 1 + 1]? = some (.cells #[.int .i64 m.f0, .int .i64 m.f1, .int .i64 m.f2, .int .i64 m.f3, .int .i64 m.f4, .int .i64 m.f5, .int .i64 m.f6, .bool m.f7, .slice A8 m.f8.length c8, .int .i64 m.f9.f0, .int .i64 m.f9.f1, .int .i64 m.f9.f2, .slice A12 m.f9.f3.length c12, .int .i64 m.f10.f0, .int .i64 m.f10.f1, .int .i64 m.f10.f2, .slice A16 m.f10.f3.length c16] 34)) from ⟨(hb.block _ (Array.getElem?_eq_some_iff.1 HX4.out.1).1).trans HX4.out.1, (hb.block _ (Array.getElem?_eq_some_iff.1 HX4.out.2.1).1).trans HX4.out.2.1, (hb.block _ (Array.getElem?_eq_some_iff.1 HX4.out.2.2).1).trans HX4.out.2.2⟩); have HB5 := Lib.hid (HB4.out.trans (hb.mono HB4.out.size))
  clear h4 hb HX4 HB4
  refine hK.out _ _ HX5.out (fun hHeld => ?_)
  clear hK K
  refine pure_ (i := 13) (N := some 22) (v := ?_) (a' := ?_) #[true, true, true, true, true, true, true, true, true, true, true, true, true, true, false, false, false, false, false, false, false, false, false, false, false, false, false, false, false, false] rfl rfl (any_of HT_.out (by kernel_rfl)) (fun _ _ _ h => h) (Or.inl ⟨by rfl, ?_⟩) ?_ ?_
  rotate_left
  · intro w'
    go_simp
    try with_reducible rfl
  rotate_left
  · simp only [Act.put, List.setIfInBounds_toArray, List.set_cons_zero, List.set_cons_succ, i64_w, i32_w]
    rfl
  refine pure_ (i := 14) (N := some 23) (v := ?_) (a' := ?_) #[true, true, true, true, true, true, true, true, true, true, true, true, true, true, true, false, false, false, false, false, false, false, false, false, false, false, false, false, false, false] rfl rfl (any_of HT_.out (by kernel_rfl)) (fun _ _ _ h => h) (Or.inl ⟨by rfl, ?_⟩) ?_ ?_
  rotate_left
  · intro w'
    go_simp
    try with_reducible rfl
  rotate_left
  · simp only [Act.put, List.setIfInBounds_toArray, List.set_cons_zero, List.set_cons_succ, i64_w, i32_w]
    rfl
  refine pure_ (i := 15) (N := some 24) (v := ?_) (a' := ?_) #[true, true, true, true, true, true, true, true, true, true, true, true, true, true, true, true, false, false, false, false, false, false, false, false, false, false, false, false, false, false] rfl rfl (any_of HT_.out (by kernel_rfl)) (fun _ _ _ h => h) (Or.inl ⟨by rfl, ?_⟩) ?_ ?_
  rotate_left
  · intro w'
    go_simp
    try with_reducible rfl
  rotate_left
  · simp only [Act.put, List.setIfInBounds_toArray, List.set_cons_zero, List.set_cons_succ, i64_w, i32_w]
    rfl
  refine take_ (i := 16) (N := some 25) (v := _) (a' := ?_) #[true, true, true, true, true, true, true, true, true, true, true, true, true, true, true, true, true, false, false, false, false, false, false, false, false, false, false, false, false, false] rfl rfl (take_ofW HT_.out HW_.out (by kernel_rfl)) (fun _ _ _ h => h) (Or.inl ⟨by rfl, fun w' hS => exec_load_row rfl rfl (hS.2.1) Tryz.underlying29 rfl (by kernel_rfl)⟩) hHeld ?_ ?_
  rotate_left
  · simp only [Act.put, List.setIfInBounds_toArray, List.set_cons_zero, List.set_cons_succ, i64_w, i32_w]
    rfl
  refine take_ (i := 18) (N := some 27) (v := _) (a' := ?_) #[true, true, true, true, true, true, true, true, true, true, true, true, true, true, true, true, true, false, true, false, false, false, false, false, false, false, false, false, false, false] rfl rfl (take_ofW HT_.out HW_.out (by kernel_rfl)) (fun _ _ _ h => h) (Or.inl ⟨by rfl, fun w' hS => exec_load_row rfl rfl (hS.2.1) Tryz.underlying29 rfl (by kernel_rfl)⟩) hHeld ?_ ?_
  rotate_left
  · simp only [Act.put, List.setIfInBounds_toArray, List.set_cons_zero, List.set_cons_succ, i64_w, i32_w]
    rfl
  refine one_ (i := 17) (N := some 26) #[true, true, true, true, true, true, true, true, true, true, true, true, true, true, true, true, true, true, true, false, false, false, false, false, false, false, false, false, false, false] rfl rfl (one_of HT_.out (by kernel_rfl)) (by decide) (fun K hK => ?_)
  go_simp
  have h4 := cE_is e (Kd.C_below HE.out HB5.out) HL.out.2
  rw [Hq.out] at h4
  refine h4.mono ?_
  rintro x v6 ⟨rfl, hb⟩
  have HX6 := Lib.hid (show (v6.heap[g]? = some (.cells #[.int .i64 t.f0, .int .i64 t.f1, .slice T2 t.f2.length t2, .slice T3 t.f3.length t3, .slice T4 t.f4.length t4, .slice T5 t.f5.length t5] 26) ∧ v6.heap[g + 1]? = some (.cells #[.int .i64 e.f0, .int .i64 e.f1, .int .i64 e.f2, .slice E e.f3.length ce] 29) ∧ v6.heap[g + 1 + 1]? = some (.cells #[.int .i64 m.f0, .int .i64 m.f1, .int .i64 m.f2, .int .i64 m.f3, .int .i64 m.f4, .int .i64 m.f5, .int .i64 m.f6, .bool m.f7, .slice A8 m.f8.length c8, .int .i64 m.f9.f0, .int .i64 m.f9.f1, .int .i64 m.f9.f2, .slice A12 m.f9.f3.length c12, .int .i64 m.f10.f0, .int .i64 m.f10.f1, .int .i64 m.f10.f2, .slice A16 m.f10.f3.length c16] 34)) from ⟨(hb.block _ (Array.getElem?_eq_some_iff.1 HX5.out.1).1).trans HX5.out.1, (hb.block _ (Array.getElem?_eq_some_iff.1 HX5.out.2.1).1).trans HX5.out.2.1, (hb.block _ (Array.getElem?_eq_some_iff.1 HX5.out.2.2).1).trans HX5.out.2.2⟩); have HB6 := Lib.hid (HB5.out.trans (hb.mono HB5.out.size))
  clear h4 hb HX5 HB5
  refine hK.out _ _ HX6.out (fun hHeld => ?_)
  clear hK K
  refine one_ (i := 19) (N := some 28) #[true, true, true, true, true, true, true, true, true, true, true, true, true, true, true, true, true, true, true, true, false, false, false, false, false, false, false, false, false, false] rfl rfl (one_of HT_.out (by kernel_rfl)) (by decide) (fun K hK => ?_)
  go_simp
  have h4 := rE_is e (Kd.C_below HE.out HB6.out) HL.out.2
  rw [Hq.out] at h4
  refine h4.mono ?_
  rintro x v7 ⟨rfl, hb⟩
  have HX7 := Lib.hid (show (v7.heap[g]? = some (.cells #[.int .i64 t.f0, .int .i64 t.f1, .slice T2 t.f2.length t2, .slice T3 t.f3.length t3, .slice T4 t.f4.length t4, .slice T5 t.f5.length t5] 26) ∧ v7.heap[g + 1]? = some (.cells #[.int .i64 e.f0, .int .i64 e.f1, .int .i64 e.f2, .slice E e.f3.length ce] 29) ∧ v7.heap[g + 1 + 1]? = some (.cells #[.int .i64 m.f0, .int .i64 m.f1, .int .i64 m.f2, .int .i64 m.f3, .int .i64 m.f4, .int .i64 m.f5, .int .i64 m.f6, .bool m.f7, .slice A8 m.f8.length c8, .int .i64 m.f9.f0, .int .i64 m.f9.f1, .int .i64 m.f9.f2, .slice A12 m.f9.f3.length c12, .int .i64 m.f10.f0, .int .i64 m.f10.f1, .int .i64 m.f10.f2, .slice A16 m.f10.f3.length c16] 34)) from ⟨(hb.block _ (Array.getElem?_eq_some_iff.1 HX6.out.1).1).trans HX6.out.1, (hb.block _ (Array.getElem?_eq_some_iff.1 HX6.out.2.1).1).trans HX6.out.2.1, (hb.block _ (Array.getElem?_eq_some_iff.1 HX6.out.2.2).1).trans HX6.out.2.2⟩); have HB7 := Lib.hid (HB6.out.trans (hb.mono HB6.out.size))
  clear h4 hb HX6 HB6
  refine hK.out _ _ HX7.out (fun hHeld => ?_)
  clear hK K
  refine pure_ (i := 20) (N := some 29) (v := ?_) (a' := ?_) #[true, true, true, true, true, true, true, true, true, true, true, true, true, true, true, true, true, true, true, true, true, false, false, false, false, false, false, false, false, false] rfl rfl (any_of HT_.out (by kernel_rfl)) (fun _ _ _ h => h) (Or.inl ⟨by rfl, ?_⟩) ?_ ?_
  rotate_left
  · intro w'
    go_simp
    try with_reducible rfl
  rotate_left
  · simp only [Act.put, List.setIfInBounds_toArray, List.set_cons_zero, List.set_cons_succ, i64_w, i32_w]
    rfl
  refine pure_ (i := 21) (N := some 30) (v := ?_) (a' := ?_) #[true, true, true, true, true, true, true, true, true, true, true, true, true, true, true, true, true, true, true, true, true, true, false, false, false, false, false, false, false, false] rfl rfl (any_of HT_.out (by kernel_rfl)) (fun _ _ _ h => h) (Or.inl ⟨by rfl, ?_⟩) ?_ ?_
  rotate_left
  · intro w'
    go_simp
    try with_reducible rfl
  rotate_left
  · simp only [Act.put, List.setIfInBounds_toArray, List.set_cons_zero, List.set_cons_succ, i64_w, i32_w]
    rfl
  refine pure_ (i := 22) (N := some 31) (v := ?_) (a' := ?_) #[true, true, true, true, true, true, true, true, true, true, true, true, true, true, true, true, true, true, true, true, true, true, true, false, false, false, false, false, false, false] rfl rfl (any_of HT_.out (by kernel_rfl)) (fun _ _ _ h => h) (Or.inl ⟨by rfl, ?_⟩) ?_ ?_
  rotate_left
  · intro w'
    go_simp
    try with_reducible rfl
  rotate_left
  · simp only [Act.put, List.setIfInBounds_toArray, List.set_cons_zero, List.set_cons_succ, i64_w, i32_w]
    rfl
  refine take_ (i := 23) (N := some 32) (v := _) (a' := ?_) #[true, true, true, true, true, true, true, true, true, true, true, true, true, true, true, true, true, true, true, true, true, true, true, true, false, false, false, false, false, false] rfl rfl (take_ofW HT_.out HW_.out (by kernel_rfl)) (fun _ _ _ h => h) (Or.inl ⟨by rfl, fun w' hS => exec_load_row rfl rfl (hS.2.2) Tryz.underlying34 rfl (by kernel_rfl)⟩) hHeld ?_ ?_
  rotate_left
  · simp only [Act.put, List.setIfInBounds_toArray, List.set_cons_zero, List.set_cons_succ, i64_w, i32_w]
    rfl
  refine take_ (i := 25) (N := some 34) (v := _) (a' := ?_) #[true, true, true, true, true, true, true, true, true, true, true, true, true, true, true, true, true, true, true, true, true, true, true, true, false, true, false, false, false, false] rfl rfl (take_ofW HT_.out HW_.out (by kernel_rfl)) (fun _ _ _ h => h) (Or.inl ⟨by rfl, fun w' hS => exec_load_row rfl rfl (hS.2.2) Tryz.underlying34 rfl (by kernel_rfl)⟩) hHeld ?_ ?_
  rotate_left
  · simp only [Act.put, List.setIfInBounds_toArray, List.set_cons_zero, List.set_cons_succ, i64_w, i32_w]
    rfl
  refine one_ (i := 24) (N := some 33) #[true, true, true, true, true, true, true, true, true, true, true, true, true, true, true, true, true, true, true, true, true, true, true, true, true, true, false, false, false, false] rfl rfl (one_of HT_.out (by kernel_rfl)) (by decide) (fun K hK => ?_)
  go_simp
  have h4 := checkMs_is m (HM.out.below HB7.out) HP.out
  rw [Hs.out] at h4
  refine h4.mono ?_
  rintro x v8 ⟨rfl, hb⟩
  have HX8 := Lib.hid (show (v8.heap[g]? = some (.cells #[.int .i64 t.f0, .int .i64 t.f1, .slice T2 t.f2.length t2, .slice T3 t.f3.length t3, .slice T4 t.f4.length t4, .slice T5 t.f5.length t5] 26) ∧ v8.heap[g + 1]? = some (.cells #[.int .i64 e.f0, .int .i64 e.f1, .int .i64 e.f2, .slice E e.f3.length ce] 29) ∧ v8.heap[g + 1 + 1]? = some (.cells #[.int .i64 m.f0, .int .i64 m.f1, .int .i64 m.f2, .int .i64 m.f3, .int .i64 m.f4, .int .i64 m.f5, .int .i64 m.f6, .bool m.f7, .slice A8 m.f8.length c8, .int .i64 m.f9.f0, .int .i64 m.f9.f1, .int .i64 m.f9.f2, .slice A12 m.f9.f3.length c12, .int .i64 m.f10.f0, .int .i64 m.f10.f1, .int .i64 m.f10.f2, .slice A16 m.f10.f3.length c16] 34)) from ⟨(hb.block _ (Array.getElem?_eq_some_iff.1 HX7.out.1).1).trans HX7.out.1, (hb.block _ (Array.getElem?_eq_some_iff.1 HX7.out.2.1).1).trans HX7.out.2.1, (hb.block _ (Array.getElem?_eq_some_iff.1 HX7.out.2.2).1).trans HX7.out.2.2⟩); have HB8 := Lib.hid (HB7.out.trans (hb.mono HB7.out.size))
  clear h4 hb HX7 HB7
  refine hK.out _ _ HX8.out (fun hHeld => ?_)
  clear hK K
  refine one_ (i := 26) (N := some 35) #[true, true, true, true, true, true, true, true, true, true, true, true, true, true, true, true, true, true, true, true, true, true, true, true, true, true, true, false, false, false] rfl rfl (one_of HT_.out (by kernel_rfl)) (by decide) (fun K hK => ?_)
  go_simp
  have h4 := refCheckMs_is m (HM.out.below HB8.out)
  rw [Hs.out] at h4
  refine h4.mono ?_
  rintro x v9 ⟨rfl, hb⟩
  have HX9 := Lib.hid (show (v9.heap[g]? = some (.cells #[.int .i64 t.f0, .int .i64 t.f1, .slice T2 t.f2.length t2, .slice T3 t.f3.length t3, .slice T4 t.f4.length t4, .slice T5 t.f5.length t5] 26) ∧ v9.heap[g + 1]? = some (.cells #[.int .i64 e.f0, .int .i64 e.f1, .int .i64 e.f2, .slice E e.f3.length ce] 29) ∧ v9.heap[g + 1 + 1]? = some (.cells #[.int .i64 m.f0, .int .i64 m.f1, .int .i64 m.f2, .int .i64 m.f3, .int .i64 m.f4, .int .i64 m.f5, .int .i64 m.f6, .bool m.f7, .slice A8 m.f8.length c8, .int .i64 m.f9.f0, .int .i64 m.f9.f1, .int .i64 m.f9.f2, .slice A12 m.f9.f3.length c12, .int .i64 m.f10.f0, .int .i64 m.f10.f1, .int .i64 m.f10.f2, .slice A16 m.f10.f3.length c16] 34)) from ⟨(hb.block _ (Array.getElem?_eq_some_iff.1 HX8.out.1).1).trans HX8.out.1, (hb.block _ (Array.getElem?_eq_some_iff.1 HX8.out.2.1).1).trans HX8.out.2.1, (hb.block _ (Array.getElem?_eq_some_iff.1 HX8.out.2.2).1).trans HX8.out.2.2⟩); have HB9 := Lib.hid (HB8.out.trans (hb.mono HB8.out.size))
  clear h4 hb HX8 HB8
  refine hK.out _ _ HX9.out (fun hHeld => ?_)
  clear hK K
  refine pure_ (i := 27) (N := some 36) (v := ?_) (a' := ?_) #[true, true, true, true, true, true, true, true, true, true, true, true, true, true, true, true, true, true, true, true, true, true, true, true, true, true, true, true, false, false] rfl rfl (any_of HT_.out (by kernel_rfl)) (fun _ _ _ h => h) (Or.inl ⟨by rfl, ?_⟩) ?_ ?_
  rotate_left
  · intro w'
    go_simp
    try with_reducible rfl
  rotate_left
  · simp only [Act.put, List.setIfInBounds_toArray, List.set_cons_zero, List.set_cons_succ, i64_w, i32_w]
    rfl
  refine pure_ (i := 28) (N := some 37) (v := ?_) (a' := ?_) #[true, true, true, true, true, true, true, true, true, true, true, true, true, true, true, true, true, true, true, true, true, true, true, true, true, true, true, true, true, false] rfl rfl (any_of HT_.out (by kernel_rfl)) (fun _ _ _ h => h) (Or.inl ⟨by rfl, ?_⟩) ?_ ?_
  rotate_left
  · intro w'
    go_simp
    try with_reducible rfl
  rotate_left
  · simp only [Act.put, List.setIfInBounds_toArray, List.set_cons_zero, List.set_cons_succ, i64_w, i32_w]
    rfl
  refine pure_ (i := 29) (N := some 8) (v := ?_) (a' := ?_) #[true, true, true, true, true, true, true, true, true, true, true, true, true, true, true, true, true, true, true, true, true, true, true, true, true, true, true, true, true, true] rfl rfl (any_of HT_.out (by kernel_rfl)) (fun _ _ _ h => h) (Or.inl ⟨by rfl, ?_⟩) ?_ ?_
  rotate_left
  · intro w'
    go_simp
    try with_reducible rfl
  rotate_left
  · simp only [Act.put, List.setIfInBounds_toArray, List.set_cons_zero, List.set_cons_succ, i64_w, i32_w]
    rfl
  refine done_ (done_of HT_.out (by kernel_rfl)) ?_
  go_wp2_with fail
  go_ret
  exact ⟨rfl, HW.out.trans (HB9.out.mono HW.out.size)⟩
end Go.Proofs.YtgiefblcckikeaaGreat.M
end
