/- RecordSamesUptoSaid: contracts of the functions that the law goes through, put together in build order (part 6 of 7). -/
import Derived.Test.YtgiefblcckikeaaPart4
import Derived.BigRegion
import Derived.WalkKit
import Derived.Laws.Rows
section

/- Which messages are the same: record.SameMsg, the reference's SameMsg (printed by gensame04.py). -/
set_option maxRecDepth 100000
set_option linter.unusedVariables false
set_option linter.unusedSimpArgs false
attribute [local irreducible] Go.wpStill
namespace Go.Proofs.Ytgiefblcckikeaa.M
open Go.RowKit Go.Proofs.YtgiefblcckikeaaW.PrintWords Go.Proofs.YtgiefblcckikeaaW.PrintLast Go.Proofs.YtgiefblcckikeaaW.PrintMore Go.Proofs.Ytgiefblcckikeaa.G
theorem tr_get {w : World} {A : Option Addr} {n : Nat} {l : List TrD} (h : Kd.C G.k99 w A n l) {k : Nat} {x : TrD} (hk : l[k]? = some x) :
    ∃ ad A4 c4, A = some ad ∧ w.cell? (ad.add (k * 5)) = some (.int .i64 x.f0) ∧ w.cell? ⟨(ad.add (k * 5)).block, (ad.add (k * 5)).off + 1, none⟩ = some (.int .i64 x.f1.f0) ∧ w.cell? ⟨(ad.add (k * 5)).block, (ad.add (k * 5)).off + 2, none⟩ = some (.int .i64 x.f1.f1) ∧ w.cell? ⟨(ad.add (k * 5)).block, (ad.add (k * 5)).off + 3, none⟩ = some (.int .i64 x.f1.f2) ∧ w.cell? ⟨(ad.add (k * 5)).block, (ad.add (k * 5)).off + 4, none⟩ = some (.slice A4 x.f1.f3.length c4) ∧ x.f1.f3.length ≤ c4 ∧ G.k36.C w A4 x.f1.f3.length x.f1.f3 := by
  have hlt : k < n := by
    have := (List.getElem?_eq_some_iff.1 hk).1
    have := h.1
    omega
  obtain ⟨ad, A4, c4, rfl, h0, h1, h2, h3, h4, l4, g4⟩ := G.at_T99 h (k : Int) (by omega) (by omega)
  have e : G.rd_T99 l (k : Int) = x := by unfold G.rd_T99; rw [Int.toNat_natCast, List.getD_eq_getElem?_getD, hk]; rfl
  rw [e] at h0 h1 h2 h3 h4 l4 g4
  rw [Int.toNat_natCast] at h0 h1 h2 h3 h4
  exact ⟨ad, A4, c4, rfl, h0, h1, h2, h3, h4, l4, g4⟩
theorem refSameEn_is (k f n : Int) (A : Option Addr) (c : Nat) (l : List TxD) (k' f' n' : Int) (A' : Option Addr) (c' : Nat) (l' : List TxD) (w : World) (ha : Kd.C G.k36 w A l.length l) (hc : l.length ≤ c) (hb : Kd.C G.k36 w A' l'.length l') (hc' : l'.length ≤ c') :
    Calls Try.prog 10 #[.agg #[.int .i64 k, .int .i64 f, .int .i64 n, .slice A l.length c], .agg #[.int .i64 k', .int .i64 f', .int .i64 n', .slice A' l'.length c']] w fun e w' => e = .returned (.bool (eqEn k f n l k' f' n' l')) ∧ Below w.heap.size w w' := by
  obtain ⟨M, hM⟩ := bound_T l
  refine G.trivetref04_SameEntry.calls (M + l.length + 3) k f n A c l k' f' n' A' c' l' _ w ha hc hb hc' (sameEn_r _ k f n l k' f' n' l' (fun t ht => by have := hM t ht; omega) (by omega) ha.2.1 (fun t ht => ?_))
  obtain ⟨i, hi⟩ := List.getElem?_of_mem ht
  obtain ⟨ad, A2, c2, A3, c3, A4, c4, A5, c5, _, _, hX⟩ := tx_get ha hi
  exact hX.le
set_option maxHeartbeats 1000000 in
theorem sameTr1_is {w : World} (a b : TrD) {A B : Option Addr} {c d : Nat} (hc : a.f1.f3.length ≤ c) (ha : Kd.C G.k36 w A a.f1.f3.length a.f1.f3) (hd : b.f1.f3.length ≤ d) (hb : Kd.C G.k36 w B b.f1.f3.length b.f1.f3) :
    Calls Try.prog 59 #[.agg #[.int .i64 a.f0, .int .i64 a.f1.f0, .int .i64 a.f1.f1, .int .i64 a.f1.f2, .slice A a.f1.f3.length c], .agg #[.int .i64 b.f0, .int .i64 b.f1.f0, .int .i64 b.f1.f1, .int .i64 b.f1.f2, .slice B b.f1.f3.length d]] w fun e w' => e = .returned (.bool (eqTr a b)) ∧ Below w.heap.size w w' := by
  have HB := Lib.hid (show Below w.heap.size w ((w.alloc (.cells #[.int .i64 a.f0, .int .i64 a.f1.f0, .int .i64 a.f1.f1, .int .i64 a.f1.f2, .slice A a.f1.f3.length c] 99)).alloc (.cells #[.int .i64 b.f0, .int .i64 b.f1.f0, .int .i64 b.f1.f1, .int .i64 b.f1.f2, .slice B b.f1.f3.length d] 99)) from ((Below.refl _ _).alloc (Nat.le_refl _) _).alloc (by simp) _)
  have HE := Lib.hid (sameEn_is a.f1.f0 a.f1.f1 a.f1.f2 A c a.f1.f3 b.f1.f0 b.f1.f1 b.f1.f2 B d b.f1.f3 _ (Kd.C_below ha HB.out) (Kd.C_below hb HB.out))
  obtain ⟨q, hq⟩ : ∃ q, eqTr a b = q := ⟨_, rfl⟩
  have HQ := Lib.hid hq
  rw [hq]
  clear hq ha hb hc hd
  cases h0 : (a.f0 == b.f0) with
  | false =>
    have HV := Lib.hid (show q = false by rw [← HQ.out]; unfold eqTr; rw [h0, Bool.false_and])
    go_enter Try.func59, Try.ntmps59
    go_wp2_with fail
    go_ret
    exact ⟨by rw [HV.out]; rfl, HB.out⟩
  | true =>
    have HV := Lib.hid (show q = eqEn a.f1.f0 a.f1.f1 a.f1.f2 a.f1.f3 b.f1.f0 b.f1.f1 b.f1.f2 b.f1.f3 by rw [← HQ.out]; unfold eqTr; rw [h0, Bool.true_and])
    go_enter Try.func59, Try.ntmps59
    go_wp2_with fail
    refine HE.out.mono ?_
    rintro e w' ⟨rfl, hb⟩
    have HB2 := Lib.hid (HB.out.trans (hb.mono HB.out.size))
    clear hb
    go_wp2_with fail
    go_ret
    exact ⟨by rw [HV.out]; rfl, HB2.out⟩
set_option maxHeartbeats 1000000 in
theorem refSameTr_is {w : World} (a b : TrD) {A B : Option Addr} {c d : Nat} (hc : a.f1.f3.length ≤ c) (ha : Kd.C G.k36 w A a.f1.f3.length a.f1.f3) (hd : b.f1.f3.length ≤ d) (hb : Kd.C G.k36 w B b.f1.f3.length b.f1.f3) :
    Calls Try.prog 84 #[.agg #[.int .i64 a.f0, .int .i64 a.f1.f0, .int .i64 a.f1.f1, .int .i64 a.f1.f2, .slice A a.f1.f3.length c], .agg #[.int .i64 b.f0, .int .i64 b.f1.f0, .int .i64 b.f1.f1, .int .i64 b.f1.f2, .slice B b.f1.f3.length d]] w fun e w' => e = .returned (.bool (eqTr a b)) ∧ Below w.heap.size w w' := by
  have HB := Lib.hid (show Below w.heap.size w ((w.alloc (.cells #[.int .i64 a.f0, .int .i64 a.f1.f0, .int .i64 a.f1.f1, .int .i64 a.f1.f2, .slice A a.f1.f3.length c] 99)).alloc (.cells #[.int .i64 b.f0, .int .i64 b.f1.f0, .int .i64 b.f1.f1, .int .i64 b.f1.f2, .slice B b.f1.f3.length d] 99)) from ((Below.refl _ _).alloc (Nat.le_refl _) _).alloc (by simp) _)
  have HE := Lib.hid (refSameEn_is a.f1.f0 a.f1.f1 a.f1.f2 A c a.f1.f3 b.f1.f0 b.f1.f1 b.f1.f2 B d b.f1.f3 _ (Kd.C_below ha HB.out) hc (Kd.C_below hb HB.out) hd)
  obtain ⟨q, hq⟩ : ∃ q, eqTr a b = q := ⟨_, rfl⟩
  have HQ := Lib.hid hq
  rw [hq]
  clear hq ha hb hc hd
  cases h0 : (a.f0 == b.f0) with
  | false =>
    have HV := Lib.hid (show q = false by rw [← HQ.out]; unfold eqTr; rw [h0, Bool.false_and])
    go_enter Try.func84, Try.ntmps84
    go_wp2_with fail
    go_ret
    exact ⟨by rw [HV.out]; rfl, HB.out⟩
  | true =>
    have HV := Lib.hid (show q = eqEn a.f1.f0 a.f1.f1 a.f1.f2 a.f1.f3 b.f1.f0 b.f1.f1 b.f1.f2 b.f1.f3 by rw [← HQ.out]; unfold eqTr; rw [h0, Bool.true_and])
    go_enter Try.func84, Try.ntmps84
    go_wp2_with fail
    refine HE.out.mono ?_
    rintro e w' ⟨rfl, hb⟩
    have HB2 := Lib.hid (HB.out.trans (hb.mono HB.out.size))
    clear hb
    go_wp2_with fail
    go_ret
    exact ⟨by rw [HV.out]; rfl, HB2.out⟩
def eqfuncT_isI (a b : List TrD) (w : World) (i : Value) (wr : World) : Prop := ∃ k : Nat, i = .int .i64 k ∧ k ≤ a.length ∧ eqTrs a b = eqTrs (a.drop k) (b.drop k) ∧ Below w.heap.size w wr
set_option maxHeartbeats 1000000 in
theorem eqfuncT_is (A B : Option Addr) (c d : Nat) (a b : List TrD) (w : World) (ha : Kd.C G.k99 w A a.length a) (hb : Kd.C G.k99 w B b.length b) :
    Calls Try.prog 58 #[.slice A a.length c, .slice B b.length d, .func (.func 59) #[] #[]] w fun e w' => e = .returned (.bool (eqTrs a b)) ∧ Below w.heap.size w w' := by
  have hlm : a.length ≤ 9223372036854775807 := ha.2.1
  have HA := Lib.hid ha; have HB := Lib.hid hb
  clear ha hb
  by_cases hl : a.length = b.length
  · have hlb : ((a.length : Int) != (b.length : Int)) = false := by rw [bne_eq_false_iff_eq]; omega
    have HL := Lib.hid hl
    clear hl
    go_enter Try.func58, Try.ntmps58
    go_wp2_with fail
    go_loopw [17] (fun i wr => eqfuncT_isI a b w i wr) (fun i _ => a.length - (intOf i).toNat)
    case atStart => exact ⟨0, rfl, Nat.zero_le _, rfl, Below.refl _ _⟩
    case round =>
      obtain ⟨k, rfl, hk, he, hb⟩ := hrel
      have HE := Lib.hid he; have HBr := Lib.hid hb
      clear he hb
      by_cases hlt : k < a.length
      · obtain ⟨x, hx⟩ : ∃ x, a[k]? = some x := ⟨_, List.getElem?_eq_getElem hlt⟩
        obtain ⟨y, hy⟩ : ∃ y, b[k]? = some y := ⟨_, List.getElem?_eq_getElem (by have := HL.out; omega)⟩
        obtain ⟨ad, A4, c4, rfl, x0, x1, x2, x3, x4, lx, gx⟩ := tr_get (Kd.C_below HA.out HBr.out) hx
        obtain ⟨bd, B4, d4, rfl, y0, y1, y2, y3, y4, ly, gy⟩ := tr_get (Kd.C_below HB.out HBr.out) hy
        have HXX := Lib.hid (And.intro lx gx); have HYY := Lib.hid (And.intro ly gy)
        have HS := Lib.hid (eqTrs_take hx hy)
        have hkb : k < b.length := by have := HL.out; omega
        clear lx gx ly gy hx hy
        have zb : (bd.add (k * 5)).block < wr.heap.size := World.block_lt_of_cell? _ _ y0
        have HB2 := Lib.hid (show Below wr.heap.size wr ((wr.alloc (.cells #[.int .i64 x.f0, .int .i64 x.f1.f0, .int .i64 x.f1.f1, .int .i64 x.f1.f2, .slice A4 x.f1.f3.length c4] 99)).alloc (.cells #[.int .i64 y.f0, .int .i64 y.f1.f0, .int .i64 y.f1.f1, .int .i64 y.f1.f2, .slice B4 y.f1.f3.length d4] 99)) from ((Below.refl _ _).alloc (Nat.le_refl _) _).alloc (by simp) _)
        go_wp2_with fail
        refine (sameTr1_is x y HXX.out.1 (Kd.C_below HXX.out.2 HB2.out) HYY.out.1 (Kd.C_below HYY.out.2 HB2.out)).mono ?_
        rintro e w' ⟨rfl, hb⟩
        have HB3 := Lib.hid (HBr.out.trans ((HB2.out.trans (hb.mono HB2.out.size)).mono HBr.out.size))
        clear hb x0 x1 x2 x3 x4 y0 y1 y2 y3 y4 zb
        obtain ⟨q, hq⟩ : ∃ q, eqTr x y = q := ⟨_, rfl⟩
        have HQ := Lib.hid hq
        rw [hq]
        clear hq
        cases q with
        | true =>
          go_wp2_with fail
          go_roundw
          case rel => exact ⟨k + 1, by go_num, hlt, by rw [HE.out, HS.out, HQ.out, Bool.true_and], HB3.out⟩
          case measure => simp [intOf]; omega
        | false =>
          go_wp2_with fail
          go_ret
          exact ⟨by rw [HE.out, HS.out, HQ.out]; rfl, HB3.out⟩
      · have HF := Lib.hid (show eqTrs a b = true by rw [HE.out, List.drop_of_length_le (by omega), List.drop_of_length_le (by have := HL.out; omega)]; rfl)
        go_wp2_with fail
        go_ret
        exact ⟨by rw [HF.out]; rfl, HBr.out⟩
  · have hlb : ((a.length : Int) != (b.length : Int)) = true := by rw [bne_iff_ne]; omega
    have HF := Lib.hid (eqTrs_len hl)
    clear hl
    go_enter Try.func58, Try.ntmps58
    go_wp2_with fail
    go_ret
    exact ⟨by rw [HF.out]; rfl, Below.refl _ _⟩
def refSameTrs_isI (a b : List TrD) (w : World) (i : Value) (wr : World) : Prop := ∃ k : Nat, i = .int .i64 k ∧ k ≤ a.length ∧ eqTrs a b = eqTrs (a.drop k) (b.drop k) ∧ Below w.heap.size w wr
set_option maxHeartbeats 1000000 in
theorem refSameTrs_is (A B : Option Addr) (c d : Nat) (a b : List TrD) (w : World) (ha : Kd.C G.k99 w A a.length a) (hb : Kd.C G.k99 w B b.length b) :
    Calls Try.prog 60 #[.slice A a.length c, .slice B b.length d] w fun e w' => e = .returned (.bool (eqTrs a b)) ∧ Below w.heap.size w w' := by
  have hlm : a.length ≤ 9223372036854775807 := ha.2.1
  have HA := Lib.hid ha; have HB := Lib.hid hb
  clear ha hb
  by_cases hl : a.length = b.length
  · have hlb : ((a.length : Int) != (b.length : Int)) = false := by rw [bne_eq_false_iff_eq]; omega
    have HL := Lib.hid hl
    clear hl
    go_enter Try.func60, Try.ntmps60
    go_wp2_with fail
    go_loopw [5] (fun i wr => refSameTrs_isI a b w i wr) (fun i _ => a.length - (intOf i).toNat)
    case atStart => exact ⟨0, rfl, Nat.zero_le _, rfl, Below.refl _ _⟩
    case round =>
      obtain ⟨k, rfl, hk, he, hb⟩ := hrel
      have HE := Lib.hid he; have HBr := Lib.hid hb
      clear he hb
      by_cases hlt : k < a.length
      · obtain ⟨x, hx⟩ : ∃ x, a[k]? = some x := ⟨_, List.getElem?_eq_getElem hlt⟩
        obtain ⟨y, hy⟩ : ∃ y, b[k]? = some y := ⟨_, List.getElem?_eq_getElem (by have := HL.out; omega)⟩
        obtain ⟨ad, A4, c4, rfl, x0, x1, x2, x3, x4, lx, gx⟩ := tr_get (Kd.C_below HA.out HBr.out) hx
        obtain ⟨bd, B4, d4, rfl, y0, y1, y2, y3, y4, ly, gy⟩ := tr_get (Kd.C_below HB.out HBr.out) hy
        have HXX := Lib.hid (And.intro lx gx); have HYY := Lib.hid (And.intro ly gy)
        have HS := Lib.hid (eqTrs_take hx hy)
        have hkb : k < b.length := by have := HL.out; omega
        clear lx gx ly gy hx hy
        have zb : (bd.add (k * 5)).block < wr.heap.size := World.block_lt_of_cell? _ _ y0
        have HB2 := Lib.hid (show Below wr.heap.size wr wr.drew from (Below.refl _ _).drew)
        go_wp2_with fail
        refine wp_region_still_tail 8 (by kernel_rfl) (by kernel_rfl) ?_
        simp only [List.take_succ_cons, List.take_zero, List.drop_succ_cons, List.drop_zero]
        iterate 8 still_step
        refine wpStill_nil ?_
        change wpList _ _ _ _ _ wr.drew
        go_wp2_with fail
        refine (refSameTr_is x y HXX.out.1 (Kd.C_below HXX.out.2 HB2.out) HYY.out.1 (Kd.C_below HYY.out.2 HB2.out)).mono ?_
        rintro e w' ⟨rfl, hb⟩
        have HB3 := Lib.hid (HBr.out.trans ((HB2.out.trans (hb.mono HB2.out.size)).mono HBr.out.size))
        clear hb x0 x1 x2 x3 x4 y0 y1 y2 y3 y4 zb
        obtain ⟨q, hq⟩ : ∃ q, eqTr x y = q := ⟨_, rfl⟩
        have HQ := Lib.hid hq
        rw [hq]
        clear hq
        cases q with
        | true =>
          go_wp2_with fail
          go_roundw
          case rel => exact ⟨k + 1, by go_num, hlt, by rw [HE.out, HS.out, HQ.out, Bool.true_and], HB3.out⟩
          case measure => simp [intOf]; omega
        | false =>
          go_wp2_with fail
          go_ret
          exact ⟨by rw [HE.out, HS.out, HQ.out]; rfl, HB3.out⟩
      · have HF := Lib.hid (show eqTrs a b = true by rw [HE.out, List.drop_of_length_le (by omega), List.drop_of_length_le (by have := HL.out; omega)]; rfl)
        go_wp2_with fail
        go_ret
        exact ⟨by rw [HF.out]; rfl, HBr.out⟩
  · have hlb : ((a.length : Int) != (b.length : Int)) = true := by rw [bne_iff_ne]; omega
    have HF := Lib.hid (eqTrs_len hl)
    clear hl
    go_enter Try.func60, Try.ntmps60
    go_wp2_with fail
    go_ret
    exact ⟨by rw [HF.out]; rfl, Below.refl _ _⟩
theorem MsBox.cell {W : World} {b : Nat} {m : MsgD} {A8 A12 A16 : Option Addr} {c8 c12 c16 : Nat} (h : MsBox W b m A8 c8 A12 c12 A16 c16) : W.cell? ⟨b, 0, none⟩ = some (.int .i64 m.f0) ∧ W.cell? ⟨b, 1, none⟩ = some (.int .i64 m.f1) ∧ W.cell? ⟨b, 2, none⟩ = some (.int .i64 m.f2) ∧ W.cell? ⟨b, 3, none⟩ = some (.int .i64 m.f3) ∧ W.cell? ⟨b, 4, none⟩ = some (.int .i64 m.f4) ∧ W.cell? ⟨b, 5, none⟩ = some (.int .i64 m.f5) ∧ W.cell? ⟨b, 6, none⟩ = some (.int .i64 m.f6) ∧ W.cell? ⟨b, 7, none⟩ = some (.bool m.f7) ∧ W.cell? ⟨b, 8, none⟩ = some (.slice A8 m.f8.length c8) ∧ W.cell? ⟨b, 9, none⟩ = some (.int .i64 m.f9.f0) ∧ W.cell? ⟨b, 10, none⟩ = some (.int .i64 m.f9.f1) ∧ W.cell? ⟨b, 11, none⟩ = some (.int .i64 m.f9.f2) ∧ W.cell? ⟨b, 12, none⟩ = some (.slice A12 m.f9.f3.length c12) ∧ W.cell? ⟨b, 13, none⟩ = some (.int .i64 m.f10.f0) ∧ W.cell? ⟨b, 14, none⟩ = some (.int .i64 m.f10.f1) ∧ W.cell? ⟨b, 15, none⟩ = some (.int .i64 m.f10.f2) ∧ W.cell? ⟨b, 16, none⟩ = some (.slice A16 m.f10.f3.length c16) := ⟨(blk_cell h 0).trans rfl, (blk_cell h 1).trans rfl, (blk_cell h 2).trans rfl, (blk_cell h 3).trans rfl, (blk_cell h 4).trans rfl, (blk_cell h 5).trans rfl, (blk_cell h 6).trans rfl, (blk_cell h 7).trans rfl, (blk_cell h 8).trans rfl, (blk_cell h 9).trans rfl, (blk_cell h 10).trans rfl, (blk_cell h 11).trans rfl, (blk_cell h 12).trans rfl, (blk_cell h 13).trans rfl, (blk_cell h 14).trans rfl, (blk_cell h 15).trans rfl, (blk_cell h 16).trans rfl⟩
theorem MsBox.lt {W : World} {b : Nat} {m : MsgD} {A8 A12 A16 : Option Addr} {c8 c12 c16 : Nat} (h : MsBox W b m A8 c8 A12 c12 A16 c16) : b < W.heap.size := (Array.getElem?_eq_some_iff.1 h).1
theorem MsBox.below {W W' : World} {b : Nat} {m : MsgD} {A8 A12 A16 : Option Addr} {c8 c12 c16 : Nat} (h : MsBox W b m A8 c8 A12 c12 A16 c16) (hb : Below W.heap.size W W') : MsBox W' b m A8 c8 A12 c12 A16 c16 := (hb.block b h.lt).trans h
end Go.Proofs.Ytgiefblcckikeaa.M
end

section

/- record.CloneMsg (printed by genclone04c.py). -/
set_option maxRecDepth 100000
set_option linter.unusedVariables false
set_option linter.unusedSimpArgs false
attribute [local irreducible] Go.wpStill
namespace Go.Proofs.Ytgiefblcckikeaa.M
open Go.RowKit Go.Proofs.YtgiefblcckikeaaW.PrintWords Go.Proofs.YtgiefblcckikeaaW.PrintLast Go.Proofs.YtgiefblcckikeaaW.PrintMore Go.Proofs.Ytgiefblcckikeaa.G
def SmM (m : MsgD) : Prop := m.f8.length ≤ 1048576 ∧ (∀ x ∈ m.f8, SmE x.f1) ∧ SmE m.f9 ∧ m.f10.f3.length ≤ 1048576
def MsNew (w : World) (m : MsgD) (e : Ending) (w' : World) : Prop := ∃ (v8 v12 v16 : Value) (h1 h2 : Nat), e = .returned (.agg #[.int .i64 m.f0, .int .i64 m.f1, .int .i64 m.f2, .int .i64 m.f3, .int .i64 m.f4, .int .i64 m.f5, .int .i64 m.f6, .bool m.f7, v8, .int .i64 m.f9.f0, .int .i64 m.f9.f1, .int .i64 m.f9.f2, v12, .int .i64 m.f10.f0, .int .i64 m.f10.f1, .int .i64 m.f10.f2, v16]) ∧ h1 ≤ h2 ∧ Kd.S G.k99 99 w' w.heap.size (fun k => k < h1) v8 m.f8 ∧ Kd.S G.k36 36 w' w.heap.size (fun k => h1 ≤ k ∧ k < h2) v12 m.f9.f3 ∧ Kd.R (Kd.int .u8) 5 w' w.heap.size (fun k => h2 ≤ k) v16 m.f10.f3 ∧ Below w.heap.size w w'
def CmI (m : MsgD) (A8 : Option Addr) (c8 : Nat) (A12 : Option Addr) (c12 : Nat) (A16 : Option Addr) (c16 : Nat) (w W0 : World) (g : Nat) (v i : Value) (W : World) : Prop := ∃ k : Nat, i = .int .i64 (k : Int) ∧ k ≤ m.f8.length ∧ Kd.S G.k99 99 W W0.heap.size (fun _ => True) v (m.f8.take k) ∧ Bx w g (g + 1) 57 #[.int .i64 0, .int .i64 0, .int .i64 0, .int .i64 0, .int .i64 0, .int .i64 0, .int .i64 0, .bool false, .slice none 0 0, .int .i64 0, .int .i64 0, .int .i64 0, .slice none 0 0, .int .i64 0, .int .i64 0, .int .i64 0, .slice none 0 0] #[.int .i64 m.f0, .int .i64 m.f1, .int .i64 m.f2, .int .i64 m.f3, .int .i64 m.f4, .int .i64 m.f5, .int .i64 m.f6, .bool m.f7, .slice A8 m.f8.length c8, .int .i64 m.f9.f0, .int .i64 m.f9.f1, .int .i64 m.f9.f2, .slice A12 m.f9.f3.length c12, .int .i64 m.f10.f0, .int .i64 m.f10.f1, .int .i64 m.f10.f2, .slice A16 m.f10.f3.length c16] (fun _ => True) W ∧ Below W0.heap.size W0 W
set_option maxHeartbeats 4000000 in
theorem cloneMs_is {w : World} (m : MsgD) {A8 A12 A16 : Option Addr} {c8 c12 c16 : Nat} (hC : MsgC w m A8 c8 A12 c12 A16 c16) (hs : SmM m) :
    Calls Try.prog 29 #[.agg #[.int .i64 m.f0, .int .i64 m.f1, .int .i64 m.f2, .int .i64 m.f3, .int .i64 m.f4, .int .i64 m.f5, .int .i64 m.f6, .bool m.f7, .slice A8 m.f8.length c8, .int .i64 m.f9.f0, .int .i64 m.f9.f1, .int .i64 m.f9.f2, .slice A12 m.f9.f3.length c12, .int .i64 m.f10.f0, .int .i64 m.f10.f1, .int .i64 m.f10.f2, .slice A16 m.f10.f3.length c16]] w fun e w' => MsNew w m e w' := by
  have HC := Lib.hid hC; have HS := Lib.hid hs; have hlm : m.f8.length ≤ 1048576 := hs.1
  have HT0 := Lib.hid (Bx.start w 57 #[.int .i64 0, .int .i64 0, .int .i64 0, .int .i64 0, .int .i64 0, .int .i64 0, .int .i64 0, .bool false, .slice none 0 0, .int .i64 0, .int .i64 0, .int .i64 0, .slice none 0 0, .int .i64 0, .int .i64 0, .int .i64 0, .slice none 0 0] #[.int .i64 m.f0, .int .i64 m.f1, .int .i64 m.f2, .int .i64 m.f3, .int .i64 m.f4, .int .i64 m.f5, .int .i64 m.f6, .bool m.f7, .slice A8 m.f8.length c8, .int .i64 m.f9.f0, .int .i64 m.f9.f1, .int .i64 m.f9.f2, .slice A12 m.f9.f3.length c12, .int .i64 m.f10.f0, .int .i64 m.f10.f1, .int .i64 m.f10.f2, .slice A16 m.f10.f3.length c16])
  clear hC hs
  go_enter Try.func29, Try.ntmps29
  go_upto_region 1 with fail
  obtain ⟨g, hg⟩ : ∃ g, w.heap.size = g := ⟨_, rfl⟩
  obtain ⟨w0, hw⟩ : ∃ w0, (w.alloc (.cells #[.int .i64 m.f0, .int .i64 m.f1, .int .i64 m.f2, .int .i64 m.f3, .int .i64 m.f4, .int .i64 m.f5, .int .i64 m.f6, .bool m.f7, .slice A8 m.f8.length c8, .int .i64 m.f9.f0, .int .i64 m.f9.f1, .int .i64 m.f9.f2, .slice A12 m.f9.f3.length c12, .int .i64 m.f10.f0, .int .i64 m.f10.f1, .int .i64 m.f10.f2, .slice A16 m.f10.f3.length c16] 57)).alloc (.cells #[.int .i64 0, .int .i64 0, .int .i64 0, .int .i64 0, .int .i64 0, .int .i64 0, .int .i64 0, .bool false, .slice none 0 0, .int .i64 0, .int .i64 0, .int .i64 0, .slice none 0 0, .int .i64 0, .int .i64 0, .int .i64 0, .slice none 0 0] 57) = w0 := ⟨_, rfl⟩
  have HG := Lib.hid hg
  rw [hw] at HT0 ⊢
  rw [hg] at HT0 ⊢
  clear hw hg
  have d8 : w0.cell? ⟨g, 8, none⟩ = some (.slice A8 m.f8.length c8) := (blk_cell HT0.out.y 8).trans rfl
  have z8 : w0.frozen? ⟨g, 8, none⟩ = false := blk_frozen HT0.out.y 8
  go_wp2_with fail
  go_loopw [3, 9] (fun v i wr => CmI m A8 c8 A12 c12 A16 c16 w w0 g v i wr) (fun _ i _ => m.f8.length - (intOf i).toNat)
  case atStart => exact ⟨0, rfl, Nat.zero_le _, Kd.S_nil _ _ _ _ _, HT0.out, Below.refl _ _⟩
  case round =>
    obtain ⟨k, rfl, hk, hS, hT, hB⟩ := hrel
    obtain ⟨Av, cv, rfl⟩ := Kd.S_slice hS
    have HSS := Lib.hid hS; have HT := Lib.hid hT; have HB := Lib.hid hB
    clear hS hT hB d8 z8
    have hlt1 : (m.f8.take k).length = k := by rw [List.length_take]; omega
    rw [hlt1]
    rw [hlt1] at HSS
    clear hlt1
    by_cases hlt : k < m.f8.length
    · obtain ⟨t, ht⟩ : ∃ t, m.f8[k]? = some t := ⟨_, List.getElem?_eq_getElem hlt⟩
      obtain ⟨ad, B, d, rfl, e0, e1, e2, e3, e4, hl, hX⟩ := tr_get (Kd.C_below HC.out.g8 HT.out.d) ht
      have HB1 := Lib.hid (show Below wr.heap.size wr (wr.alloc (.cells #[.int .i64 t.f0, .int .i64 t.f1.f0, .int .i64 t.f1.f1, .int .i64 t.f1.f2, .slice B t.f1.f3.length d] 99)).drew from ((Below.refl _ _).alloc (Nat.le_refl _) _).drew)
      have HTM := Lib.hid (show SmE t.f1 from HS.out.2.1 t (List.mem_of_getElem? ht))
      have HN := Lib.hid (cloneEn_is t.f1 hl (Kd.C_below hX HB1.out) HTM.out)
      have HEB := Lib.hid (show (wr.alloc (.cells #[.int .i64 t.f0, .int .i64 t.f1.f0, .int .i64 t.f1.f1, .int .i64 t.f1.f2, .slice B t.f1.f3.length d] 99)).drew.heap[wr.heap.size]? = some (.cells #[.int .i64 t.f0, .int .i64 t.f1.f0, .int .i64 t.f1.f1, .int .i64 t.f1.f2, .slice B t.f1.f3.length d] 99) from heap_alloc_new wr _)
      have HEZ := Lib.hid (show wr.heap.size < (wr.alloc (.cells #[.int .i64 t.f0, .int .i64 t.f1.f0, .int .i64 t.f1.f1, .int .i64 t.f1.f2, .slice B t.f1.f3.length d] 99)).drew.heap.size by show wr.heap.size < (wr.alloc _).heap.size; simp)
      have HTK := Lib.hid (show m.f8.take (k + 1) = m.f8.take k ++ [t] by rw [List.take_add_one, ht]; rfl)
      clear hX ht hl
      go_upto_region 5 with fail
      refine start_ (n := 10) (S := fun w' => w'.cell? ⟨wr.heap.size, 0, none⟩ = some (.int .i64 t.f0) ∧ w'.cell? ⟨wr.heap.size, 1, none⟩ = some (.int .i64 t.f1.f0) ∧ w'.cell? ⟨wr.heap.size, 2, none⟩ = some (.int .i64 t.f1.f1) ∧ w'.cell? ⟨wr.heap.size, 3, none⟩ = some (.int .i64 t.f1.f2) ∧ w'.cell? ⟨wr.heap.size, 4, none⟩ = some (.slice B t.f1.f3.length d)) (ds := []) #[false, false, false, false, false, false, false, false, false, false] (by kernel_rfl) rfl rfl ⟨(blk_cell HEB.out 0).trans rfl, (blk_cell HEB.out 1).trans rfl, (blk_cell HEB.out 2).trans rfl, (blk_cell HEB.out 3).trans rfl, (blk_cell HEB.out 4).trans rfl⟩ (fun hHeld => ?_)
      obtain ⟨wa, hwa⟩ : ∃ wa, (wr.alloc (.cells #[.int .i64 t.f0, .int .i64 t.f1.f0, .int .i64 t.f1.f1, .int .i64 t.f1.f2, .slice B t.f1.f3.length d] 99)).drew = wa := ⟨_, rfl⟩
      rw [hwa] at HB1 HN HEB HEZ hHeld ⊢
      clear hwa
      refine pure_ (i := 0) (N := some 13) (v := ?_) (a' := ?_) #[true, false, false, false, false, false, false, false, false, false] rfl rfl (by kernel_rfl) (fun _ _ _ h => h) (Or.inl ⟨by rfl, ?_⟩) ?_ ?_
      rotate_left
      · intro w'
        go_simp
        try with_reducible rfl
      rotate_left
      · simp only [Act.put, List.setIfInBounds_toArray, List.set_cons_zero, List.set_cons_succ, i64_w, i32_w]
        rfl
      refine pure_ (i := 1) (N := some 14) (v := ?_) (a' := ?_) #[true, true, false, false, false, false, false, false, false, false] rfl rfl (by kernel_rfl) (fun _ _ _ h => h) (Or.inl ⟨by rfl, ?_⟩) ?_ ?_
      rotate_left
      · intro w'
        go_simp
        try with_reducible rfl
      rotate_left
      · simp only [Act.put, List.setIfInBounds_toArray, List.set_cons_zero, List.set_cons_succ, i64_w, i32_w]
        rfl
      refine pure_ (i := 3) (N := some 16) (v := ?_) (a' := ?_) #[true, true, false, true, false, false, false, false, false, false] rfl rfl (by kernel_rfl) (fun _ _ _ h => h) (Or.inl ⟨by rfl, ?_⟩) ?_ ?_
      rotate_left
      · intro w'
        go_simp
        try with_reducible rfl
      rotate_left
      · simp only [Act.put, List.setIfInBounds_toArray, List.set_cons_zero, List.set_cons_succ, i64_w, i32_w]
        rfl
      refine take_ (i := 2) (N := some 15) (v := ?_) (a' := ?_) #[true, true, true, true, false, false, false, false, false, false] rfl rfl (by kernel_rfl) (fun _ _ _ h => h) (Or.inl ⟨by rfl, ?_⟩) hHeld ?_ ?_
      rotate_left
      · intro w' hS
        go_simp
        try with_reducible rfl
      rotate_left
      · simp only [Act.put, List.setIfInBounds_toArray, List.set_cons_zero, List.set_cons_succ, i64_w, i32_w]
        rfl
      refine take_ (i := 4) (N := some 17) (v := ?_) (a' := ?_) #[true, true, true, true, true, false, false, false, false, false] rfl rfl (by kernel_rfl) (fun _ _ _ h => h) (Or.inl ⟨by rfl, ?_⟩) hHeld ?_ ?_
      rotate_left
      · intro w' hS
        go_simp
        try with_reducible rfl
      rotate_left
      · simp only [Act.put, List.setIfInBounds_toArray, List.set_cons_zero, List.set_cons_succ, i64_w, i32_w]
        rfl
      refine one_ (i := 5) (N := some 18) #[true, true, true, true, true, true, false, false, false, false] rfl rfl (by kernel_rfl) (by decide) (fun K hK => ?_)
      go_simp
      refine HN.out.mono ?_
      rintro e w3 ⟨v_, rfl, hv, hb⟩
      obtain ⟨N, n, rfl⟩ := Kd.R_slice (Kd.S_R hv)
      have HBB := Lib.hid (HB1.out.trans (hb.mono HB1.out.size))
      have HZW := Lib.hid (show w0.heap.size ≤ wr.heap.size from HB.out.size)
      have HZ1 := Lib.hid (Nat.le_trans HZW.out HB1.out.size)
      have HEB3 := Lib.hid ((hb.block wr.heap.size HEZ.out).trans HEB.out)
      have RN := Lib.hid (show Kd.R G.k36 36 w3 w0.heap.size (fun k => wr.heap.size ≤ k) _ t.f1.f3 from Kd.R_mono (Kd.R_lower (Kd.R_bound (Kd.S_R hv)) HZ1.out) (fun k hk => Nat.le_trans HB1.out.size hk.2.1))
      have HS3 := Lib.hid (show Kd.S G.k99 99 w3 w0.heap.size (fun k => True ∧ ¬ wr.heap.size ≤ k) (.slice Av k cv) (m.f8.take k) from Kd.S_mono (Kd.S_step (Kd.S_bound HSS.out) (fun k hk2 hlt => HBB.out.block k hlt)) (fun k hk => ⟨trivial, by have := hk.2.2.1; omega⟩))
      have HOWN := Lib.hid (Kd.S_lt HSS.out)
      have HZ3 := Lib.hid (Nat.le_trans HZW.out HBB.out.size)
      have hkl : (m.f8.take k).length ≤ 1048576 := by rw [List.length_take]; omega
      clear hv hb e0 e1 e2 e3 e4
      refine hK.out _ _ ⟨(blk_cell HEB3.out 0).trans rfl, (blk_cell HEB3.out 1).trans rfl, (blk_cell HEB3.out 2).trans rfl, (blk_cell HEB3.out 3).trans rfl, (blk_cell HEB3.out 4).trans rfl⟩ (fun hHeld => ?_)
      clear hK K
      refine pure_ (i := 6) (N := some 19) (v := ?_) (a' := ?_) #[true, true, true, true, true, true, true, false, false, false] rfl rfl (by kernel_rfl) (fun _ _ _ h => h) (Or.inl ⟨by rfl, ?_⟩) ?_ ?_
      rotate_left
      · intro w'
        go_simp
        try with_reducible rfl
      rotate_left
      · simp only [Act.put, List.setIfInBounds_toArray, List.set_cons_zero, List.set_cons_succ, i64_w, i32_w]
        rfl
      refine one_ (i := 7) (N := some 20) #[true, true, true, true, true, true, true, true, false, false] rfl rfl (by kernel_rfl) (by decide) (fun K hK => ?_)
      refine value_ (w1 := ?_) (v := ?_) (by rfl) rfl ?_ ?_
      rotate_left 2
      · go_simp
        constructor <;> rfl
      have HEB4 := Lib.hid (blk_alloc HEB3.out (.cells #[.int .i64 t.f0, .int .i64 t.f1.f0, .int .i64 t.f1.f1, .int .i64 t.f1.f2, .slice N t.f1.f3.length n] 99))
      refine hK.out _ _ ⟨(blk_cell HEB4.out 0).trans rfl, (blk_cell HEB4.out 1).trans rfl, (blk_cell HEB4.out 2).trans rfl, (blk_cell HEB4.out 3).trans rfl, (blk_cell HEB4.out 4).trans rfl⟩ (fun hHeld => ?_)
      clear hK K
      refine norm_ (a' := ?_) ?_ ?_
      rotate_left
      · show Act.put _ (some 20) _ = _
        simp only [Act.put, List.setIfInBounds_toArray, List.set_cons_zero, List.set_cons_succ, i64_w, i32_w]
        rfl
      refine one_ (i := 8) (N := some 21) #[true, true, true, true, true, true, true, true, true, false] rfl rfl (by kernel_rfl) (by decide) (fun K hK => ?_)
      refine Kd.S_append_step G.k99 (w0 := w3) w0.heap.size (by rfl) (.tmp 13) (.tmp 20) 53 99 (.agg #[.int .i64 0, .int .i64 0, .int .i64 0, .int .i64 0, .slice none 0 0]) 56 rfl Try.underlying53 G.info99 rfl (by decide) (by omega) _ (m.f8.take k) t [.int .i64 t.f0, .int .i64 t.f1.f0, .int .i64 t.f1.f1, .int .i64 t.f1.f2, .slice N t.f1.f3.length n] (fun _ => True) (fun k => wr.heap.size ≤ k) rfl rfl (G.k99_mkM _ _ _ t RN.out) (fun k hk => ⟨trivial, fun e => by have := HOWN.out k e.symm; omega⟩) (fun _ _ => trivial) HS3.out (Below.refl _ _) HZ3.out (by omega) ?_
      intro v1 w5 ho hb5 hg5 hat
      rw [← HTK.out] at ho
      have HS5 := Lib.hid ho
      have HB5 := Lib.hid ((HB.out.trans (HBB.out.mono HB.out.size)).trans hb5)
      have HT5 := Lib.hid ((HT.out.below HBB.out).grow HT0.out.hz HT0.out.hz2 HT0.out.d.size hb5)
      have HEB5 := Lib.hid (show w5.heap[wr.heap.size]? = _ from (hg5.block wr.heap.size (by have := HEZ.out; have := HBB.out.size; exact Nat.lt_of_lt_of_le (Array.getElem?_eq_some_iff.1 HEB3.out).1 (Nat.le_refl _)) (fun e => by have := HOWN.out _ e.symm; omega)).trans HEB3.out)
      clear ho hb5 hg5 hat
      refine hK.out _ _ ⟨(blk_cell HEB5.out 0).trans rfl, (blk_cell HEB5.out 1).trans rfl, (blk_cell HEB5.out 2).trans rfl, (blk_cell HEB5.out 3).trans rfl, (blk_cell HEB5.out 4).trans rfl⟩ (fun hHeld => ?_)
      clear hK K
      refine norm_ (a' := ?_) ?_ ?_
      rotate_left
      · show Act.put _ (some 21) _ = _
        simp only [Act.put, List.setIfInBounds_toArray, List.set_cons_zero, List.set_cons_succ, i64_w, i32_w]
        rfl
      refine pure_ (i := 9) (N := some 3) (v := ?_) (a' := ?_) #[true, true, true, true, true, true, true, true, true, true] rfl rfl (by kernel_rfl) (fun _ _ _ h => h) (Or.inl ⟨by rfl, ?_⟩) ?_ ?_
      rotate_left
      · intro w'
        go_simp
        try with_reducible rfl
      rotate_left
      · simp only [Act.put, List.setIfInBounds_toArray, List.set_cons_zero, List.set_cons_succ, i64_w, i32_w]
        rfl
      refine done_ (by kernel_rfl) ?_
      try go_wp2
      go_roundw
      case rel => exact ⟨k + 1, by go_num, hlt, HS5.out, HT5.out, HB5.out⟩
      case measure => simp [intOf]; omega
    · have hkl : k = m.f8.length := by omega
      subst hkl
      rw [List.take_length] at HSS
      go_upto_region 7 with fail
      have HTL := Lib.hid ((HT.out.and ((Sv.of HSS.out HT0.out.d.size).held (fun k hk => by have h1 := HT0.out.hz; have h2 := HT0.out.hz2; rcases hk with rfl | rfl <;> omega))).drew)
      have HZL := Lib.hid (show w.heap.size ≤ w0.heap.size from HT0.out.d.size)
      clear HT HSS HB
      refine start_ (n := 15) (S := fun w' => w'.cell? ⟨g, 9, none⟩ = some (.int .i64 m.f9.f0) ∧ w'.cell? ⟨g, 10, none⟩ = some (.int .i64 m.f9.f1) ∧ w'.cell? ⟨g, 11, none⟩ = some (.int .i64 m.f9.f2) ∧ w'.cell? ⟨g, 12, none⟩ = some (.slice A12 m.f9.f3.length c12) ∧ w'.cell? ⟨g, 16, none⟩ = some (.slice A16 m.f10.f3.length c16)) (ds := [9, 11, 14]) #[false, false, false, false, false, false, false, false, false, false, false, false, false, false, false] (by kernel_rfl) rfl rfl ⟨(blk_cell HTL.out.y 9).trans rfl, (blk_cell HTL.out.y 10).trans rfl, (blk_cell HTL.out.y 11).trans rfl, (blk_cell HTL.out.y 12).trans rfl, (blk_cell HTL.out.y 16).trans rfl⟩ (fun hHeld => ?_)
      obtain ⟨wa, hwa⟩ : ∃ wa, wr.drew = wa := ⟨_, rfl⟩
      have HZA := Lib.hid (show wr.heap.size = wa.heap.size by rw [← hwa]; rfl)
      rw [hwa] at HTL hHeld ⊢
      clear hwa
      refine pure_ (i := 0) (N := some 23) (v := ?_) (a' := ?_) #[true, false, false, false, false, false, false, false, false, false, false, false, false, false, false] rfl rfl (by kernel_rfl) (fun _ _ _ h => h) (Or.inl ⟨by rfl, ?_⟩) ?_ ?_
      rotate_left
      · intro w'
        go_simp
        try with_reducible rfl
      rotate_left
      · simp only [Act.put, List.setIfInBounds_toArray, List.set_cons_zero, List.set_cons_succ, i64_w, i32_w]
        rfl
      refine pure_ (i := 1) (N := some 24) (v := ?_) (a' := ?_) #[true, true, false, false, false, false, false, false, false, false, false, false, false, false, false] rfl rfl (by kernel_rfl) (fun _ _ _ h => h) (Or.inl ⟨by rfl, ?_⟩) ?_ ?_
      rotate_left
      · intro w'
        go_simp
        try with_reducible rfl
      rotate_left
      · simp only [Act.put, List.setIfInBounds_toArray, List.set_cons_zero, List.set_cons_succ, i64_w, i32_w]
        rfl
      refine pure_ (i := 4) (N := some 27) (v := ?_) (a' := ?_) #[true, true, false, false, true, false, false, false, false, false, false, false, false, false, false] rfl rfl (by kernel_rfl) (fun _ _ _ h => h) (Or.inl ⟨by rfl, ?_⟩) ?_ ?_
      rotate_left
      · intro w'
        go_simp
        try with_reducible rfl
      rotate_left
      · simp only [Act.put, List.setIfInBounds_toArray, List.set_cons_zero, List.set_cons_succ, i64_w, i32_w]
        rfl
      refine pure_ (i := 5) (N := some 28) (v := ?_) (a' := ?_) #[true, true, false, false, true, true, false, false, false, false, false, false, false, false, false] rfl rfl (by kernel_rfl) (fun _ _ _ h => h) (Or.inl ⟨by rfl, ?_⟩) ?_ ?_
      rotate_left
      · intro w'
        go_simp
        try with_reducible rfl
      rotate_left
      · simp only [Act.put, List.setIfInBounds_toArray, List.set_cons_zero, List.set_cons_succ, i64_w, i32_w]
        rfl
      refine take_ (i := 2) (N := some 25) (v := ?_) (a' := ?_) #[true, true, true, false, true, true, false, false, false, false, false, false, false, false, false] rfl rfl (by kernel_rfl) (fun _ _ _ h => h) (Or.inl ⟨by rfl, ?_⟩) hHeld ?_ ?_
      rotate_left
      · intro w' hS
        go_simp
        try with_reducible rfl
      rotate_left
      · simp only [Act.put, List.setIfInBounds_toArray, List.set_cons_zero, List.set_cons_succ, i64_w, i32_w]
        rfl
      refine take_ (i := 6) (N := some 29) (v := ?_) (a' := ?_) #[true, true, true, false, true, true, true, false, false, false, false, false, false, false, false] rfl rfl (by kernel_rfl) (fun _ _ _ h => h) (Or.inl ⟨by rfl, ?_⟩) hHeld ?_ ?_
      rotate_left
      · intro w' hS
        go_simp
        try with_reducible rfl
      rotate_left
      · simp only [Act.put, List.setIfInBounds_toArray, List.set_cons_zero, List.set_cons_succ, i64_w, i32_w]
        rfl
      refine pure_ (i := 8) (N := some 31) (v := ?_) (a' := ?_) #[true, true, true, false, true, true, true, false, true, false, false, false, false, false, false] rfl rfl (by kernel_rfl) (fun _ _ _ h => h) (Or.inl ⟨by rfl, ?_⟩) ?_ ?_
      rotate_left
      · intro w'
        go_simp
        try with_reducible rfl
      rotate_left
      · simp only [Act.put, List.setIfInBounds_toArray, List.set_cons_zero, List.set_cons_succ, i64_w, i32_w]
        rfl
      refine one_ (i := 3) (N := some 26) #[true, true, true, true, true, true, true, false, true, false, false, false, false, false, false] rfl rfl (by kernel_rfl) (by decide) (fun K hK => ?_)
      go_simp
      refine (cloneEn_is (w := wa) m.f9 HC.out.l12 (Kd.C_below HC.out.g12 HTL.out.d) HS.out.2.2.1).mono ?_
      rintro e w1 ⟨v_, rfl, hv, hb⟩
      obtain ⟨N12, n12, rfl⟩ := Kd.R_slice (Kd.S_R hv)
      have HT1 := Lib.hid (HTL.out.callS hb hv)
      have HZ1 := Lib.hid hb.size
      clear hv hb HTL
      refine hK.out _ _ ⟨(blk_cell HT1.out.y 9).trans rfl, (blk_cell HT1.out.y 10).trans rfl, (blk_cell HT1.out.y 11).trans rfl, (blk_cell HT1.out.y 12).trans rfl, (blk_cell HT1.out.y 16).trans rfl⟩ (fun hHeld => ?_)
      clear hK K
      refine one_ (i := 7) (N := some 30) #[true, true, true, true, true, true, true, true, true, false, false, false, false, false, false] rfl rfl (by kernel_rfl) (by decide) (fun K hK => ?_)
      go_simp
      refine (bclone_calls A16 c16 m.f10.f3 w1 (Kd.C_below HC.out.g16 HT1.out.d) HC.out.l16 (by have := HS.out.2.2.2; omega)).mono ?_
      rintro e w2 ⟨v_, rfl, hv, hb⟩
      obtain ⟨N16, n16, rfl⟩ := Kd.R_slice hv
      have HT2 := Lib.hid (HT1.out.callR hb hv)
      have HZ2 := Lib.hid hb.size
      clear hv hb HT1
      refine hK.out _ _ ⟨(blk_cell HT2.out.y 9).trans rfl, (blk_cell HT2.out.y 10).trans rfl, (blk_cell HT2.out.y 11).trans rfl, (blk_cell HT2.out.y 12).trans rfl, (blk_cell HT2.out.y 16).trans rfl⟩ (fun hHeld => ?_)
      clear hK K
      have q8 : w2.cell? ⟨g, 8, none⟩ = some (.slice A8 m.f8.length c8) := (blk_cell HT2.out.y 8).trans rfl
      have z8 : w2.frozen? ⟨g, 8, none⟩ = false := blk_frozen HT2.out.y 8
      have q9 : w2.cell? ⟨g, 9, none⟩ = some (.int .i64 m.f9.f0) := (blk_cell HT2.out.y 9).trans rfl
      have z9 : w2.frozen? ⟨g, 9, none⟩ = false := blk_frozen HT2.out.y 9
      have q10 : w2.cell? ⟨g, 10, none⟩ = some (.int .i64 m.f9.f1) := (blk_cell HT2.out.y 10).trans rfl
      have z10 : w2.frozen? ⟨g, 10, none⟩ = false := blk_frozen HT2.out.y 10
      have q11 : w2.cell? ⟨g, 11, none⟩ = some (.int .i64 m.f9.f2) := (blk_cell HT2.out.y 11).trans rfl
      have z11 : w2.frozen? ⟨g, 11, none⟩ = false := blk_frozen HT2.out.y 11
      have q12 : w2.cell? ⟨g, 12, none⟩ = some (.slice A12 m.f9.f3.length c12) := (blk_cell HT2.out.y 12).trans rfl
      have z12 : w2.frozen? ⟨g, 12, none⟩ = false := blk_frozen HT2.out.y 12
      have q16 : w2.cell? ⟨g, 16, none⟩ = some (.slice A16 m.f10.f3.length c16) := (blk_cell HT2.out.y 16).trans rfl
      have z16 : w2.frozen? ⟨g, 16, none⟩ = false := blk_frozen HT2.out.y 16
      refine last_ (i := 9) (N := none) #[true, true, true, true, true, true, true, true, true, true, false, false, false, false, false] rfl rfl (by kernel_rfl) (by decide) (fun K hK => ?_)
      refine skip_ (w1 := ?_) (by rfl) rfl ?_ ?_
      rotate_left
      · go_simp
        rfl
      refine hK.out _ _ ?_
      clear hK K
      refine pure_ (i := 10) (N := some 32) (v := ?_) (a' := ?_) #[true, true, true, true, true, true, true, true, true, true, true, false, false, false, false] rfl rfl (by kernel_rfl) (fun _ _ _ h => h) (Or.inl ⟨by rfl, ?_⟩) ?_ ?_
      rotate_left
      · intro w'
        go_simp
        try with_reducible rfl
      rotate_left
      · simp only [Act.put, List.setIfInBounds_toArray, List.set_cons_zero, List.set_cons_succ, i64_w, i32_w]
        rfl
      refine last_ (i := 11) (N := none) #[true, true, true, true, true, true, true, true, true, true, true, true, false, false, false] rfl rfl (by kernel_rfl) (by decide) (fun K hK => ?_)
      refine skip_ (w1 := ?_) (by rfl) rfl ?_ ?_
      rotate_left
      · go_simp
        rfl
      refine hK.out _ _ ?_
      clear hK K
      refine pure_ (i := 12) (N := some 33) (v := ?_) (a' := ?_) #[true, true, true, true, true, true, true, true, true, true, true, true, true, false, false] rfl rfl (by kernel_rfl) (fun _ _ _ h => h) (Or.inl ⟨by rfl, ?_⟩) ?_ ?_
      rotate_left
      · intro w'
        go_simp
        try with_reducible rfl
      rotate_left
      · simp only [Act.put, List.setIfInBounds_toArray, List.set_cons_zero, List.set_cons_succ, i64_w, i32_w]
        rfl
      refine pure_ (i := 13) (N := some 34) (v := ?_) (a' := ?_) #[true, true, true, true, true, true, true, true, true, true, true, true, true, true, false] rfl rfl (by kernel_rfl) (fun _ _ _ h => h) (Or.inl ⟨by rfl, ?_⟩) ?_ ?_
      rotate_left
      · intro w'
        go_simp
        try with_reducible rfl
      rotate_left
      · simp only [Act.put, List.setIfInBounds_toArray, List.set_cons_zero, List.set_cons_succ, i64_w, i32_w]
        rfl
      refine last_ (i := 14) (N := none) #[true, true, true, true, true, true, true, true, true, true, true, true, true, true, true] rfl rfl (by kernel_rfl) (by decide) (fun K hK => ?_)
      refine skip_ (w1 := ?_) (by rfl) rfl ?_ ?_
      rotate_left
      · go_simp
        rfl
      refine hK.out _ _ ?_
      clear hK K
      refine done_ (by kernel_rfl) ?_
      have HT3 := Lib.hid ((((((HT2.out.set 8 (.slice Av m.f8.length cv) #[.int .i64 m.f0, .int .i64 m.f1, .int .i64 m.f2, .int .i64 m.f3, .int .i64 m.f4, .int .i64 m.f5, .int .i64 m.f6, .bool m.f7, .slice Av m.f8.length cv, .int .i64 m.f9.f0, .int .i64 m.f9.f1, .int .i64 m.f9.f2, .slice A12 m.f9.f3.length c12, .int .i64 m.f10.f0, .int .i64 m.f10.f1, .int .i64 m.f10.f2, .slice A16 m.f10.f3.length c16] (blk_put HT2.out.y 8 _ rfl)).set 9 (.int .i64 m.f9.f0) #[.int .i64 m.f0, .int .i64 m.f1, .int .i64 m.f2, .int .i64 m.f3, .int .i64 m.f4, .int .i64 m.f5, .int .i64 m.f6, .bool m.f7, .slice Av m.f8.length cv, .int .i64 m.f9.f0, .int .i64 m.f9.f1, .int .i64 m.f9.f2, .slice A12 m.f9.f3.length c12, .int .i64 m.f10.f0, .int .i64 m.f10.f1, .int .i64 m.f10.f2, .slice A16 m.f10.f3.length c16] (blk_put (HT2.out.set 8 (.slice Av m.f8.length cv) #[.int .i64 m.f0, .int .i64 m.f1, .int .i64 m.f2, .int .i64 m.f3, .int .i64 m.f4, .int .i64 m.f5, .int .i64 m.f6, .bool m.f7, .slice Av m.f8.length cv, .int .i64 m.f9.f0, .int .i64 m.f9.f1, .int .i64 m.f9.f2, .slice A12 m.f9.f3.length c12, .int .i64 m.f10.f0, .int .i64 m.f10.f1, .int .i64 m.f10.f2, .slice A16 m.f10.f3.length c16] (blk_put HT2.out.y 8 _ rfl)).y 9 _ rfl)).set 10 (.int .i64 m.f9.f1) #[.int .i64 m.f0, .int .i64 m.f1, .int .i64 m.f2, .int .i64 m.f3, .int .i64 m.f4, .int .i64 m.f5, .int .i64 m.f6, .bool m.f7, .slice Av m.f8.length cv, .int .i64 m.f9.f0, .int .i64 m.f9.f1, .int .i64 m.f9.f2, .slice A12 m.f9.f3.length c12, .int .i64 m.f10.f0, .int .i64 m.f10.f1, .int .i64 m.f10.f2, .slice A16 m.f10.f3.length c16] (blk_put ((HT2.out.set 8 (.slice Av m.f8.length cv) #[.int .i64 m.f0, .int .i64 m.f1, .int .i64 m.f2, .int .i64 m.f3, .int .i64 m.f4, .int .i64 m.f5, .int .i64 m.f6, .bool m.f7, .slice Av m.f8.length cv, .int .i64 m.f9.f0, .int .i64 m.f9.f1, .int .i64 m.f9.f2, .slice A12 m.f9.f3.length c12, .int .i64 m.f10.f0, .int .i64 m.f10.f1, .int .i64 m.f10.f2, .slice A16 m.f10.f3.length c16] (blk_put HT2.out.y 8 _ rfl)).set 9 (.int .i64 m.f9.f0) #[.int .i64 m.f0, .int .i64 m.f1, .int .i64 m.f2, .int .i64 m.f3, .int .i64 m.f4, .int .i64 m.f5, .int .i64 m.f6, .bool m.f7, .slice Av m.f8.length cv, .int .i64 m.f9.f0, .int .i64 m.f9.f1, .int .i64 m.f9.f2, .slice A12 m.f9.f3.length c12, .int .i64 m.f10.f0, .int .i64 m.f10.f1, .int .i64 m.f10.f2, .slice A16 m.f10.f3.length c16] (blk_put (HT2.out.set 8 (.slice Av m.f8.length cv) #[.int .i64 m.f0, .int .i64 m.f1, .int .i64 m.f2, .int .i64 m.f3, .int .i64 m.f4, .int .i64 m.f5, .int .i64 m.f6, .bool m.f7, .slice Av m.f8.length cv, .int .i64 m.f9.f0, .int .i64 m.f9.f1, .int .i64 m.f9.f2, .slice A12 m.f9.f3.length c12, .int .i64 m.f10.f0, .int .i64 m.f10.f1, .int .i64 m.f10.f2, .slice A16 m.f10.f3.length c16] (blk_put HT2.out.y 8 _ rfl)).y 9 _ rfl)).y 10 _ rfl)).set 11 (.int .i64 m.f9.f2) #[.int .i64 m.f0, .int .i64 m.f1, .int .i64 m.f2, .int .i64 m.f3, .int .i64 m.f4, .int .i64 m.f5, .int .i64 m.f6, .bool m.f7, .slice Av m.f8.length cv, .int .i64 m.f9.f0, .int .i64 m.f9.f1, .int .i64 m.f9.f2, .slice A12 m.f9.f3.length c12, .int .i64 m.f10.f0, .int .i64 m.f10.f1, .int .i64 m.f10.f2, .slice A16 m.f10.f3.length c16] (blk_put (((HT2.out.set 8 (.slice Av m.f8.length cv) #[.int .i64 m.f0, .int .i64 m.f1, .int .i64 m.f2, .int .i64 m.f3, .int .i64 m.f4, .int .i64 m.f5, .int .i64 m.f6, .bool m.f7, .slice Av m.f8.length cv, .int .i64 m.f9.f0, .int .i64 m.f9.f1, .int .i64 m.f9.f2, .slice A12 m.f9.f3.length c12, .int .i64 m.f10.f0, .int .i64 m.f10.f1, .int .i64 m.f10.f2, .slice A16 m.f10.f3.length c16] (blk_put HT2.out.y 8 _ rfl)).set 9 (.int .i64 m.f9.f0) #[.int .i64 m.f0, .int .i64 m.f1, .int .i64 m.f2, .int .i64 m.f3, .int .i64 m.f4, .int .i64 m.f5, .int .i64 m.f6, .bool m.f7, .slice Av m.f8.length cv, .int .i64 m.f9.f0, .int .i64 m.f9.f1, .int .i64 m.f9.f2, .slice A12 m.f9.f3.length c12, .int .i64 m.f10.f0, .int .i64 m.f10.f1, .int .i64 m.f10.f2, .slice A16 m.f10.f3.length c16] (blk_put (HT2.out.set 8 (.slice Av m.f8.length cv) #[.int .i64 m.f0, .int .i64 m.f1, .int .i64 m.f2, .int .i64 m.f3, .int .i64 m.f4, .int .i64 m.f5, .int .i64 m.f6, .bool m.f7, .slice Av m.f8.length cv, .int .i64 m.f9.f0, .int .i64 m.f9.f1, .int .i64 m.f9.f2, .slice A12 m.f9.f3.length c12, .int .i64 m.f10.f0, .int .i64 m.f10.f1, .int .i64 m.f10.f2, .slice A16 m.f10.f3.length c16] (blk_put HT2.out.y 8 _ rfl)).y 9 _ rfl)).set 10 (.int .i64 m.f9.f1) #[.int .i64 m.f0, .int .i64 m.f1, .int .i64 m.f2, .int .i64 m.f3, .int .i64 m.f4, .int .i64 m.f5, .int .i64 m.f6, .bool m.f7, .slice Av m.f8.length cv, .int .i64 m.f9.f0, .int .i64 m.f9.f1, .int .i64 m.f9.f2, .slice A12 m.f9.f3.length c12, .int .i64 m.f10.f0, .int .i64 m.f10.f1, .int .i64 m.f10.f2, .slice A16 m.f10.f3.length c16] (blk_put ((HT2.out.set 8 (.slice Av m.f8.length cv) #[.int .i64 m.f0, .int .i64 m.f1, .int .i64 m.f2, .int .i64 m.f3, .int .i64 m.f4, .int .i64 m.f5, .int .i64 m.f6, .bool m.f7, .slice Av m.f8.length cv, .int .i64 m.f9.f0, .int .i64 m.f9.f1, .int .i64 m.f9.f2, .slice A12 m.f9.f3.length c12, .int .i64 m.f10.f0, .int .i64 m.f10.f1, .int .i64 m.f10.f2, .slice A16 m.f10.f3.length c16] (blk_put HT2.out.y 8 _ rfl)).set 9 (.int .i64 m.f9.f0) #[.int .i64 m.f0, .int .i64 m.f1, .int .i64 m.f2, .int .i64 m.f3, .int .i64 m.f4, .int .i64 m.f5, .int .i64 m.f6, .bool m.f7, .slice Av m.f8.length cv, .int .i64 m.f9.f0, .int .i64 m.f9.f1, .int .i64 m.f9.f2, .slice A12 m.f9.f3.length c12, .int .i64 m.f10.f0, .int .i64 m.f10.f1, .int .i64 m.f10.f2, .slice A16 m.f10.f3.length c16] (blk_put (HT2.out.set 8 (.slice Av m.f8.length cv) #[.int .i64 m.f0, .int .i64 m.f1, .int .i64 m.f2, .int .i64 m.f3, .int .i64 m.f4, .int .i64 m.f5, .int .i64 m.f6, .bool m.f7, .slice Av m.f8.length cv, .int .i64 m.f9.f0, .int .i64 m.f9.f1, .int .i64 m.f9.f2, .slice A12 m.f9.f3.length c12, .int .i64 m.f10.f0, .int .i64 m.f10.f1, .int .i64 m.f10.f2, .slice A16 m.f10.f3.length c16] (blk_put HT2.out.y 8 _ rfl)).y 9 _ rfl)).y 10 _ rfl)).y 11 _ rfl)).set 12 (.slice N12 m.f9.f3.length n12) #[.int .i64 m.f0, .int .i64 m.f1, .int .i64 m.f2, .int .i64 m.f3, .int .i64 m.f4, .int .i64 m.f5, .int .i64 m.f6, .bool m.f7, .slice Av m.f8.length cv, .int .i64 m.f9.f0, .int .i64 m.f9.f1, .int .i64 m.f9.f2, .slice N12 m.f9.f3.length n12, .int .i64 m.f10.f0, .int .i64 m.f10.f1, .int .i64 m.f10.f2, .slice A16 m.f10.f3.length c16] (blk_put ((((HT2.out.set 8 (.slice Av m.f8.length cv) #[.int .i64 m.f0, .int .i64 m.f1, .int .i64 m.f2, .int .i64 m.f3, .int .i64 m.f4, .int .i64 m.f5, .int .i64 m.f6, .bool m.f7, .slice Av m.f8.length cv, .int .i64 m.f9.f0, .int .i64 m.f9.f1, .int .i64 m.f9.f2, .slice A12 m.f9.f3.length c12, .int .i64 m.f10.f0, .int .i64 m.f10.f1, .int .i64 m.f10.f2, .slice A16 m.f10.f3.length c16] (blk_put HT2.out.y 8 _ rfl)).set 9 (.int .i64 m.f9.f0) #[.int .i64 m.f0, .int .i64 m.f1, .int .i64 m.f2, .int .i64 m.f3, .int .i64 m.f4, .int .i64 m.f5, .int .i64 m.f6, .bool m.f7, .slice Av m.f8.length cv, .int .i64 m.f9.f0, .int .i64 m.f9.f1, .int .i64 m.f9.f2, .slice A12 m.f9.f3.length c12, .int .i64 m.f10.f0, .int .i64 m.f10.f1, .int .i64 m.f10.f2, .slice A16 m.f10.f3.length c16] (blk_put (HT2.out.set 8 (.slice Av m.f8.length cv) #[.int .i64 m.f0, .int .i64 m.f1, .int .i64 m.f2, .int .i64 m.f3, .int .i64 m.f4, .int .i64 m.f5, .int .i64 m.f6, .bool m.f7, .slice Av m.f8.length cv, .int .i64 m.f9.f0, .int .i64 m.f9.f1, .int .i64 m.f9.f2, .slice A12 m.f9.f3.length c12, .int .i64 m.f10.f0, .int .i64 m.f10.f1, .int .i64 m.f10.f2, .slice A16 m.f10.f3.length c16] (blk_put HT2.out.y 8 _ rfl)).y 9 _ rfl)).set 10 (.int .i64 m.f9.f1) #[.int .i64 m.f0, .int .i64 m.f1, .int .i64 m.f2, .int .i64 m.f3, .int .i64 m.f4, .int .i64 m.f5, .int .i64 m.f6, .bool m.f7, .slice Av m.f8.length cv, .int .i64 m.f9.f0, .int .i64 m.f9.f1, .int .i64 m.f9.f2, .slice A12 m.f9.f3.length c12, .int .i64 m.f10.f0, .int .i64 m.f10.f1, .int .i64 m.f10.f2, .slice A16 m.f10.f3.length c16] (blk_put ((HT2.out.set 8 (.slice Av m.f8.length cv) #[.int .i64 m.f0, .int .i64 m.f1, .int .i64 m.f2, .int .i64 m.f3, .int .i64 m.f4, .int .i64 m.f5, .int .i64 m.f6, .bool m.f7, .slice Av m.f8.length cv, .int .i64 m.f9.f0, .int .i64 m.f9.f1, .int .i64 m.f9.f2, .slice A12 m.f9.f3.length c12, .int .i64 m.f10.f0, .int .i64 m.f10.f1, .int .i64 m.f10.f2, .slice A16 m.f10.f3.length c16] (blk_put HT2.out.y 8 _ rfl)).set 9 (.int .i64 m.f9.f0) #[.int .i64 m.f0, .int .i64 m.f1, .int .i64 m.f2, .int .i64 m.f3, .int .i64 m.f4, .int .i64 m.f5, .int .i64 m.f6, .bool m.f7, .slice Av m.f8.length cv, .int .i64 m.f9.f0, .int .i64 m.f9.f1, .int .i64 m.f9.f2, .slice A12 m.f9.f3.length c12, .int .i64 m.f10.f0, .int .i64 m.f10.f1, .int .i64 m.f10.f2, .slice A16 m.f10.f3.length c16] (blk_put (HT2.out.set 8 (.slice Av m.f8.length cv) #[.int .i64 m.f0, .int .i64 m.f1, .int .i64 m.f2, .int .i64 m.f3, .int .i64 m.f4, .int .i64 m.f5, .int .i64 m.f6, .bool m.f7, .slice Av m.f8.length cv, .int .i64 m.f9.f0, .int .i64 m.f9.f1, .int .i64 m.f9.f2, .slice A12 m.f9.f3.length c12, .int .i64 m.f10.f0, .int .i64 m.f10.f1, .int .i64 m.f10.f2, .slice A16 m.f10.f3.length c16] (blk_put HT2.out.y 8 _ rfl)).y 9 _ rfl)).y 10 _ rfl)).set 11 (.int .i64 m.f9.f2) #[.int .i64 m.f0, .int .i64 m.f1, .int .i64 m.f2, .int .i64 m.f3, .int .i64 m.f4, .int .i64 m.f5, .int .i64 m.f6, .bool m.f7, .slice Av m.f8.length cv, .int .i64 m.f9.f0, .int .i64 m.f9.f1, .int .i64 m.f9.f2, .slice A12 m.f9.f3.length c12, .int .i64 m.f10.f0, .int .i64 m.f10.f1, .int .i64 m.f10.f2, .slice A16 m.f10.f3.length c16] (blk_put (((HT2.out.set 8 (.slice Av m.f8.length cv) #[.int .i64 m.f0, .int .i64 m.f1, .int .i64 m.f2, .int .i64 m.f3, .int .i64 m.f4, .int .i64 m.f5, .int .i64 m.f6, .bool m.f7, .slice Av m.f8.length cv, .int .i64 m.f9.f0, .int .i64 m.f9.f1, .int .i64 m.f9.f2, .slice A12 m.f9.f3.length c12, .int .i64 m.f10.f0, .int .i64 m.f10.f1, .int .i64 m.f10.f2, .slice A16 m.f10.f3.length c16] (blk_put HT2.out.y 8 _ rfl)).set 9 (.int .i64 m.f9.f0) #[.int .i64 m.f0, .int .i64 m.f1, .int .i64 m.f2, .int .i64 m.f3, .int .i64 m.f4, .int .i64 m.f5, .int .i64 m.f6, .bool m.f7, .slice Av m.f8.length cv, .int .i64 m.f9.f0, .int .i64 m.f9.f1, .int .i64 m.f9.f2, .slice A12 m.f9.f3.length c12, .int .i64 m.f10.f0, .int .i64 m.f10.f1, .int .i64 m.f10.f2, .slice A16 m.f10.f3.length c16] (blk_put (HT2.out.set 8 (.slice Av m.f8.length cv) #[.int .i64 m.f0, .int .i64 m.f1, .int .i64 m.f2, .int .i64 m.f3, .int .i64 m.f4, .int .i64 m.f5, .int .i64 m.f6, .bool m.f7, .slice Av m.f8.length cv, .int .i64 m.f9.f0, .int .i64 m.f9.f1, .int .i64 m.f9.f2, .slice A12 m.f9.f3.length c12, .int .i64 m.f10.f0, .int .i64 m.f10.f1, .int .i64 m.f10.f2, .slice A16 m.f10.f3.length c16] (blk_put HT2.out.y 8 _ rfl)).y 9 _ rfl)).set 10 (.int .i64 m.f9.f1) #[.int .i64 m.f0, .int .i64 m.f1, .int .i64 m.f2, .int .i64 m.f3, .int .i64 m.f4, .int .i64 m.f5, .int .i64 m.f6, .bool m.f7, .slice Av m.f8.length cv, .int .i64 m.f9.f0, .int .i64 m.f9.f1, .int .i64 m.f9.f2, .slice A12 m.f9.f3.length c12, .int .i64 m.f10.f0, .int .i64 m.f10.f1, .int .i64 m.f10.f2, .slice A16 m.f10.f3.length c16] (blk_put ((HT2.out.set 8 (.slice Av m.f8.length cv) #[.int .i64 m.f0, .int .i64 m.f1, .int .i64 m.f2, .int .i64 m.f3, .int .i64 m.f4, .int .i64 m.f5, .int .i64 m.f6, .bool m.f7, .slice Av m.f8.length cv, .int .i64 m.f9.f0, .int .i64 m.f9.f1, .int .i64 m.f9.f2, .slice A12 m.f9.f3.length c12, .int .i64 m.f10.f0, .int .i64 m.f10.f1, .int .i64 m.f10.f2, .slice A16 m.f10.f3.length c16] (blk_put HT2.out.y 8 _ rfl)).set 9 (.int .i64 m.f9.f0) #[.int .i64 m.f0, .int .i64 m.f1, .int .i64 m.f2, .int .i64 m.f3, .int .i64 m.f4, .int .i64 m.f5, .int .i64 m.f6, .bool m.f7, .slice Av m.f8.length cv, .int .i64 m.f9.f0, .int .i64 m.f9.f1, .int .i64 m.f9.f2, .slice A12 m.f9.f3.length c12, .int .i64 m.f10.f0, .int .i64 m.f10.f1, .int .i64 m.f10.f2, .slice A16 m.f10.f3.length c16] (blk_put (HT2.out.set 8 (.slice Av m.f8.length cv) #[.int .i64 m.f0, .int .i64 m.f1, .int .i64 m.f2, .int .i64 m.f3, .int .i64 m.f4, .int .i64 m.f5, .int .i64 m.f6, .bool m.f7, .slice Av m.f8.length cv, .int .i64 m.f9.f0, .int .i64 m.f9.f1, .int .i64 m.f9.f2, .slice A12 m.f9.f3.length c12, .int .i64 m.f10.f0, .int .i64 m.f10.f1, .int .i64 m.f10.f2, .slice A16 m.f10.f3.length c16] (blk_put HT2.out.y 8 _ rfl)).y 9 _ rfl)).y 10 _ rfl)).y 11 _ rfl)).y 12 _ rfl)).set 16 (.slice N16 m.f10.f3.length n16) #[.int .i64 m.f0, .int .i64 m.f1, .int .i64 m.f2, .int .i64 m.f3, .int .i64 m.f4, .int .i64 m.f5, .int .i64 m.f6, .bool m.f7, .slice Av m.f8.length cv, .int .i64 m.f9.f0, .int .i64 m.f9.f1, .int .i64 m.f9.f2, .slice N12 m.f9.f3.length n12, .int .i64 m.f10.f0, .int .i64 m.f10.f1, .int .i64 m.f10.f2, .slice N16 m.f10.f3.length n16] (blk_put (((((HT2.out.set 8 (.slice Av m.f8.length cv) #[.int .i64 m.f0, .int .i64 m.f1, .int .i64 m.f2, .int .i64 m.f3, .int .i64 m.f4, .int .i64 m.f5, .int .i64 m.f6, .bool m.f7, .slice Av m.f8.length cv, .int .i64 m.f9.f0, .int .i64 m.f9.f1, .int .i64 m.f9.f2, .slice A12 m.f9.f3.length c12, .int .i64 m.f10.f0, .int .i64 m.f10.f1, .int .i64 m.f10.f2, .slice A16 m.f10.f3.length c16] (blk_put HT2.out.y 8 _ rfl)).set 9 (.int .i64 m.f9.f0) #[.int .i64 m.f0, .int .i64 m.f1, .int .i64 m.f2, .int .i64 m.f3, .int .i64 m.f4, .int .i64 m.f5, .int .i64 m.f6, .bool m.f7, .slice Av m.f8.length cv, .int .i64 m.f9.f0, .int .i64 m.f9.f1, .int .i64 m.f9.f2, .slice A12 m.f9.f3.length c12, .int .i64 m.f10.f0, .int .i64 m.f10.f1, .int .i64 m.f10.f2, .slice A16 m.f10.f3.length c16] (blk_put (HT2.out.set 8 (.slice Av m.f8.length cv) #[.int .i64 m.f0, .int .i64 m.f1, .int .i64 m.f2, .int .i64 m.f3, .int .i64 m.f4, .int .i64 m.f5, .int .i64 m.f6, .bool m.f7, .slice Av m.f8.length cv, .int .i64 m.f9.f0, .int .i64 m.f9.f1, .int .i64 m.f9.f2, .slice A12 m.f9.f3.length c12, .int .i64 m.f10.f0, .int .i64 m.f10.f1, .int .i64 m.f10.f2, .slice A16 m.f10.f3.length c16] (blk_put HT2.out.y 8 _ rfl)).y 9 _ rfl)).set 10 (.int .i64 m.f9.f1) #[.int .i64 m.f0, .int .i64 m.f1, .int .i64 m.f2, .int .i64 m.f3, .int .i64 m.f4, .int .i64 m.f5, .int .i64 m.f6, .bool m.f7, .slice Av m.f8.length cv, .int .i64 m.f9.f0, .int .i64 m.f9.f1, .int .i64 m.f9.f2, .slice A12 m.f9.f3.length c12, .int .i64 m.f10.f0, .int .i64 m.f10.f1, .int .i64 m.f10.f2, .slice A16 m.f10.f3.length c16] (blk_put ((HT2.out.set 8 (.slice Av m.f8.length cv) #[.int .i64 m.f0, .int .i64 m.f1, .int .i64 m.f2, .int .i64 m.f3, .int .i64 m.f4, .int .i64 m.f5, .int .i64 m.f6, .bool m.f7, .slice Av m.f8.length cv, .int .i64 m.f9.f0, .int .i64 m.f9.f1, .int .i64 m.f9.f2, .slice A12 m.f9.f3.length c12, .int .i64 m.f10.f0, .int .i64 m.f10.f1, .int .i64 m.f10.f2, .slice A16 m.f10.f3.length c16] (blk_put HT2.out.y 8 _ rfl)).set 9 (.int .i64 m.f9.f0) #[.int .i64 m.f0, .int .i64 m.f1, .int .i64 m.f2, .int .i64 m.f3, .int .i64 m.f4, .int .i64 m.f5, .int .i64 m.f6, .bool m.f7, .slice Av m.f8.length cv, .int .i64 m.f9.f0, .int .i64 m.f9.f1, .int .i64 m.f9.f2, .slice A12 m.f9.f3.length c12, .int .i64 m.f10.f0, .int .i64 m.f10.f1, .int .i64 m.f10.f2, .slice A16 m.f10.f3.length c16] (blk_put (HT2.out.set 8 (.slice Av m.f8.length cv) #[.int .i64 m.f0, .int .i64 m.f1, .int .i64 m.f2, .int .i64 m.f3, .int .i64 m.f4, .int .i64 m.f5, .int .i64 m.f6, .bool m.f7, .slice Av m.f8.length cv, .int .i64 m.f9.f0, .int .i64 m.f9.f1, .int .i64 m.f9.f2, .slice A12 m.f9.f3.length c12, .int .i64 m.f10.f0, .int .i64 m.f10.f1, .int .i64 m.f10.f2, .slice A16 m.f10.f3.length c16] (blk_put HT2.out.y 8 _ rfl)).y 9 _ rfl)).y 10 _ rfl)).set 11 (.int .i64 m.f9.f2) #[.int .i64 m.f0, .int .i64 m.f1, .int .i64 m.f2, .int .i64 m.f3, .int .i64 m.f4, .int .i64 m.f5, .int .i64 m.f6, .bool m.f7, .slice Av m.f8.length cv, .int .i64 m.f9.f0, .int .i64 m.f9.f1, .int .i64 m.f9.f2, .slice A12 m.f9.f3.length c12, .int .i64 m.f10.f0, .int .i64 m.f10.f1, .int .i64 m.f10.f2, .slice A16 m.f10.f3.length c16] (blk_put (((HT2.out.set 8 (.slice Av m.f8.length cv) #[.int .i64 m.f0, .int .i64 m.f1, .int .i64 m.f2, .int .i64 m.f3, .int .i64 m.f4, .int .i64 m.f5, .int .i64 m.f6, .bool m.f7, .slice Av m.f8.length cv, .int .i64 m.f9.f0, .int .i64 m.f9.f1, .int .i64 m.f9.f2, .slice A12 m.f9.f3.length c12, .int .i64 m.f10.f0, .int .i64 m.f10.f1, .int .i64 m.f10.f2, .slice A16 m.f10.f3.length c16] (blk_put HT2.out.y 8 _ rfl)).set 9 (.int .i64 m.f9.f0) #[.int .i64 m.f0, .int .i64 m.f1, .int .i64 m.f2, .int .i64 m.f3, .int .i64 m.f4, .int .i64 m.f5, .int .i64 m.f6, .bool m.f7, .slice Av m.f8.length cv, .int .i64 m.f9.f0, .int .i64 m.f9.f1, .int .i64 m.f9.f2, .slice A12 m.f9.f3.length c12, .int .i64 m.f10.f0, .int .i64 m.f10.f1, .int .i64 m.f10.f2, .slice A16 m.f10.f3.length c16] (blk_put (HT2.out.set 8 (.slice Av m.f8.length cv) #[.int .i64 m.f0, .int .i64 m.f1, .int .i64 m.f2, .int .i64 m.f3, .int .i64 m.f4, .int .i64 m.f5, .int .i64 m.f6, .bool m.f7, .slice Av m.f8.length cv, .int .i64 m.f9.f0, .int .i64 m.f9.f1, .int .i64 m.f9.f2, .slice A12 m.f9.f3.length c12, .int .i64 m.f10.f0, .int .i64 m.f10.f1, .int .i64 m.f10.f2, .slice A16 m.f10.f3.length c16] (blk_put HT2.out.y 8 _ rfl)).y 9 _ rfl)).set 10 (.int .i64 m.f9.f1) #[.int .i64 m.f0, .int .i64 m.f1, .int .i64 m.f2, .int .i64 m.f3, .int .i64 m.f4, .int .i64 m.f5, .int .i64 m.f6, .bool m.f7, .slice Av m.f8.length cv, .int .i64 m.f9.f0, .int .i64 m.f9.f1, .int .i64 m.f9.f2, .slice A12 m.f9.f3.length c12, .int .i64 m.f10.f0, .int .i64 m.f10.f1, .int .i64 m.f10.f2, .slice A16 m.f10.f3.length c16] (blk_put ((HT2.out.set 8 (.slice Av m.f8.length cv) #[.int .i64 m.f0, .int .i64 m.f1, .int .i64 m.f2, .int .i64 m.f3, .int .i64 m.f4, .int .i64 m.f5, .int .i64 m.f6, .bool m.f7, .slice Av m.f8.length cv, .int .i64 m.f9.f0, .int .i64 m.f9.f1, .int .i64 m.f9.f2, .slice A12 m.f9.f3.length c12, .int .i64 m.f10.f0, .int .i64 m.f10.f1, .int .i64 m.f10.f2, .slice A16 m.f10.f3.length c16] (blk_put HT2.out.y 8 _ rfl)).set 9 (.int .i64 m.f9.f0) #[.int .i64 m.f0, .int .i64 m.f1, .int .i64 m.f2, .int .i64 m.f3, .int .i64 m.f4, .int .i64 m.f5, .int .i64 m.f6, .bool m.f7, .slice Av m.f8.length cv, .int .i64 m.f9.f0, .int .i64 m.f9.f1, .int .i64 m.f9.f2, .slice A12 m.f9.f3.length c12, .int .i64 m.f10.f0, .int .i64 m.f10.f1, .int .i64 m.f10.f2, .slice A16 m.f10.f3.length c16] (blk_put (HT2.out.set 8 (.slice Av m.f8.length cv) #[.int .i64 m.f0, .int .i64 m.f1, .int .i64 m.f2, .int .i64 m.f3, .int .i64 m.f4, .int .i64 m.f5, .int .i64 m.f6, .bool m.f7, .slice Av m.f8.length cv, .int .i64 m.f9.f0, .int .i64 m.f9.f1, .int .i64 m.f9.f2, .slice A12 m.f9.f3.length c12, .int .i64 m.f10.f0, .int .i64 m.f10.f1, .int .i64 m.f10.f2, .slice A16 m.f10.f3.length c16] (blk_put HT2.out.y 8 _ rfl)).y 9 _ rfl)).y 10 _ rfl)).y 11 _ rfl)).set 12 (.slice N12 m.f9.f3.length n12) #[.int .i64 m.f0, .int .i64 m.f1, .int .i64 m.f2, .int .i64 m.f3, .int .i64 m.f4, .int .i64 m.f5, .int .i64 m.f6, .bool m.f7, .slice Av m.f8.length cv, .int .i64 m.f9.f0, .int .i64 m.f9.f1, .int .i64 m.f9.f2, .slice N12 m.f9.f3.length n12, .int .i64 m.f10.f0, .int .i64 m.f10.f1, .int .i64 m.f10.f2, .slice A16 m.f10.f3.length c16] (blk_put ((((HT2.out.set 8 (.slice Av m.f8.length cv) #[.int .i64 m.f0, .int .i64 m.f1, .int .i64 m.f2, .int .i64 m.f3, .int .i64 m.f4, .int .i64 m.f5, .int .i64 m.f6, .bool m.f7, .slice Av m.f8.length cv, .int .i64 m.f9.f0, .int .i64 m.f9.f1, .int .i64 m.f9.f2, .slice A12 m.f9.f3.length c12, .int .i64 m.f10.f0, .int .i64 m.f10.f1, .int .i64 m.f10.f2, .slice A16 m.f10.f3.length c16] (blk_put HT2.out.y 8 _ rfl)).set 9 (.int .i64 m.f9.f0) #[.int .i64 m.f0, .int .i64 m.f1, .int .i64 m.f2, .int .i64 m.f3, .int .i64 m.f4, .int .i64 m.f5, .int .i64 m.f6, .bool m.f7, .slice Av m.f8.length cv, .int .i64 m.f9.f0, .int .i64 m.f9.f1, .int .i64 m.f9.f2, .slice A12 m.f9.f3.length c12, .int .i64 m.f10.f0, .int .i64 m.f10.f1, .int .i64 m.f10.f2, .slice A16 m.f10.f3.length c16] (blk_put (HT2.out.set 8 (.slice Av m.f8.length cv) #[.int .i64 m.f0, .int .i64 m.f1, .int .i64 m.f2, .int .i64 m.f3, .int .i64 m.f4, .int .i64 m.f5, .int .i64 m.f6, .bool m.f7, .slice Av m.f8.length cv, .int .i64 m.f9.f0, .int .i64 m.f9.f1, .int .i64 m.f9.f2, .slice A12 m.f9.f3.length c12, .int .i64 m.f10.f0, .int .i64 m.f10.f1, .int .i64 m.f10.f2, .slice A16 m.f10.f3.length c16] (blk_put HT2.out.y 8 _ rfl)).y 9 _ rfl)).set 10 (.int .i64 m.f9.f1) #[.int .i64 m.f0, .int .i64 m.f1, .int .i64 m.f2, .int .i64 m.f3, .int .i64 m.f4, .int .i64 m.f5, .int .i64 m.f6, .bool m.f7, .slice Av m.f8.length cv, .int .i64 m.f9.f0, .int .i64 m.f9.f1, .int .i64 m.f9.f2, .slice A12 m.f9.f3.length c12, .int .i64 m.f10.f0, .int .i64 m.f10.f1, .int .i64 m.f10.f2, .slice A16 m.f10.f3.length c16] (blk_put ((HT2.out.set 8 (.slice Av m.f8.length cv) #[.int .i64 m.f0, .int .i64 m.f1, .int .i64 m.f2, .int .i64 m.f3, .int .i64 m.f4, .int .i64 m.f5, .int .i64 m.f6, .bool m.f7, .slice Av m.f8.length cv, .int .i64 m.f9.f0, .int .i64 m.f9.f1, .int .i64 m.f9.f2, .slice A12 m.f9.f3.length c12, .int .i64 m.f10.f0, .int .i64 m.f10.f1, .int .i64 m.f10.f2, .slice A16 m.f10.f3.length c16] (blk_put HT2.out.y 8 _ rfl)).set 9 (.int .i64 m.f9.f0) #[.int .i64 m.f0, .int .i64 m.f1, .int .i64 m.f2, .int .i64 m.f3, .int .i64 m.f4, .int .i64 m.f5, .int .i64 m.f6, .bool m.f7, .slice Av m.f8.length cv, .int .i64 m.f9.f0, .int .i64 m.f9.f1, .int .i64 m.f9.f2, .slice A12 m.f9.f3.length c12, .int .i64 m.f10.f0, .int .i64 m.f10.f1, .int .i64 m.f10.f2, .slice A16 m.f10.f3.length c16] (blk_put (HT2.out.set 8 (.slice Av m.f8.length cv) #[.int .i64 m.f0, .int .i64 m.f1, .int .i64 m.f2, .int .i64 m.f3, .int .i64 m.f4, .int .i64 m.f5, .int .i64 m.f6, .bool m.f7, .slice Av m.f8.length cv, .int .i64 m.f9.f0, .int .i64 m.f9.f1, .int .i64 m.f9.f2, .slice A12 m.f9.f3.length c12, .int .i64 m.f10.f0, .int .i64 m.f10.f1, .int .i64 m.f10.f2, .slice A16 m.f10.f3.length c16] (blk_put HT2.out.y 8 _ rfl)).y 9 _ rfl)).y 10 _ rfl)).set 11 (.int .i64 m.f9.f2) #[.int .i64 m.f0, .int .i64 m.f1, .int .i64 m.f2, .int .i64 m.f3, .int .i64 m.f4, .int .i64 m.f5, .int .i64 m.f6, .bool m.f7, .slice Av m.f8.length cv, .int .i64 m.f9.f0, .int .i64 m.f9.f1, .int .i64 m.f9.f2, .slice A12 m.f9.f3.length c12, .int .i64 m.f10.f0, .int .i64 m.f10.f1, .int .i64 m.f10.f2, .slice A16 m.f10.f3.length c16] (blk_put (((HT2.out.set 8 (.slice Av m.f8.length cv) #[.int .i64 m.f0, .int .i64 m.f1, .int .i64 m.f2, .int .i64 m.f3, .int .i64 m.f4, .int .i64 m.f5, .int .i64 m.f6, .bool m.f7, .slice Av m.f8.length cv, .int .i64 m.f9.f0, .int .i64 m.f9.f1, .int .i64 m.f9.f2, .slice A12 m.f9.f3.length c12, .int .i64 m.f10.f0, .int .i64 m.f10.f1, .int .i64 m.f10.f2, .slice A16 m.f10.f3.length c16] (blk_put HT2.out.y 8 _ rfl)).set 9 (.int .i64 m.f9.f0) #[.int .i64 m.f0, .int .i64 m.f1, .int .i64 m.f2, .int .i64 m.f3, .int .i64 m.f4, .int .i64 m.f5, .int .i64 m.f6, .bool m.f7, .slice Av m.f8.length cv, .int .i64 m.f9.f0, .int .i64 m.f9.f1, .int .i64 m.f9.f2, .slice A12 m.f9.f3.length c12, .int .i64 m.f10.f0, .int .i64 m.f10.f1, .int .i64 m.f10.f2, .slice A16 m.f10.f3.length c16] (blk_put (HT2.out.set 8 (.slice Av m.f8.length cv) #[.int .i64 m.f0, .int .i64 m.f1, .int .i64 m.f2, .int .i64 m.f3, .int .i64 m.f4, .int .i64 m.f5, .int .i64 m.f6, .bool m.f7, .slice Av m.f8.length cv, .int .i64 m.f9.f0, .int .i64 m.f9.f1, .int .i64 m.f9.f2, .slice A12 m.f9.f3.length c12, .int .i64 m.f10.f0, .int .i64 m.f10.f1, .int .i64 m.f10.f2, .slice A16 m.f10.f3.length c16] (blk_put HT2.out.y 8 _ rfl)).y 9 _ rfl)).set 10 (.int .i64 m.f9.f1) #[.int .i64 m.f0, .int .i64 m.f1, .int .i64 m.f2, .int .i64 m.f3, .int .i64 m.f4, .int .i64 m.f5, .int .i64 m.f6, .bool m.f7, .slice Av m.f8.length cv, .int .i64 m.f9.f0, .int .i64 m.f9.f1, .int .i64 m.f9.f2, .slice A12 m.f9.f3.length c12, .int .i64 m.f10.f0, .int .i64 m.f10.f1, .int .i64 m.f10.f2, .slice A16 m.f10.f3.length c16] (blk_put ((HT2.out.set 8 (.slice Av m.f8.length cv) #[.int .i64 m.f0, .int .i64 m.f1, .int .i64 m.f2, .int .i64 m.f3, .int .i64 m.f4, .int .i64 m.f5, .int .i64 m.f6, .bool m.f7, .slice Av m.f8.length cv, .int .i64 m.f9.f0, .int .i64 m.f9.f1, .int .i64 m.f9.f2, .slice A12 m.f9.f3.length c12, .int .i64 m.f10.f0, .int .i64 m.f10.f1, .int .i64 m.f10.f2, .slice A16 m.f10.f3.length c16] (blk_put HT2.out.y 8 _ rfl)).set 9 (.int .i64 m.f9.f0) #[.int .i64 m.f0, .int .i64 m.f1, .int .i64 m.f2, .int .i64 m.f3, .int .i64 m.f4, .int .i64 m.f5, .int .i64 m.f6, .bool m.f7, .slice Av m.f8.length cv, .int .i64 m.f9.f0, .int .i64 m.f9.f1, .int .i64 m.f9.f2, .slice A12 m.f9.f3.length c12, .int .i64 m.f10.f0, .int .i64 m.f10.f1, .int .i64 m.f10.f2, .slice A16 m.f10.f3.length c16] (blk_put (HT2.out.set 8 (.slice Av m.f8.length cv) #[.int .i64 m.f0, .int .i64 m.f1, .int .i64 m.f2, .int .i64 m.f3, .int .i64 m.f4, .int .i64 m.f5, .int .i64 m.f6, .bool m.f7, .slice Av m.f8.length cv, .int .i64 m.f9.f0, .int .i64 m.f9.f1, .int .i64 m.f9.f2, .slice A12 m.f9.f3.length c12, .int .i64 m.f10.f0, .int .i64 m.f10.f1, .int .i64 m.f10.f2, .slice A16 m.f10.f3.length c16] (blk_put HT2.out.y 8 _ rfl)).y 9 _ rfl)).y 10 _ rfl)).y 11 _ rfl)).y 12 _ rfl)).y 16 _ rfl))
      obtain ⟨w3, hw⟩ : ∃ w3, ((((((w2.setCell ⟨g, 8, none⟩ (.slice Av m.f8.length cv)).setCell ⟨g, 9, none⟩ (.int .i64 m.f9.f0)).setCell ⟨g, 10, none⟩ (.int .i64 m.f9.f1)).setCell ⟨g, 11, none⟩ (.int .i64 m.f9.f2)).setCell ⟨g, 12, none⟩ (.slice N12 m.f9.f3.length n12)).setCell ⟨g, 16, none⟩ (.slice N16 m.f10.f3.length n16)) = w3 := ⟨_, rfl⟩
      rw [hw] at HT3 ⊢
      clear hw HT2 q8 z8 q9 z9 q10 z10 q11 z11 q12 z12 q16 z16
      have d0 : w3.cell? ⟨g, 0, none⟩ = some (.int .i64 m.f0) := (blk_cell HT3.out.y 0).trans rfl
      have z0 : w3.frozen? ⟨g, 0, none⟩ = false := blk_frozen HT3.out.y 0
      have d1 : w3.cell? ⟨g, 1, none⟩ = some (.int .i64 m.f1) := (blk_cell HT3.out.y 1).trans rfl
      have z1 : w3.frozen? ⟨g, 1, none⟩ = false := blk_frozen HT3.out.y 1
      have d2 : w3.cell? ⟨g, 2, none⟩ = some (.int .i64 m.f2) := (blk_cell HT3.out.y 2).trans rfl
      have z2 : w3.frozen? ⟨g, 2, none⟩ = false := blk_frozen HT3.out.y 2
      have d3 : w3.cell? ⟨g, 3, none⟩ = some (.int .i64 m.f3) := (blk_cell HT3.out.y 3).trans rfl
      have z3 : w3.frozen? ⟨g, 3, none⟩ = false := blk_frozen HT3.out.y 3
      have d4 : w3.cell? ⟨g, 4, none⟩ = some (.int .i64 m.f4) := (blk_cell HT3.out.y 4).trans rfl
      have z4 : w3.frozen? ⟨g, 4, none⟩ = false := blk_frozen HT3.out.y 4
      have d5 : w3.cell? ⟨g, 5, none⟩ = some (.int .i64 m.f5) := (blk_cell HT3.out.y 5).trans rfl
      have z5 : w3.frozen? ⟨g, 5, none⟩ = false := blk_frozen HT3.out.y 5
      have d6 : w3.cell? ⟨g, 6, none⟩ = some (.int .i64 m.f6) := (blk_cell HT3.out.y 6).trans rfl
      have z6 : w3.frozen? ⟨g, 6, none⟩ = false := blk_frozen HT3.out.y 6
      have d7 : w3.cell? ⟨g, 7, none⟩ = some (.bool m.f7) := (blk_cell HT3.out.y 7).trans rfl
      have z7 : w3.frozen? ⟨g, 7, none⟩ = false := blk_frozen HT3.out.y 7
      have d8 : w3.cell? ⟨g, 8, none⟩ = some (.slice Av m.f8.length cv) := (blk_cell HT3.out.y 8).trans rfl
      have z8 : w3.frozen? ⟨g, 8, none⟩ = false := blk_frozen HT3.out.y 8
      have d9 : w3.cell? ⟨g, 9, none⟩ = some (.int .i64 m.f9.f0) := (blk_cell HT3.out.y 9).trans rfl
      have z9 : w3.frozen? ⟨g, 9, none⟩ = false := blk_frozen HT3.out.y 9
      have d10 : w3.cell? ⟨g, 10, none⟩ = some (.int .i64 m.f9.f1) := (blk_cell HT3.out.y 10).trans rfl
      have z10 : w3.frozen? ⟨g, 10, none⟩ = false := blk_frozen HT3.out.y 10
      have d11 : w3.cell? ⟨g, 11, none⟩ = some (.int .i64 m.f9.f2) := (blk_cell HT3.out.y 11).trans rfl
      have z11 : w3.frozen? ⟨g, 11, none⟩ = false := blk_frozen HT3.out.y 11
      have d12 : w3.cell? ⟨g, 12, none⟩ = some (.slice N12 m.f9.f3.length n12) := (blk_cell HT3.out.y 12).trans rfl
      have z12 : w3.frozen? ⟨g, 12, none⟩ = false := blk_frozen HT3.out.y 12
      have d13 : w3.cell? ⟨g, 13, none⟩ = some (.int .i64 m.f10.f0) := (blk_cell HT3.out.y 13).trans rfl
      have z13 : w3.frozen? ⟨g, 13, none⟩ = false := blk_frozen HT3.out.y 13
      have d14 : w3.cell? ⟨g, 14, none⟩ = some (.int .i64 m.f10.f1) := (blk_cell HT3.out.y 14).trans rfl
      have z14 : w3.frozen? ⟨g, 14, none⟩ = false := blk_frozen HT3.out.y 14
      have d15 : w3.cell? ⟨g, 15, none⟩ = some (.int .i64 m.f10.f2) := (blk_cell HT3.out.y 15).trans rfl
      have z15 : w3.frozen? ⟨g, 15, none⟩ = false := blk_frozen HT3.out.y 15
      have d16 : w3.cell? ⟨g, 16, none⟩ = some (.slice N16 m.f10.f3.length n16) := (blk_cell HT3.out.y 16).trans rfl
      have z16 : w3.frozen? ⟨g, 16, none⟩ = false := blk_frozen HT3.out.y 16
      have e0 : w3.cell? ⟨g + 1, 0, none⟩ = some (.int .i64 0) := (blk_cell HT3.out.g0 0).trans rfl
      have y0 : w3.frozen? ⟨g + 1, 0, none⟩ = false := blk_frozen HT3.out.g0 0
      have e1 : w3.cell? ⟨g + 1, 1, none⟩ = some (.int .i64 0) := (blk_cell HT3.out.g0 1).trans rfl
      have y1 : w3.frozen? ⟨g + 1, 1, none⟩ = false := blk_frozen HT3.out.g0 1
      have e2 : w3.cell? ⟨g + 1, 2, none⟩ = some (.int .i64 0) := (blk_cell HT3.out.g0 2).trans rfl
      have y2 : w3.frozen? ⟨g + 1, 2, none⟩ = false := blk_frozen HT3.out.g0 2
      have e3 : w3.cell? ⟨g + 1, 3, none⟩ = some (.int .i64 0) := (blk_cell HT3.out.g0 3).trans rfl
      have y3 : w3.frozen? ⟨g + 1, 3, none⟩ = false := blk_frozen HT3.out.g0 3
      have e4 : w3.cell? ⟨g + 1, 4, none⟩ = some (.int .i64 0) := (blk_cell HT3.out.g0 4).trans rfl
      have y4 : w3.frozen? ⟨g + 1, 4, none⟩ = false := blk_frozen HT3.out.g0 4
      have e5 : w3.cell? ⟨g + 1, 5, none⟩ = some (.int .i64 0) := (blk_cell HT3.out.g0 5).trans rfl
      have y5 : w3.frozen? ⟨g + 1, 5, none⟩ = false := blk_frozen HT3.out.g0 5
      have e6 : w3.cell? ⟨g + 1, 6, none⟩ = some (.int .i64 0) := (blk_cell HT3.out.g0 6).trans rfl
      have y6 : w3.frozen? ⟨g + 1, 6, none⟩ = false := blk_frozen HT3.out.g0 6
      have e7 : w3.cell? ⟨g + 1, 7, none⟩ = some (.bool false) := (blk_cell HT3.out.g0 7).trans rfl
      have y7 : w3.frozen? ⟨g + 1, 7, none⟩ = false := blk_frozen HT3.out.g0 7
      have e8 : w3.cell? ⟨g + 1, 8, none⟩ = some (.slice none 0 0) := (blk_cell HT3.out.g0 8).trans rfl
      have y8 : w3.frozen? ⟨g + 1, 8, none⟩ = false := blk_frozen HT3.out.g0 8
      have e9 : w3.cell? ⟨g + 1, 9, none⟩ = some (.int .i64 0) := (blk_cell HT3.out.g0 9).trans rfl
      have y9 : w3.frozen? ⟨g + 1, 9, none⟩ = false := blk_frozen HT3.out.g0 9
      have e10 : w3.cell? ⟨g + 1, 10, none⟩ = some (.int .i64 0) := (blk_cell HT3.out.g0 10).trans rfl
      have y10 : w3.frozen? ⟨g + 1, 10, none⟩ = false := blk_frozen HT3.out.g0 10
      have e11 : w3.cell? ⟨g + 1, 11, none⟩ = some (.int .i64 0) := (blk_cell HT3.out.g0 11).trans rfl
      have y11 : w3.frozen? ⟨g + 1, 11, none⟩ = false := blk_frozen HT3.out.g0 11
      have e12 : w3.cell? ⟨g + 1, 12, none⟩ = some (.slice none 0 0) := (blk_cell HT3.out.g0 12).trans rfl
      have y12 : w3.frozen? ⟨g + 1, 12, none⟩ = false := blk_frozen HT3.out.g0 12
      have e13 : w3.cell? ⟨g + 1, 13, none⟩ = some (.int .i64 0) := (blk_cell HT3.out.g0 13).trans rfl
      have y13 : w3.frozen? ⟨g + 1, 13, none⟩ = false := blk_frozen HT3.out.g0 13
      have e14 : w3.cell? ⟨g + 1, 14, none⟩ = some (.int .i64 0) := (blk_cell HT3.out.g0 14).trans rfl
      have y14 : w3.frozen? ⟨g + 1, 14, none⟩ = false := blk_frozen HT3.out.g0 14
      have e15 : w3.cell? ⟨g + 1, 15, none⟩ = some (.int .i64 0) := (blk_cell HT3.out.g0 15).trans rfl
      have y15 : w3.frozen? ⟨g + 1, 15, none⟩ = false := blk_frozen HT3.out.g0 15
      have e16 : w3.cell? ⟨g + 1, 16, none⟩ = some (.slice none 0 0) := (blk_cell HT3.out.g0 16).trans rfl
      have y16 : w3.frozen? ⟨g + 1, 16, none⟩ = false := blk_frozen HT3.out.g0 16
      go_wp2_with fail
      have HEB := Lib.hid (blk_put (cs := #[.int .i64 m.f0, .int .i64 m.f1, .int .i64 m.f2, .int .i64 m.f3, .int .i64 m.f4, .int .i64 m.f5, .int .i64 m.f6, .bool m.f7, .slice Av m.f8.length cv, .int .i64 m.f9.f0, .int .i64 m.f9.f1, .int .i64 m.f9.f2, .slice N12 m.f9.f3.length n12, .int .i64 m.f10.f0, .int .i64 m.f10.f1, .int .i64 m.f10.f2, .slice none 0 0]) (blk_put (cs := #[.int .i64 m.f0, .int .i64 m.f1, .int .i64 m.f2, .int .i64 m.f3, .int .i64 m.f4, .int .i64 m.f5, .int .i64 m.f6, .bool m.f7, .slice Av m.f8.length cv, .int .i64 m.f9.f0, .int .i64 m.f9.f1, .int .i64 m.f9.f2, .slice N12 m.f9.f3.length n12, .int .i64 m.f10.f0, .int .i64 m.f10.f1, .int .i64 0, .slice none 0 0]) (blk_put (cs := #[.int .i64 m.f0, .int .i64 m.f1, .int .i64 m.f2, .int .i64 m.f3, .int .i64 m.f4, .int .i64 m.f5, .int .i64 m.f6, .bool m.f7, .slice Av m.f8.length cv, .int .i64 m.f9.f0, .int .i64 m.f9.f1, .int .i64 m.f9.f2, .slice N12 m.f9.f3.length n12, .int .i64 m.f10.f0, .int .i64 0, .int .i64 0, .slice none 0 0]) (blk_put (cs := #[.int .i64 m.f0, .int .i64 m.f1, .int .i64 m.f2, .int .i64 m.f3, .int .i64 m.f4, .int .i64 m.f5, .int .i64 m.f6, .bool m.f7, .slice Av m.f8.length cv, .int .i64 m.f9.f0, .int .i64 m.f9.f1, .int .i64 m.f9.f2, .slice N12 m.f9.f3.length n12, .int .i64 0, .int .i64 0, .int .i64 0, .slice none 0 0]) (blk_put (cs := #[.int .i64 m.f0, .int .i64 m.f1, .int .i64 m.f2, .int .i64 m.f3, .int .i64 m.f4, .int .i64 m.f5, .int .i64 m.f6, .bool m.f7, .slice Av m.f8.length cv, .int .i64 m.f9.f0, .int .i64 m.f9.f1, .int .i64 m.f9.f2, .slice none 0 0, .int .i64 0, .int .i64 0, .int .i64 0, .slice none 0 0]) (blk_put (cs := #[.int .i64 m.f0, .int .i64 m.f1, .int .i64 m.f2, .int .i64 m.f3, .int .i64 m.f4, .int .i64 m.f5, .int .i64 m.f6, .bool m.f7, .slice Av m.f8.length cv, .int .i64 m.f9.f0, .int .i64 m.f9.f1, .int .i64 0, .slice none 0 0, .int .i64 0, .int .i64 0, .int .i64 0, .slice none 0 0]) (blk_put (cs := #[.int .i64 m.f0, .int .i64 m.f1, .int .i64 m.f2, .int .i64 m.f3, .int .i64 m.f4, .int .i64 m.f5, .int .i64 m.f6, .bool m.f7, .slice Av m.f8.length cv, .int .i64 m.f9.f0, .int .i64 0, .int .i64 0, .slice none 0 0, .int .i64 0, .int .i64 0, .int .i64 0, .slice none 0 0]) (blk_put (cs := #[.int .i64 m.f0, .int .i64 m.f1, .int .i64 m.f2, .int .i64 m.f3, .int .i64 m.f4, .int .i64 m.f5, .int .i64 m.f6, .bool m.f7, .slice Av m.f8.length cv, .int .i64 0, .int .i64 0, .int .i64 0, .slice none 0 0, .int .i64 0, .int .i64 0, .int .i64 0, .slice none 0 0]) (blk_put (cs := #[.int .i64 m.f0, .int .i64 m.f1, .int .i64 m.f2, .int .i64 m.f3, .int .i64 m.f4, .int .i64 m.f5, .int .i64 m.f6, .bool m.f7, .slice none 0 0, .int .i64 0, .int .i64 0, .int .i64 0, .slice none 0 0, .int .i64 0, .int .i64 0, .int .i64 0, .slice none 0 0]) (blk_put (cs := #[.int .i64 m.f0, .int .i64 m.f1, .int .i64 m.f2, .int .i64 m.f3, .int .i64 m.f4, .int .i64 m.f5, .int .i64 m.f6, .bool false, .slice none 0 0, .int .i64 0, .int .i64 0, .int .i64 0, .slice none 0 0, .int .i64 0, .int .i64 0, .int .i64 0, .slice none 0 0]) (blk_put (cs := #[.int .i64 m.f0, .int .i64 m.f1, .int .i64 m.f2, .int .i64 m.f3, .int .i64 m.f4, .int .i64 m.f5, .int .i64 0, .bool false, .slice none 0 0, .int .i64 0, .int .i64 0, .int .i64 0, .slice none 0 0, .int .i64 0, .int .i64 0, .int .i64 0, .slice none 0 0]) (blk_put (cs := #[.int .i64 m.f0, .int .i64 m.f1, .int .i64 m.f2, .int .i64 m.f3, .int .i64 m.f4, .int .i64 0, .int .i64 0, .bool false, .slice none 0 0, .int .i64 0, .int .i64 0, .int .i64 0, .slice none 0 0, .int .i64 0, .int .i64 0, .int .i64 0, .slice none 0 0]) (blk_put (cs := #[.int .i64 m.f0, .int .i64 m.f1, .int .i64 m.f2, .int .i64 m.f3, .int .i64 0, .int .i64 0, .int .i64 0, .bool false, .slice none 0 0, .int .i64 0, .int .i64 0, .int .i64 0, .slice none 0 0, .int .i64 0, .int .i64 0, .int .i64 0, .slice none 0 0]) (blk_put (cs := #[.int .i64 m.f0, .int .i64 m.f1, .int .i64 m.f2, .int .i64 0, .int .i64 0, .int .i64 0, .int .i64 0, .bool false, .slice none 0 0, .int .i64 0, .int .i64 0, .int .i64 0, .slice none 0 0, .int .i64 0, .int .i64 0, .int .i64 0, .slice none 0 0]) (blk_put (cs := #[.int .i64 m.f0, .int .i64 m.f1, .int .i64 0, .int .i64 0, .int .i64 0, .int .i64 0, .int .i64 0, .bool false, .slice none 0 0, .int .i64 0, .int .i64 0, .int .i64 0, .slice none 0 0, .int .i64 0, .int .i64 0, .int .i64 0, .slice none 0 0]) (blk_put (cs := #[.int .i64 m.f0, .int .i64 0, .int .i64 0, .int .i64 0, .int .i64 0, .int .i64 0, .int .i64 0, .bool false, .slice none 0 0, .int .i64 0, .int .i64 0, .int .i64 0, .slice none 0 0, .int .i64 0, .int .i64 0, .int .i64 0, .slice none 0 0]) (blk_put (cs := #[.int .i64 0, .int .i64 0, .int .i64 0, .int .i64 0, .int .i64 0, .int .i64 0, .int .i64 0, .bool false, .slice none 0 0, .int .i64 0, .int .i64 0, .int .i64 0, .slice none 0 0, .int .i64 0, .int .i64 0, .int .i64 0, .slice none 0 0]) HT3.out.g0 0 (.int .i64 m.f0) rfl) 1 (.int .i64 m.f1) rfl) 2 (.int .i64 m.f2) rfl) 3 (.int .i64 m.f3) rfl) 4 (.int .i64 m.f4) rfl) 5 (.int .i64 m.f5) rfl) 6 (.int .i64 m.f6) rfl) 7 (.bool m.f7) rfl) 8 (.slice Av m.f8.length cv) rfl) 9 (.int .i64 m.f9.f0) rfl) 10 (.int .i64 m.f9.f1) rfl) 11 (.int .i64 m.f9.f2) rfl) 12 (.slice N12 m.f9.f3.length n12) rfl) 13 (.int .i64 m.f10.f0) rfl) 14 (.int .i64 m.f10.f1) rfl) 15 (.int .i64 m.f10.f2) rfl) 16 (.slice N16 m.f10.f3.length n16) rfl)
      have HD := Lib.hid (HT3.out.done ((((((((((((((((((KeepS.refl (fun k => k = g + 1 ∨ k = g) w3).set (p := ⟨g + 1, 0, none⟩) (.inl (.inl rfl)) (.int .i64 m.f0)).set (p := ⟨g + 1, 1, none⟩) (.inl (.inl rfl)) (.int .i64 m.f1)).set (p := ⟨g + 1, 2, none⟩) (.inl (.inl rfl)) (.int .i64 m.f2)).set (p := ⟨g + 1, 3, none⟩) (.inl (.inl rfl)) (.int .i64 m.f3)).set (p := ⟨g + 1, 4, none⟩) (.inl (.inl rfl)) (.int .i64 m.f4)).set (p := ⟨g + 1, 5, none⟩) (.inl (.inl rfl)) (.int .i64 m.f5)).set (p := ⟨g + 1, 6, none⟩) (.inl (.inl rfl)) (.int .i64 m.f6)).set (p := ⟨g + 1, 7, none⟩) (.inl (.inl rfl)) (.bool m.f7)).set (p := ⟨g + 1, 8, none⟩) (.inl (.inl rfl)) (.slice Av m.f8.length cv)).set (p := ⟨g + 1, 9, none⟩) (.inl (.inl rfl)) (.int .i64 m.f9.f0)).set (p := ⟨g + 1, 10, none⟩) (.inl (.inl rfl)) (.int .i64 m.f9.f1)).set (p := ⟨g + 1, 11, none⟩) (.inl (.inl rfl)) (.int .i64 m.f9.f2)).set (p := ⟨g + 1, 12, none⟩) (.inl (.inl rfl)) (.slice N12 m.f9.f3.length n12)).set (p := ⟨g + 1, 13, none⟩) (.inl (.inl rfl)) (.int .i64 m.f10.f0)).set (p := ⟨g + 1, 14, none⟩) (.inl (.inl rfl)) (.int .i64 m.f10.f1)).set (p := ⟨g + 1, 15, none⟩) (.inl (.inl rfl)) (.int .i64 m.f10.f2)).set (p := ⟨g + 1, 16, none⟩) (.inl (.inl rfl)) (.slice N16 m.f10.f3.length n16)))
      obtain ⟨W, hW⟩ : ∃ W, (((((((((((((((((w3.setCell ⟨g + 1, 0, none⟩ (.int .i64 m.f0)).setCell ⟨g + 1, 1, none⟩ (.int .i64 m.f1)).setCell ⟨g + 1, 2, none⟩ (.int .i64 m.f2)).setCell ⟨g + 1, 3, none⟩ (.int .i64 m.f3)).setCell ⟨g + 1, 4, none⟩ (.int .i64 m.f4)).setCell ⟨g + 1, 5, none⟩ (.int .i64 m.f5)).setCell ⟨g + 1, 6, none⟩ (.int .i64 m.f6)).setCell ⟨g + 1, 7, none⟩ (.bool m.f7)).setCell ⟨g + 1, 8, none⟩ (.slice Av m.f8.length cv)).setCell ⟨g + 1, 9, none⟩ (.int .i64 m.f9.f0)).setCell ⟨g + 1, 10, none⟩ (.int .i64 m.f9.f1)).setCell ⟨g + 1, 11, none⟩ (.int .i64 m.f9.f2)).setCell ⟨g + 1, 12, none⟩ (.slice N12 m.f9.f3.length n12)).setCell ⟨g + 1, 13, none⟩ (.int .i64 m.f10.f0)).setCell ⟨g + 1, 14, none⟩ (.int .i64 m.f10.f1)).setCell ⟨g + 1, 15, none⟩ (.int .i64 m.f10.f2)).setCell ⟨g + 1, 16, none⟩ (.slice N16 m.f10.f3.length n16)) = W := ⟨_, rfl⟩
      rw [hW] at HEB HD ⊢
      clear hW
      refine bodyPost_ret (results_cell_row rfl _ _ (g + 1) 57 #[.int .i64 m.f0, .int .i64 m.f1, .int .i64 m.f2, .int .i64 m.f3, .int .i64 m.f4, .int .i64 m.f5, .int .i64 m.f6, .bool m.f7, .slice Av m.f8.length cv, .int .i64 m.f9.f0, .int .i64 m.f9.f1, .int .i64 m.f9.f2, .slice N12 m.f9.f3.length n12, .int .i64 m.f10.f0, .int .i64 m.f10.f1, .int .i64 m.f10.f2, .slice N16 m.f10.f3.length n16] (0, 0) _ rfl HEB.out Try.underlying57 rfl (by kernel_rfl)) rfl ?_
      obtain ⟨⟨⟨⟨-, p8⟩, p12⟩, p16⟩, dd⟩ := HD.out
      have hz := HZA.out
      refine ⟨_, _, _, wa.heap.size, w1.heap.size, rfl, HZ1.out, Kd.S_mono p8 (fun k hk => by rw [← hz]; exact hk.2), Kd.S_mono p12 (fun k hk => hk), Kd.R_mono p16 (fun k hk => hk.1), dd⟩
end Go.Proofs.Ytgiefblcckikeaa.M
end

section

/- A chain of && and ||: behind a false (true) it needs no walk, operation by operation; and a list of operations may be walked part by part. -/
set_option linter.unusedVariables false
set_option linter.unusedSimpArgs false
namespace Go.Proofs.Ytgiefblcckikeaa.M
open Go
structure Aside0C (p : Prop) : Prop where mk :: (out : p)
abbrev Kn := List (Nat × Option Bool)
def Knows (a : Act) (K : Kn) : Prop := ∀ p, p ∈ K → a.tmps[p.1]? = some (match p.2 with | some b => .bool b | none => undef)
def kget : Kn → Nat → Option (Option Bool)
  | [], _ => none
  | p :: K, d => if p.1 = d then some p.2 else kget K d
def kdel (K : Kn) (d : Nat) : Kn := K.filter (fun p => decide (p.1 ≠ d))
def kput (N : Nat) (K : Kn) (dst : Option Tmp) (v : Option Bool) : Option Kn := match dst with
  | none => some K
  | some d => if d < N then some ((d, v) :: kdel K d) else none
def kval (K : Kn) : Operand → Option Bool
  | .tmp t => match kget K t with
    | some (some b) => some b
    | _ => none
  | .const (.bool b) => some b
  | _ => none
def kwant (ops : Array Oper) (K : Kn) (o : Oper) : Option Bool := match o.guard with
  | none => some true
  | some (j, want) => match (ops[j]?).bind (·.dst) with
    | none => some false
    | some d => match kget K d with
      | some (some b) => some (b == want)
      | some none => some false
      | none => none
def kexec (K : Kn) (o : Oper) : Option Bool := match o.op with
  | .move x | .assign x => kval K x
  | .pick c x y => match kval K c with
    | some true => kval K x
    | some false => kval K y
    | none => none
  | _ => none
def chainRun (ops : Array Oper) (N : Nat) : List Oper → Kn → Option Kn
  | [], K => some K
  | o :: r, K => match kwant ops K o with
    | none => none
    | some false => (kput N K o.dst none).bind (chainRun ops N r)
    | some true => (kexec K o).bind fun b => (kput N K o.dst (some b)).bind (chainRun ops N r)
theorem kget_mem : ∀ {K : Kn} {d : Nat} {v : Option Bool}, kget K d = some v → (d, v) ∈ K
  | p :: K, d, v, h => by
    unfold kget at h
    split at h
    · obtain rfl := Option.some.inj h
      next e => subst e; exact List.mem_cons_self
    · exact List.mem_cons_of_mem _ (kget_mem h)
theorem Knows.put {a : Act} {K K' : Kn} {N : Nat} {dst : Option Tmp} {v : Option Bool} {u : Value} (h : Knows a K) (hu : u = (match v with | some b => .bool b | none => undef)) (hN : N ≤ a.tmps.size) (hp : kput N K dst v = some K') : Knows (a.put dst u) K' ∧ N ≤ (a.put dst u).tmps.size ∧ (a.put dst u).defers = a.defers := by
  unfold kput at hp
  cases dst with
  | none => obtain rfl := Option.some.inj hp; exact ⟨h, hN, rfl⟩
  | some d =>
    simp only at hp
    by_cases hd : d < N
    · rw [if_pos hd] at hp
      obtain rfl := Option.some.inj hp
      refine ⟨fun p hm => ?_, by simpa [Act.put] using hN, rfl⟩
      show (a.tmps.setIfInBounds d u)[p.1]? = _
      rcases List.mem_cons.1 hm with rfl | hm
      · rw [Array.getElem?_setIfInBounds_self_of_lt (Nat.lt_of_lt_of_le hd hN), hu]
      · have h2 := List.mem_filter.1 hm
        have h3 : p.1 ≠ d := of_decide_eq_true h2.2
        rw [Array.getElem?_setIfInBounds_ne (fun e => h3 e.symm)]
        exact h p h2.1
    · rw [if_neg hd] at hp; cases hp
theorem kval_eval {a : Act} {K : Kn} {x : Operand} {b : Bool} (h : Knows a K) (hx : kval K x = some b) : a.eval x = .bool b := by
  unfold kval at hx
  split at hx
  · next t =>
    split at hx
    · next b' hg =>
      obtain rfl := Option.some.inj hx
      have := h _ (kget_mem hg)
      simp only at this
      show a.tmps.getD t undef = _
      rw [Array.getD_eq_getD_getElem?, this]
      rfl
    · cases hx
  · obtain rfl := Option.some.inj hx; rfl
  · cases hx
theorem kexec_run {P : Program} {a : Act} {K : Kn} {o : Oper} {b : Bool} (h : Knows a K) (hx : kexec K o = some b) (w : World) : (execOp a.eval o).run P w = .ok (.value (.bool b)) w := by
  unfold kexec at hx
  split at hx
  · next x ho => rw [BigFrame.run_move x ho, kval_eval h hx]
  · next x ho => rw [BigFrame.run_assign x ho, kval_eval h hx]
  · next c x y ho =>
    split at hx
    · next hc => unfold execOp; rw [ho]; simp only [kval_eval h hc, kval_eval h hx]; rfl
    · next hc => unfold execOp; rw [ho]; simp only [kval_eval h hc, kval_eval h hx]; rfl
    · cases hx
  · cases hx
theorem chain_run {P : Program} {ops : Array Oper} {Q : Exit → Act → World → Prop} {w : World} {N : Nat} : ∀ (l : List Oper) (K K' : Kn) (a : Act), chainRun ops N l K = some K' → Knows a K → N ≤ a.tmps.size →
    (∀ a' : Act, Knows a' K' → a'.defers = a.defers → Q .normal a' w) → wpList P ops Q l a w
  | [], K, K', a, hr, h, hN, hq => by obtain rfl := Option.some.inj hr; exact hq a h rfl
  | o :: r, K, K', a, hr, h, hN, hq => by
    unfold chainRun at hr
    have hw : ∀ b, kwant ops K o = some b → Region.wanted o (yielded ops a.tmps) = b := by
      intro b hb
      unfold kwant at hb
      unfold Region.wanted
      split at hb
      · next hg => rw [hg]; exact Option.some.inj hb
      · next j want hg =>
        rw [hg]
        simp only
        unfold yielded
        split at hb
        · next hd => rw [hd]; obtain rfl := Option.some.inj hb; rfl
        · next d hd =>
          rw [hd, Option.bind_some]
          split at hb
          · next b' hk => rw [h _ (kget_mem hk)]; obtain rfl := Option.some.inj hb; cases b' <;> cases want <;> rfl
          · next hk => rw [h _ (kget_mem hk)]; obtain rfl := Option.some.inj hb; rfl
          · cases hb
    unfold wpList
    split at hr
    · cases hr
    · next hk =>
      rw [hw _ hk, if_neg (by simp)]
      obtain ⟨K1, h1, h2⟩ := Option.bind_eq_some_iff.1 hr
      obtain ⟨h3, h4, h5⟩ := h.put (u := undef) rfl hN h1
      exact chain_run r K1 K' _ h2 h3 h4 (fun a' q1 q2 => hq a' q1 (q2.trans h5))
    · next hk =>
      rw [hw _ hk, if_pos rfl]
      obtain ⟨b, hb, h0⟩ := Option.bind_eq_some_iff.1 hr
      obtain ⟨K1, h1, h2⟩ := Option.bind_eq_some_iff.1 h0
      obtain ⟨h3, h4, h5⟩ := h.put (u := .bool b) (v := some b) rfl hN h1
      refine .inl ?_
      unfold Oper.wp
      rw [kexec_run h hb]
      exact chain_run r K1 K' _ h2 h3 h4 (fun a' q1 q2 => hq a' q1 (q2.trans h5))
theorem Knows.nil (a : Act) : Knows a [] := fun p h => by cases h
theorem Knows.cons {a : Act} {K : Kn} {d : Nat} {b : Bool} (h : a.tmps[d]? = some (.bool b)) (k : Knows a K) : Knows a ((d, some b) :: K) := fun p hp => by
  rcases List.mem_cons.1 hp with rfl | hp
  · exact h
  · exact k p hp
theorem chain_to {P : Program} {ops : Array Oper} {Q : Exit → Act → World → Prop} {w : World} {a : Act} {l : List Oper} (N d : Nat) (b : Bool) (K : Kn) (hr : (chainRun ops N l K).bind (fun K' => kget K' d) = some (some b)) (h : Knows a K) (hN : N ≤ a.tmps.size)
    (hq : ∀ a' : Act, a'.tmps[d]? = some (.bool b) → a'.defers = a.defers → Q .normal a' w) : wpList P ops Q l a w := by
  obtain ⟨K', h1, h2⟩ := Option.bind_eq_some_iff.1 hr
  exact chain_run l K K' a h1 h hN (fun a' q1 q2 => hq a' (q1 _ (kget_mem h2)) q2)
theorem results_slot {fn : Func} {t : Nat} {a : Array Value} {v : Value} {P : Program} {w : World} (hr : fn.results = #[.tmp t]) (h : a[t]? = some v) : (results fn a).run P w = .ok v w := by
  simp [results, hr, h]
structure Halt (p : Prop) : Prop where mk :: (out : p)
def stopAt (Q : Exit → Act → World → Prop) (N : Act → World → Prop) : Exit → Act → World → Prop
  | .normal, a, w => Halt (N a w)
  | e, a, w => Q e a w
theorem upon_stop {P : Program} {o : Oper} {a : Act} {K K' : Act → World → Prop} {Q : Exit → Act → World → Prop} {N : Act → World → Prop} (hk : ∀ a w, K a w → K' a w) : ∀ r : Result Next, o.upon P a K (stopAt Q N) r → o.upon P a K' Q r := by
  intro r h
  unfold Oper.upon at h ⊢
  split at h
  · exact hk _ _ h
  · exact hk _ _ h
  · exact hk _ _ h
  · refine h.mono (fun e w' he => ?_)
    cases e with
    | returned v => exact hk _ _ he
    | panicked c => exact he
    | outgrown => obtain ⟨a, w, h⟩ := he; exact ⟨a, w, h⟩
  · exact Rows.mono h (fun v w' he => hk _ _ he)
  · exact h
  · exact h.elim
theorem wpList_stop {P : Program} {ops : Array Oper} {Q : Exit → Act → World → Prop} {l2 : List Oper} : ∀ (l1 : List Oper) (a : Act) (w : World), wpList P ops (stopAt Q (wpList P ops Q l2)) l1 a w → wpList P ops Q (l1 ++ l2) a w
  | [], a, w, h => by
    unfold wpList at h
    exact h.out
  | o :: r, a, w, h => by
    unfold wpList at h
    rw [List.cons_append]
    unfold wpList
    split at h
    · next hw =>
      rw [if_pos hw]
      rcases h with h | ⟨h1, a', w', h2⟩
      · exact .inl (upon_stop (fun a w h => wpList_stop r a w h) _ h)
      · exact .inr ⟨h1, a', w', h2⟩
    · next hw =>
      rw [if_neg hw]
      exact wpList_stop r _ _ h
theorem wpList_cut {P : Program} {ops : Array Oper} {Q : Exit → Act → World → Prop} {a : Act} {w : World} {l : List Oper} (k : Nat) (h : wpList P ops (stopAt Q (wpList P ops Q (l.drop k))) (l.take k) a w) : wpList P ops Q l a w := by
  have := wpList_stop _ _ _ h
  rwa [List.take_append_drop] at this
theorem with_fin {P : Program} {ops : Array Oper} {Q : Exit → Act → World → Prop} {a : Act} {w : World} {l : List Oper} (Φ : Act → World → Prop) (hf : ∀ a' W, Φ a' W → Q .normal a' W) (h : Aside0C (∀ a' W, Φ a' W → Q .normal a' W) → wpList P ops Q l a w) : wpList P ops Q l a w := h ⟨hf⟩
end Go.Proofs.Ytgiefblcckikeaa.M
end

section

/- Which messages are the same: record.SameMsg, the reference's SameMsg (printed by gensame04.py). -/
set_option maxRecDepth 100000
set_option linter.unusedVariables false
set_option linter.unusedSimpArgs false
attribute [local irreducible] Go.wpStill
namespace Go.Proofs.Ytgiefblcckikeaa.M
open Go.RowKit Go.Proofs.YtgiefblcckikeaaW.PrintWords Go.Proofs.YtgiefblcckikeaaW.PrintLast Go.Proofs.YtgiefblcckikeaaW.PrintMore Go.Proofs.Ytgiefblcckikeaa.G
set_option maxHeartbeats 4000000 in
theorem sameMs_is {w : World} (m n : MsgD) {A8 A12 A16 B8 B12 B16 : Option Addr} {c8 c12 c16 d8 d12 d16 : Nat} (hm : MsgC w m A8 c8 A12 c12 A16 c16) (hn : MsgC w n B8 d8 B12 d12 B16 d16) :
    Calls Try.prog 26 #[.agg (msgCells m A8 c8 A12 c12 A16 c16), .agg (msgCells n B8 d8 B12 d12 B16 d16)] w fun e w' => e = .returned (.bool (eqMs m n)) ∧ Below w.heap.size w w' := by
  have hb1 : Below w.heap.size w ((w.alloc (.cells (msgCells m A8 c8 A12 c12 A16 c16) 57)).alloc (.cells (msgCells n B8 d8 B12 d12 B16 d16) 57)) := ((Below.refl _ _).alloc (Nat.le_refl _) _).alloc (by simp) _
  have hz1 : (w.alloc (.cells (msgCells m A8 c8 A12 c12 A16 c16) 57)).heap.size = w.heap.size + 1 := by simp
  have hx : MsBox ((w.alloc (.cells (msgCells m A8 c8 A12 c12 A16 c16) 57)).alloc (.cells (msgCells n B8 d8 B12 d12 B16 d16) 57)) w.heap.size m A8 c8 A12 c12 A16 c16 := (((Below.refl _ (w.alloc (.cells (msgCells m A8 c8 A12 c12 A16 c16) 57))).alloc (Nat.le_refl _) _).block w.heap.size (by omega)).trans (heap_alloc_new w _)
  have hy : MsBox ((w.alloc (.cells (msgCells m A8 c8 A12 c12 A16 c16) 57)).alloc (.cells (msgCells n B8 d8 B12 d12 B16 d16) 57)) (w.heap.size + 1) n B8 d8 B12 d12 B16 d16 := by rw [← hz1]; exact heap_alloc_new _ _
  have HB := Lib.hid hb1; have HX := Lib.hid hx; have HY := Lib.hid hy; have HM := Lib.hid (hm.below hb1); have HN := Lib.hid (hn.below hb1)
  clear hm hn hb1 hz1 hx hy
  obtain ⟨r, hr⟩ : ∃ r, eqMs m n = r := ⟨_, rfl⟩
  have HR0 := Lib.hid hr.symm
  rw [hr]
  clear hr
  go_enter Try.func26, Try.ntmps26
  go_wp2_with fail
  obtain ⟨w1, hw1⟩ : ∃ w1, (w.alloc (.cells (msgCells m A8 c8 A12 c12 A16 c16) 57)).alloc (.cells (msgCells n B8 d8 B12 d12 B16 d16) 57) = w1 := ⟨_, rfl⟩
  obtain ⟨g, hg⟩ : ∃ g, w.heap.size = g := ⟨_, rfl⟩
  try rw [hw1]
  rw [hw1] at HB HX HY HM HN
  rw [hg] at HX HY ⊢
  clear hw1 hg
  obtain ⟨q0, hq0⟩ : ∃ q0 : Bool, (m.f0 == n.f0) = q0 := ⟨_, rfl⟩
  obtain ⟨q1, hq1⟩ : ∃ q1 : Bool, (m.f1 == n.f1) = q1 := ⟨_, rfl⟩
  obtain ⟨q2, hq2⟩ : ∃ q2 : Bool, (m.f2 == n.f2) = q2 := ⟨_, rfl⟩
  obtain ⟨q3, hq3⟩ : ∃ q3 : Bool, (m.f3 == n.f3) = q3 := ⟨_, rfl⟩
  obtain ⟨q4, hq4⟩ : ∃ q4 : Bool, (m.f4 == n.f4) = q4 := ⟨_, rfl⟩
  obtain ⟨q5, hq5⟩ : ∃ q5 : Bool, (m.f5 == n.f5) = q5 := ⟨_, rfl⟩
  obtain ⟨q6, hq6⟩ : ∃ q6 : Bool, (m.f6 == n.f6) = q6 := ⟨_, rfl⟩
  obtain ⟨q7, hq7⟩ : ∃ q7 : Bool, (m.f7 == n.f7) = q7 := ⟨_, rfl⟩
  obtain ⟨q8, hq8⟩ : ∃ q8 : Bool, eqTrs m.f8 n.f8 = q8 := ⟨_, rfl⟩
  obtain ⟨q9, hq9⟩ : ∃ q9 : Bool, eqEn m.f9.f0 m.f9.f1 m.f9.f2 m.f9.f3 n.f9.f0 n.f9.f1 n.f9.f2 n.f9.f3 = q9 := ⟨_, rfl⟩
  obtain ⟨q10, hq10⟩ : ∃ q10 : Bool, eqPt m.f10 n.f10 = q10 := ⟨_, rfl⟩
  have HR := Lib.hid (show r = (q0 && (q1 && (q2 && (q3 && (q4 && (q5 && (q6 && (q7 && (q8 && (q9 && q10)))))))))) by rw [HR0.out, ← hq0, ← hq1, ← hq2, ← hq3, ← hq4, ← hq5, ← hq6, ← hq7, ← hq8, ← hq9, ← hq10]; rfl)
  have HQ8 := Lib.hid hq8; have HQ9 := Lib.hid hq9; have HQ10 := Lib.hid hq10
  clear hq8 hq9 hq10
  refine (eqfuncT_is A8 B8 c8 d8 m.f8 n.f8 w1 HM.out.g8 HN.out.g8).mono ?_
  rw [HQ8.out]
  rintro e w2 ⟨rfl, hb⟩
  have HB2 := Lib.hid (HB.out.trans (hb.mono HB.out.size)); have HX2 := Lib.hid (HX.out.below hb); have HY2 := Lib.hid (HY.out.below hb); have HM2 := Lib.hid (HM.out.below hb); have HN2 := Lib.hid (HN.out.below hb)
  clear hb HB HX HY HM HN
  obtain ⟨a0, a1, a2, a3, a4, a5, a6, a7, a8, a9, a10, a11, a12, a13, a14, a15, a16⟩ := HX2.out.cell
  obtain ⟨b0, b1, b2, b3, b4, b5, b6, b7, b8, b9, b10, b11, b12, b13, b14, b15, b16⟩ := HY2.out.cell
  go_upto_region 2 with fail
  go_cut [6] (fun v wx => v = .bool q10 ∧ Below w2.heap.size w2 wx)
  case first =>
    obtain ⟨p0, hp0⟩ : ∃ p0 : Bool, (m.f10.f0 == n.f10.f0) = p0 := ⟨_, rfl⟩
    obtain ⟨p1, hp1⟩ : ∃ p1 : Bool, (m.f10.f1 == n.f10.f1) = p1 := ⟨_, rfl⟩
    obtain ⟨p2, hp2⟩ : ∃ p2 : Bool, (m.f10.f2 == n.f10.f2) = p2 := ⟨_, rfl⟩
    obtain ⟨p3, hp3⟩ : ∃ p3 : Bool, eqS m.f10.f3 n.f10.f3 = p3 := ⟨_, rfl⟩
    have HP := Lib.hid (show q10 = (p0 && (p1 && (p2 && p3))) by rw [← HQ10.out, ← hp0, ← hp1, ← hp2, ← hp3]; rfl)
    have HP3 := Lib.hid hp3
    clear hp3
    have HBX := Lib.hid (Below.refl w2.heap.size w2)
    cases p0 with
    | false =>
      have HV := Lib.hid (show q10 = false by rw [HP.out]; simp)
      go_wp2_with fail
      go_meet
      exact ⟨by rw [HV.out], HBX.out⟩
    | true =>
      cases p1 with
      | false =>
        have HV := Lib.hid (show q10 = false by rw [HP.out]; simp)
        go_wp2_with fail
        go_meet
        exact ⟨by rw [HV.out], HBX.out⟩
      | true =>
        cases p2 with
        | false =>
          have HV := Lib.hid (show q10 = false by rw [HP.out]; simp)
          go_wp2_with fail
          go_meet
          exact ⟨by rw [HV.out], HBX.out⟩
        | true =>
          go_wp2_with fail
          refine (bEqual_is A16 c16 m.f10.f3 B16 d16 n.f10.f3 HM2.out.g16 HM2.out.l16 HN2.out.g16 HN2.out.l16).mono ?_
          rw [HP3.out]
          rintro e w3 ⟨rfl, hb⟩
          have HBX := Lib.hid hb
          clear hb
          cases p3 with
          | false =>
            have HV := Lib.hid (show q10 = false by rw [HP.out]; simp)
            go_wp2_with fail
            go_meet
            exact ⟨by rw [HV.out], HBX.out⟩
          | true =>
            have HV := Lib.hid (show q10 = true by rw [HP.out]; simp)
            go_wp2_with fail
            go_meet
            exact ⟨by rw [HV.out], HBX.out⟩
  case rest =>
    obtain ⟨rfl, hb⟩ := hcut
    obtain ⟨w3, rfl⟩ : ∃ w3, w3 = wc := ⟨_, rfl⟩
    have HBX := Lib.hid (HB2.out.trans (hb.mono HB2.out.size)); have HX3 := Lib.hid (HX2.out.below hb); have HY3 := Lib.hid (HY2.out.below hb); have HM3 := Lib.hid (HM2.out.below hb); have HN3 := Lib.hid (HN2.out.below hb)
    clear hb a0 a1 a2 a3 a4 a5 a6 a7 a8 a9 a10 a11 a12 a13 a14 a15 a16 b0 b1 b2 b3 b4 b5 b6 b7 b8 b9 b10 b11 b12 b13 b14 b15 b16 HB2 HX2 HY2 HM2 HN2 HR0 HQ10
    obtain ⟨a0, a1, a2, a3, a4, a5, a6, a7, a8, a9, a10, a11, a12, a13, a14, a15, a16⟩ := HX3.out.cell
    obtain ⟨b0, b1, b2, b3, b4, b5, b6, b7, b8, b9, b10, b11, b12, b13, b14, b15, b16⟩ := HY3.out.cell
    go_upto_region 3 with fail
    refine wp_region_list ?_
    refine with_fin (fun a' W => a'.tmps[4]? = some (.bool r) ∧ a'.defers = [] ∧ Below w.heap.size w W) (fun a' W h => ?_) (fun HF => ?_)
    · obtain ⟨h1, h2, h3⟩ := h
      refine ‹∀ (a : Act) (w : World), Code.wp Try.prog Code.ret _ a w → _› _ _ ?_
      exact wp_ret (bodyPost_ret (v := .bool r) (results_slot rfl h1) h2 ⟨rfl, h3⟩)
    simp only [List.append_eq, List.cons_append, List.nil_append, List.take_succ_cons, List.take_zero, List.drop_succ_cons, List.drop_zero]
    cases q8 with
    | false => exact chain_to 113 4 false [(5, some false)] (by kernel_rfl) (Knows.cons rfl (Knows.nil _)) (Nat.le_refl 113) (fun a' h1 h2 => HF.out a' _ ⟨by rw [h1, HR.out]; simp, h2, HBX.out⟩)
    | true =>
      cases q10 with
      | false => exact chain_to 113 4 false [(5, some true), (6, some false)] (by kernel_rfl) (Knows.cons rfl (Knows.cons rfl (Knows.nil _))) (Nat.le_refl 113) (fun a' h1 h2 => HF.out a' _ ⟨by rw [h1, HR.out]; simp, h2, HBX.out⟩)
      | true =>
        refine wpList_cut 10 ?_
        simp only [List.append_eq, List.cons_append, List.nil_append, List.take_succ_cons, List.take_zero, List.drop_succ_cons, List.drop_zero]
        go_wp2_with fail
        refine (sameEn_is m.f9.f0 m.f9.f1 m.f9.f2 A12 c12 m.f9.f3 n.f9.f0 n.f9.f1 n.f9.f2 B12 d12 n.f9.f3 w3 HM3.out.g12 HN3.out.g12).mono ?_
        rw [HQ9.out]
        rintro e w4 ⟨rfl, hb⟩
        have HBY := Lib.hid (HBX.out.trans (hb.mono HBX.out.size)); have HX4 := Lib.hid (HX3.out.below hb); have HY4 := Lib.hid (HY3.out.below hb)
        clear hb HBX HX3 HY3 a0 a1 a2 a3 a4 a5 a6 a7 a8 a9 a10 a11 a12 a13 a14 a15 a16 b0 b1 b2 b3 b4 b5 b6 b7 b8 b9 b10 b11 b12 b13 b14 b15 b16
        obtain ⟨a0, a1, a2, a3, a4, a5, a6, a7, a8, a9, a10, a11, a12, a13, a14, a15, a16⟩ := HX4.out.cell
        obtain ⟨b0, b1, b2, b3, b4, b5, b6, b7, b8, b9, b10, b11, b12, b13, b14, b15, b16⟩ := HY4.out.cell
        go_wp2_with fail
        refine Halt.mk ?_
        cases q9 with
        | false => exact chain_to 113 4 false [(50, some true), (55, some false)] (by kernel_rfl) (Knows.cons rfl (Knows.cons rfl (Knows.nil _))) (Nat.le_refl 113) (fun a' h1 h2 => HF.out a' _ ⟨by rw [h1, HR.out]; simp, h2, HBY.out⟩)
        | true =>
          refine wpList_cut 7 ?_
          simp only [List.append_eq, List.cons_append, List.nil_append, List.take_succ_cons, List.take_zero, List.drop_succ_cons, List.drop_zero]
          go_wp2_with fail
          refine Halt.mk ?_
          cases q0 with
          | false => exact chain_to 113 4 false [(57, some true), (62, some false)] (by kernel_rfl) (Knows.cons rfl (Knows.cons rfl (Knows.nil _))) (Nat.le_refl 113) (fun a' h1 h2 => HF.out a' _ ⟨by rw [h1, HR.out]; simp, h2, HBY.out⟩)
          | true =>
            refine wpList_cut 7 ?_
            simp only [List.append_eq, List.cons_append, List.nil_append, List.take_succ_cons, List.take_zero, List.drop_succ_cons, List.drop_zero]
            go_wp2_with fail
            refine Halt.mk ?_
            cases q1 with
            | false => exact chain_to 113 4 false [(64, some true), (69, some false)] (by kernel_rfl) (Knows.cons rfl (Knows.cons rfl (Knows.nil _))) (Nat.le_refl 113) (fun a' h1 h2 => HF.out a' _ ⟨by rw [h1, HR.out]; simp, h2, HBY.out⟩)
            | true =>
              refine wpList_cut 7 ?_
              simp only [List.append_eq, List.cons_append, List.nil_append, List.take_succ_cons, List.take_zero, List.drop_succ_cons, List.drop_zero]
              go_wp2_with fail
              refine Halt.mk ?_
              cases q2 with
              | false => exact chain_to 113 4 false [(71, some true), (76, some false)] (by kernel_rfl) (Knows.cons rfl (Knows.cons rfl (Knows.nil _))) (Nat.le_refl 113) (fun a' h1 h2 => HF.out a' _ ⟨by rw [h1, HR.out]; simp, h2, HBY.out⟩)
              | true =>
                refine wpList_cut 7 ?_
                simp only [List.append_eq, List.cons_append, List.nil_append, List.take_succ_cons, List.take_zero, List.drop_succ_cons, List.drop_zero]
                go_wp2_with fail
                refine Halt.mk ?_
                cases q3 with
                | false => exact chain_to 113 4 false [(78, some true), (83, some false)] (by kernel_rfl) (Knows.cons rfl (Knows.cons rfl (Knows.nil _))) (Nat.le_refl 113) (fun a' h1 h2 => HF.out a' _ ⟨by rw [h1, HR.out]; simp, h2, HBY.out⟩)
                | true =>
                  refine wpList_cut 7 ?_
                  simp only [List.append_eq, List.cons_append, List.nil_append, List.take_succ_cons, List.take_zero, List.drop_succ_cons, List.drop_zero]
                  go_wp2_with fail
                  refine Halt.mk ?_
                  cases q4 with
                  | false => exact chain_to 113 4 false [(85, some true), (90, some false)] (by kernel_rfl) (Knows.cons rfl (Knows.cons rfl (Knows.nil _))) (Nat.le_refl 113) (fun a' h1 h2 => HF.out a' _ ⟨by rw [h1, HR.out]; simp, h2, HBY.out⟩)
                  | true =>
                    refine wpList_cut 7 ?_
                    simp only [List.append_eq, List.cons_append, List.nil_append, List.take_succ_cons, List.take_zero, List.drop_succ_cons, List.drop_zero]
                    go_wp2_with fail
                    refine Halt.mk ?_
                    cases q5 with
                    | false => exact chain_to 113 4 false [(92, some true), (97, some false)] (by kernel_rfl) (Knows.cons rfl (Knows.cons rfl (Knows.nil _))) (Nat.le_refl 113) (fun a' h1 h2 => HF.out a' _ ⟨by rw [h1, HR.out]; simp, h2, HBY.out⟩)
                    | true =>
                      refine wpList_cut 7 ?_
                      simp only [List.append_eq, List.cons_append, List.nil_append, List.take_succ_cons, List.take_zero, List.drop_succ_cons, List.drop_zero]
                      go_wp2_with fail
                      refine Halt.mk ?_
                      cases q6 with
                      | false => exact chain_to 113 4 false [(99, some true), (104, some false)] (by kernel_rfl) (Knows.cons rfl (Knows.cons rfl (Knows.nil _))) (Nat.le_refl 113) (fun a' h1 h2 => HF.out a' _ ⟨by rw [h1, HR.out]; simp, h2, HBY.out⟩)
                      | true =>
                        refine wpList_cut 7 ?_
                        simp only [List.append_eq, List.cons_append, List.nil_append, List.take_succ_cons, List.take_zero, List.drop_succ_cons, List.drop_zero]
                        go_wp2_with fail
                        refine Halt.mk ?_
                        cases q7 with
                        | false => exact chain_to 113 4 false [(106, some true), (111, some false)] (by kernel_rfl) (Knows.cons rfl (Knows.cons rfl (Knows.nil _))) (Nat.le_refl 113) (fun a' h1 h2 => HF.out a' _ ⟨by rw [h1, HR.out]; simp, h2, HBY.out⟩)
                        | true => exact chain_to 113 4 true [(106, some true), (111, some true)] (by kernel_rfl) (Knows.cons rfl (Knows.cons rfl (Knows.nil _))) (Nat.le_refl 113) (fun a' h1 h2 => HF.out a' _ ⟨by rw [h1, HR.out]; simp, h2, HBY.out⟩)
end Go.Proofs.Ytgiefblcckikeaa.M
end

section

/- Which messages are the same: record.SameMsg, the reference's SameMsg (printed by gensame04.py). -/
set_option maxRecDepth 100000
set_option linter.unusedVariables false
set_option linter.unusedSimpArgs false
attribute [local irreducible] Go.wpStill
namespace Go.Proofs.Ytgiefblcckikeaa.M
open Go.RowKit Go.Proofs.YtgiefblcckikeaaW.PrintWords Go.Proofs.YtgiefblcckikeaaW.PrintLast Go.Proofs.YtgiefblcckikeaaW.PrintMore Go.Proofs.Ytgiefblcckikeaa.G
set_option maxHeartbeats 1000000 in
theorem refSamePt_is {w : World} (a b : PartD) {A B : Option Addr} {c d : Nat} (hc : a.f3.length ≤ c) (ha : Kd.C (Kd.int .u8) w A a.f3.length a.f3) (hd : b.f3.length ≤ d) (hb : Kd.C (Kd.int .u8) w B b.f3.length b.f3) :
    Calls Try.prog 61 #[.agg #[.int .i64 a.f0, .int .i64 a.f1, .int .i64 a.f2, .slice A a.f3.length c], .agg #[.int .i64 b.f0, .int .i64 b.f1, .int .i64 b.f2, .slice B b.f3.length d]] w fun e w' => e = .returned (.bool (eqPt a b)) ∧ Below w.heap.size w w' := by
  have HBX := Lib.hid (show Below w.heap.size w ((w.alloc (.cells #[.int .i64 a.f0, .int .i64 a.f1, .int .i64 a.f2, .slice A a.f3.length c] 55)).alloc (.cells #[.int .i64 b.f0, .int .i64 b.f1, .int .i64 b.f2, .slice B b.f3.length d] 55)) from ((Below.refl _ _).alloc (Nat.le_refl _) _).alloc (by simp) _)
  have HA := Lib.hid (Kd.C_below ha HBX.out); have HB := Lib.hid (Kd.C_below hb HBX.out)
  have hz1 : (w.alloc (.cells #[.int .i64 a.f0, .int .i64 a.f1, .int .i64 a.f2, .slice A a.f3.length c] 55)).heap.size = w.heap.size + 1 := by simp
  have hx : ((w.alloc (.cells #[.int .i64 a.f0, .int .i64 a.f1, .int .i64 a.f2, .slice A a.f3.length c] 55)).alloc (.cells #[.int .i64 b.f0, .int .i64 b.f1, .int .i64 b.f2, .slice B b.f3.length d] 55)).heap[w.heap.size]? = some (.cells #[.int .i64 a.f0, .int .i64 a.f1, .int .i64 a.f2, .slice A a.f3.length c] 55) := (((Below.refl _ (w.alloc (.cells #[.int .i64 a.f0, .int .i64 a.f1, .int .i64 a.f2, .slice A a.f3.length c] 55))).alloc (Nat.le_refl _) _).block w.heap.size (by omega)).trans (heap_alloc_new w _)
  have hy : ((w.alloc (.cells #[.int .i64 a.f0, .int .i64 a.f1, .int .i64 a.f2, .slice A a.f3.length c] 55)).alloc (.cells #[.int .i64 b.f0, .int .i64 b.f1, .int .i64 b.f2, .slice B b.f3.length d] 55)).heap[w.heap.size + 1]? = some (.cells #[.int .i64 b.f0, .int .i64 b.f1, .int .i64 b.f2, .slice B b.f3.length d] 55) := by rw [← hz1]; exact heap_alloc_new _ _
  have HX := Lib.hid hx; have HY := Lib.hid hy
  obtain ⟨q0, hq0⟩ : ∃ q0 : Bool, (a.f0 == b.f0) = q0 := ⟨_, rfl⟩
  obtain ⟨q1, hq1⟩ : ∃ q1 : Bool, (a.f1 == b.f1) = q1 := ⟨_, rfl⟩
  obtain ⟨q2, hq2⟩ : ∃ q2 : Bool, (a.f2 == b.f2) = q2 := ⟨_, rfl⟩
  obtain ⟨q3, hq3⟩ : ∃ q3 : Bool, ((strOfNums a.f3).toList == (strOfNums b.f3).toList) = q3 := ⟨_, rfl⟩
  obtain ⟨r, hr⟩ : ∃ r, eqPt a b = r := ⟨_, rfl⟩
  rw [hr]
  have HR := Lib.hid (show r = (q0 && (q1 && (q2 && q3))) by rw [← hr, ← hq0, ← hq1, ← hq2, ← hq3]; rfl)
  clear hr ha hb hc hd hx hy hz1
  go_enter Try.func61, Try.ntmps61
  go_upto_region 1 with fail
  obtain ⟨w1, hw1⟩ : ∃ w1, (w.alloc (.cells #[.int .i64 a.f0, .int .i64 a.f1, .int .i64 a.f2, .slice A a.f3.length c] 55)).alloc (.cells #[.int .i64 b.f0, .int .i64 b.f1, .int .i64 b.f2, .slice B b.f3.length d] 55) = w1 := ⟨_, rfl⟩
  obtain ⟨g, hg⟩ : ∃ g, w.heap.size = g := ⟨_, rfl⟩
  rw [hw1]
  rw [hw1] at HBX HX HY HA HB
  rw [hg] at HX HY ⊢
  have HG := Lib.hid hg
  clear hw1 hg
  have hcv3 := Kd.C_string (P := Try.prog) (A := A) (c := c) Try.underlying26 Try.underlying5 Try.underlying9 HA.out
  have hcv4 := Kd.C_string (P := Try.prog) (A := B) (c := d) Try.underlying26 Try.underlying5 Try.underlying9 HB.out
  have a0 : w1.cell? ⟨g, 0, none⟩ = some (.int .i64 a.f0) := (blk_cell HX.out 0).trans rfl
  have b0 : w1.cell? ⟨g + 1, 0, none⟩ = some (.int .i64 b.f0) := (blk_cell HY.out 0).trans rfl
  have a1 : w1.cell? ⟨g, 1, none⟩ = some (.int .i64 a.f1) := (blk_cell HX.out 1).trans rfl
  have b1 : w1.cell? ⟨g + 1, 1, none⟩ = some (.int .i64 b.f1) := (blk_cell HY.out 1).trans rfl
  have a2 : w1.cell? ⟨g, 2, none⟩ = some (.int .i64 a.f2) := (blk_cell HX.out 2).trans rfl
  have b2 : w1.cell? ⟨g + 1, 2, none⟩ = some (.int .i64 b.f2) := (blk_cell HY.out 2).trans rfl
  have a3 : w1.cell? ⟨g, 3, none⟩ = some (.slice A a.f3.length c) := (blk_cell HX.out 3).trans rfl
  have b3 : w1.cell? ⟨g + 1, 3, none⟩ = some (.slice B b.f3.length d) := (blk_cell HY.out 3).trans rfl
  refine wp_region_list ?_
  refine with_fin (fun a' W => a'.tmps[4]? = some (.bool r) ∧ a'.defers = [] ∧ Below w.heap.size w W) (fun a' W h => ?_) (fun HF => ?_)
  · obtain ⟨h1, h2, h3⟩ := h
    refine ‹∀ (a : Act) (w : World), Code.wp Try.prog Code.ret _ a w → _› _ _ ?_
    exact wp_ret (bodyPost_ret (v := .bool r) (results_slot rfl h1) h2 ⟨by first | rfl | (rw [HG.out]; rfl), by first | exact h3 | (rw [HG.out]; exact h3)⟩)
  simp only [List.append_eq, List.cons_append, List.nil_append, List.take_succ_cons, List.take_zero, List.drop_succ_cons, List.drop_zero]
  refine wpList_cut 5 ?_
  simp only [List.append_eq, List.cons_append, List.nil_append, List.take_succ_cons, List.take_zero, List.drop_succ_cons, List.drop_zero]
  go_wp2_with fail
  refine Halt.mk ?_
  cases q0 with
  | false => exact chain_to 33 4 false [(9, some false)] (by kernel_rfl) (Knows.cons rfl (Knows.nil _)) (Nat.le_refl 33) (fun a' h1 h2 => HF.out a' _ ⟨by rw [h1, HR.out]; simp, h2, HBX.out⟩)
  | true =>
    refine wpList_cut 6 ?_
    simp only [List.append_eq, List.cons_append, List.nil_append, List.take_succ_cons, List.take_zero, List.drop_succ_cons, List.drop_zero]
    go_wp2_with fail
    refine Halt.mk ?_
    cases q1 with
    | false => exact chain_to 33 4 false [(10, some true), (15, some false)] (by kernel_rfl) (Knows.cons rfl (Knows.cons rfl (Knows.nil _))) (Nat.le_refl 33) (fun a' h1 h2 => HF.out a' _ ⟨by rw [h1, HR.out]; simp, h2, HBX.out⟩)
    | true =>
      refine wpList_cut 7 ?_
      simp only [List.append_eq, List.cons_append, List.nil_append, List.take_succ_cons, List.take_zero, List.drop_succ_cons, List.drop_zero]
      go_wp2_with fail
      refine Halt.mk ?_
      cases q2 with
      | false => exact chain_to 33 4 false [(17, some true), (22, some false)] (by kernel_rfl) (Knows.cons rfl (Knows.cons rfl (Knows.nil _))) (Nat.le_refl 33) (fun a' h1 h2 => HF.out a' _ ⟨by rw [h1, HR.out]; simp, h2, HBX.out⟩)
      | true =>
        refine wpList_cut 9 ?_
        simp only [List.append_eq, List.cons_append, List.nil_append, List.take_succ_cons, List.take_zero, List.drop_succ_cons, List.drop_zero]
        go_wp2_with fail
        refine Halt.mk ?_
        cases q3 with
        | false => exact chain_to 33 4 false [(24, some true), (31, some false)] (by kernel_rfl) (Knows.cons rfl (Knows.cons rfl (Knows.nil _))) (Nat.le_refl 33) (fun a' h1 h2 => HF.out a' _ ⟨by rw [h1, HR.out]; simp, h2, HBX.out⟩)
        | true => exact chain_to 33 4 true [(24, some true), (31, some true)] (by kernel_rfl) (Knows.cons rfl (Knows.cons rfl (Knows.nil _))) (Nat.le_refl 33) (fun a' h1 h2 => HF.out a' _ ⟨by rw [h1, HR.out]; simp, h2, HBX.out⟩)
set_option maxHeartbeats 4000000 in
theorem refSameMs_is {w : World} (m n : MsgD) {A8 A12 A16 B8 B12 B16 : Option Addr} {c8 c12 c16 d8 d12 d16 : Nat} (hm : MsgC w m A8 c8 A12 c12 A16 c16) (hn : MsgC w n B8 d8 B12 d12 B16 d16) :
    Calls Try.prog 27 #[.agg (msgCells m A8 c8 A12 c12 A16 c16), .agg (msgCells n B8 d8 B12 d12 B16 d16)] w fun e w' => e = .returned (.bool (eqMs m n)) ∧ Below w.heap.size w w' := by
  have hb1 : Below w.heap.size w ((w.alloc (.cells (msgCells m A8 c8 A12 c12 A16 c16) 57)).alloc (.cells (msgCells n B8 d8 B12 d12 B16 d16) 57)) := ((Below.refl _ _).alloc (Nat.le_refl _) _).alloc (by simp) _
  have hz1 : (w.alloc (.cells (msgCells m A8 c8 A12 c12 A16 c16) 57)).heap.size = w.heap.size + 1 := by simp
  have hx : MsBox ((w.alloc (.cells (msgCells m A8 c8 A12 c12 A16 c16) 57)).alloc (.cells (msgCells n B8 d8 B12 d12 B16 d16) 57)) w.heap.size m A8 c8 A12 c12 A16 c16 := (((Below.refl _ (w.alloc (.cells (msgCells m A8 c8 A12 c12 A16 c16) 57))).alloc (Nat.le_refl _) _).block w.heap.size (by omega)).trans (heap_alloc_new w _)
  have hy : MsBox ((w.alloc (.cells (msgCells m A8 c8 A12 c12 A16 c16) 57)).alloc (.cells (msgCells n B8 d8 B12 d12 B16 d16) 57)) (w.heap.size + 1) n B8 d8 B12 d12 B16 d16 := by rw [← hz1]; exact heap_alloc_new _ _
  have HB := Lib.hid hb1; have HX := Lib.hid hx; have HY := Lib.hid hy; have HM := Lib.hid (hm.below hb1); have HN := Lib.hid (hn.below hb1)
  clear hm hn hb1 hz1 hx hy
  obtain ⟨r, hr⟩ : ∃ r, eqMs m n = r := ⟨_, rfl⟩
  have HR0 := Lib.hid hr.symm
  rw [hr]
  clear hr
  obtain ⟨q0, hq0⟩ : ∃ q0 : Bool, (m.f0 == n.f0) = q0 := ⟨_, rfl⟩
  obtain ⟨q1, hq1⟩ : ∃ q1 : Bool, (m.f1 == n.f1) = q1 := ⟨_, rfl⟩
  obtain ⟨q2, hq2⟩ : ∃ q2 : Bool, (m.f2 == n.f2) = q2 := ⟨_, rfl⟩
  obtain ⟨q3, hq3⟩ : ∃ q3 : Bool, (m.f3 == n.f3) = q3 := ⟨_, rfl⟩
  obtain ⟨q4, hq4⟩ : ∃ q4 : Bool, (m.f4 == n.f4) = q4 := ⟨_, rfl⟩
  obtain ⟨q5, hq5⟩ : ∃ q5 : Bool, (m.f5 == n.f5) = q5 := ⟨_, rfl⟩
  obtain ⟨q6, hq6⟩ : ∃ q6 : Bool, (m.f6 == n.f6) = q6 := ⟨_, rfl⟩
  obtain ⟨q7, hq7⟩ : ∃ q7 : Bool, (m.f7 == n.f7) = q7 := ⟨_, rfl⟩
  obtain ⟨q8, hq8⟩ : ∃ q8 : Bool, eqTrs m.f8 n.f8 = q8 := ⟨_, rfl⟩
  obtain ⟨q9, hq9⟩ : ∃ q9 : Bool, eqEn m.f9.f0 m.f9.f1 m.f9.f2 m.f9.f3 n.f9.f0 n.f9.f1 n.f9.f2 n.f9.f3 = q9 := ⟨_, rfl⟩
  obtain ⟨q10, hq10⟩ : ∃ q10 : Bool, eqPt m.f10 n.f10 = q10 := ⟨_, rfl⟩
  have HR := Lib.hid (show r = (q0 && (q1 && (q2 && (q3 && (q4 && (q5 && (q6 && (q7 && (q8 && (q9 && q10)))))))))) by rw [HR0.out, ← hq0, ← hq1, ← hq2, ← hq3, ← hq4, ← hq5, ← hq6, ← hq7, ← hq8, ← hq9, ← hq10]; rfl)
  have HQ8 := Lib.hid hq8; have HQ9 := Lib.hid hq9; have HQ10 := Lib.hid hq10
  clear hq8 hq9 hq10 HR0
  go_enter Try.func27, Try.ntmps27
  go_upto_region 1 with fail
  obtain ⟨w1, hw1⟩ : ∃ w1, (w.alloc (.cells (msgCells m A8 c8 A12 c12 A16 c16) 57)).alloc (.cells (msgCells n B8 d8 B12 d12 B16 d16) 57) = w1 := ⟨_, rfl⟩
  obtain ⟨g, hg⟩ : ∃ g, w.heap.size = g := ⟨_, rfl⟩
  rw [hw1]
  rw [hw1] at HB HX HY HM HN
  rw [hg] at HX HY ⊢
  have HG := Lib.hid hg
  clear hw1 hg
  obtain ⟨a0, a1, a2, a3, a4, a5, a6, a7, a8, a9, a10, a11, a12, a13, a14, a15, a16⟩ := HX.out.cell
  obtain ⟨b0, b1, b2, b3, b4, b5, b6, b7, b8, b9, b10, b11, b12, b13, b14, b15, b16⟩ := HY.out.cell
  refine wp_region_list ?_
  refine with_fin (fun a' W => a'.tmps[4]? = some (.bool r) ∧ a'.defers = [] ∧ Below w.heap.size w W) (fun a' W h => ?_) (fun HF => ?_)
  · obtain ⟨h1, h2, h3⟩ := h
    refine ‹∀ (a : Act) (w : World), Code.wp Try.prog Code.ret _ a w → _› _ _ ?_
    exact wp_ret (bodyPost_ret (v := .bool r) (results_slot rfl h1) h2 ⟨by first | rfl | (rw [HG.out]; rfl), by first | exact h3 | (rw [HG.out]; exact h3)⟩)
  simp only [List.append_eq, List.cons_append, List.nil_append, List.take_succ_cons, List.take_zero, List.drop_succ_cons, List.drop_zero]
  refine wpList_cut 5 ?_
  simp only [List.append_eq, List.cons_append, List.nil_append, List.take_succ_cons, List.take_zero, List.drop_succ_cons, List.drop_zero]
  go_wp2_with fail
  refine Halt.mk ?_
  cases q0 with
  | false => exact chain_to 80 4 false [(9, some false)] (by kernel_rfl) (Knows.cons rfl (Knows.nil _)) (Nat.le_refl 80) (fun a' h1 h2 => HF.out a' _ ⟨by rw [h1, HR.out]; simp, h2, HB.out⟩)
  | true =>
    refine wpList_cut 6 ?_
    simp only [List.append_eq, List.cons_append, List.nil_append, List.take_succ_cons, List.take_zero, List.drop_succ_cons, List.drop_zero]
    go_wp2_with fail
    refine Halt.mk ?_
    cases q1 with
    | false => exact chain_to 80 4 false [(10, some true), (15, some false)] (by kernel_rfl) (Knows.cons rfl (Knows.cons rfl (Knows.nil _))) (Nat.le_refl 80) (fun a' h1 h2 => HF.out a' _ ⟨by rw [h1, HR.out]; simp, h2, HB.out⟩)
    | true =>
      refine wpList_cut 7 ?_
      simp only [List.append_eq, List.cons_append, List.nil_append, List.take_succ_cons, List.take_zero, List.drop_succ_cons, List.drop_zero]
      go_wp2_with fail
      refine Halt.mk ?_
      cases q2 with
      | false => exact chain_to 80 4 false [(17, some true), (22, some false)] (by kernel_rfl) (Knows.cons rfl (Knows.cons rfl (Knows.nil _))) (Nat.le_refl 80) (fun a' h1 h2 => HF.out a' _ ⟨by rw [h1, HR.out]; simp, h2, HB.out⟩)
      | true =>
        refine wpList_cut 7 ?_
        simp only [List.append_eq, List.cons_append, List.nil_append, List.take_succ_cons, List.take_zero, List.drop_succ_cons, List.drop_zero]
        go_wp2_with fail
        refine Halt.mk ?_
        cases q3 with
        | false => exact chain_to 80 4 false [(24, some true), (29, some false)] (by kernel_rfl) (Knows.cons rfl (Knows.cons rfl (Knows.nil _))) (Nat.le_refl 80) (fun a' h1 h2 => HF.out a' _ ⟨by rw [h1, HR.out]; simp, h2, HB.out⟩)
        | true =>
          refine wpList_cut 7 ?_
          simp only [List.append_eq, List.cons_append, List.nil_append, List.take_succ_cons, List.take_zero, List.drop_succ_cons, List.drop_zero]
          go_wp2_with fail
          refine Halt.mk ?_
          cases q4 with
          | false => exact chain_to 80 4 false [(31, some true), (36, some false)] (by kernel_rfl) (Knows.cons rfl (Knows.cons rfl (Knows.nil _))) (Nat.le_refl 80) (fun a' h1 h2 => HF.out a' _ ⟨by rw [h1, HR.out]; simp, h2, HB.out⟩)
          | true =>
            refine wpList_cut 7 ?_
            simp only [List.append_eq, List.cons_append, List.nil_append, List.take_succ_cons, List.take_zero, List.drop_succ_cons, List.drop_zero]
            go_wp2_with fail
            refine Halt.mk ?_
            cases q5 with
            | false => exact chain_to 80 4 false [(38, some true), (43, some false)] (by kernel_rfl) (Knows.cons rfl (Knows.cons rfl (Knows.nil _))) (Nat.le_refl 80) (fun a' h1 h2 => HF.out a' _ ⟨by rw [h1, HR.out]; simp, h2, HB.out⟩)
            | true =>
              refine wpList_cut 7 ?_
              simp only [List.append_eq, List.cons_append, List.nil_append, List.take_succ_cons, List.take_zero, List.drop_succ_cons, List.drop_zero]
              go_wp2_with fail
              refine Halt.mk ?_
              cases q6 with
              | false => exact chain_to 80 4 false [(45, some true), (50, some false)] (by kernel_rfl) (Knows.cons rfl (Knows.cons rfl (Knows.nil _))) (Nat.le_refl 80) (fun a' h1 h2 => HF.out a' _ ⟨by rw [h1, HR.out]; simp, h2, HB.out⟩)
              | true =>
                refine wpList_cut 7 ?_
                simp only [List.append_eq, List.cons_append, List.nil_append, List.take_succ_cons, List.take_zero, List.drop_succ_cons, List.drop_zero]
                go_wp2_with fail
                refine Halt.mk ?_
                cases q7 with
                | false => exact chain_to 80 4 false [(52, some true), (57, some false)] (by kernel_rfl) (Knows.cons rfl (Knows.cons rfl (Knows.nil _))) (Nat.le_refl 80) (fun a' h1 h2 => HF.out a' _ ⟨by rw [h1, HR.out]; simp, h2, HB.out⟩)
                | true =>
                  refine wpList_cut 7 ?_
                  simp only [List.append_eq, List.cons_append, List.nil_append, List.take_succ_cons, List.take_zero, List.drop_succ_cons, List.drop_zero]
                  go_wp2_with fail
                  refine (refSameTrs_is A8 B8 c8 d8 m.f8 n.f8 w1 HM.out.g8 HN.out.g8).mono ?_
                  rw [HQ8.out]
                  rintro e w2 ⟨rfl, hb⟩
                  have HB2 := Lib.hid (HB.out.trans (hb.mono HB.out.size)); have HX2 := Lib.hid (HX.out.below hb); have HY2 := Lib.hid (HY.out.below hb); have HM2 := Lib.hid (HM.out.below hb); have HN2 := Lib.hid (HN.out.below hb)
                  clear hb HB HX HY HM HN a0 a1 a2 a3 a4 a5 a6 a7 a8 a9 a10 a11 a12 a13 a14 a15 a16 b0 b1 b2 b3 b4 b5 b6 b7 b8 b9 b10 b11 b12 b13 b14 b15 b16
                  obtain ⟨a0, a1, a2, a3, a4, a5, a6, a7, a8, a9, a10, a11, a12, a13, a14, a15, a16⟩ := HX2.out.cell
                  obtain ⟨b0, b1, b2, b3, b4, b5, b6, b7, b8, b9, b10, b11, b12, b13, b14, b15, b16⟩ := HY2.out.cell
                  go_wp2_with fail
                  refine Halt.mk ?_
                  cases q8 with
                  | false => exact chain_to 80 4 false [(59, some true), (64, some false)] (by kernel_rfl) (Knows.cons rfl (Knows.cons rfl (Knows.nil _))) (Nat.le_refl 80) (fun a' h1 h2 => HF.out a' _ ⟨by rw [h1, HR.out]; simp, h2, HB2.out⟩)
                  | true =>
                    refine wpList_cut 7 ?_
                    simp only [List.append_eq, List.cons_append, List.nil_append, List.take_succ_cons, List.take_zero, List.drop_succ_cons, List.drop_zero]
                    go_wp2_with fail
                    refine (refSameEn_is m.f9.f0 m.f9.f1 m.f9.f2 A12 c12 m.f9.f3 n.f9.f0 n.f9.f1 n.f9.f2 B12 d12 n.f9.f3 w2 HM2.out.g12 HM2.out.l12 HN2.out.g12 HN2.out.l12).mono ?_
                    rw [HQ9.out]
                    rintro e w3 ⟨rfl, hb⟩
                    have HB3 := Lib.hid (HB2.out.trans (hb.mono HB2.out.size)); have HX3 := Lib.hid (HX2.out.below hb); have HY3 := Lib.hid (HY2.out.below hb); have HM3 := Lib.hid (HM2.out.below hb); have HN3 := Lib.hid (HN2.out.below hb)
                    clear hb HB2 HX2 HY2 HM2 HN2 a0 a1 a2 a3 a4 a5 a6 a7 a8 a9 a10 a11 a12 a13 a14 a15 a16 b0 b1 b2 b3 b4 b5 b6 b7 b8 b9 b10 b11 b12 b13 b14 b15 b16
                    obtain ⟨a0, a1, a2, a3, a4, a5, a6, a7, a8, a9, a10, a11, a12, a13, a14, a15, a16⟩ := HX3.out.cell
                    obtain ⟨b0, b1, b2, b3, b4, b5, b6, b7, b8, b9, b10, b11, b12, b13, b14, b15, b16⟩ := HY3.out.cell
                    go_wp2_with fail
                    refine Halt.mk ?_
                    cases q9 with
                    | false => exact chain_to 80 4 false [(66, some true), (71, some false)] (by kernel_rfl) (Knows.cons rfl (Knows.cons rfl (Knows.nil _))) (Nat.le_refl 80) (fun a' h1 h2 => HF.out a' _ ⟨by rw [h1, HR.out]; simp, h2, HB3.out⟩)
                    | true =>
                      refine wpList_cut 7 ?_
                      simp only [List.append_eq, List.cons_append, List.nil_append, List.take_succ_cons, List.take_zero, List.drop_succ_cons, List.drop_zero]
                      go_wp2_with fail
                      refine (refSamePt_is m.f10 n.f10 HM3.out.l16 HM3.out.g16 HN3.out.l16 HN3.out.g16).mono ?_
                      rw [HQ10.out]
                      rintro e w4 ⟨rfl, hb⟩
                      have HB4 := Lib.hid (HB3.out.trans (hb.mono HB3.out.size)); have HX4 := Lib.hid (HX3.out.below hb); have HY4 := Lib.hid (HY3.out.below hb); have HM4 := Lib.hid (HM3.out.below hb); have HN4 := Lib.hid (HN3.out.below hb)
                      clear hb HB3 HX3 HY3 HM3 HN3 a0 a1 a2 a3 a4 a5 a6 a7 a8 a9 a10 a11 a12 a13 a14 a15 a16 b0 b1 b2 b3 b4 b5 b6 b7 b8 b9 b10 b11 b12 b13 b14 b15 b16
                      go_wp2_with fail
                      refine Halt.mk ?_
                      cases q10 with
                      | false => exact chain_to 80 4 false [(73, some true), (78, some false)] (by kernel_rfl) (Knows.cons rfl (Knows.cons rfl (Knows.nil _))) (Nat.le_refl 80) (fun a' h1 h2 => HF.out a' _ ⟨by rw [h1, HR.out]; simp, h2, HB4.out⟩)
                      | true => exact chain_to 80 4 true [(73, some true), (78, some true)] (by kernel_rfl) (Knows.cons rfl (Knows.cons rfl (Knows.nil _))) (Nat.le_refl 80) (fun a' h1 h2 => HF.out a' _ ⟨by rw [h1, HR.out]; simp, h2, HB4.out⟩)
end Go.Proofs.Ytgiefblcckikeaa.M
end

section

/- The eye's lists: transactions (printed by geneye04.py). -/
set_option maxRecDepth 100000
set_option linter.unusedVariables false
set_option linter.unusedSimpArgs false
attribute [local irreducible] Go.wpStill
namespace Go.Proofs.Ytgiefblcckikeaa.M
open Go.RowKit Go.Proofs.YtgiefblcckikeaaW.PrintWords Go.Proofs.YtgiefblcckikeaaW.PrintLast Go.Proofs.YtgiefblcckikeaaW.PrintMore Go.Proofs.Ytgiefblcckikeaa.G
def LiI_txns (g : EyeS → TxD × EyeS) (n : Int) (s0 : EyeS) (w0 w : World) (x : Nat) (v i : Value) (W : World) : Prop := ∃ (U : List TxD) (s : EyeS), i = .int .i64 (U.length : Int) ∧ U.length ≤ 4096 ∧ U.length ≤ n.toNat ∧ (s.e = 0 → n ≤ 4096) ∧ Kd.S G.k36 36 W w.heap.size (fun _ => True) v U ∧ IsEye w0 W x s ∧ Below w0.heap.size w0 W ∧ KeepS (fun i => i = x) w W ∧ okS s ∧ eList g s0 = (U ++ (eMany g (n.toNat - U.length) s).1, (eMany g (n.toNat - U.length) s).2)
set_option maxHeartbeats 2000000 in
theorem eList_txns {w0 w : World} {x : Nat} {s : EyeS} (hI : IsEye w0 w x s) (hB : Below w0.heap.size w0 w) (hok : okS s) :
    Calls Try.prog 87 #[.pointer (some ⟨x, 0, none⟩), .func (.func 44) #[.pointer (some ⟨x, 0, none⟩)] #[]] w fun e w' => LiP G.k36 36 w0 w x (eList eTxn s).1 (eList eTxn s).2 e w' := by
  have HN := Lib.hid (eNum_is hI hB hok)
  have HOK := Lib.hid (okS_num hok)
  have HLT := Lib.hid hI.lt
  have HGEW := Lib.hid (show w0.heap.size ≤ w.heap.size from hB.size)
  obtain ⟨n, hn⟩ : ∃ n, (eNum s).1 = n := ⟨_, rfl⟩
  obtain ⟨s1, hs1⟩ : ∃ s1, (eNum s).2 = s1 := ⟨_, rfl⟩
  have HCT := Lib.hid (show eCount s = eWrong (decide (n < 0) || decide (4096 < n)) s1 by unfold eCount; rw [hn, hs1])
  have Hapi.Txn := Lib.hid (show eList eTxn s = eMany eTxn n.toNat (eCount s) by unfold eList; rw [hn])
  rw [hn, hs1] at HN
  rw [hs1] at HOK
  clear hI hB hok hn hs1
  go_enter Try.func87, Try.ntmps87
  go_wp2_with fail
  refine HN.out.mono ?_
  rintro e w1 ⟨rfl, h1, h2, h3⟩
  have H1 := Lib.hid h1; have H2 := Lib.hid h2; have H3 := Lib.hid h3
  clear h1 h2 h3 HN
  go_upto_region 2 with fail
  go_cut [] (fun wx => IsEye w0 wx x (eCount s) ∧ Below w0.heap.size w0 wx ∧ KeepS (fun i => i = x) w wx)
  case first =>
    by_cases ha : n < 0
    · have hq : decide (n < 0) = true := decide_eq_true ha
      have HW := Lib.hid (eWrong_is H1.out H2.out true)
      have HC2 := Lib.hid (show eCount s = eWrong true s1 by rw [HCT.out, hq, Bool.true_or])
      clear ha
      go_wp2_with fail
      refine HW.out.mono ?_
      rintro e w2 ⟨rfl, h1, h2, h3⟩
      have G1 := Lib.hid h1; have G2 := Lib.hid h2; have G3 := Lib.hid (H3.out.trans h3)
      clear h1 h2 h3
      go_wp2_with fail
      go_meet
      exact ⟨by rw [HC2.out]; exact G1.out, G2.out, G3.out⟩
    · have hq : decide (n < 0) = false := decide_eq_false ha
      obtain ⟨b, hb⟩ : ∃ b, decide ((4096 : Int) < n) = b := ⟨_, rfl⟩
      have HW := Lib.hid (eWrong_is H1.out H2.out b)
      have HC2 := Lib.hid (show eCount s = eWrong b s1 by rw [HCT.out, hq, hb, Bool.false_or])
      clear ha
      go_wp2_with fail
      refine HW.out.mono ?_
      rintro e w2 ⟨rfl, h1, h2, h3⟩
      have G1 := Lib.hid h1; have G2 := Lib.hid h2; have G3 := Lib.hid (H3.out.trans h3)
      clear h1 h2 h3
      go_wp2_with fail
      go_meet
      exact ⟨by rw [HC2.out]; exact G1.out, G2.out, G3.out⟩
  case rest =>
    obtain ⟨h1, h2, h3⟩ := hcut
    have G1 := Lib.hid h1; have G2 := Lib.hid h2; have G3 := Lib.hid h3
    have HE0 := Lib.hid (show (eCount s).e = 0 → n ≤ 4096 by
      intro h
      rw [HCT.out] at h
      by_cases h5 : (4096 : Int) < n
      · rw [decide_eq_true h5, Bool.or_true] at h
        unfold eWrong at h
        split at h
        · cases h
        · next h6 => exact absurd ⟨h, rfl⟩ h6
      · omega)
    have HOC := Lib.hid (show okS (eCount s) by rw [HCT.out]; exact okS_wrong _ HOK.out)
    clear h1 h2 h3
    go_wp2_with fail
    go_loopw [6, 7] (fun v i wr => LiI_txns eTxn n s w0 w x v i wr) (fun _ i _ => n.toNat - (intOf i).toNat)
    case atStart => exact ⟨[], eCount s, rfl, by simp, by simp, HE0.out, Kd.S_nil _ _ _ _ _, G1.out, G2.out, G3.out, HOC.out, by simpa using Hapi.Txn.out⟩
    case round =>
      obtain ⟨U, s2, rfl, hU, hUn, hE, hS, hI, hB, hK, hO, hF⟩ := hrel
      have HI := Lib.hid hI; have HB := Lib.hid hB; have HK := Lib.hid hK; have HO := Lib.hid hO; have HF := Lib.hid hF; have HS := Lib.hid hS; have HUN := Lib.hid hUn; have HE := Lib.hid hE
      obtain ⟨Av, cv, rfl⟩ := Kd.S_slice hS
      obtain ⟨A, c, g1, g2, g3, g4⟩ := hI
      have c1 : wr.cell? ⟨x, 1, none⟩ = some (.int .i64 s2.e) := by simp [World.cell?, g1]
      clear hB hK hO hF hS hUn hE g1 g2 g3 g4
      by_cases hlt : (U.length : Int) < n
      · by_cases he : s2.e = 0
        · have hq1 : decide ((U.length : Int) < n) = true := decide_eq_true hlt
          have hq2 : (s2.e == 0) = true := by rw [he]; rfl
          have HN4 := Lib.hid (HE.out he)
          have HG := Lib.hid (eTxn_is HI.out HB.out HO.out)
          have HGO := Lib.hid (okS_txn HO.out)
          obtain ⟨y, hy⟩ : ∃ y, (eTxn s2).1 = y := ⟨_, rfl⟩
          obtain ⟨s3, hs3⟩ : ∃ s3, (eTxn s2).2 = s3 := ⟨_, rfl⟩
          have HF2 := Lib.hid (show eList eTxn s = ((U ++ [y]) ++ (eMany eTxn (n.toNat - (U ++ [y]).length) s3).1, (eMany eTxn (n.toNat - (U ++ [y]).length) s3).2) by
            rw [HF.out]
            have e1 : n.toNat - U.length = (n.toNat - (U ++ [y]).length) + 1 := by simp; omega
            rw [e1]
            simp only [eMany, he, if_true, hy, hs3, List.append_assoc, List.singleton_append])
          have HLT2 := Lib.hid hlt
          rw [hy, hs3] at HG
          rw [hs3] at HGO
          clear hlt he hy hs3
          go_wp2_with fail
          refine HG.out.mono ?_
          rintro e w3 ⟨v2, v3, v4, v5, rfl, r2, r3, r4, r5, h1, h2, h3⟩
          obtain ⟨A2, c2, rfl⟩ := Kd.R_slice r2
          obtain ⟨A3, c3, rfl⟩ := Kd.R_slice r3
          obtain ⟨A4, c4, rfl⟩ := Kd.R_slice r4
          obtain ⟨A5, c5, rfl⟩ := Kd.R_slice r5
          have HBW := Lib.hid (show w.heap.size ≤ wr.heap.size from HK.out.size)
          have R2 := Lib.hid (show Kd.R (Kd.int .u8) 5 w3 w.heap.size (fun k => wr.heap.size ≤ k) _ y.f2 from Kd.R_mono (Kd.R_lower (Kd.R_bound r2) HBW.out) (fun k hk => hk.2.1))
          have R3 := Lib.hid (show Kd.R (Kd.int .i64) 2 w3 w.heap.size (fun k => wr.heap.size ≤ k) _ y.f3 from Kd.R_mono (Kd.R_lower (Kd.R_bound r3) HBW.out) (fun k hk => hk.2.1))
          have R4 := Lib.hid (show Kd.R G.k93 93 w3 w.heap.size (fun k => wr.heap.size ≤ k) _ y.f4 from Kd.R_mono (Kd.R_lower (Kd.R_bound r4) HBW.out) (fun k hk => hk.2.1))
          have R5 := Lib.hid (show Kd.R G.k93 93 w3 w.heap.size (fun k => wr.heap.size ≤ k) _ y.f5 from Kd.R_mono (Kd.R_lower (Kd.R_bound r5) HBW.out) (fun k hk => hk.2.1))
          have HS3 := Lib.hid (show Kd.S G.k36 36 w3 w.heap.size (fun k => True ∧ ¬ wr.heap.size ≤ k) (.slice Av U.length cv) U from Kd.S_mono (Kd.S_step (Kd.S_bound HS.out) (fun k hk2 hlt => h3.block k hlt (fun e => by have := hk2.2.1; have := HLT.out; omega))) (fun k hk => ⟨trivial, by have := hk.2.2.1; omega⟩))
          have HOWN := Lib.hid (Kd.S_lt HS.out)
          have HZ3 := Lib.hid (Nat.le_trans HK.out.size h3.size)
          have K1 := Lib.hid h1; have K2 := Lib.hid h2; have K3 := Lib.hid (HK.out.trans h3)
          clear h1 h2 h3 r2 r3 r4 r5
          go_wp2_with ((with_reducible refine gate_builtin (b := .append) (xs := #[.tmp 30, .tmp 33]) rfl ?_); at_builtin; refine Kd.S_append G.k36 (w0 := w3) w.heap.size rfl (.tmp 30) (.tmp 33) 22 36 (.agg #[.int .i64 0, .int .i64 0, .slice none 0 0, .slice none 0 0, .slice none 0 0, .slice none 0 0]) 112 rfl Try.underlying22 G.info36 rfl (by decide) (by omega) _ U y [.int .i64 y.f0, .int .i64 y.f1, .slice A2 y.f2.length c2, .slice A3 y.f3.length c3, .slice A4 y.f4.length c4, .slice A5 y.f5.length c5] (fun _ => True) (fun k => wr.heap.size ≤ k) rfl rfl (G.k36_mkM _ _ _ y R2.out R3.out R4.out R5.out) (fun k hk => ⟨trivial, fun e => by have := HOWN.out k e.symm; omega⟩) (fun _ _ => trivial) HS3.out (Below.refl _ _) HZ3.out (by omega) ?_; intro v1 w5 ho hb5 hg5 hat; obtain ⟨A9, c9, rfl⟩ := Kd.S_slice ho; have HS5 := Lib.hid ho; have HK5 := Lib.hid (K3.out.then_base hb5); have HI5 := Lib.hid (K1.out.at (hb5.block x HLT.out)); have HB5 := Lib.hid (K2.out.trans (hb5.mono HGEW.out)); clear ho hb5 hg5 hat)
          go_roundw
          case rel =>
            refine ⟨U ++ [y], s3, by rw [List.length_append]; go_num, ?_, ?_, fun _ => HN4.out, (by have h9 := HS5.out; rw [List.length_append] at h9; exact h9), HI5.out, HB5.out, HK5.out, HGO.out, HF2.out⟩
            · have h1 := HN4.out; have h2 := HLT2.out
              rw [List.length_append, List.length_singleton]
              omega
            · have h2 := HLT2.out
              rw [List.length_append, List.length_singleton]
              omega
          case measure => simp [intOf]; have h2 := HLT2.out; omega
        · have hq1 : decide ((U.length : Int) < n) = true := decide_eq_true hlt
          have hq2 : (s2.e == 0) = false := beq_eq_false_iff_ne.2 he
          have HF2 := Lib.hid (show eList eTxn s = (U, s2) by rw [HF.out, eMany_stop he, List.append_nil])
          clear hlt he
          go_wp2_with fail
          go_ret
          exact ⟨_, rfl, by rw [HF2.out]; exact HS.out, by rw [HF2.out]; exact HI.out, HB.out, HK.out⟩
      · have hq1 : decide ((U.length : Int) < n) = false := decide_eq_false hlt
        have HF2 := Lib.hid (show eList eTxn s = (U, s2) by
          have e1 : n.toNat - U.length = 0 := by omega
          rw [HF.out, e1]
          simp only [eMany, List.append_nil])
        clear hlt
        go_wp2_with fail
        go_ret
        exact ⟨_, rfl, by rw [HF2.out]; exact HS.out, by rw [HF2.out]; exact HI.out, HB.out, HK.out⟩
end Go.Proofs.Ytgiefblcckikeaa.M
end

section

/- The eye: an entry (printed by geneyee04.py). -/
set_option maxRecDepth 100000
set_option linter.unusedVariables false
set_option linter.unusedSimpArgs false
attribute [local irreducible] Go.wpStill
namespace Go.Proofs.Ytgiefblcckikeaa.M
open Go.RowKit Go.Proofs.YtgiefblcckikeaaW.PrintWords Go.Proofs.YtgiefblcckikeaaW.PrintLast Go.Proofs.YtgiefblcckikeaaW.PrintMore Go.Proofs.Ytgiefblcckikeaa.G
abbrev EnD := Int × Int × Int × List TxD
def eKind (s : EyeS) : EyeS := eWrong (decide ((eNum s).1 ≠ 0) && decide ((eNum s).1 ≠ 1)) (eNum s).2
def eBody (s : EyeS) : EnD × EyeS := ((1, (eSmall s).1, (eNum (eSmall s).2).1, (eList eTxn (eNum (eSmall s).2).2).1), (eList eTxn (eNum (eSmall s).2).2).2)
def eEntry (s : EyeS) : EnD × EyeS := if ¬ (eKind s).e = 0 ∨ (eNum s).1 = 0 then ((0, 0, 0, []), eKind s) else eBody (eKind s)
theorem okS_kind {s : EyeS} (h : okS s) : okS (eKind s) := okS_wrong _ (okS_num h)
def EnP (w0 w : World) (x : Nat) (y : EnD) (s' : EyeS) (e : Ending) (w' : World) : Prop := ∃ v : Value, e = .returned (.agg #[.int .i64 y.1, .int .i64 y.2.1, .int .i64 y.2.2.1, v]) ∧ Kd.S G.k36 36 w' w.heap.size (fun _ => True) v y.2.2.2 ∧ IsEye w0 w' x s' ∧ Below w0.heap.size w0 w' ∧ KeepS (fun i => i = x) w w'
abbrev zEnt : Obj := .cells #[.int .i64 0, .int .i64 0, .int .i64 0, .slice none 0 0] 24
set_option maxHeartbeats 4000000 in
theorem eEntry_is {w0 w : World} {x : Nat} {s : EyeS} (hI : IsEye w0 w x s) (hB : Below w0.heap.size w0 w) (hok : okS s) :
    Calls Try.prog 62 #[.pointer (some ⟨x, 0, none⟩)] w fun e w' => EnP w0 w x (eEntry s).1 (eEntry s).2 e w' := by
  have hbx := heap_alloc_new w zEnt
  have hb1 := (Below.refl _ w).alloc (Nat.le_refl _) zEnt
  have HLT := Lib.hid (show x < w.heap.size from hI.lt); have HGEW := Lib.hid (show w0.heap.size ≤ w.heap.size from hB.size)
  have HN := Lib.hid (eNum_is (hI.below hb1) (hB.alloc hB.size _) hok)
  have HK1 := Lib.hid (KeepS.of_below (fun i => i = x) hb1)
  have HOK := Lib.hid (okS_kind hok)
  obtain ⟨k, hk⟩ : ∃ k, (eNum s).1 = k := ⟨_, rfl⟩
  obtain ⟨s1, hs1⟩ : ∃ s1, (eNum s).2 = s1 := ⟨_, rfl⟩
  have HKD := Lib.hid (show eKind s = eWrong (decide (k ≠ 0) && decide (k ≠ 1)) s1 by unfold eKind; rw [hk, hs1])
  have HF := Lib.hid (show eEntry s = if ¬ (eKind s).e = 0 ∨ k = 0 then ((0, 0, 0, []), eKind s) else eBody (eKind s) by unfold eEntry; rw [hk])
  rw [hk, hs1] at HN
  have HBX := Lib.hid hbx
  have HZ := Lib.hid (show w.heap.size < (w.alloc zEnt).heap.size by simp)
  clear hk hs1 hI hB hok hbx hb1
  go_enter Try.func62, Try.ntmps62
  go_wp2_with fail
  refine HN.out.mono ?_
  rintro e w1 ⟨rfl, h1, h2, h3⟩
  have H1 := Lib.hid h1; have H2 := Lib.hid h2
  have HZ1 := Lib.hid (Nat.lt_of_lt_of_le HZ.out h3.size)
  have HB1 := Lib.hid ((h3.block w.heap.size HZ.out (by have := HLT.out; omega)).trans HBX.out)
  have HK2 := Lib.hid (HK1.out.trans h3)
  clear h1 h2 h3
  go_upto_region 2 with fail
  go_cut [] (fun wx => IsEye w0 wx x (eKind s) ∧ Below w0.heap.size w0 wx ∧ KeepS (fun i => i = x) w1 wx)
  case first =>
    by_cases ha : k = 0
    · have hq : (k != 0) = false := by rw [ha]; rfl
      have HW := Lib.hid (eWrong_is H1.out H2.out false)
      have HC2 := Lib.hid (show eKind s = eWrong false s1 by rw [HKD.out, decide_eq_false (fun h => h ha), Bool.false_and])
      clear ha
      go_wp2_with fail
      refine HW.out.mono ?_
      rintro e w2 ⟨rfl, h1, h2, h3⟩
      have G1 := Lib.hid h1; have G2 := Lib.hid h2; have G3 := Lib.hid h3
      clear h1 h2 h3
      go_wp2_with fail
      go_meet
      exact ⟨by rw [HC2.out]; exact G1.out, G2.out, G3.out⟩
    · have hq : (k != 0) = true := bne_iff_ne.2 ha
      obtain ⟨b, hb⟩ : ∃ b, (k != 1) = b := ⟨_, rfl⟩
      have HW := Lib.hid (eWrong_is H1.out H2.out b)
      have HC2 := Lib.hid (show eKind s = eWrong b s1 by
        rw [HKD.out, decide_eq_true ha, Bool.true_and]
        have : decide (k ≠ 1) = b := by
          rw [← hb, Bool.eq_iff_iff, decide_eq_true_eq, bne_iff_ne]
        rw [this])
      clear ha
      go_wp2_with fail
      refine HW.out.mono ?_
      rintro e w2 ⟨rfl, h1, h2, h3⟩
      have G1 := Lib.hid h1; have G2 := Lib.hid h2; have G3 := Lib.hid h3
      clear h1 h2 h3
      go_wp2_with fail
      go_meet
      exact ⟨by rw [HC2.out]; exact G1.out, G2.out, G3.out⟩
  case rest =>
    obtain ⟨h1, h2, h3⟩ := hcut
    obtain ⟨w2, rfl⟩ : ∃ w2, w2 = wc := ⟨_, rfl⟩
    have HIX := Lib.hid h1; have HDX := Lib.hid h2
    have HZ2 := Lib.hid (Nat.lt_of_lt_of_le HZ1.out h3.size)
    have HB2 := Lib.hid ((h3.block w.heap.size HZ1.out (by have := HLT.out; omega)).trans HB1.out)
    have HQX := Lib.hid (HK2.out.trans h3)
    obtain ⟨s2, hs2⟩ : ∃ s2, eKind s = s2 := ⟨_, rfl⟩
    rw [hs2] at HIX HF HOK
    have HIX := Lib.hid HIX.out
    have c1 : w2.cell? ⟨x, 1, none⟩ = some (.int .i64 s2.e) := by
      obtain ⟨A, c, g1, _⟩ := HIX.out
      simp [World.cell?, g1]
    have x0 : w2.cell? ⟨w.heap.size, 0, none⟩ = some (.int .i64 0) := by simp [World.cell?, HB2.out]
    have x1 : w2.cell? ⟨w.heap.size, 1, none⟩ = some (.int .i64 0) := by simp [World.cell?, HB2.out]
    have x2 : w2.cell? ⟨w.heap.size, 2, none⟩ = some (.int .i64 0) := by simp [World.cell?, HB2.out]
    have x3 : w2.cell? ⟨w.heap.size, 3, none⟩ = some (.slice none 0 0) := by simp [World.cell?, HB2.out]
    have y0 : w2.frozen? ⟨w.heap.size, 0, none⟩ = false := by simp [World.frozen?, HB2.out]
    have y1 : w2.frozen? ⟨w.heap.size, 1, none⟩ = false := by simp [World.frozen?, HB2.out]
    have y2 : w2.frozen? ⟨w.heap.size, 2, none⟩ = false := by simp [World.frozen?, HB2.out]
    have y3 : w2.frozen? ⟨w.heap.size, 3, none⟩ = false := by simp [World.frozen?, HB2.out]
    clear h1 h2 h3 hs2 HN HK1 HBX H1 H2 HB1 HK2 HZ HKD
    by_cases he : s2.e = 0
    · have hq1 : (s2.e != 0) = false := by rw [he]; rfl
      by_cases hk : k = 0
      · have hq2 : (k == 0) = true := by rw [hk]; rfl
        have HR := Lib.hid (show eEntry s = ((0, 0, 0, []), s2) by rw [HF.out, if_pos (.inr hk)])
        clear he hk
        go_wp2_with fail
        have HEB := Lib.hid (blk_put (cs := #[.int .i64 0, .int .i64 0, .int .i64 0, .slice none 0 0]) (blk_put (cs := #[.int .i64 0, .int .i64 0, .int .i64 0, .slice none 0 0]) (blk_put (cs := #[.int .i64 0, .int .i64 0, .int .i64 0, .slice none 0 0]) (blk_put (cs := #[.int .i64 0, .int .i64 0, .int .i64 0, .slice none 0 0]) (HB2.out) 0 (.int .i64 0) rfl) 1 (.int .i64 0) rfl) 2 (.int .i64 0) rfl) 3 (.slice none 0 0) rfl)
        have HKS := Lib.hid ((((((KeepS.refl (fun i => i = w.heap.size) w2)).set (p := ⟨w.heap.size, 0, none⟩) (.inl rfl) (.int .i64 0)).set (p := ⟨w.heap.size, 1, none⟩) (.inl rfl) (.int .i64 0)).set (p := ⟨w.heap.size, 2, none⟩) (.inl rfl) (.int .i64 0)).set (p := ⟨w.heap.size, 3, none⟩) (.inl rfl) (.slice none 0 0))
        obtain ⟨W, hW⟩ : ∃ W, ((((w2).setCell ⟨w.heap.size, 0, none⟩ (.int .i64 0)).setCell ⟨w.heap.size, 1, none⟩ (.int .i64 0)).setCell ⟨w.heap.size, 2, none⟩ (.int .i64 0)).setCell ⟨w.heap.size, 3, none⟩ (.slice none 0 0) = W := ⟨_, rfl⟩
        rw [hW] at HEB HKS ⊢
        clear hW
        refine bodyPost_ret (results_cell_row rfl _ _ w.heap.size 24 #[.int .i64 0, .int .i64 0, .int .i64 0, .slice none 0 0] (0, 0) _ rfl HEB.out Try.underlying24 rfl (by kernel_rfl)) rfl ?_
        rw [HR.out]
        have hz := HZ2.out
        have hlt := HLT.out
        have hgw := HGEW.out
        exact ⟨_, rfl, Kd.S_nil _ _ _ _ _, HIX.out.at (HKS.out.block x (by omega) (by show ¬ x = w.heap.size; omega)), HDX.out.trans (HKS.out.below (B := w0.heap.size) HDX.out.size (by rintro i rfl; omega)), HQX.out.then_base (HKS.out.below (B := w.heap.size) (by omega) (by rintro i rfl; omega))⟩
      · have hq2 : (k == 0) = false := beq_eq_false_iff_ne.2 hk
        have HR := Lib.hid (show eEntry s = eBody s2 by rw [HF.out, if_neg (fun h => h.elim (fun h => h he) hk)])
        clear he hk
        obtain ⟨r, HR0⟩ : ∃ r, eBody s2 = r := ⟨_, rfl⟩
        have HR1 := HR0
        unfold eBody at HR1
        have ho2 := HOK.out
        obtain ⟨f, hf⟩ : ∃ f, (eSmall s2).1 = f := ⟨_, rfl⟩
        obtain ⟨s3, hs3⟩ : ∃ s3, (eSmall s2).2 = s3 := ⟨_, rfl⟩
        have ho3 := okS_small ho2
        rw [hf, hs3] at HR1
        rw [hs3] at ho3
        obtain ⟨n, hn⟩ : ∃ n, (eNum s3).1 = n := ⟨_, rfl⟩
        obtain ⟨s4, hs4⟩ : ∃ s4, (eNum s3).2 = s4 := ⟨_, rfl⟩
        have ho4 := okS_num ho3
        rw [hn, hs4] at HR1
        rw [hs4] at ho4
        obtain ⟨l, hl⟩ : ∃ l, (eList eTxn s4).1 = l := ⟨_, rfl⟩
        obtain ⟨s5, hs5⟩ : ∃ s5, (eList eTxn s4).2 = s5 := ⟨_, rfl⟩
        rw [hl, hs5] at HR1
        have HR2 := Lib.hid (show eEntry s = _ from HR.out.trans (HR0.trans HR1.symm))
        have HO1 := Lib.hid ho2; have HO2 := Lib.hid ho3; have HO3 := Lib.hid ho4
        have HE1 := Lib.hid (And.intro hf hs3); have HE2 := Lib.hid (And.intro hn hs4); have HE3 := Lib.hid (And.intro hl hs5)
        clear hf hs3 hn hs4 hl hs5 ho2 ho3 ho4 HR HR0 HR1 HF HOK y0 y1 y2 y3 x0 x1 x2 x3
        go_wp2_with fail
        have hby := heap_alloc_new w2 (.cells #[.int .i64 1, .int .i64 0, .int .i64 0, .slice none 0 0] 24)
        have hay := (Below.refl _ w2).alloc (Nat.le_refl _) (.cells #[.int .i64 1, .int .i64 0, .int .i64 0, .slice none 0 0] 24)
        have hzy : (w2.alloc (.cells #[.int .i64 1, .int .i64 0, .int .i64 0, .slice none 0 0] 24)).heap.size = w2.heap.size + 1 := by simp
        obtain ⟨w4, hw4⟩ : ∃ w4, w2.alloc (.cells #[.int .i64 1, .int .i64 0, .int .i64 0, .slice none 0 0] 24) = w4 := ⟨_, rfl⟩
        rw [hw4] at hby hay hzy ⊢
        obtain ⟨g, hg⟩ : ∃ g, w2.heap.size = g := ⟨_, rfl⟩
        have HI4 := Lib.hid (HIX.out.below hay)
        have HD4 := Lib.hid (HDX.out.trans (hay.mono HDX.out.size))
        have HB4 := Lib.hid ((hay.block w.heap.size HZ2.out).trans HB2.out)
        have HQ4 := Lib.hid (HQX.out.then_below hay)
        rw [hg] at hby hzy HZ2 ⊢
        have HY4 := Lib.hid hby
        have HGZ := Lib.hid (show w.heap.size < g ∧ x < w.heap.size from ⟨HZ2.out, HLT.out⟩)
        have HZZ4 := Lib.hid (show g < w4.heap.size by omega)
        clear hw4 hg hby hay hzy HIX HDX HB2 HQX c1
        have h4 := eSmall_is HI4.out HD4.out HO1.out
        rw [HE1.out.1, HE1.out.2] at h4
        have HNN1 := Lib.hid h4
        clear h4
        refine HNN1.out.mono ?_
        rintro e w5 ⟨rfl, h1, h2, h3⟩
        have HB5 := Lib.hid ((h3.block w.heap.size (by have := HGZ.out; have := HZZ4.out; omega) (by have := HGZ.out; omega)).trans HB4.out)
        have HY5 := Lib.hid ((h3.block g HZZ4.out (by have := HGZ.out; omega)).trans HY4.out)
        have HQ5 := Lib.hid (HQ4.out.trans h3)
        have HZZ5 := Lib.hid (Nat.lt_of_lt_of_le HZZ4.out h3.size)
        have HI5 := Lib.hid h1
        have HD5 := Lib.hid h2
        have d1 : w5.cell? ⟨g, 1, none⟩ = some (.int .i64 0) := by simp [World.cell?, HY5.out]
        have z1 : w5.frozen? ⟨g, 1, none⟩ = false := by simp [World.frozen?, HY5.out]
        clear h1 h2 h3 HNN1
        go_wp2_with fail
        have HY6 := Lib.hid (blk_put (cs := #[.int .i64 1, .int .i64 0, .int .i64 0, .slice none 0 0]) HY5.out 1 (.int .i64 f) rfl)
        have HB6 := Lib.hid ((Below.heap_setCell w5 ⟨g, 1, none⟩ (.int .i64 f) w.heap.size (by have := HGZ.out; simp; omega)).trans HB5.out)
        have HI6 := Lib.hid (HI5.out.at (Below.heap_setCell w5 ⟨g, 1, none⟩ (.int .i64 f) x (by have := HGZ.out; simp; omega)))
        have HD6 := Lib.hid (HD5.out.setCell (p := ⟨g, 1, none⟩) (by have := HGZ.out; have := HGEW.out; simp; omega) (.int .i64 f))
        have HQ6 := Lib.hid (HQ5.out.set (p := ⟨g, 1, none⟩) (.inr (by have := HGZ.out; simp; omega)) (.int .i64 f))
        have HZZ6 := Lib.hid (show g < (w5.setCell ⟨g, 1, none⟩ (.int .i64 f)).heap.size by rw [World.size_setCell]; exact HZZ5.out)
        obtain ⟨w6, hw6⟩ : ∃ w6, w5.setCell ⟨g, 1, none⟩ (.int .i64 f) = w6 := ⟨_, rfl⟩
        rw [hw6] at HY6 HB6 HI6 HD6 HQ6 HZZ6 ⊢
        clear hw6 HY5 HB5 HI5 HD5 HQ5 HZZ5 d1 z1
        have h4 := eNum_is HI6.out HD6.out HO2.out
        rw [HE2.out.1, HE2.out.2] at h4
        have HNN2 := Lib.hid h4
        clear h4
        refine HNN2.out.mono ?_
        rintro e w7 ⟨rfl, h1, h2, h3⟩
        have HB7 := Lib.hid ((h3.block w.heap.size (by have := HGZ.out; have := HZZ6.out; omega) (by have := HGZ.out; omega)).trans HB6.out)
        have HY7 := Lib.hid ((h3.block g HZZ6.out (by have := HGZ.out; omega)).trans HY6.out)
        have HQ7 := Lib.hid (HQ6.out.trans h3)
        have HZZ7 := Lib.hid (Nat.lt_of_lt_of_le HZZ6.out h3.size)
        have HI7 := Lib.hid h1
        have HD7 := Lib.hid h2
        have d2 : w7.cell? ⟨g, 2, none⟩ = some (.int .i64 0) := by simp [World.cell?, HY7.out]
        have z2 : w7.frozen? ⟨g, 2, none⟩ = false := by simp [World.frozen?, HY7.out]
        clear h1 h2 h3 HNN2
        go_wp2_with fail
        have HY8 := Lib.hid (blk_put (cs := #[.int .i64 1, .int .i64 f, .int .i64 0, .slice none 0 0]) HY7.out 2 (.int .i64 n) rfl)
        have HB8 := Lib.hid ((Below.heap_setCell w7 ⟨g, 2, none⟩ (.int .i64 n) w.heap.size (by have := HGZ.out; simp; omega)).trans HB7.out)
        have HI8 := Lib.hid (HI7.out.at (Below.heap_setCell w7 ⟨g, 2, none⟩ (.int .i64 n) x (by have := HGZ.out; simp; omega)))
        have HD8 := Lib.hid (HD7.out.setCell (p := ⟨g, 2, none⟩) (by have := HGZ.out; have := HGEW.out; simp; omega) (.int .i64 n))
        have HQ8 := Lib.hid (HQ7.out.set (p := ⟨g, 2, none⟩) (.inr (by have := HGZ.out; simp; omega)) (.int .i64 n))
        have HZZ8 := Lib.hid (show g < (w7.setCell ⟨g, 2, none⟩ (.int .i64 n)).heap.size by rw [World.size_setCell]; exact HZZ7.out)
        obtain ⟨w8, hw8⟩ : ∃ w8, w7.setCell ⟨g, 2, none⟩ (.int .i64 n) = w8 := ⟨_, rfl⟩
        rw [hw8] at HY8 HB8 HI8 HD8 HQ8 HZZ8 ⊢
        clear hw8 HY7 HB7 HI7 HD7 HQ7 HZZ7 d2 z2
        have h4 := eList_txns HI8.out HD8.out HO3.out
        rw [HE3.out.1, HE3.out.2] at h4
        have HNN3 := Lib.hid h4
        clear h4
        refine HNN3.out.mono ?_
        rintro e w9 ⟨vl, rfl, hv, h1, h2, h3⟩
        obtain ⟨Al, cl, rfl⟩ := Kd.S_slice hv
        have HV := Lib.hid (show Kd.S G.k36 36 w9 w.heap.size (fun k => k ≠ g ∧ k ≠ w.heap.size) _ l from Kd.S_mono (Kd.S_lower (Kd.S_bound hv) HQ8.out.size) (fun k hk => by
          have h7 := hk.2.1; have h9 := HGZ.out; have h8 := HZZ8.out; constructor <;> omega))
        clear hv
        have HB9 := Lib.hid ((h3.block w.heap.size (by have := HGZ.out; have := HZZ8.out; omega) (by have := HGZ.out; omega)).trans HB8.out)
        have HY9 := Lib.hid ((h3.block g HZZ8.out (by have := HGZ.out; omega)).trans HY8.out)
        have HQ9 := Lib.hid (HQ8.out.trans h3)
        have HZZ9 := Lib.hid (Nat.lt_of_lt_of_le HZZ8.out h3.size)
        have HI9 := Lib.hid h1
        have HD9 := Lib.hid h2
        have d3 : w9.cell? ⟨g, 3, none⟩ = some (.slice none 0 0) := by simp [World.cell?, HY9.out]
        have z3 : w9.frozen? ⟨g, 3, none⟩ = false := by simp [World.frozen?, HY9.out]
        clear h1 h2 h3 HNN3
        have d0 : w9.cell? ⟨g, 0, none⟩ = some (.int .i64 1) := by simp [World.cell?, HY9.out]
        have d1 : w9.cell? ⟨g, 1, none⟩ = some (.int .i64 f) := by simp [World.cell?, HY9.out]
        have d2 : w9.cell? ⟨g, 2, none⟩ = some (.int .i64 n) := by simp [World.cell?, HY9.out]
        have x0 : w9.cell? ⟨w.heap.size, 0, none⟩ = some (.int .i64 0) := by simp [World.cell?, HB9.out]
        have x1 : w9.cell? ⟨w.heap.size, 1, none⟩ = some (.int .i64 0) := by simp [World.cell?, HB9.out]
        have x2 : w9.cell? ⟨w.heap.size, 2, none⟩ = some (.int .i64 0) := by simp [World.cell?, HB9.out]
        have x3 : w9.cell? ⟨w.heap.size, 3, none⟩ = some (.slice none 0 0) := by simp [World.cell?, HB9.out]
        have y0 : w9.frozen? ⟨w.heap.size, 0, none⟩ = false := by simp [World.frozen?, HB9.out]
        have y1 : w9.frozen? ⟨w.heap.size, 1, none⟩ = false := by simp [World.frozen?, HB9.out]
        have y2 : w9.frozen? ⟨w.heap.size, 2, none⟩ = false := by simp [World.frozen?, HB9.out]
        have y3 : w9.frozen? ⟨w.heap.size, 3, none⟩ = false := by simp [World.frozen?, HB9.out]
        have HGN : w.heap.size ≠ g := by have := HGZ.out; omega
        go_wp2_with fail
        have HEB := Lib.hid (blk_put (cs := #[.int .i64 1, .int .i64 f, .int .i64 n, .slice none 0 0]) (blk_put (cs := #[.int .i64 1, .int .i64 f, .int .i64 0, .slice none 0 0]) (blk_put (cs := #[.int .i64 1, .int .i64 0, .int .i64 0, .slice none 0 0]) (blk_put (cs := #[.int .i64 0, .int .i64 0, .int .i64 0, .slice none 0 0]) ((Below.heap_setCell w9 ⟨g, 3, none⟩ (.slice Al l.length cl) w.heap.size HGN).trans HB9.out) 0 (.int .i64 1) rfl) 1 (.int .i64 f) rfl) 2 (.int .i64 n) rfl) 3 (.slice Al l.length cl) rfl)
        have HKS := Lib.hid (((((((KeepS.refl (fun i => i = g ∨ i = w.heap.size) w9)).set (p := ⟨g, 3, none⟩) (.inl (.inl rfl)) (.slice Al l.length cl)).set (p := ⟨w.heap.size, 0, none⟩) (.inl (.inr rfl)) (.int .i64 1)).set (p := ⟨w.heap.size, 1, none⟩) (.inl (.inr rfl)) (.int .i64 f)).set (p := ⟨w.heap.size, 2, none⟩) (.inl (.inr rfl)) (.int .i64 n)).set (p := ⟨w.heap.size, 3, none⟩) (.inl (.inr rfl)) (.slice Al l.length cl))
        obtain ⟨W, hW⟩ : ∃ W, ((((w9.setCell ⟨g, 3, none⟩ (.slice Al l.length cl)).setCell ⟨w.heap.size, 0, none⟩ (.int .i64 1)).setCell ⟨w.heap.size, 1, none⟩ (.int .i64 f)).setCell ⟨w.heap.size, 2, none⟩ (.int .i64 n)).setCell ⟨w.heap.size, 3, none⟩ (.slice Al l.length cl) = W := ⟨_, rfl⟩
        rw [hW] at HEB HKS ⊢
        clear hW
        refine bodyPost_ret (results_cell_row rfl _ _ w.heap.size 24 #[.int .i64 1, .int .i64 f, .int .i64 n, .slice Al l.length cl] (0, 0) _ rfl HEB.out Try.underlying24 rfl (by kernel_rfl)) rfl ?_
        rw [HR2.out]
        have hq := HQ9.out.size
        have hgz := HGZ.out
        refine ⟨_, rfl, Kd.S_mono (Kd.S_step HV.out (fun k hk hlt => HKS.out.block k hlt ?_)) (fun _ _ => trivial), HI9.out.at (HKS.out.block x (by omega) ?_), HD9.out.trans (HKS.out.below (B := w0.heap.size) HD9.out.size ?_), HQ9.out.then_base (HKS.out.below (B := w.heap.size) hq ?_)⟩
        · rintro (h | h); exact hk.1 h; exact hk.2 h
        · rintro (h | h) <;> omega
        · have := HGEW.out
          rintro i (h | h) <;> omega
        · rintro i (h | h) <;> omega
    · have hq1 : (s2.e != 0) = true := bne_iff_ne.2 he
      have HR := Lib.hid (show eEntry s = ((0, 0, 0, []), s2) by rw [HF.out, if_pos (.inl he)])
      clear he
      go_wp2_with fail
      have HEB := Lib.hid (blk_put (cs := #[.int .i64 0, .int .i64 0, .int .i64 0, .slice none 0 0]) (blk_put (cs := #[.int .i64 0, .int .i64 0, .int .i64 0, .slice none 0 0]) (blk_put (cs := #[.int .i64 0, .int .i64 0, .int .i64 0, .slice none 0 0]) (blk_put (cs := #[.int .i64 0, .int .i64 0, .int .i64 0, .slice none 0 0]) (HB2.out) 0 (.int .i64 0) rfl) 1 (.int .i64 0) rfl) 2 (.int .i64 0) rfl) 3 (.slice none 0 0) rfl)
      have HKS := Lib.hid ((((((KeepS.refl (fun i => i = w.heap.size) w2)).set (p := ⟨w.heap.size, 0, none⟩) (.inl rfl) (.int .i64 0)).set (p := ⟨w.heap.size, 1, none⟩) (.inl rfl) (.int .i64 0)).set (p := ⟨w.heap.size, 2, none⟩) (.inl rfl) (.int .i64 0)).set (p := ⟨w.heap.size, 3, none⟩) (.inl rfl) (.slice none 0 0))
      obtain ⟨W, hW⟩ : ∃ W, ((((w2).setCell ⟨w.heap.size, 0, none⟩ (.int .i64 0)).setCell ⟨w.heap.size, 1, none⟩ (.int .i64 0)).setCell ⟨w.heap.size, 2, none⟩ (.int .i64 0)).setCell ⟨w.heap.size, 3, none⟩ (.slice none 0 0) = W := ⟨_, rfl⟩
      rw [hW] at HEB HKS ⊢
      clear hW
      refine bodyPost_ret (results_cell_row rfl _ _ w.heap.size 24 #[.int .i64 0, .int .i64 0, .int .i64 0, .slice none 0 0] (0, 0) _ rfl HEB.out Try.underlying24 rfl (by kernel_rfl)) rfl ?_
      rw [HR.out]
      have hz := HZ2.out
      have hlt := HLT.out
      have hgw := HGEW.out
      exact ⟨_, rfl, Kd.S_nil _ _ _ _ _, HIX.out.at (HKS.out.block x (by omega) (by show ¬ x = w.heap.size; omega)), HDX.out.trans (HKS.out.below (B := w0.heap.size) HDX.out.size (by rintro i rfl; omega)), HQX.out.then_base (HKS.out.below (B := w.heap.size) (by omega) (by rintro i rfl; omega))⟩
end Go.Proofs.Ytgiefblcckikeaa.M
end

section

/- TakeEntry (printed by gentake04.py). -/
set_option maxRecDepth 100000
set_option linter.unusedVariables false
set_option linter.unusedSimpArgs false
attribute [local irreducible] Go.wpStill
namespace Go.Proofs.Ytgiefblcckikeaa.M
open Go.RowKit Go.Proofs.YtgiefblcckikeaaW.PrintWords Go.Proofs.YtgiefblcckikeaaW.PrintLast Go.Proofs.YtgiefblcckikeaaW.PrintMore Go.Proofs.Ytgiefblcckikeaa.G
def eEnds (s : EyeS) (may all : Bool) : Int := if ¬ s.e = 0 then s.e else if all = true ∧ 0 < s.l.length then 13 else if s.o = true ∨ may = false then 40 else 0
theorem eEnds_is {w0 w : World} {x : Nat} {s : EyeS} (hI : IsEye w0 w x s) (may all : Bool) :
    Calls Try.prog 45 #[.pointer (some ⟨x, 0, none⟩), .bool may, .bool all] w fun e w' => e = .returned (.int .i64 (eEnds s may all)) ∧ w' = w := by
  obtain ⟨A, c, h1, h2, h3, h4⟩ := hI
  have c0 : w.cell? ⟨x, 0, none⟩ = some (.slice A s.l.length c) := by simp [World.cell?, h1]
  have c1 : w.cell? ⟨x, 1, none⟩ = some (.int .i64 s.e) := by simp [World.cell?, h1]
  have c2 : w.cell? ⟨x, 2, none⟩ = some (.bool s.o) := by simp [World.cell?, h1]
  clear h1 h2 h3 h4
  obtain ⟨l, e, o⟩ := s
  simp only at c0 c1 c2
  by_cases he : e = 0
  · have hq : (e != 0) = false := by rw [he]; rfl
    cases all with
    | true =>
      by_cases hl : 0 < l.length
      · have hq2 : decide (0 < l.length) = true := decide_eq_true (by omega)
        have HF := Lib.hid (show eEnds ⟨l, e, o⟩ may true = 13 by unfold eEnds; rw [if_neg (fun h => h he), if_pos ⟨rfl, hl⟩])
        clear he hl
        go_enter Try.func45, Try.ntmps45
        go_wp2_with fail
        go_ret
        exact ⟨by rw [HF.out]; rfl, rfl⟩
      · have hq2 : decide (0 < l.length) = false := decide_eq_false (by omega)
        have HF := Lib.hid (show eEnds ⟨l, e, o⟩ may true = if o = true ∨ may = false then 40 else 0 by unfold eEnds; rw [if_neg (fun h => h he), if_neg (fun h => hl h.2)])
        clear he hl
        cases o <;> cases may <;> (go_enter Try.func45, Try.ntmps45; go_wp2_with fail; go_ret; exact ⟨by rw [HF.out]; rfl, rfl⟩)
    | false =>
      have HF := Lib.hid (show eEnds ⟨l, e, o⟩ may false = if o = true ∨ may = false then 40 else 0 by unfold eEnds; rw [if_neg (fun h => h he), if_neg (fun h => by cases h.1)])
      clear he
      cases o <;> cases may <;> (go_enter Try.func45, Try.ntmps45; go_wp2_with fail; go_ret; exact ⟨by rw [HF.out]; rfl, rfl⟩)
  · have hq : (e != 0) = true := bne_iff_ne.2 he
    have HF := Lib.hid (show eEnds ⟨l, e, o⟩ may all = e by unfold eEnds; rw [if_pos he])
    clear he
    go_enter Try.func45, Try.ntmps45
    go_wp2_with fail
    go_ret
    exact ⟨by rw [HF.out]; rfl, rfl⟩
def takeEn (l : List Int) : EnD × Int :=
  if eEnds (eEntry ⟨l, 0, false⟩).2 (mayE (eEntry ⟨l, 0, false⟩).1.1 (eEntry ⟨l, 0, false⟩).1.2.1 (eEntry ⟨l, 0, false⟩).1.2.2.1 (eEntry ⟨l, 0, false⟩).1.2.2.2) true = 0 then ((eEntry ⟨l, 0, false⟩).1, 0)
  else ((0, 0, 0, []), eEnds (eEntry ⟨l, 0, false⟩).2 (mayE (eEntry ⟨l, 0, false⟩).1.1 (eEntry ⟨l, 0, false⟩).1.2.1 (eEntry ⟨l, 0, false⟩).1.2.2.1 (eEntry ⟨l, 0, false⟩).1.2.2.2) true)
abbrev oEye (A : Option Addr) (n c : Nat) : Obj := .cells #[.slice A n c, .int .i64 0, .bool false] 83
set_option maxHeartbeats 4000000 in
theorem takeEn_is (A : Option Addr) (c : Nat) (l : List Int) (w : World) (hr : Kd.C (Kd.int .u8) w A l.length l) (hc : l.length ≤ c) (hb : okB l = true) (hl : l.length < 140737488355328) :
    Calls Try.prog 31 #[.slice A l.length c] w fun e w' => ∃ v : Value, e = .returned (.tuple #[.agg #[.int .i64 (takeEn l).1.1, .int .i64 (takeEn l).1.2.1, .int .i64 (takeEn l).1.2.2.1, v], .int .i64 (takeEn l).2]) ∧ Kd.S G.k36 36 w' w.heap.size (fun _ => True) v (takeEn l).1.2.2.2 ∧ Below w.heap.size w w' := by
  have h0 := heap_alloc_new w zEnt
  have s1 : (w.alloc zEnt).heap.size = w.heap.size + 1 := by simp
  have h1 := heap_alloc_new (w.alloc zEnt) (oEye A l.length c)
  have s2 : ((w.alloc zEnt).alloc (oEye A l.length c)).heap.size = w.heap.size + 1 + 1 := by simp
  have b1 := ((Below.refl _ w).alloc (Nat.le_refl _) zEnt).alloc (by simp) (oEye A l.length c)
  have g1 : ((w.alloc zEnt).alloc (oEye A l.length c)).heap[w.heap.size]? = some zEnt := by
    have := (Below.refl _ (w.alloc zEnt)).alloc (Nat.le_refl _) (oEye A l.length c)
    exact (this.block w.heap.size (by omega)).trans h0
  rw [s1] at h1
  go_enter Try.func31, Try.ntmps31
  go_wp2_with fail
  obtain ⟨w2, hw2⟩ : ∃ w2, (w.alloc zEnt).alloc (oEye A l.length c) = w2 := ⟨_, rfl⟩
  obtain ⟨x, hx⟩ : ∃ x, w.heap.size + 1 = x := ⟨_, rfl⟩
  rw [hw2] at h1 s2 b1 g1 ⊢
  rw [hx] at h1 s1 s2 ⊢
  have HI := Lib.hid (show IsEye w w2 x ⟨l, 0, false⟩ from ⟨A, c, h1, by omega, hc, hr⟩)
  have HX := Lib.hid hx; have HS2 := Lib.hid s2; have HB2 := Lib.hid b1; have HG2 := Lib.hid g1
  have HN := Lib.hid (eEntry_is HI.out HB2.out (s := ⟨l, 0, false⟩) ⟨hb, hl⟩)
  obtain ⟨r, hr1⟩ : ∃ r, takeEn l = r := ⟨_, rfl⟩
  have hr2 := hr1
  unfold takeEn at hr2
  obtain ⟨y, hy⟩ : ∃ y, (eEntry ⟨l, 0, false⟩).1 = y := ⟨_, rfl⟩
  obtain ⟨s', hs'⟩ : ∃ s', (eEntry ⟨l, 0, false⟩).2 = s' := ⟨_, rfl⟩
  rw [hy, hs'] at hr2 HN
  obtain ⟨k, f, n, t⟩ := y
  simp only at hr2
  obtain ⟨er, her⟩ : ∃ er, eEnds s' (mayE k f n t) true = er := ⟨_, rfl⟩
  rw [her] at hr2
  have HER := Lib.hid her; have HR1 := Lib.hid hr1; have HR2 := Lib.hid hr2
  clear h0 s1 h1 s2 b1 g1 hw2 hx hy hs' hr2 hr1 her hr hc hb hl
  refine HN.out.mono ?_
  rintro e w3 ⟨v, rfl, hv, h1, h2, h3⟩
  obtain ⟨At, ct, rfl, htc, hC⟩ := Kd.S_reads hv
  simp only at hv hC htc
  have HZ2 := Lib.hid (show w.heap.size < w2.heap.size by have := HS2.out; have := HX.out; omega)
  have HV := Lib.hid (show Kd.S G.k36 36 w3 w.heap.size (fun k => k ≠ w.heap.size ∧ k < w3.heap.size) (.slice At t.length ct) t from Kd.S_mono (Kd.S_lower (Kd.S_bound hv) (Nat.le_of_lt HZ2.out)) (fun k hk => ⟨by have h7 := hk.2.1; have := HZ2.out; omega, hk.2.2.1⟩))
  have HC := Lib.hid hC
  have HI3 := Lib.hid h1; have HB3 := Lib.hid h2
  have HG3 := Lib.hid ((h3.block w.heap.size HZ2.out (by have := HX.out; omega)).trans HG2.out)
  have HZ3 := Lib.hid (Nat.lt_of_lt_of_le HZ2.out h3.size)
  clear hv hC htc h1 h2 h3 HN HI HB2 HG2
  go_wp2_with fail
  have hby := heap_alloc_new w3 (.cells #[.int .i64 k, .int .i64 f, .int .i64 n, .slice At t.length ct] 24)
  have hay := (Below.refl _ w3).alloc (Nat.le_refl _) (.cells #[.int .i64 k, .int .i64 f, .int .i64 n, .slice At t.length ct] 24)
  have hzy : (w3.alloc (.cells #[.int .i64 k, .int .i64 f, .int .i64 n, .slice At t.length ct] 24)).heap.size = w3.heap.size + 1 := by simp
  obtain ⟨w4, hw4⟩ : ∃ w4, w3.alloc (.cells #[.int .i64 k, .int .i64 f, .int .i64 n, .slice At t.length ct] 24) = w4 := ⟨_, rfl⟩
  rw [hw4] at hby hay hzy ⊢
  have HM := Lib.hid (mayEn_is k f n At ct t w4 (Kd.C_below HC.out hay))
  have HI4 := Lib.hid (HI3.out.below hay)
  have HB4 := Lib.hid (HB3.out.trans (hay.mono HB3.out.size))
  have HG4 := Lib.hid ((hay.block w.heap.size HZ3.out).trans HG3.out)
  have HV4 := Lib.hid (Kd.S_below HV.out hay)
  obtain ⟨g, hg⟩ : ∃ g, w3.heap.size = g := ⟨_, rfl⟩
  rw [hg] at hby hzy HV4 HZ3 ⊢
  have HY4 := Lib.hid hby
  have HZ4 := Lib.hid (show w.heap.size < g ∧ g < w4.heap.size ∧ x < w4.heap.size from ⟨HZ3.out, by omega, HI4.out.lt⟩)
  have d0 : w4.cell? ⟨g, 0, none⟩ = some (.int .i64 k) := by simp [World.cell?, HY4.out]
  have d1 : w4.cell? ⟨g, 1, none⟩ = some (.int .i64 f) := by simp [World.cell?, HY4.out]
  have d2 : w4.cell? ⟨g, 2, none⟩ = some (.int .i64 n) := by simp [World.cell?, HY4.out]
  have d3 : w4.cell? ⟨g, 3, none⟩ = some (.slice At t.length ct) := by simp [World.cell?, HY4.out]
  clear hw4 hg hby hay hzy HI3 HB3 HG3 HV HC
  go_wp2_with fail
  refine HM.out.mono ?_
  rintro e w5 ⟨rfl, hb5⟩
  have HI5 := Lib.hid (HI4.out.below hb5)
  have HE := Lib.hid (eEnds_is HI5.out (mayE k f n t) true)
  rw [HER.out] at HE
  have HB5 := Lib.hid (HB4.out.trans (hb5.mono HB4.out.size))
  have HG5 := Lib.hid ((hb5.block w.heap.size (by have := HZ4.out; omega)).trans HG4.out)
  have HY5 := Lib.hid ((hb5.block g HZ4.out.2.1).trans HY4.out)
  have HV5 := Lib.hid (Kd.S_below HV4.out hb5)
  clear hb5 d0 d1 d2 d3 HI4 HB4 HG4 HY4 HV4 HM
  go_wp2_with fail
  refine HE.out.mono ?_
  rintro e w6 ⟨rfl, rfl⟩
  have d0 : w6.cell? ⟨g, 0, none⟩ = some (.int .i64 k) := by simp [World.cell?, HY5.out]
  have d1 : w6.cell? ⟨g, 1, none⟩ = some (.int .i64 f) := by simp [World.cell?, HY5.out]
  have d2 : w6.cell? ⟨g, 2, none⟩ = some (.int .i64 n) := by simp [World.cell?, HY5.out]
  have d3 : w6.cell? ⟨g, 3, none⟩ = some (.slice At t.length ct) := by simp [World.cell?, HY5.out]
  have x0 : w6.cell? ⟨w.heap.size, 0, none⟩ = some (.int .i64 0) := by simp [World.cell?, HG5.out]
  have x1 : w6.cell? ⟨w.heap.size, 1, none⟩ = some (.int .i64 0) := by simp [World.cell?, HG5.out]
  have x2 : w6.cell? ⟨w.heap.size, 2, none⟩ = some (.int .i64 0) := by simp [World.cell?, HG5.out]
  have x3 : w6.cell? ⟨w.heap.size, 3, none⟩ = some (.slice none 0 0) := by simp [World.cell?, HG5.out]
  have y0 : w6.frozen? ⟨w.heap.size, 0, none⟩ = false := by simp [World.frozen?, HG5.out]
  have y1 : w6.frozen? ⟨w.heap.size, 1, none⟩ = false := by simp [World.frozen?, HG5.out]
  have y2 : w6.frozen? ⟨w.heap.size, 2, none⟩ = false := by simp [World.frozen?, HG5.out]
  have y3 : w6.frozen? ⟨w.heap.size, 3, none⟩ = false := by simp [World.frozen?, HG5.out]
  have HGN : w.heap.size ≠ g := by have := HZ4.out; omega
  by_cases he : er = 0
  · have hq : (er != 0) = false := by rw [he]; rfl
    have HR := Lib.hid (show takeEn l = ((k, f, n, t), 0) by rw [HR1.out, ← HR2.out, if_pos he])
    clear he
    go_wp2_with fail
    have HEB := Lib.hid (blk_put (cs := #[.int .i64 k, .int .i64 f, .int .i64 n, .slice none 0 0]) (blk_put (cs := #[.int .i64 k, .int .i64 f, .int .i64 0, .slice none 0 0]) (blk_put (cs := #[.int .i64 k, .int .i64 0, .int .i64 0, .slice none 0 0]) (blk_put (cs := #[.int .i64 0, .int .i64 0, .int .i64 0, .slice none 0 0]) (HG5.out) 0 (.int .i64 k) rfl) 1 (.int .i64 f) rfl) 2 (.int .i64 n) rfl) 3 (.slice At t.length ct) rfl)
    have HKS := Lib.hid ((((((KeepS.refl (fun i => i = w.heap.size) w6)).set (p := ⟨w.heap.size, 0, none⟩) (.inl rfl) (.int .i64 k)).set (p := ⟨w.heap.size, 1, none⟩) (.inl rfl) (.int .i64 f)).set (p := ⟨w.heap.size, 2, none⟩) (.inl rfl) (.int .i64 n)).set (p := ⟨w.heap.size, 3, none⟩) (.inl rfl) (.slice At t.length ct))
    obtain ⟨W, hW⟩ : ∃ W, ((((w6).setCell ⟨w.heap.size, 0, none⟩ (.int .i64 k)).setCell ⟨w.heap.size, 1, none⟩ (.int .i64 f)).setCell ⟨w.heap.size, 2, none⟩ (.int .i64 n)).setCell ⟨w.heap.size, 3, none⟩ (.slice At t.length ct) = W := ⟨_, rfl⟩
    rw [hW] at HEB HKS ⊢
    clear hW
    refine bodyPost_ret (results_ct rfl _ _ w.heap.size 24 #[.int .i64 k, .int .i64 f, .int .i64 n, .slice At t.length ct] (0, 0) _ rfl HEB.out Try.underlying24 rfl (by kernel_rfl)) rfl ?_
    rw [HR.out]
    refine ⟨_, rfl, Kd.S_mono (Kd.S_step HV5.out (fun k hk hlt => HKS.out.block k hlt hk.1)) (fun _ _ => trivial), HB5.out.trans (HKS.out.below (B := w.heap.size) HB5.out.size (by rintro i rfl; exact Nat.le_refl _))⟩
  · have hq : (er != 0) = true := bne_iff_ne.2 he
    have HR := Lib.hid (show takeEn l = ((0, 0, 0, []), er) by rw [HR1.out, ← HR2.out, if_neg he])
    clear he
    go_wp2_with fail
    have HEB := Lib.hid (blk_put (cs := #[.int .i64 0, .int .i64 0, .int .i64 0, .slice none 0 0]) (blk_put (cs := #[.int .i64 0, .int .i64 0, .int .i64 0, .slice none 0 0]) (blk_put (cs := #[.int .i64 0, .int .i64 0, .int .i64 0, .slice none 0 0]) (blk_put (cs := #[.int .i64 0, .int .i64 0, .int .i64 0, .slice none 0 0]) (HG5.out) 0 (.int .i64 0) rfl) 1 (.int .i64 0) rfl) 2 (.int .i64 0) rfl) 3 (.slice none 0 0) rfl)
    have HKS := Lib.hid ((((((KeepS.refl (fun i => i = w.heap.size) w6)).set (p := ⟨w.heap.size, 0, none⟩) (.inl rfl) (.int .i64 0)).set (p := ⟨w.heap.size, 1, none⟩) (.inl rfl) (.int .i64 0)).set (p := ⟨w.heap.size, 2, none⟩) (.inl rfl) (.int .i64 0)).set (p := ⟨w.heap.size, 3, none⟩) (.inl rfl) (.slice none 0 0))
    obtain ⟨W, hW⟩ : ∃ W, ((((w6).setCell ⟨w.heap.size, 0, none⟩ (.int .i64 0)).setCell ⟨w.heap.size, 1, none⟩ (.int .i64 0)).setCell ⟨w.heap.size, 2, none⟩ (.int .i64 0)).setCell ⟨w.heap.size, 3, none⟩ (.slice none 0 0) = W := ⟨_, rfl⟩
    rw [hW] at HEB HKS ⊢
    clear hW
    refine bodyPost_ret (results_ct rfl _ _ w.heap.size 24 #[.int .i64 0, .int .i64 0, .int .i64 0, .slice none 0 0] (0, 0) _ rfl HEB.out Try.underlying24 rfl (by kernel_rfl)) rfl ?_
    rw [HR.out]
    refine ⟨_, rfl, Kd.S_nil _ _ _ _ _, HB5.out.trans (HKS.out.below (B := w.heap.size) HB5.out.size (by rintro i rfl; exact Nat.le_refl _))⟩
end Go.Proofs.Ytgiefblcckikeaa.M
namespace Go.Proofs.Ytgiefblcckikeaa.G
open Go.RowKit Go.Proofs.YtgiefblcckikeaaW.PrintWords Go.Proofs.Ytgiefblcckikeaa.M
def record_TakeEntry.f (l0 : List Int) : Option (Int × Int × Int × List S36 × Int) := if okB l0 = true ∧ l0.length < 140737488355328 then some ((takeEn l0).1.1, (takeEn l0).1.2.1, (takeEn l0).1.2.2.1, (takeEn l0).1.2.2.2, (takeEn l0).2) else none
theorem record_TakeEntry.calls (A0 : Option Addr) (c0 : Nat) (l0 : List Int) (r1 r2 r3 : Int) (r4 : List S36) (r5 : Int) (w : World) (hr0 : Kd.C (Kd.int .u8) w A0 l0.length l0) (hc0 : l0.length ≤ c0) (h : record_TakeEntry.f l0 = some (r1, r2, r3, r4, r5)) :
    Calls Try.prog 31 #[.slice A0 l0.length c0] w fun e w' => ∃ v3_ : Value, e = .returned (.tuple #[.agg #[.int .i64 r1, .int .i64 r2, .int .i64 r3, v3_], .int .i64 r5]) ∧ Kd.S k36 36 w' w.heap.size (fun _ => True) v3_ r4 ∧ Below w.heap.size w w' := by
  unfold record_TakeEntry.f at h
  split at h
  · next hq =>
    simp only [Option.some.injEq, Prod.mk.injEq] at h
    obtain ⟨rfl, rfl, rfl, rfl, rfl⟩ := h
    exact takeEn_is A0 c0 l0 w hr0 hc0 hq.1 hq.2
  · cases h
end Go.Proofs.Ytgiefblcckikeaa.G
end

section

/- law04's begun returns true (by hand: the printed walk is long). -/
set_option maxRecDepth 100000
set_option linter.unusedVariables false
set_option linter.unusedSimpArgs false
attribute [local irreducible] Go.wpStill
namespace Go.Proofs.Ytgiefblcckikeaa.M
open Go.RowKit Go.Proofs.YtgiefblcckikeaaW.PrintWords Go.Proofs.YtgiefblcckikeaaW.PrintLast Go.Proofs.YtgiefblcckikeaaW.PrintMore Go.Proofs.Ytgiefblcckikeaa.G
abbrev bgT : List TxD := [(⟨1, 3, [], [], [], []⟩ : TxD)]
abbrev bgB : List Int := [2, 1, 2, 2, 2, 5, 2, 1, 2, 1, 2, 3, 0, 0, 0, 0]
theorem bg_entF : entF 1 2 5 bgT = (bgB, 0) := by decide +kernel
theorem bg_take : takeEn bgB = ((1, 2, 5, bgT), 0) := by kernel_rfl
theorem bg_same : ∃ k, G.trivetref04_SameEntry.f k 1 2 5 bgT 1 2 5 bgT = some true := by
  refine ⟨20, ?_⟩
  rw [sameEn_r 20 1 2 5 bgT 1 2 5 bgT (fun t ht => by rw [List.mem_singleton.1 ht]; decide) (by decide) (by decide) (fun t ht => by rw [List.mem_singleton.1 ht]; exact ⟨by decide, by decide, by decide, by decide⟩)]
  have : eqEn 1 2 5 bgT 1 2 5 bgT = true := by kernel_rfl
  rw [this]
set_option maxHeartbeats 1000000 in
theorem begun_is (w : World) : Calls Try.prog 7 #[] w fun e w' => e = .returned (.bool true) ∧ Below w.heap.size w w' := by
  go_enter Try.func7, Try.ntmps7
  go_wp2_with fail
  refine (G.trivetlaw04_simple.calls 1 2 5 bgT bgB w rfl).mono ?_
  rintro e w1 ⟨v3, v4, rfl, hs, hr, hb⟩
  obtain ⟨A, c, rfl, hc, hC⟩ := Kd.S_reads hs
  obtain ⟨B, d, rfl⟩ := Kd.R_slice hr
  obtain ⟨-, hd, hD⟩ := Kd.R_reads' hr
  obtain ⟨l, hl⟩ : ∃ l, bgT = l := ⟨_, rfl⟩
  obtain ⟨bs, hbs⟩ : ∃ bs, bgB = bs := ⟨_, rfl⟩
  have hEF := bg_entF; have hTK := bg_take; obtain ⟨K, hSM⟩ := bg_same
  have ho : okE 1 2 5 bgT = true := by kernel_rfl
  have hok : okB bgB = true := by decide
  have hbl : bgB.length < 140737488355328 := by decide
  rw [hl, hbs] at hEF hTK
  rw [hl] at hSM ho hc hC
  rw [hbs] at hok hbl hd hD
  rw [show (bgT).length = l.length by rw [hl], show (bgB).length = bs.length by rw [hbs]]
  have HC := Lib.hid hC; have HD := Lib.hid hD; have HB := Lib.hid hb; have HCC := Lib.hid (And.intro hc hd)
  have HEF := Lib.hid hEF; have HTK := Lib.hid hTK; have HSM := Lib.hid hSM; have HO := Lib.hid (And.intro ho (And.intro hok hbl))
  clear hs hr hb hC hD hc hd hl hbs hEF hTK hSM ho hok hbl
  go_wp2_with fail
  have hbx := heap_alloc_new w1 (.cells #[.int .i64 1, .int .i64 2, .int .i64 5, .slice A l.length c] 24)
  have hay := (Below.refl _ w1).alloc (Nat.le_refl _) (.cells #[.int .i64 1, .int .i64 2, .int .i64 5, .slice A l.length c] 24)
  have hz : (w1.alloc (.cells #[.int .i64 1, .int .i64 2, .int .i64 5, .slice A l.length c] 24)).heap.size = w1.heap.size + 1 := by simp
  obtain ⟨w2, hw2⟩ : ∃ w2, w1.alloc (.cells #[.int .i64 1, .int .i64 2, .int .i64 5, .slice A l.length c] 24) = w2 := ⟨_, rfl⟩
  rw [hw2] at hbx hay hz ⊢
  obtain ⟨g, hg⟩ : ∃ g, w1.heap.size = g := ⟨_, rfl⟩
  have HC2 := Lib.hid (Kd.C_below HC.out hay); have HD2 := Lib.hid (Kd.C_below HD.out hay); have HB2 := Lib.hid (HB.out.trans (hay.mono HB.out.size))
  rw [hg] at hbx hz ⊢
  have HX2 := Lib.hid (And.intro hbx (show g < w2.heap.size by omega))
  clear hw2 hbx hay hz hg HC HD HB
  have a0 : w2.cell? ⟨g, 0, none⟩ = some (.int .i64 1) := by simp [World.cell?, HX2.out.1]
  have a1 : w2.cell? ⟨g, 1, none⟩ = some (.int .i64 2) := by simp [World.cell?, HX2.out.1]
  have a2 : w2.cell? ⟨g, 2, none⟩ = some (.int .i64 5) := by simp [World.cell?, HX2.out.1]
  have a3 : w2.cell? ⟨g, 3, none⟩ = some (.slice A l.length c) := by simp [World.cell?, HX2.out.1]
  go_wp2_with fail
  refine (entry_is 1 2 5 A c l w2 HC2.out HO.out.1).mono ?_
  rw [HEF.out]
  rintro e w3 ⟨v, rfl, hv, hb⟩
  obtain ⟨V, cv, rfl⟩ := Kd.R_slice hv
  obtain ⟨-, hvl, hV⟩ := Kd.R_reads' hv
  have HV := Lib.hid (show Kd.C (Kd.int .u8) w3 V bs.length bs from hV); have HVL := Lib.hid (show bs.length ≤ cv from hvl)
  have HC3 := Lib.hid (Kd.C_below HC2.out hb); have HD3 := Lib.hid (Kd.C_below HD2.out hb); have HB3 := Lib.hid (HB2.out.trans (hb.mono HB2.out.size))
  have HX3 := Lib.hid (And.intro ((hb.block g HX2.out.2).trans HX2.out.1) (Nat.lt_of_lt_of_le HX2.out.2 hb.size))
  clear hv hvl hV hb a0 a1 a2 a3 HC2 HD2 HB2 HX2
  go_wp2_with fail
  refine (takeEn_is B d bs w3 HD3.out HCC.out.2 HO.out.2.1 HO.out.2.2).mono ?_
  rw [HTK.out]
  rintro e w4 ⟨v, rfl, hv, hb⟩
  obtain ⟨Y, cy, rfl, hyc, hY⟩ := Kd.S_reads hv
  have HY := Lib.hid (show Kd.C G.k36 w4 Y l.length l from hY); have HYC := Lib.hid (show l.length ≤ cy from hyc)
  have HC4 := Lib.hid (Kd.C_below HC3.out hb); have HD4 := Lib.hid (Kd.C_below HD3.out hb); have HV4 := Lib.hid (Kd.C_below HV.out hb); have HB4 := Lib.hid (HB3.out.trans (hb.mono HB3.out.size))
  have HX4 := Lib.hid (And.intro ((hb.block g HX3.out.2).trans HX3.out.1) (Nat.lt_of_lt_of_le HX3.out.2 hb.size))
  clear hv hyc hY hb HC3 HD3 HB3 HX3 HV
  go_wp2_with fail
  have hbx := heap_alloc_new w4 (.cells #[.int .i64 1, .int .i64 2, .int .i64 5, .slice Y l.length cy] 24)
  have hay := (Below.refl _ w4).alloc (Nat.le_refl _) (.cells #[.int .i64 1, .int .i64 2, .int .i64 5, .slice Y l.length cy] 24)
  obtain ⟨w5, hw5⟩ : ∃ w5, w4.alloc (.cells #[.int .i64 1, .int .i64 2, .int .i64 5, .slice Y l.length cy] 24) = w5 := ⟨_, rfl⟩
  rw [hw5] at hbx hay ⊢
  obtain ⟨g2, hg2⟩ : ∃ g2, w4.heap.size = g2 := ⟨_, rfl⟩
  have HC5 := Lib.hid (Kd.C_below HC4.out hay); have HD5 := Lib.hid (Kd.C_below HD4.out hay); have HV5 := Lib.hid (Kd.C_below HV4.out hay); have HY5 := Lib.hid (Kd.C_below HY.out hay); have HB5 := Lib.hid (HB4.out.trans (hay.mono HB4.out.size))
  have HX5 := Lib.hid ((hay.block g HX4.out.2).trans HX4.out.1)
  rw [hg2] at hbx ⊢
  have HG5 := Lib.hid hbx
  clear hw5 hbx hay hg2 HC4 HD4 HB4 HX4 HV4 HY
  have a0 : w5.cell? ⟨g, 0, none⟩ = some (.int .i64 1) := by simp [World.cell?, HX5.out]
  have a1 : w5.cell? ⟨g, 1, none⟩ = some (.int .i64 2) := by simp [World.cell?, HX5.out]
  have a2 : w5.cell? ⟨g, 2, none⟩ = some (.int .i64 5) := by simp [World.cell?, HX5.out]
  have a3 : w5.cell? ⟨g, 3, none⟩ = some (.slice A l.length c) := by simp [World.cell?, HX5.out]
  have b0 : w5.cell? ⟨g2, 0, none⟩ = some (.int .i64 1) := by simp [World.cell?, HG5.out]
  have b1 : w5.cell? ⟨g2, 1, none⟩ = some (.int .i64 2) := by simp [World.cell?, HG5.out]
  have b2 : w5.cell? ⟨g2, 2, none⟩ = some (.int .i64 5) := by simp [World.cell?, HG5.out]
  have b3 : w5.cell? ⟨g2, 3, none⟩ = some (.slice Y l.length cy) := by simp [World.cell?, HG5.out]
  go_wp2_with fail
  refine (G.bytes_Equal.calls V cv bs B d bs true w5 HV5.out HVL.out HD5.out HCC.out.2 (by unfold G.bytes_Equal.f; simp)).mono ?_
  rintro e w6 ⟨rfl, ⟨n, rfl⟩⟩
  go_wp2_with fail
  refine (G.trivetref04_SameEntry.calls K 1 2 5 A c l 1 2 5 Y cy l true _ (Kd.C_drewN HC5.out n) HCC.out.1 (Kd.C_drewN HY5.out n) HYC.out HSM.out).mono ?_
  rintro e w7 ⟨rfl, hb⟩
  have HB7 := Lib.hid (below_then (pw_below_drewN HB5.out n) hb)
  clear hb
  go_wp2_with fail
  go_ret
  exact ⟨rfl, HB7.out⟩
end Go.Proofs.Ytgiefblcckikeaa.M
namespace Go.Proofs.Ytgiefblcckikeaa.G
open Go.RowKit Go.Proofs.YtgiefblcckikeaaW.PrintWords Go.Proofs.Ytgiefblcckikeaa.M
def trivetlaw04_begun.f : Option Bool := some true
theorem trivetlaw04_begun.calls (r : Bool) (w : World) (h : trivetlaw04_begun.f = some r) :
    Calls Try.prog 7 #[] w fun e w' => e = .returned (.bool r) ∧ Below w.heap.size w w' := by
  obtain rfl := Option.some.inj h
  exact begun_is w
end Go.Proofs.Ytgiefblcckikeaa.G
end

section

/- TakeTxn (printed by gentaket04.py). -/
set_option maxRecDepth 100000
set_option linter.unusedVariables false
set_option linter.unusedSimpArgs false
attribute [local irreducible] Go.wpStill
namespace Go.Proofs.Ytgiefblcckikeaa.M
open Go.RowKit Go.Proofs.YtgiefblcckikeaaW.PrintWords Go.Proofs.YtgiefblcckikeaaW.PrintLast Go.Proofs.YtgiefblcckikeaaW.PrintMore Go.Proofs.Ytgiefblcckikeaa.G
def zeroTx : TxD := ⟨0, 0, [], [], [], []⟩
def takeTx (l : List Int) : TxD × Int × Int :=
  if eEnds (eTxn ⟨l, 0, false⟩).2 (mayT (eTxn ⟨l, 0, false⟩).1) false = 0 then ((eTxn ⟨l, 0, false⟩).1, (l.length : Int) - ((eTxn ⟨l, 0, false⟩).2.l.length : Int), 0)
  else (zeroTx, 0, eEnds (eTxn ⟨l, 0, false⟩).2 (mayT (eTxn ⟨l, 0, false⟩).1) false)
end Go.Proofs.Ytgiefblcckikeaa.M
namespace Go.Proofs.Ytgiefblcckikeaa.G
open Go.RowKit Go.Proofs.YtgiefblcckikeaaW.PrintWords Go.Proofs.Ytgiefblcckikeaa.M
def record_TakeTxn.f (l0 : List Int) : Option (Int × Int × List Int × List Int × List S93 × List S93 × Int × Int) := if okB l0 = true ∧ l0.length < 140737488355328 then some ((takeTx l0).1.f0, (takeTx l0).1.f1, (takeTx l0).1.f2, (takeTx l0).1.f3, (takeTx l0).1.f4, (takeTx l0).1.f5, (takeTx l0).2.1, (takeTx l0).2.2) else none
end Go.Proofs.Ytgiefblcckikeaa.G
end

section

/- A transaction's rows as a call's own. -/
set_option maxRecDepth 100000
set_option linter.unusedVariables false
set_option linter.unusedSimpArgs false
namespace Go.Proofs.Ytgiefblcckikeaa.M
open Go.RowKit Go.Proofs.YtgiefblcckikeaaW.PrintWords Go.Proofs.YtgiefblcckikeaaW.PrintLast Go.Proofs.YtgiefblcckikeaaW.PrintMore Go.Proofs.Ytgiefblcckikeaa.G
structure TxW (w : World) (lo : Nat) (t : TxD) (A2 : Option Addr) (c2 : Nat) (A3 : Option Addr) (c3 : Nat) (A4 : Option Addr) (c4 : Nat) (A5 : Option Addr) (c5 : Nat) : Prop where
  r2 : Kd.R (Kd.int .u8) 5 w lo (fun k => lo ≤ k) (.slice A2 t.f2.length c2) t.f2
  r3 : Kd.R (Kd.int .i64) 2 w lo (fun k => lo ≤ k) (.slice A3 t.f3.length c3) t.f3
  r4 : Kd.R G.k93 93 w lo (fun k => lo ≤ k) (.slice A4 t.f4.length c4) t.f4
  r5 : Kd.R G.k93 93 w lo (fun k => lo ≤ k) (.slice A5 t.f5.length c5) t.f5
theorem TxW.of {w : World} {lo : Nat} {t : TxD} {o2 o3 o4 o5 : Nat → Prop} {v2 v3 v4 v5 : Value} (h2 : Kd.R (Kd.int .u8) 5 w lo o2 v2 t.f2) (h3 : Kd.R (Kd.int .i64) 2 w lo o3 v3 t.f3) (h4 : Kd.R G.k93 93 w lo o4 v4 t.f4) (h5 : Kd.R G.k93 93 w lo o5 v5 t.f5) :
    ∃ A2 c2 A3 c3 A4 c4 A5 c5, v2 = .slice A2 t.f2.length c2 ∧ v3 = .slice A3 t.f3.length c3 ∧ v4 = .slice A4 t.f4.length c4 ∧ v5 = .slice A5 t.f5.length c5 ∧ TxW w lo t A2 c2 A3 c3 A4 c4 A5 c5 := by
  obtain ⟨A2, c2, rfl⟩ := Kd.R_slice h2
  obtain ⟨A3, c3, rfl⟩ := Kd.R_slice h3
  obtain ⟨A4, c4, rfl⟩ := Kd.R_slice h4
  obtain ⟨A5, c5, rfl⟩ := Kd.R_slice h5
  exact ⟨A2, c2, A3, c3, A4, c4, A5, c5, rfl, rfl, rfl, rfl, Kd.R_mono (Kd.R_bound h2) (fun k hk => hk.2.1), Kd.R_mono (Kd.R_bound h3) (fun k hk => hk.2.1), Kd.R_mono (Kd.R_bound h4) (fun k hk => hk.2.1), Kd.R_mono (Kd.R_bound h5) (fun k hk => hk.2.1)⟩
theorem TxW.keep {w w' : World} {lo : Nat} {t : TxD} {A2 A3 A4 A5 : Option Addr} {c2 c3 c4 c5 : Nat} (h : TxW w lo t A2 c2 A3 c3 A4 c4 A5 c5) {S : Nat → Prop} (hk : KeepS S w w') (hs : ∀ k, S k → k < lo) : TxW w' lo t A2 c2 A3 c3 A4 c4 A5 c5 :=
  have ho : ∀ i, lo ≤ i → ¬ S i := fun i h1 h2 => by have := hs i h2; omega
  ⟨R_keepO ho h.r2 hk, R_keepO ho h.r3 hk, R_keepO ho h.r4 hk, R_keepO ho h.r5 hk⟩
theorem TxW.below {w w' : World} {lo : Nat} {t : TxD} {A2 A3 A4 A5 : Option Addr} {c2 c3 c4 c5 : Nat} (h : TxW w lo t A2 c2 A3 c3 A4 c4 A5 c5) (hb : Below w.heap.size w w') : TxW w' lo t A2 c2 A3 c3 A4 c4 A5 c5 :=
  h.keep (KeepS.of_below (fun _ => False) hb) (fun _ h => h.elim)
theorem TxW.c {w : World} {lo : Nat} {t : TxD} {A2 A3 A4 A5 : Option Addr} {c2 c3 c4 c5 : Nat} (h : TxW w lo t A2 c2 A3 c3 A4 c4 A5 c5) : TxC w t A2 c2 A3 c3 A4 c4 A5 c5 :=
  ⟨(Kd.R_reads' h.r2).2.1, (Kd.R_reads' h.r2).2.2, (Kd.R_reads' h.r3).2.1, (Kd.R_reads' h.r3).2.2, (Kd.R_reads' h.r4).2.1, (Kd.R_reads' h.r4).2.2, (Kd.R_reads' h.r5).2.1, (Kd.R_reads' h.r5).2.2⟩
end Go.Proofs.Ytgiefblcckikeaa.M
end

section

/- A whole struct's load, at once. -/
namespace Go.Proofs.Ytgiefblcckikeaa.M
open Go
theorem exec_load_row {P : Program} {ρ : Operand → Value} {o : Oper} {w : World} {ty : TypeId} {x : Operand} {g t : Nat} {cs : Array Value} {fr : Nat × Nat} {d : TypeDesc} (ho : o.op = .load ty x) (hx : ρ x = .pointer (some ⟨g, 0, none⟩)) (hg : w.heap[g]? = some (.cells cs t fr))
    (hu : P.underlying ty = some d) (hd : (match d with | .struct _ | .array _ _ => true | _ => false) = true) (hi : (P.info? ty).map (·.size) = some cs.size) : (execOp ρ o).run P w = .ok (.value (.agg cs)) w := by
  unfold execOp
  simp only [ho, hx, Instr.loadAt, Instr.sureAddr, Sem.run_bind, Sem.run_pure, Result.andThen_ok, run_loadVar_row w g t ty cs fr d hg hu hd hi]
end Go.Proofs.Ytgiefblcckikeaa.M
end
