/- RecordOwnUptoSaid: contracts of the functions that the law goes through, put together in build order (part 4 of 7). -/
import Derived.Test.YtgiefblcckikeaaGreatPart2
import Derived.Laws.Rows
import Derived.WalkKit
import Derived.BigRegion
set_option linter.unusedVariables false
set_option linter.unusedSimpArgs false
set_option maxRecDepth 100000
section
/- Which messages are the same: record.SameMsg, the reference's SameMsg (printed by gensame04.py). -/
attribute [local irreducible] Go.wpStill
namespace Go.Proofs.YtgiefblcckikeaaGreat.M
open Go.RowKit Go.Proofs.YtgiefblcckikeaaGreatW.PrintWords Go.Proofs.YtgiefblcckikeaaGreatW.PrintLast Go.Proofs.YtgiefblcckikeaaGreatW.PrintMore Go.Proofs.YtgiefblcckikeaaGreat.G
theorem tr_get {w : World} {A : Option Addr} {n : Nat} {l : List TrD} (h : Kd.C G.k63 w A n l) {k : Nat} {x : TrD} (hk : l[k]? = some x) :
  ∃ ad A4 c4, A = some ad ∧ w.cell? (ad.add (k * 5)) = some (.int .i64 x.f0) ∧ w.cell? ⟨(ad.add (k * 5)).block, (ad.add (k * 5)).off + 1, none⟩ = some (.int .i64 x.f1.f0) ∧ w.cell? ⟨(ad.add (k * 5)).block, (ad.add (k * 5)).off + 2, none⟩ = some (.int .i64 x.f1.f1) ∧ w.cell? ⟨(ad.add (k * 5)).block, (ad.add (k * 5)).off + 3, none⟩ = some (.int .i64 x.f1.f2) ∧ w.cell? ⟨(ad.add (k * 5)).block, (ad.add (k * 5)).off + 4, none⟩ = some (.slice A4 x.f1.f3.length c4) ∧ x.f1.f3.length ≤ c4 ∧ G.k26.C w A4 x.f1.f3.length x.f1.f3 := by
 have hlt : k < n := by
  have := (List.getElem?_eq_some_iff.1 hk).1
  have := h.1
  omega
 obtain ⟨ad, A4, c4, rfl, h0, h1, h2, h3, h4, l4, g4⟩ := G.at_T63 h (k : Int) (by omega) (by omega)
 have e : G.rd_T63 l (k : Int) = x := by unfold G.rd_T63; rw [Int.toNat_natCast, List.getD_eq_getElem?_getD, hk]; rfl
 rw [e] at h0 h1 h2 h3 h4 l4 g4
 rw [Int.toNat_natCast] at h0 h1 h2 h3 h4
 exact ⟨ad, A4, c4, rfl, h0, h1, h2, h3, h4, l4, g4⟩
theorem refSameEn_is (k f n : Int) (A : Option Addr) (c : Nat) (l : List TxD) (k' f' n' : Int) (A' : Option Addr) (c' : Nat) (l' : List TxD) (w : World) (ha : Kd.C G.k26 w A l.length l) (hc : l.length ≤ c) (hb : Kd.C G.k26 w A' l'.length l') (hc' : l'.length ≤ c') :
  Calls Tryz.prog 27 #[.agg #[.int .i64 k, .int .i64 f, .int .i64 n, .slice A l.length c], .agg #[.int .i64 k', .int .i64 f', .int .i64 n', .slice A' l'.length c']] w fun e w' => e = .returned (.bool (eqEn k f n l k' f' n' l')) ∧ Below w.heap.size w w' := by
 obtain ⟨M, hM⟩ := bound_T l
 refine G.trivetref04_SameEntry.calls (M + l.length + 3) k f n A c l k' f' n' A' c' l' _ w ha hc hb hc' (sameEn_r _ k f n l k' f' n' l' (fun t ht => by have := hM t ht; omega) (by omega) ha.2.1 (fun t ht => ?_))
 obtain ⟨i, hi⟩ := List.getElem?_of_mem ht
 obtain ⟨ad, A2, c2, A3, c3, A4, c4, A5, c5, _, _, hX⟩ := tx_get ha hi
 exact hX.le
set_option maxHeartbeats 1000000 in
theorem sameTr1_is {w : World} (a b : TrD) {A B : Option Addr} {c d : Nat} (hc : a.f1.f3.length ≤ c) (ha : Kd.C G.k26 w A a.f1.f3.length a.f1.f3) (hd : b.f1.f3.length ≤ d) (hb : Kd.C G.k26 w B b.f1.f3.length b.f1.f3) :
  Calls Tryz.prog 145 #[.agg #[.int .i64 a.f0, .int .i64 a.f1.f0, .int .i64 a.f1.f1, .int .i64 a.f1.f2, .slice A a.f1.f3.length c], .agg #[.int .i64 b.f0, .int .i64 b.f1.f0, .int .i64 b.f1.f1, .int .i64 b.f1.f2, .slice B b.f1.f3.length d]] w fun e w' => e = .returned (.bool (eqTr a b)) ∧ Below w.heap.size w w' := by
 have HB := Lib.hid (show Below w.heap.size w ((w.alloc (.cells #[.int .i64 a.f0, .int .i64 a.f1.f0, .int .i64 a.f1.f1, .int .i64 a.f1.f2, .slice A a.f1.f3.length c] 63)).alloc (.cells #[.int .i64 b.f0, .int .i64 b.f1.f0, .int .i64 b.f1.f1, .int .i64 b.f1.f2, .slice B b.f1.f3.length d] 63)) from ((Below.refl _ _).alloc (Nat.le_refl _) _).alloc (by simp) _)
 have HE := Lib.hid (sameEn_is a.f1.f0 a.f1.f1 a.f1.f2 A c a.f1.f3 b.f1.f0 b.f1.f1 b.f1.f2 B d b.f1.f3 _ (Kd.C_below ha HB.out) (Kd.C_below hb HB.out))
 obtain ⟨q, hq⟩ : ∃ q, eqTr a b = q := ⟨_, rfl⟩
 have HQ := Lib.hid hq
 rw [hq]
 clear hq ha hb hc hd
 cases h0 : (a.f0 == b.f0) with
 | false =>
  have HV := Lib.hid (show q = false by rw [← HQ.out]; unfold eqTr; rw [h0, Bool.false_and])
  go_enter Tryz.func145, Tryz.ntmps145
  go_wp2_with fail
  go_ret
  exact ⟨by rw [HV.out]; rfl, HB.out⟩
 | true =>
  have HV := Lib.hid (show q = eqEn a.f1.f0 a.f1.f1 a.f1.f2 a.f1.f3 b.f1.f0 b.f1.f1 b.f1.f2 b.f1.f3 by rw [← HQ.out]; unfold eqTr; rw [h0, Bool.true_and])
  go_enter Tryz.func145, Tryz.ntmps145
  go_wp2_with fail
  refine HE.out.mono ?_
  rintro e w' ⟨rfl, hb⟩
  have HB2 := Lib.hid (HB.out.trans (hb.mono HB.out.size))
  clear hb
  go_wp2_with fail
  go_ret
  exact ⟨by rw [HV.out]; rfl, HB2.out⟩
set_option maxHeartbeats 1000000 in
theorem refSameTr_is {w : World} (a b : TrD) {A B : Option Addr} {c d : Nat} (hc : a.f1.f3.length ≤ c) (ha : Kd.C G.k26 w A a.f1.f3.length a.f1.f3) (hd : b.f1.f3.length ≤ d) (hb : Kd.C G.k26 w B b.f1.f3.length b.f1.f3) :
  Calls Tryz.prog 135 #[.agg #[.int .i64 a.f0, .int .i64 a.f1.f0, .int .i64 a.f1.f1, .int .i64 a.f1.f2, .slice A a.f1.f3.length c], .agg #[.int .i64 b.f0, .int .i64 b.f1.f0, .int .i64 b.f1.f1, .int .i64 b.f1.f2, .slice B b.f1.f3.length d]] w fun e w' => e = .returned (.bool (eqTr a b)) ∧ Below w.heap.size w w' := by
 have HB := Lib.hid (show Below w.heap.size w ((w.alloc (.cells #[.int .i64 a.f0, .int .i64 a.f1.f0, .int .i64 a.f1.f1, .int .i64 a.f1.f2, .slice A a.f1.f3.length c] 63)).alloc (.cells #[.int .i64 b.f0, .int .i64 b.f1.f0, .int .i64 b.f1.f1, .int .i64 b.f1.f2, .slice B b.f1.f3.length d] 63)) from ((Below.refl _ _).alloc (Nat.le_refl _) _).alloc (by simp) _)
 have HE := Lib.hid (refSameEn_is a.f1.f0 a.f1.f1 a.f1.f2 A c a.f1.f3 b.f1.f0 b.f1.f1 b.f1.f2 B d b.f1.f3 _ (Kd.C_below ha HB.out) hc (Kd.C_below hb HB.out) hd)
 obtain ⟨q, hq⟩ : ∃ q, eqTr a b = q := ⟨_, rfl⟩
 have HQ := Lib.hid hq
 rw [hq]
 clear hq ha hb hc hd
 cases h0 : (a.f0 == b.f0) with
 | false =>
  have HV := Lib.hid (show q = false by rw [← HQ.out]; unfold eqTr; rw [h0, Bool.false_and])
  go_enter Tryz.func135, Tryz.ntmps135
  go_wp2_with fail
  go_ret
  exact ⟨by rw [HV.out]; rfl, HB.out⟩
 | true =>
  have HV := Lib.hid (show q = eqEn a.f1.f0 a.f1.f1 a.f1.f2 a.f1.f3 b.f1.f0 b.f1.f1 b.f1.f2 b.f1.f3 by rw [← HQ.out]; unfold eqTr; rw [h0, Bool.true_and])
  go_enter Tryz.func135, Tryz.ntmps135
  go_wp2_with fail
  refine HE.out.mono ?_
  rintro e w' ⟨rfl, hb⟩
  have HB2 := Lib.hid (HB.out.trans (hb.mono HB.out.size))
  clear hb
  go_wp2_with fail
  go_ret
  exact ⟨by rw [HV.out]; rfl, HB2.out⟩
def eqfuncT_isI (a b : List TrD) (w : World) (i : Value) (wr : World) : Prop := ∃ k : Nat, i = .int .i64 k ∧ k ≤ a.length ∧ eqTrs a b = eqTrs (a.drop k) (b.drop k) ∧ Below w.heap.size w wr
set_option maxHeartbeats 1000000 in
theorem eqfuncT_is (A B : Option Addr) (c d : Nat) (a b : List TrD) (w : World) (ha : Kd.C G.k63 w A a.length a) (hb : Kd.C G.k63 w B b.length b) :
  Calls Tryz.prog 144 #[.slice A a.length c, .slice B b.length d, .func (.func 145) #[] #[]] w fun e w' => e = .returned (.bool (eqTrs a b)) ∧ Below w.heap.size w w' := by
 have hlm : a.length ≤ 9223372036854775807 := ha.2.1
 have HA := Lib.hid ha; have HB := Lib.hid hb
 clear ha hb
 by_cases hl : a.length = b.length
 ·have hlb : ((a.length : Int) != (b.length : Int)) = false := by rw [bne_eq_false_iff_eq]; omega
  have HL := Lib.hid hl
  clear hl
  go_enter Tryz.func144, Tryz.ntmps144
  go_wp2_with fail
  go_loopw [17] (fun i wr => eqfuncT_isI a b w i wr) (fun i _ => a.length - (intOf i).toNat)
  case atStart => exact ⟨0, rfl, Nat.zero_le _, rfl, Below.refl _ _⟩
  case round =>
   obtain ⟨k, rfl, hk, he, hb⟩ := hrel
   have HE := Lib.hid he; have HBr := Lib.hid hb
   clear he hb
   by_cases hlt : k < a.length
   ·obtain ⟨x, hx⟩ : ∃ x, a[k]? = some x := ⟨_, List.getElem?_eq_getElem hlt⟩
    obtain ⟨y, hy⟩ : ∃ y, b[k]? = some y := ⟨_, List.getElem?_eq_getElem (by have := HL.out; omega)⟩
    obtain ⟨ad, A4, c4, rfl, x0, x1, x2, x3, x4, lx, gx⟩ := tr_get (Kd.C_below HA.out HBr.out) hx
    obtain ⟨bd, B4, d4, rfl, y0, y1, y2, y3, y4, ly, gy⟩ := tr_get (Kd.C_below HB.out HBr.out) hy
    have HXX := Lib.hid (And.intro lx gx); have HYY := Lib.hid (And.intro ly gy)
    have HS := Lib.hid (eqTrs_take hx hy)
    have hkb : k < b.length := by have := HL.out; omega
    clear lx gx ly gy hx hy
    have zb : (bd.add (k * 5)).block < wr.heap.size := World.block_lt_of_cell? _ _ y0
    have HB2 := Lib.hid (show Below wr.heap.size wr ((wr.alloc (.cells #[.int .i64 x.f0, .int .i64 x.f1.f0, .int .i64 x.f1.f1, .int .i64 x.f1.f2, .slice A4 x.f1.f3.length c4] 63)).alloc (.cells #[.int .i64 y.f0, .int .i64 y.f1.f0, .int .i64 y.f1.f1, .int .i64 y.f1.f2, .slice B4 y.f1.f3.length d4] 63)) from ((Below.refl _ _).alloc (Nat.le_refl _) _).alloc (by simp) _)
    go_wp2_with fail
    refine (sameTr1_is x y HXX.out.1 (Kd.C_below HXX.out.2 HB2.out) HYY.out.1 (Kd.C_below HYY.out.2 HB2.out)).mono ?_
    rintro e w' ⟨rfl, hb⟩
    have HB3 := Lib.hid (HBr.out.trans ((HB2.out.trans (hb.mono HB2.out.size)).mono HBr.out.size))
    clear hb x0 x1 x2 x3 x4 y0 y1 y2 y3 y4 zb
    obtain ⟨q, hq⟩ : ∃ q, eqTr x y = q := ⟨_, rfl⟩
    have HQ := Lib.hid hq
    rw [hq]
    clear hq
    cases q with
    | true =>
     go_wp2_with fail
     go_roundw
     case rel => exact ⟨k + 1, by go_num, hlt, by rw [HE.out, HS.out, HQ.out, Bool.true_and], HB3.out⟩
     case measure => simp [intOf]; omega
    | false =>
     go_wp2_with fail
     go_ret
     exact ⟨by rw [HE.out, HS.out, HQ.out]; rfl, HB3.out⟩
   ·have HF := Lib.hid (show eqTrs a b = true by rw [HE.out, List.drop_of_length_le (by omega), List.drop_of_length_le (by have := HL.out; omega)]; rfl)
    go_wp2_with fail
    go_ret
    exact ⟨by rw [HF.out]; rfl, HBr.out⟩
 ·have hlb : ((a.length : Int) != (b.length : Int)) = true := by rw [bne_iff_ne]; omega
  have HF := Lib.hid (eqTrs_len hl)
  clear hl
  go_enter Tryz.func144, Tryz.ntmps144
  go_wp2_with fail
  go_ret
  exact ⟨by rw [HF.out]; rfl, Below.refl _ _⟩
def refSameTrs_isI (a b : List TrD) (w : World) (i : Value) (wr : World) : Prop := ∃ k : Nat, i = .int .i64 k ∧ k ≤ a.length ∧ eqTrs a b = eqTrs (a.drop k) (b.drop k) ∧ Below w.heap.size w wr
set_option maxHeartbeats 1000000 in
theorem refSameTrs_is (A B : Option Addr) (c d : Nat) (a b : List TrD) (w : World) (ha : Kd.C G.k63 w A a.length a) (hb : Kd.C G.k63 w B b.length b) :
  Calls Tryz.prog 64 #[.slice A a.length c, .slice B b.length d] w fun e w' => e = .returned (.bool (eqTrs a b)) ∧ Below w.heap.size w w' := by
 have hlm : a.length ≤ 9223372036854775807 := ha.2.1
 have HA := Lib.hid ha; have HB := Lib.hid hb
 clear ha hb
 by_cases hl : a.length = b.length
 ·have hlb : ((a.length : Int) != (b.length : Int)) = false := by rw [bne_eq_false_iff_eq]; omega
  have HL := Lib.hid hl
  clear hl
  go_enter Tryz.func64, Tryz.ntmps64
  go_wp2_with fail
  go_loopw [5] (fun i wr => refSameTrs_isI a b w i wr) (fun i _ => a.length - (intOf i).toNat)
  case atStart => exact ⟨0, rfl, Nat.zero_le _, rfl, Below.refl _ _⟩
  case round =>
   obtain ⟨k, rfl, hk, he, hb⟩ := hrel
   have HE := Lib.hid he; have HBr := Lib.hid hb
   clear he hb
   by_cases hlt : k < a.length
   ·obtain ⟨x, hx⟩ : ∃ x, a[k]? = some x := ⟨_, List.getElem?_eq_getElem hlt⟩
    obtain ⟨y, hy⟩ : ∃ y, b[k]? = some y := ⟨_, List.getElem?_eq_getElem (by have := HL.out; omega)⟩
    obtain ⟨ad, A4, c4, rfl, x0, x1, x2, x3, x4, lx, gx⟩ := tr_get (Kd.C_below HA.out HBr.out) hx
    obtain ⟨bd, B4, d4, rfl, y0, y1, y2, y3, y4, ly, gy⟩ := tr_get (Kd.C_below HB.out HBr.out) hy
    have HXX := Lib.hid (And.intro lx gx); have HYY := Lib.hid (And.intro ly gy)
    have HS := Lib.hid (eqTrs_take hx hy)
    have hkb : k < b.length := by have := HL.out; omega
    clear lx gx ly gy hx hy
    have zb : (bd.add (k * 5)).block < wr.heap.size := World.block_lt_of_cell? _ _ y0
    have HB2 := Lib.hid (show Below wr.heap.size wr wr.drew from (Below.refl _ _).drew)
    go_wp2_with fail
    refine wp_region_still_tail 8 (by kernel_rfl) (by kernel_rfl) ?_
    simp only [List.take_succ_cons, List.take_zero, List.drop_succ_cons, List.drop_zero]
    iterate 8 still_step
    refine wpStill_nil ?_
    change wpList _ _ _ _ _ wr.drew
    go_wp2_with fail
    refine (refSameTr_is x y HXX.out.1 (Kd.C_below HXX.out.2 HB2.out) HYY.out.1 (Kd.C_below HYY.out.2 HB2.out)).mono ?_
    rintro e w' ⟨rfl, hb⟩
    have HB3 := Lib.hid (HBr.out.trans ((HB2.out.trans (hb.mono HB2.out.size)).mono HBr.out.size))
    clear hb x0 x1 x2 x3 x4 y0 y1 y2 y3 y4 zb
    obtain ⟨q, hq⟩ : ∃ q, eqTr x y = q := ⟨_, rfl⟩
    have HQ := Lib.hid hq
    rw [hq]
    clear hq
    cases q with
    | true =>
     go_wp2_with fail
     go_roundw
     case rel => exact ⟨k + 1, by go_num, hlt, by rw [HE.out, HS.out, HQ.out, Bool.true_and], HB3.out⟩
     case measure => simp [intOf]; omega
    | false =>
     go_wp2_with fail
     go_ret
     exact ⟨by rw [HE.out, HS.out, HQ.out]; rfl, HB3.out⟩
   ·have HF := Lib.hid (show eqTrs a b = true by rw [HE.out, List.drop_of_length_le (by omega), List.drop_of_length_le (by have := HL.out; omega)]; rfl)
    go_wp2_with fail
    go_ret
    exact ⟨by rw [HF.out]; rfl, HBr.out⟩
 ·have hlb : ((a.length : Int) != (b.length : Int)) = true := by rw [bne_iff_ne]; omega
  have HF := Lib.hid (eqTrs_len hl)
  clear hl
  go_enter Tryz.func64, Tryz.ntmps64
  go_wp2_with fail
  go_ret
  exact ⟨by rw [HF.out]; rfl, Below.refl _ _⟩
theorem MsBox.cell {W : World} {b : Nat} {m : MsgD} {A8 A12 A16 : Option Addr} {c8 c12 c16 : Nat} (h : MsBox W b m A8 c8 A12 c12 A16 c16) : W.cell? ⟨b, 0, none⟩ = some (.int .i64 m.f0) ∧ W.cell? ⟨b, 1, none⟩ = some (.int .i64 m.f1) ∧ W.cell? ⟨b, 2, none⟩ = some (.int .i64 m.f2) ∧ W.cell? ⟨b, 3, none⟩ = some (.int .i64 m.f3) ∧ W.cell? ⟨b, 4, none⟩ = some (.int .i64 m.f4) ∧ W.cell? ⟨b, 5, none⟩ = some (.int .i64 m.f5) ∧ W.cell? ⟨b, 6, none⟩ = some (.int .i64 m.f6) ∧ W.cell? ⟨b, 7, none⟩ = some (.bool m.f7) ∧ W.cell? ⟨b, 8, none⟩ = some (.slice A8 m.f8.length c8) ∧ W.cell? ⟨b, 9, none⟩ = some (.int .i64 m.f9.f0) ∧ W.cell? ⟨b, 10, none⟩ = some (.int .i64 m.f9.f1) ∧ W.cell? ⟨b, 11, none⟩ = some (.int .i64 m.f9.f2) ∧ W.cell? ⟨b, 12, none⟩ = some (.slice A12 m.f9.f3.length c12) ∧ W.cell? ⟨b, 13, none⟩ = some (.int .i64 m.f10.f0) ∧ W.cell? ⟨b, 14, none⟩ = some (.int .i64 m.f10.f1) ∧ W.cell? ⟨b, 15, none⟩ = some (.int .i64 m.f10.f2) ∧ W.cell? ⟨b, 16, none⟩ = some (.slice A16 m.f10.f3.length c16) := ⟨(blk_cell h 0).trans rfl, (blk_cell h 1).trans rfl, (blk_cell h 2).trans rfl, (blk_cell h 3).trans rfl, (blk_cell h 4).trans rfl, (blk_cell h 5).trans rfl, (blk_cell h 6).trans rfl, (blk_cell h 7).trans rfl, (blk_cell h 8).trans rfl, (blk_cell h 9).trans rfl, (blk_cell h 10).trans rfl, (blk_cell h 11).trans rfl, (blk_cell h 12).trans rfl, (blk_cell h 13).trans rfl, (blk_cell h 14).trans rfl, (blk_cell h 15).trans rfl, (blk_cell h 16).trans rfl⟩
theorem MsBox.lt {W : World} {b : Nat} {m : MsgD} {A8 A12 A16 : Option Addr} {c8 c12 c16 : Nat} (h : MsBox W b m A8 c8 A12 c12 A16 c16) : b < W.heap.size := (Array.getElem?_eq_some_iff.1 h).1
theorem MsBox.below {W W' : World} {b : Nat} {m : MsgD} {A8 A12 A16 : Option Addr} {c8 c12 c16 : Nat} (h : MsBox W b m A8 c8 A12 c12 A16 c16) (hb : Below W.heap.size W W') : MsBox W' b m A8 c8 A12 c12 A16 c16 := (hb.block b h.lt).trans h
end Go.Proofs.YtgiefblcckikeaaGreat.M
end

section
/- record.CloneMsg (printed by genclone04c.py). -/
attribute [local irreducible] Go.wpStill
namespace Go.Proofs.YtgiefblcckikeaaGreat.M
open Go.RowKit Go.Proofs.YtgiefblcckikeaaGreatW.PrintWords Go.Proofs.YtgiefblcckikeaaGreatW.PrintLast Go.Proofs.YtgiefblcckikeaaGreatW.PrintMore Go.Proofs.YtgiefblcckikeaaGreat.G
def SmM (m : MsgD) : Prop := m.f8.length ≤ 1048576 ∧ (∀ x ∈ m.f8, SmE x.f1) ∧ SmE m.f9 ∧ m.f10.f3.length ≤ 1048576
def MsNew (w : World) (m : MsgD) (e : Ending) (w' : World) : Prop := ∃ (v8 v12 v16 : Value) (h1 h2 : Nat), e = .returned (.agg #[.int .i64 m.f0, .int .i64 m.f1, .int .i64 m.f2, .int .i64 m.f3, .int .i64 m.f4, .int .i64 m.f5, .int .i64 m.f6, .bool m.f7, v8, .int .i64 m.f9.f0, .int .i64 m.f9.f1, .int .i64 m.f9.f2, v12, .int .i64 m.f10.f0, .int .i64 m.f10.f1, .int .i64 m.f10.f2, v16]) ∧ h1 ≤ h2 ∧ Kd.S G.k63 63 w' w.heap.size (fun k => k < h1) v8 m.f8 ∧ Kd.S G.k26 26 w' w.heap.size (fun k => h1 ≤ k ∧ k < h2) v12 m.f9.f3 ∧ Kd.R (Kd.int .u8) 5 w' w.heap.size (fun k => h2 ≤ k) v16 m.f10.f3 ∧ Below w.heap.size w w'
def CmI (m : MsgD) (A8 : Option Addr) (c8 : Nat) (A12 : Option Addr) (c12 : Nat) (A16 : Option Addr) (c16 : Nat) (w W0 : World) (g : Nat) (v i : Value) (W : World) : Prop := ∃ k : Nat, i = .int .i64 (k : Int) ∧ k ≤ m.f8.length ∧ Kd.S G.k63 63 W W0.heap.size (fun _ => True) v (m.f8.take k) ∧ Bx w g (g + 1) 34 #[.int .i64 0, .int .i64 0, .int .i64 0, .int .i64 0, .int .i64 0, .int .i64 0, .int .i64 0, .bool false, .slice none 0 0, .int .i64 0, .int .i64 0, .int .i64 0, .slice none 0 0, .int .i64 0, .int .i64 0, .int .i64 0, .slice none 0 0] #[.int .i64 m.f0, .int .i64 m.f1, .int .i64 m.f2, .int .i64 m.f3, .int .i64 m.f4, .int .i64 m.f5, .int .i64 m.f6, .bool m.f7, .slice A8 m.f8.length c8, .int .i64 m.f9.f0, .int .i64 m.f9.f1, .int .i64 m.f9.f2, .slice A12 m.f9.f3.length c12, .int .i64 m.f10.f0, .int .i64 m.f10.f1, .int .i64 m.f10.f2, .slice A16 m.f10.f3.length c16] (fun _ => True) W ∧ Below W0.heap.size W0 W
set_option maxHeartbeats 4000000 in
theorem cloneMs_is {w : World} (m : MsgD) {A8 A12 A16 : Option Addr} {c8 c12 c16 : Nat} (hC : MsgC w m A8 c8 A12 c12 A16 c16) (hs : SmM m) :
  Calls Tryz.prog 36 #[.agg #[.int .i64 m.f0, .int .i64 m.f1, .int .i64 m.f2, .int .i64 m.f3, .int .i64 m.f4, .int .i64 m.f5, .int .i64 m.f6, .bool m.f7, .slice A8 m.f8.length c8, .int .i64 m.f9.f0, .int .i64 m.f9.f1, .int .i64 m.f9.f2, .slice A12 m.f9.f3.length c12, .int .i64 m.f10.f0, .int .i64 m.f10.f1, .int .i64 m.f10.f2, .slice A16 m.f10.f3.length c16]] w fun e w' => MsNew w m e w' := by
 have HC := Lib.hid hC; have HS := Lib.hid hs; have hlm : m.f8.length ≤ 1048576 := hs.1
 have HT0 := Lib.hid (Bx.start w 34 #[.int .i64 0, .int .i64 0, .int .i64 0, .int .i64 0, .int .i64 0, .int .i64 0, .int .i64 0, .bool false, .slice none 0 0, .int .i64 0, .int .i64 0, .int .i64 0, .slice none 0 0, .int .i64 0, .int .i64 0, .int .i64 0, .slice none 0 0] #[.int .i64 m.f0, .int .i64 m.f1, .int .i64 m.f2, .int .i64 m.f3, .int .i64 m.f4, .int .i64 m.f5, .int .i64 m.f6, .bool m.f7, .slice A8 m.f8.length c8, .int .i64 m.f9.f0, .int .i64 m.f9.f1, .int .i64 m.f9.f2, .slice A12 m.f9.f3.length c12, .int .i64 m.f10.f0, .int .i64 m.f10.f1, .int .i64 m.f10.f2, .slice A16 m.f10.f3.length c16])
 clear hC hs
 go_enter Tryz.func36, Tryz.ntmps36
 go_upto_region 1 with fail
 obtain ⟨g, hg⟩ : ∃ g, w.heap.size = g := ⟨_, rfl⟩
 obtain ⟨w0, hw⟩ : ∃ w0, (w.alloc (.cells #[.int .i64 m.f0, .int .i64 m.f1, .int .i64 m.f2, .int .i64 m.f3, .int .i64 m.f4, .int .i64 m.f5, .int .i64 m.f6, .bool m.f7, .slice A8 m.f8.length c8, .int .i64 m.f9.f0, .int .i64 m.f9.f1, .int .i64 m.f9.f2, .slice A12 m.f9.f3.length c12, .int .i64 m.f10.f0, .int .i64 m.f10.f1, .int .i64 m.f10.f2, .slice A16 m.f10.f3.length c16] 34)).alloc (.cells #[.int .i64 0, .int .i64 0, .int .i64 0, .int .i64 0, .int .i64 0, .int .i64 0, .int .i64 0, .bool false, .slice none 0 0, .int .i64 0, .int .i64 0, .int .i64 0, .slice none 0 0, .int .i64 0, .int .i64 0, .int .i64 0, .slice none 0 0] 34) = w0 := ⟨_, rfl⟩
 have HG := Lib.hid hg
 rw [hw] at HT0 ⊢
 rw [hg] at HT0 ⊢
 clear hw hg
 have d8 : w0.cell? ⟨g, 8, none⟩ = some (.slice A8 m.f8.length c8) := (blk_cell HT0.out.y 8).trans rfl
 have z8 : w0.frozen? ⟨g, 8, none⟩ = false := blk_frozen HT0.out.y 8
 go_wp2_with fail
 go_loopw [3, 9] (fun v i wr => CmI m A8 c8 A12 c12 A16 c16 w w0 g v i wr) (fun _ i _ => m.f8.length - (intOf i).toNat)
 case atStart => exact ⟨0, rfl, Nat.zero_le _, Kd.S_nil _ _ _ _ _, HT0.out, Below.refl _ _⟩
 case round =>
  obtain ⟨k, rfl, hk, hS, hT, hB⟩ := hrel
  obtain ⟨Av, cv, rfl⟩ := Kd.S_slice hS
  have HSS := Lib.hid hS; have HT := Lib.hid hT; have HB := Lib.hid hB
  clear hS hT hB d8 z8
  have hlt1 : (m.f8.take k).length = k := by rw [List.length_take]; omega
  rw [hlt1]
  rw [hlt1] at HSS
  clear hlt1
  by_cases hlt : k < m.f8.length
  ·obtain ⟨t, ht⟩ : ∃ t, m.f8[k]? = some t := ⟨_, List.getElem?_eq_getElem hlt⟩
   obtain ⟨ad, B, d, rfl, e0, e1, e2, e3, e4, hl, hX⟩ := tr_get (Kd.C_below HC.out.g8 HT.out.d) ht
   have HB1 := Lib.hid (show Below wr.heap.size wr (wr.alloc (.cells #[.int .i64 t.f0, .int .i64 t.f1.f0, .int .i64 t.f1.f1, .int .i64 t.f1.f2, .slice B t.f1.f3.length d] 63)).drew from ((Below.refl _ _).alloc (Nat.le_refl _) _).drew)
   have HTM := Lib.hid (show SmE t.f1 from HS.out.2.1 t (List.mem_of_getElem? ht))
   have HN := Lib.hid (cloneEn_is t.f1 hl (Kd.C_below hX HB1.out) HTM.out)
   have HEB := Lib.hid (show (wr.alloc (.cells #[.int .i64 t.f0, .int .i64 t.f1.f0, .int .i64 t.f1.f1, .int .i64 t.f1.f2, .slice B t.f1.f3.length d] 63)).drew.heap[wr.heap.size]? = some (.cells #[.int .i64 t.f0, .int .i64 t.f1.f0, .int .i64 t.f1.f1, .int .i64 t.f1.f2, .slice B t.f1.f3.length d] 63) from heap_alloc_new wr _)
   have HEZ := Lib.hid (show wr.heap.size < (wr.alloc (.cells #[.int .i64 t.f0, .int .i64 t.f1.f0, .int .i64 t.f1.f1, .int .i64 t.f1.f2, .slice B t.f1.f3.length d] 63)).drew.heap.size by show wr.heap.size < (wr.alloc _).heap.size; simp)
   have HTK := Lib.hid (show m.f8.take (k + 1) = m.f8.take k ++ [t] by rw [List.take_add_one, ht]; rfl)
   clear hX ht hl
   go_upto_region 5 with fail
   refine start_ (n := 10) (S := fun w' => w'.cell? ⟨wr.heap.size, 0, none⟩ = some (.int .i64 t.f0) ∧ w'.cell? ⟨wr.heap.size, 1, none⟩ = some (.int .i64 t.f1.f0) ∧ w'.cell? ⟨wr.heap.size, 2, none⟩ = some (.int .i64 t.f1.f1) ∧ w'.cell? ⟨wr.heap.size, 3, none⟩ = some (.int .i64 t.f1.f2) ∧ w'.cell? ⟨wr.heap.size, 4, none⟩ = some (.slice B t.f1.f3.length d)) (ds := []) #[false, false, false, false, false, false, false, false, false, false] (by kernel_rfl) rfl rfl (bc5 HEB.out) (fun hHeld => ?_)
   obtain ⟨wa, hwa⟩ : ∃ wa, (wr.alloc (.cells #[.int .i64 t.f0, .int .i64 t.f1.f0, .int .i64 t.f1.f1, .int .i64 t.f1.f2, .slice B t.f1.f3.length d] 63)).drew = wa := ⟨_, rfl⟩
   rw [hwa] at HB1 HN HEB HEZ hHeld ⊢
   clear hwa
   refine pure_ (i := 0) (N := some 13) (v := ?_) (a' := ?_) #[true, false, false, false, false, false, false, false, false, false] rfl rfl (by kernel_rfl) (fun _ _ _ h => h) (Or.inl ⟨by rfl, ?_⟩) ?_ ?_
   rotate_left
   ·intro w'
    go_simp
    try with_reducible rfl
   rotate_left
   ·simp only [Act.put, sq1, sq2, sq3, i64_w, i32_w]
    rfl
   refine pure_ (i := 1) (N := some 14) (v := ?_) (a' := ?_) #[true, true, false, false, false, false, false, false, false, false] rfl rfl (by kernel_rfl) (fun _ _ _ h => h) (Or.inl ⟨by rfl, ?_⟩) ?_ ?_
   rotate_left
   ·intro w'
    go_simp
    try with_reducible rfl
   rotate_left
   ·simp only [Act.put, sq1, sq2, sq3, i64_w, i32_w]
    rfl
   refine pure_ (i := 3) (N := some 16) (v := ?_) (a' := ?_) #[true, true, false, true, false, false, false, false, false, false] rfl rfl (by kernel_rfl) (fun _ _ _ h => h) (Or.inl ⟨by rfl, ?_⟩) ?_ ?_
   rotate_left
   ·intro w'
    go_simp
    try with_reducible rfl
   rotate_left
   ·simp only [Act.put, sq1, sq2, sq3, i64_w, i32_w]
    rfl
   refine take_ (i := 2) (N := some 15) (v := ?_) (a' := ?_) #[true, true, true, true, false, false, false, false, false, false] rfl rfl (by kernel_rfl) (fun _ _ _ h => h) (Or.inl ⟨by rfl, ?_⟩) hHeld ?_ ?_
   rotate_left
   ·intro w' hS
    go_simp
    try with_reducible rfl
   rotate_left
   ·simp only [Act.put, sq1, sq2, sq3, i64_w, i32_w]
    rfl
   refine take_ (i := 4) (N := some 17) (v := ?_) (a' := ?_) #[true, true, true, true, true, false, false, false, false, false] rfl rfl (by kernel_rfl) (fun _ _ _ h => h) (Or.inl ⟨by rfl, ?_⟩) hHeld ?_ ?_
   rotate_left
   ·intro w' hS
    go_simp
    try with_reducible rfl
   rotate_left
   ·simp only [Act.put, sq1, sq2, sq3, i64_w, i32_w]
    rfl
   refine one_ (i := 5) (N := some 18) #[true, true, true, true, true, true, false, false, false, false] rfl rfl (by kernel_rfl) (by decide) (fun K hK => ?_)
   go_simp
   refine HN.out.mono ?_
   rintro e w3 ⟨v_, rfl, hv, hb⟩
   obtain ⟨N, n, rfl⟩ := Kd.R_slice (Kd.S_R hv)
   have HBB := Lib.hid (HB1.out.trans (hb.mono HB1.out.size))
   have HZW := Lib.hid (show w0.heap.size ≤ wr.heap.size from HB.out.size)
   have HZ1 := Lib.hid (Nat.le_trans HZW.out HB1.out.size)
   have HEB3 := Lib.hid ((hb.block wr.heap.size HEZ.out).trans HEB.out)
   have RN := Lib.hid (show Kd.R G.k26 26 w3 w0.heap.size (fun k => wr.heap.size ≤ k) _ t.f1.f3 from Kd.R_mono (Kd.R_lower (Kd.R_bound (Kd.S_R hv)) HZ1.out) (fun k hk => Nat.le_trans HB1.out.size hk.2.1))
   have HS3 := Lib.hid (show Kd.S G.k63 63 w3 w0.heap.size (fun k => True ∧ ¬ wr.heap.size ≤ k) (.slice Av k cv) (m.f8.take k) from Kd.S_mono (Kd.S_step (Kd.S_bound HSS.out) (fun k hk2 hlt => HBB.out.block k hlt)) (fun k hk => ⟨trivial, by have := hk.2.2.1; omega⟩))
   have HOWN := Lib.hid (Kd.S_lt HSS.out)
   have HZ3 := Lib.hid (Nat.le_trans HZW.out HBB.out.size)
   have hkl : (m.f8.take k).length ≤ 1048576 := by rw [List.length_take]; omega
   clear hv hb e0 e1 e2 e3 e4
   refine hK.out _ _ (bc5 HEB3.out) (fun hHeld => ?_)
   clear hK K
   refine pure_ (i := 6) (N := some 19) (v := ?_) (a' := ?_) #[true, true, true, true, true, true, true, false, false, false] rfl rfl (by kernel_rfl) (fun _ _ _ h => h) (Or.inl ⟨by rfl, ?_⟩) ?_ ?_
   rotate_left
   ·intro w'
    go_simp
    try with_reducible rfl
   rotate_left
   ·simp only [Act.put, sq1, sq2, sq3, i64_w, i32_w]
    rfl
   refine one_ (i := 7) (N := some 20) #[true, true, true, true, true, true, true, true, false, false] rfl rfl (by kernel_rfl) (by decide) (fun K hK => ?_)
   refine value_ (w1 := ?_) (v := ?_) (by rfl) rfl ?_ ?_
   rotate_left 2
   ·go_simp
    constructor <;> rfl
   have HEB4 := Lib.hid (blk_alloc HEB3.out (.cells #[.int .i64 t.f0, .int .i64 t.f1.f0, .int .i64 t.f1.f1, .int .i64 t.f1.f2, .slice N t.f1.f3.length n] 63))
   refine hK.out _ _ (bc5 HEB4.out) (fun hHeld => ?_)
   clear hK K
   refine norm_ (a' := ?_) ?_ ?_
   rotate_left
   ·show Act.put _ (some 20) _ = _
    simp only [Act.put, sq1, sq2, sq3, i64_w, i32_w]
    rfl
   refine one_ (i := 8) (N := some 21) #[true, true, true, true, true, true, true, true, true, false] rfl rfl (by kernel_rfl) (by decide) (fun K hK => ?_)
   refine Kd.S_append_step G.k63 (w0 := w3) w0.heap.size (by rfl) (.tmp 13) (.tmp 20) 30 63 (.agg #[.int .i64 0, .int .i64 0, .int .i64 0, .int .i64 0, .slice none 0 0]) 56 rfl Tryz.underlying30 G.info63 rfl (by decide) (by omega) _ (m.f8.take k) t [.int .i64 t.f0, .int .i64 t.f1.f0, .int .i64 t.f1.f1, .int .i64 t.f1.f2, .slice N t.f1.f3.length n] (fun _ => True) (fun k => wr.heap.size ≤ k) rfl rfl (G.k63_mkM _ _ _ t RN.out) (fun k hk => ⟨trivial, fun e => by have := HOWN.out k e.symm; omega⟩) (fun _ _ => trivial) HS3.out (Below.refl _ _) HZ3.out (by omega) ?_
   intro v1 w5 ho hb5 hg5 hat
   rw [← HTK.out] at ho
   have HS5 := Lib.hid ho
   have HB5 := Lib.hid ((HB.out.trans (HBB.out.mono HB.out.size)).trans hb5)
   have HT5 := Lib.hid ((HT.out.below HBB.out).grow HT0.out.hz HT0.out.hz2 HT0.out.d.size hb5)
   have HEB5 := Lib.hid (show w5.heap[wr.heap.size]? = _ from (hg5.block wr.heap.size (by have := HEZ.out; have := HBB.out.size; exact Nat.lt_of_lt_of_le (Array.getElem?_eq_some_iff.1 HEB3.out).1 (Nat.le_refl _)) (fun e => by have := HOWN.out _ e.symm; omega)).trans HEB3.out)
   clear ho hb5 hg5 hat
   refine hK.out _ _ (bc5 HEB5.out) (fun hHeld => ?_)
   clear hK K
   refine norm_ (a' := ?_) ?_ ?_
   rotate_left
   ·show Act.put _ (some 21) _ = _
    simp only [Act.put, sq1, sq2, sq3, i64_w, i32_w]
    rfl
   refine pure_ (i := 9) (N := some 3) (v := ?_) (a' := ?_) #[true, true, true, true, true, true, true, true, true, true] rfl rfl (by kernel_rfl) (fun _ _ _ h => h) (Or.inl ⟨by rfl, ?_⟩) ?_ ?_
   rotate_left
   ·intro w'
    go_simp
    try with_reducible rfl
   rotate_left
   ·simp only [Act.put, sq1, sq2, sq3, i64_w, i32_w]
    rfl
   refine done_ (by kernel_rfl) ?_
   try go_wp2
   go_roundw
   case rel => exact ⟨k + 1, by go_num, hlt, HS5.out, HT5.out, HB5.out⟩
   case measure => simp [intOf]; omega
  ·have hkl : k = m.f8.length := by omega
   subst hkl
   rw [List.take_length] at HSS
   go_upto_region 7 with fail
   have HTL := Lib.hid ((HT.out.and ((Sv.of HSS.out HT0.out.d.size).held (fun k hk => by have h1 := HT0.out.hz; have h2 := HT0.out.hz2; rcases hk with rfl | rfl <;> omega))).drew)
   have HZL := Lib.hid (show w.heap.size ≤ w0.heap.size from HT0.out.d.size)
   clear HT HSS HB
   refine start_ (n := 15) (S := fun w' => w'.cell? ⟨g, 9, none⟩ = some (.int .i64 m.f9.f0) ∧ w'.cell? ⟨g, 10, none⟩ = some (.int .i64 m.f9.f1) ∧ w'.cell? ⟨g, 11, none⟩ = some (.int .i64 m.f9.f2) ∧ w'.cell? ⟨g, 12, none⟩ = some (.slice A12 m.f9.f3.length c12) ∧ w'.cell? ⟨g, 16, none⟩ = some (.slice A16 m.f10.f3.length c16)) (ds := [9, 11, 14]) #[false, false, false, false, false, false, false, false, false, false, false, false, false, false, false] (by kernel_rfl) rfl rfl ⟨(blk_cell HTL.out.y 9).trans rfl, (blk_cell HTL.out.y 10).trans rfl, (blk_cell HTL.out.y 11).trans rfl, (blk_cell HTL.out.y 12).trans rfl, (blk_cell HTL.out.y 16).trans rfl⟩ (fun hHeld => ?_)
   obtain ⟨wa, hwa⟩ : ∃ wa, wr.drew = wa := ⟨_, rfl⟩
   have HZA := Lib.hid (show wr.heap.size = wa.heap.size by rw [← hwa]; rfl)
   rw [hwa] at HTL hHeld ⊢
   clear hwa
   refine pure_ (i := 0) (N := some 23) (v := ?_) (a' := ?_) #[true, false, false, false, false, false, false, false, false, false, false, false, false, false, false] rfl rfl (by kernel_rfl) (fun _ _ _ h => h) (Or.inl ⟨by rfl, ?_⟩) ?_ ?_
   rotate_left
   ·intro w'
    go_simp
    try with_reducible rfl
   rotate_left
   ·simp only [Act.put, sq1, sq2, sq3, i64_w, i32_w]
    rfl
   refine pure_ (i := 1) (N := some 24) (v := ?_) (a' := ?_) #[true, true, false, false, false, false, false, false, false, false, false, false, false, false, false] rfl rfl (by kernel_rfl) (fun _ _ _ h => h) (Or.inl ⟨by rfl, ?_⟩) ?_ ?_
   rotate_left
   ·intro w'
    go_simp
    try with_reducible rfl
   rotate_left
   ·simp only [Act.put, sq1, sq2, sq3, i64_w, i32_w]
    rfl
   refine pure_ (i := 4) (N := some 27) (v := ?_) (a' := ?_) #[true, true, false, false, true, false, false, false, false, false, false, false, false, false, false] rfl rfl (by kernel_rfl) (fun _ _ _ h => h) (Or.inl ⟨by rfl, ?_⟩) ?_ ?_
   rotate_left
   ·intro w'
    go_simp
    try with_reducible rfl
   rotate_left
   ·simp only [Act.put, sq1, sq2, sq3, i64_w, i32_w]
    rfl
   refine pure_ (i := 5) (N := some 28) (v := ?_) (a' := ?_) #[true, true, false, false, true, true, false, false, false, false, false, false, false, false, false] rfl rfl (by kernel_rfl) (fun _ _ _ h => h) (Or.inl ⟨by rfl, ?_⟩) ?_ ?_
   rotate_left
   ·intro w'
    go_simp
    try with_reducible rfl
   rotate_left
   ·simp only [Act.put, sq1, sq2, sq3, i64_w, i32_w]
    rfl
   refine take_ (i := 2) (N := some 25) (v := ?_) (a' := ?_) #[true, true, true, false, true, true, false, false, false, false, false, false, false, false, false] rfl rfl (by kernel_rfl) (fun _ _ _ h => h) (Or.inl ⟨by rfl, ?_⟩) hHeld ?_ ?_
   rotate_left
   ·intro w' hS
    go_simp
    try with_reducible rfl
   rotate_left
   ·simp only [Act.put, sq1, sq2, sq3, i64_w, i32_w]
    rfl
   refine take_ (i := 6) (N := some 29) (v := ?_) (a' := ?_) #[true, true, true, false, true, true, true, false, false, false, false, false, false, false, false] rfl rfl (by kernel_rfl) (fun _ _ _ h => h) (Or.inl ⟨by rfl, ?_⟩) hHeld ?_ ?_
   rotate_left
   ·intro w' hS
    go_simp
    try with_reducible rfl
   rotate_left
   ·simp only [Act.put, sq1, sq2, sq3, i64_w, i32_w]
    rfl
   refine pure_ (i := 8) (N := some 31) (v := ?_) (a' := ?_) #[true, true, true, false, true, true, true, false, true, false, false, false, false, false, false] rfl rfl (by kernel_rfl) (fun _ _ _ h => h) (Or.inl ⟨by rfl, ?_⟩) ?_ ?_
   rotate_left
   ·intro w'
    go_simp
    try with_reducible rfl
   rotate_left
   ·simp only [Act.put, sq1, sq2, sq3, i64_w, i32_w]
    rfl
   refine one_ (i := 3) (N := some 26) #[true, true, true, true, true, true, true, false, true, false, false, false, false, false, false] rfl rfl (by kernel_rfl) (by decide) (fun K hK => ?_)
   go_simp
   refine (cloneEn_is (w := wa) m.f9 HC.out.l12 (Kd.C_below HC.out.g12 HTL.out.d) HS.out.2.2.1).mono ?_
   rintro e w1 ⟨v_, rfl, hv, hb⟩
   obtain ⟨N12, n12, rfl⟩ := Kd.R_slice (Kd.S_R hv)
   have HT1 := Lib.hid (HTL.out.callS hb hv)
   have HZ1 := Lib.hid hb.size
   clear hv hb HTL
   refine hK.out _ _ ⟨(blk_cell HT1.out.y 9).trans rfl, (blk_cell HT1.out.y 10).trans rfl, (blk_cell HT1.out.y 11).trans rfl, (blk_cell HT1.out.y 12).trans rfl, (blk_cell HT1.out.y 16).trans rfl⟩ (fun hHeld => ?_)
   clear hK K
   refine one_ (i := 7) (N := some 30) #[true, true, true, true, true, true, true, true, true, false, false, false, false, false, false] rfl rfl (by kernel_rfl) (by decide) (fun K hK => ?_)
   go_simp
   refine (bclone_calls A16 c16 m.f10.f3 w1 (Kd.C_below HC.out.g16 HT1.out.d) HC.out.l16 (by have := HS.out.2.2.2; omega)).mono ?_
   rintro e w2 ⟨v_, rfl, hv, hb⟩
   obtain ⟨N16, n16, rfl⟩ := Kd.R_slice hv
   have HT2 := Lib.hid (HT1.out.callR hb hv)
   have HZ2 := Lib.hid hb.size
   clear hv hb HT1
   refine hK.out _ _ ⟨(blk_cell HT2.out.y 9).trans rfl, (blk_cell HT2.out.y 10).trans rfl, (blk_cell HT2.out.y 11).trans rfl, (blk_cell HT2.out.y 12).trans rfl, (blk_cell HT2.out.y 16).trans rfl⟩ (fun hHeld => ?_)
   clear hK K
   have q8 : w2.cell? ⟨g, 8, none⟩ = some (.slice A8 m.f8.length c8) := (blk_cell HT2.out.y 8).trans rfl
   have z8 : w2.frozen? ⟨g, 8, none⟩ = false := blk_frozen HT2.out.y 8
   have q9 : w2.cell? ⟨g, 9, none⟩ = some (.int .i64 m.f9.f0) := (blk_cell HT2.out.y 9).trans rfl
   have z9 : w2.frozen? ⟨g, 9, none⟩ = false := blk_frozen HT2.out.y 9
   have q10 : w2.cell? ⟨g, 10, none⟩ = some (.int .i64 m.f9.f1) := (blk_cell HT2.out.y 10).trans rfl
   have z10 : w2.frozen? ⟨g, 10, none⟩ = false := blk_frozen HT2.out.y 10
   have q11 : w2.cell? ⟨g, 11, none⟩ = some (.int .i64 m.f9.f2) := (blk_cell HT2.out.y 11).trans rfl
   have z11 : w2.frozen? ⟨g, 11, none⟩ = false := blk_frozen HT2.out.y 11
   have q12 : w2.cell? ⟨g, 12, none⟩ = some (.slice A12 m.f9.f3.length c12) := (blk_cell HT2.out.y 12).trans rfl
   have z12 : w2.frozen? ⟨g, 12, none⟩ = false := blk_frozen HT2.out.y 12
   have q16 : w2.cell? ⟨g, 16, none⟩ = some (.slice A16 m.f10.f3.length c16) := (blk_cell HT2.out.y 16).trans rfl
   have z16 : w2.frozen? ⟨g, 16, none⟩ = false := blk_frozen HT2.out.y 16
   refine last_ (i := 9) (N := none) #[true, true, true, true, true, true, true, true, true, true, false, false, false, false, false] rfl rfl (by kernel_rfl) (by decide) (fun K hK => ?_)
   refine skip_ (w1 := ?_) (by rfl) rfl ?_ ?_
   rotate_left
   ·go_simp
    rfl
   refine hK.out _ _ ?_
   clear hK K
   refine pure_ (i := 10) (N := some 32) (v := ?_) (a' := ?_) #[true, true, true, true, true, true, true, true, true, true, true, false, false, false, false] rfl rfl (by kernel_rfl) (fun _ _ _ h => h) (Or.inl ⟨by rfl, ?_⟩) ?_ ?_
   rotate_left
   ·intro w'
    go_simp
    try with_reducible rfl
   rotate_left
   ·simp only [Act.put, sq1, sq2, sq3, i64_w, i32_w]
    rfl
   refine last_ (i := 11) (N := none) #[true, true, true, true, true, true, true, true, true, true, true, true, false, false, false] rfl rfl (by kernel_rfl) (by decide) (fun K hK => ?_)
   refine skip_ (w1 := ?_) (by rfl) rfl ?_ ?_
   rotate_left
   ·go_simp
    rfl
   refine hK.out _ _ ?_
   clear hK K
   refine pure_ (i := 12) (N := some 33) (v := ?_) (a' := ?_) #[true, true, true, true, true, true, true, true, true, true, true, true, true, false, false] rfl rfl (by kernel_rfl) (fun _ _ _ h => h) (Or.inl ⟨by rfl, ?_⟩) ?_ ?_
   rotate_left
   ·intro w'
    go_simp
    try with_reducible rfl
   rotate_left
   ·simp only [Act.put, sq1, sq2, sq3, i64_w, i32_w]
    rfl
   refine pure_ (i := 13) (N := some 34) (v := ?_) (a' := ?_) #[true, true, true, true, true, true, true, true, true, true, true, true, true, true, false] rfl rfl (by kernel_rfl) (fun _ _ _ h => h) (Or.inl ⟨by rfl, ?_⟩) ?_ ?_
   rotate_left
   ·intro w'
    go_simp
    try with_reducible rfl
   rotate_left
   ·simp only [Act.put, sq1, sq2, sq3, i64_w, i32_w]
    rfl
   refine last_ (i := 14) (N := none) #[true, true, true, true, true, true, true, true, true, true, true, true, true, true, true] rfl rfl (by kernel_rfl) (by decide) (fun K hK => ?_)
   refine skip_ (w1 := ?_) (by rfl) rfl ?_ ?_
   rotate_left
   ·go_simp
    rfl
   refine hK.out _ _ ?_
   clear hK K
   refine done_ (by kernel_rfl) ?_
   have HT3 := Lib.hid ((((((HT2.out.set 8 (.slice Av m.f8.length cv) #[.int .i64 m.f0, .int .i64 m.f1, .int .i64 m.f2, .int .i64 m.f3, .int .i64 m.f4, .int .i64 m.f5, .int .i64 m.f6, .bool m.f7, .slice Av m.f8.length cv, .int .i64 m.f9.f0, .int .i64 m.f9.f1, .int .i64 m.f9.f2, .slice A12 m.f9.f3.length c12, .int .i64 m.f10.f0, .int .i64 m.f10.f1, .int .i64 m.f10.f2, .slice A16 m.f10.f3.length c16] (blk_put HT2.out.y 8 _ rfl)).set 9 (.int .i64 m.f9.f0) #[.int .i64 m.f0, .int .i64 m.f1, .int .i64 m.f2, .int .i64 m.f3, .int .i64 m.f4, .int .i64 m.f5, .int .i64 m.f6, .bool m.f7, .slice Av m.f8.length cv, .int .i64 m.f9.f0, .int .i64 m.f9.f1, .int .i64 m.f9.f2, .slice A12 m.f9.f3.length c12, .int .i64 m.f10.f0, .int .i64 m.f10.f1, .int .i64 m.f10.f2, .slice A16 m.f10.f3.length c16] (blk_put (HT2.out.set 8 (.slice Av m.f8.length cv) #[.int .i64 m.f0, .int .i64 m.f1, .int .i64 m.f2, .int .i64 m.f3, .int .i64 m.f4, .int .i64 m.f5, .int .i64 m.f6, .bool m.f7, .slice Av m.f8.length cv, .int .i64 m.f9.f0, .int .i64 m.f9.f1, .int .i64 m.f9.f2, .slice A12 m.f9.f3.length c12, .int .i64 m.f10.f0, .int .i64 m.f10.f1, .int .i64 m.f10.f2, .slice A16 m.f10.f3.length c16] (blk_put HT2.out.y 8 _ rfl)).y 9 _ rfl)).set 10 (.int .i64 m.f9.f1) #[.int .i64 m.f0, .int .i64 m.f1, .int .i64 m.f2, .int .i64 m.f3, .int .i64 m.f4, .int .i64 m.f5, .int .i64 m.f6, .bool m.f7, .slice Av m.f8.length cv, .int .i64 m.f9.f0, .int .i64 m.f9.f1, .int .i64 m.f9.f2, .slice A12 m.f9.f3.length c12, .int .i64 m.f10.f0, .int .i64 m.f10.f1, .int .i64 m.f10.f2, .slice A16 m.f10.f3.length c16] (blk_put ((HT2.out.set 8 (.slice Av m.f8.length cv) #[.int .i64 m.f0, .int .i64 m.f1, .int .i64 m.f2, .int .i64 m.f3, .int .i64 m.f4, .int .i64 m.f5, .int .i64 m.f6, .bool m.f7, .slice Av m.f8.length cv, .int .i64 m.f9.f0, .int .i64 m.f9.f1, .int .i64 m.f9.f2, .slice A12 m.f9.f3.length c12, .int .i64 m.f10.f0, .int .i64 m.f10.f1, .int .i64 m.f10.f2, .slice A16 m.f10.f3.length c16] (blk_put HT2.out.y 8 _ rfl)).set 9 (.int .i64 m.f9.f0) #[.int .i64 m.f0, .int .i64 m.f1, .int .i64 m.f2, .int .i64 m.f3, .int .i64 m.f4, .int .i64 m.f5, .int .i64 m.f6, .bool m.f7, .slice Av m.f8.length cv, .int .i64 m.f9.f0, .int .i64 m.f9.f1, .int .i64 m.f9.f2, .slice A12 m.f9.f3.length c12, .int .i64 m.f10.f0, .int .i64 m.f10.f1, .int .i64 m.f10.f2, .slice A16 m.f10.f3.length c16] (blk_put (HT2.out.set 8 (.slice Av m.f8.length cv) #[.int .i64 m.f0, .int .i64 m.f1, .int .i64 m.f2, .int .i64 m.f3, .int .i64 m.f4, .int .i64 m.f5, .int .i64 m.f6, .bool m.f7, .slice Av m.f8.length cv, .int .i64 m.f9.f0, .int .i64 m.f9.f1, .int .i64 m.f9.f2, .slice A12 m.f9.f3.length c12, .int .i64 m.f10.f0, .int .i64 m.f10.f1, .int .i64 m.f10.f2, .slice A16 m.f10.f3.length c16] (blk_put HT2.out.y 8 _ rfl)).y 9 _ rfl)).y 10 _ rfl)).set 11 (.int .i64 m.f9.f2) #[.int .i64 m.f0, .int .i64 m.f1, .int .i64 m.f2, .int .i64 m.f3, .int .i64 m.f4, .int .i64 m.f5, .int .i64 m.f6, .bool m.f7, .slice Av m.f8.length cv, .int .i64 m.f9.f0, .int .i64 m.f9.f1, .int .i64 m.f9.f2, .slice A12 m.f9.f3.length c12, .int .i64 m.f10.f0, .int .i64 m.f10.f1, .int .i64 m.f10.f2, .slice A16 m.f10.f3.length c16] (blk_put (((HT2.out.set 8 (.slice Av m.f8.length cv) #[.int .i64 m.f0, .int .i64 m.f1, .int .i64 m.f2, .int .i64 m.f3, .int .i64 m.f4, .int .i64 m.f5, .int .i64 m.f6, .bool m.f7, .slice Av m.f8.length cv, .int .i64 m.f9.f0, .int .i64 m.f9.f1, .int .i64 m.f9.f2, .slice A12 m.f9.f3.length c12, .int .i64 m.f10.f0, .int .i64 m.f10.f1, .int .i64 m.f10.f2, .slice A16 m.f10.f3.length c16] (blk_put HT2.out.y 8 _ rfl)).set 9 (.int .i64 m.f9.f0) #[.int .i64 m.f0, .int .i64 m.f1, .int .i64 m.f2, .int .i64 m.f3, .int .i64 m.f4, .int .i64 m.f5, .int .i64 m.f6, .bool m.f7, .slice Av m.f8.length cv, .int .i64 m.f9.f0, .int .i64 m.f9.f1, .int .i64 m.f9.f2, .slice A12 m.f9.f3.length c12, .int .i64 m.f10.f0, .int .i64 m.f10.f1, .int .i64 m.f10.f2, .slice A16 m.f10.f3.length c16] (blk_put (HT2.out.set 8 (.slice Av m.f8.length cv) #[.int .i64 m.f0, .int .i64 m.f1, .int .i64 m.f2, .int .i64 m.f3, .int .i64 m.f4, .int .i64 m.f5, .int .i64 m.f6, .bool m.f7, .slice Av m.f8.length cv, .int .i64 m.f9.f0, .int .i64 m.f9.f1, .int .i64 m.f9.f2, .slice A12 m.f9.f3.length c12, .int .i64 m.f10.f0, .int .i64 m.f10.f1, .int .i64 m.f10.f2, .slice A16 m.f10.f3.length c16] (blk_put HT2.out.y 8 _ rfl)).y 9 _ rfl)).set 10 (.int .i64 m.f9.f1) #[.int .i64 m.f0, .int .i64 m.f1, .int .i64 m.f2, .int .i64 m.f3, .int .i64 m.f4, .int .i64 m.f5, .int .i64 m.f6, .bool m.f7, .slice Av m.f8.length cv, .int .i64 m.f9.f0, .int .i64 m.f9.f1, .int .i64 m.f9.f2, .slice A12 m.f9.f3.length c12, .int .i64 m.f10.f0, .int .i64 m.f10.f1, .int .i64 m.f10.f2, .slice A16 m.f10.f3.length c16] (blk_put ((HT2.out.set 8 (.slice Av m.f8.length cv) #[.int .i64 m.f0, .int .i64 m.f1, .int .i64 m.f2, .int .i64 m.f3, .int .i64 m.f4, .int .i64 m.f5, .int .i64 m.f6, .bool m.f7, .slice Av m.f8.length cv, .int .i64 m.f9.f0, .int .i64 m.f9.f1, .int .i64 m.f9.f2, .slice A12 m.f9.f3.length c12, .int .i64 m.f10.f0, .int .i64 m.f10.f1, .int .i64 m.f10.f2, .slice A16 m.f10.f3.length c16] (blk_put HT2.out.y 8 _ rfl)).set 9 (.int .i64 m.f9.f0) #[.int .i64 m.f0, .int .i64 m.f1, .int .i64 m.f2, .int .i64 m.f3, .int .i64 m.f4, .int .i64 m.f5, .int .i64 m.f6, .bool m.f7, .slice Av m.f8.length cv, .int .i64 m.f9.f0, .int .i64 m.f9.f1, .int .i64 m.f9.f2, .slice A12 m.f9.f3.length c12, .int .i64 m.f10.f0, .int .i64 m.f10.f1, .int .i64 m.f10.f2, .slice A16 m.f10.f3.length c16] (blk_put (HT2.out.set 8 (.slice Av m.f8.length cv) #[.int .i64 m.f0, .int .i64 m.f1, .int .i64 m.f2, .int .i64 m.f3, .int .i64 m.f4, .int .i64 m.f5, .int .i64 m.f6, .bool m.f7, .slice Av m.f8.length cv, .int .i64 m.f9.f0, .int .i64 m.f9.f1, .int .i64 m.f9.f2, .slice A12 m.f9.f3.length c12, .int .i64 m.f10.f0, .int .i64 m.f10.f1, .int .i64 m.f10.f2, .slice A16 m.f10.f3.length c16] (blk_put HT2.out.y 8 _ rfl)).y 9 _ rfl)).y 10 _ rfl)).y 11 _ rfl)).set 12 (.slice N12 m.f9.f3.length n12) #[.int .i64 m.f0, .int .i64 m.f1, .int .i64 m.f2, .int .i64 m.f3, .int .i64 m.f4, .int .i64 m.f5, .int .i64 m.f6, .bool m.f7, .slice Av m.f8.length cv, .int .i64 m.f9.f0, .int .i64 m.f9.f1, .int .i64 m.f9.f2, .slice N12 m.f9.f3.length n12, .int .i64 m.f10.f0, .int .i64 m.f10.f1, .int .i64 m.f10.f2, .slice A16 m.f10.f3.length c16] (blk_put ((((HT2.out.set 8 (.slice Av m.f8.length cv) #[.int .i64 m.f0, .int .i64 m.f1, .int .i64 m.f2, .int .i64 m.f3, .int .i64 m.f4, .int .i64 m.f5, .int .i64 m.f6, .bool m.f7, .slice Av m.f8.length cv, .int .i64 m.f9.f0, .int .i64 m.f9.f1, .int .i64 m.f9.f2, .slice A12 m.f9.f3.length c12, .int .i64 m.f10.f0, .int .i64 m.f10.f1, .int .i64 m.f10.f2, .slice A16 m.f10.f3.length c16] (blk_put HT2.out.y 8 _ rfl)).set 9 (.int .i64 m.f9.f0) #[.int .i64 m.f0, .int .i64 m.f1, .int .i64 m.f2, .int .i64 m.f3, .int .i64 m.f4, .int .i64 m.f5, .int .i64 m.f6, .bool m.f7, .slice Av m.f8.length cv, .int .i64 m.f9.f0, .int .i64 m.f9.f1, .int .i64 m.f9.f2, .slice A12 m.f9.f3.length c12, .int .i64 m.f10.f0, .int .i64 m.f10.f1, .int .i64 m.f10.f2, .slice A16 m.f10.f3.length c16] (blk_put (HT2.out.set 8 (.slice Av m.f8.length cv) #[.int .i64 m.f0, .int .i64 m.f1, .int .i64 m.f2, .int .i64 m.f3, .int .i64 m.f4, .int .i64 m.f5, .int .i64 m.f6, .bool m.f7, .slice Av m.f8.length cv, .int .i64 m.f9.f0, .int .i64 m.f9.f1, .int .i64 m.f9.f2, .slice A12 m.f9.f3.length c12, .int .i64 m.f10.f0, .int .i64 m.f10.f1, .int .i64 m.f10.f2, .slice A16 m.f10.f3.length c16] (blk_put HT2.out.y 8 _ rfl)).y 9 _ rfl)).set 10 (.int .i64 m.f9.f1) #[.int .i64 m.f0, .int .i64 m.f1, .int .i64 m.f2, .int .i64 m.f3, .int .i64 m.f4, .int .i64 m.f5, .int .i64 m.f6, .bool m.f7, .slice Av m.f8.length cv, .int .i64 m.f9.f0, .int .i64 m.f9.f1, .int .i64 m.f9.f2, .slice A12 m.f9.f3.length c12, .int .i64 m.f10.f0, .int .i64 m.f10.f1, .int .i64 m.f10.f2, .slice A16 m.f10.f3.length c16] (blk_put ((HT2.out.set 8 (.slice Av m.f8.length cv) #[.int .i64 m.f0, .int .i64 m.f1, .int .i64 m.f2, .int .i64 m.f3, .int .i64 m.f4, .int .i64 m.f5, .int .i64 m.f6, .bool m.f7, .slice Av m.f8.length cv, .int .i64 m.f9.f0, .int .i64 m.f9.f1, .int .i64 m.f9.f2, .slice A12 m.f9.f3.length c12, .int .i64 m.f10.f0, .int .i64 m.f10.f1, .int .i64 m.f10.f2, .slice A16 m.f10.f3.length c16] (blk_put HT2.out.y 8 _ rfl)).set 9 (.int .i64 m.f9.f0) #[.int .i64 m.f0, .int .i64 m.f1, .int .i64 m.f2, .int .i64 m.f3, .int .i64 m.f4, .int .i64 m.f5, .int .i64 m.f6, .bool m.f7, .slice Av m.f8.length cv, .int .i64 m.f9.f0, .int .i64 m.f9.f1, .int .i64 m.f9.f2, .slice A12 m.f9.f3.length c12, .int .i64 m.f10.f0, .int .i64 m.f10.f1, .int .i64 m.f10.f2, .slice A16 m.f10.f3.length c16] (blk_put (HT2.out.set 8 (.slice Av m.f8.length cv) #[.int .i64 m.f0, .int .i64 m.f1, .int .i64 m.f2, .int .i64 m.f3, .int .i64 m.f4, .int .i64 m.f5, .int .i64 m.f6, .bool m.f7, .slice Av m.f8.length cv, .int .i64 m.f9.f0, .int .i64 m.f9.f1, .int .i64 m.f9.f2, .slice A12 m.f9.f3.length c12, .int .i64 m.f10.f0, .int .i64 m.f10.f1, .int .i64 m.f10.f2, .slice A16 m.f10.f3.length c16] (blk_put HT2.out.y 8 _ rfl)).y 9 _ rfl)).y 10 _ rfl)).set 11 (.int .i64 m.f9.f2) #[.int .i64 m.f0, .int .i64 m.f1, .int .i64 m.f2, .int .i64 m.f3, .int .i64 m.f4, .int .i64 m.f5, .int .i64 m.f6, .bool m.f7, .slice Av m.f8.length cv, .int .i64 m.f9.f0, .int .i64 m.f9.f1, .int .i64 m.f9.f2, .slice A12 m.f9.f3.length c12, .int .i64 m.f10.f0, .int .i64 m.f10.f1, .int .i64 m.f10.f2, .slice A16 m.f10.f3.length c16] (blk_put (((HT2.out.set 8 (.slice Av m.f8.length cv) #[.int .i64 m.f0, .int .i64 m.f1, .int .i64 m.f2, .int .i64 m.f3, .int .i64 m.f4, .int .i64 m.f5, .int .i64 m.f6, .bool m.f7, .slice Av m.f8.length cv, .int .i64 m.f9.f0, .int .i64 m.f9.f1, .int .i64 m.f9.f2, .slice A12 m.f9.f3.length c12, .int .i64 m.f10.f0, .int .i64 m.f10.f1, .int .i64 m.f10.f2, .slice A16 m.f10.f3.length c16] (blk_put HT2.out.y 8 _ rfl)).set 9 (.int .i64 m.f9.f0) #[.int .i64 m.f0, .int .i64 m.f1, .int .i64 m.f2, .int .i64 m.f3, .int .i64 m.f4, .int .i64 m.f5, .int .i64 m.f6, .bool m.f7, .slice Av m.f8.length cv, .int .i64 m.f9.f0, .int .i64 m.f9.f1, .int .i64 m.f9.f2, .slice A12 m.f9.f3.length c12, .int .i64 m.f10.f0, .int .i64 m.f10.f1, .int .i64 m.f10.f2, .slice A16 m.f10.f3.length c16] (blk_put (HT2.out.set 8 (.slice Av m.f8.length cv) #[.int .i64 m.f0, .int .i64 m.f1, .int .i64 m.f2, .int .i64 m.f3, .int .i64 m.f4, .int .i64 m.f5, .int .i64 m.f6, .bool m.f7, .slice Av m.f8.length cv, .int .i64 m.f9.f0, .int .i64 m.f9.f1, .int .i64 m.f9.f2, .slice A12 m.f9.f3.length c12, .int .i64 m.f10.f0, .int .i64 m.f10.f1, .int .i64 m.f10.f2, .slice A16 m.f10.f3.length c16] (blk_put HT2.out.y 8 _ rfl)).y 9 _ rfl)).set 10 (.int .i64 m.f9.f1) #[.int .i64 m.f0, .int .i64 m.f1, .int .i64 m.f2, .int .i64 m.f3, .int .i64 m.f4, .int .i64 m.f5, .int .i64 m.f6, .bool m.f7, .slice Av m.f8.length cv, .int .i64 m.f9.f0, .int .i64 m.f9.f1, .int .i64 m.f9.f2, .slice A12 m.f9.f3.length c12, .int .i64 m.f10.f0, .int .i64 m.f10.f1, .int .i64 m.f10.f2, .slice A16 m.f10.f3.length c16] (blk_put ((HT2.out.set 8 (.slice Av m.f8.length cv) #[.int .i64 m.f0, .int .i64 m.f1, .int .i64 m.f2, .int .i64 m.f3, .int .i64 m.f4, .int .i64 m.f5, .int .i64 m.f6, .bool m.f7, .slice Av m.f8.length cv, .int .i64 m.f9.f0, .int .i64 m.f9.f1, .int .i64 m.f9.f2, .slice A12 m.f9.f3.length c12, .int .i64 m.f10.f0, .int .i64 m.f10.f1, .int .i64 m.f10.f2, .slice A16 m.f10.f3.length c16] (blk_put HT2.out.y 8 _ rfl)).set 9 (.int .i64 m.f9.f0) #[.int .i64 m.f0, .int .i64 m.f1, .int .i64 m.f2, .int .i64 m.f3, .int .i64 m.f4, .int .i64 m.f5, .int .i64 m.f6, .bool m.f7, .slice Av m.f8.length cv, .int .i64 m.f9.f0, .int .i64 m.f9.f1, .int .i64 m.f9.f2, .slice A12 m.f9.f3.length c12, .int .i64 m.f10.f0, .int .i64 m.f10.f1, .int .i64 m.f10.f2, .slice A16 m.f10.f3.length c16] (blk_put (HT2.out.set 8 (.slice Av m.f8.length cv) #[.int .i64 m.f0, .int .i64 m.f1, .int .i64 m.f2, .int .i64 m.f3, .int .i64 m.f4, .int .i64 m.f5, .int .i64 m.f6, .bool m.f7, .slice Av m.f8.length cv, .int .i64 m.f9.f0, .int .i64 m.f9.f1, .int .i64 m.f9.f2, .slice A12 m.f9.f3.length c12, .int .i64 m.f10.f0, .int .i64 m.f10.f1, .int .i64 m.f10.f2, .slice A16 m.f10.f3.length c16] (blk_put HT2.out.y 8 _ rfl)).y 9 _ rfl)).y 10 _ rfl)).y 11 _ rfl)).y 12 _ rfl)).set 16 (.slice N16 m.f10.f3.length n16) #[.int .i64 m.f0, .int .i64 m.f1, .int .i64 m.f2, .int .i64 m.f3, .int .i64 m.f4, .int .i64 m.f5, .int .i64 m.f6, .bool m.f7, .slice Av m.f8.length cv, .int .i64 m.f9.f0, .int .i64 m.f9.f1, .int .i64 m.f9.f2, .slice N12 m.f9.f3.length n12, .int .i64 m.f10.f0, .int .i64 m.f10.f1, .int .i64 m.f10.f2, .slice N16 m.f10.f3.length n16] (blk_put (((((HT2.out.set 8 (.slice Av m.f8.length cv) #[.int .i64 m.f0, .int .i64 m.f1, .int .i64 m.f2, .int .i64 m.f3, .int .i64 m.f4, .int .i64 m.f5, .int .i64 m.f6, .bool m.f7, .slice Av m.f8.length cv, .int .i64 m.f9.f0, .int .i64 m.f9.f1, .int .i64 m.f9.f2, .slice A12 m.f9.f3.length c12, .int .i64 m.f10.f0, .int .i64 m.f10.f1, .int .i64 m.f10.f2, .slice A16 m.f10.f3.length c16] (blk_put HT2.out.y 8 _ rfl)).set 9 (.int .i64 m.f9.f0) #[.int .i64 m.f0, .int .i64 m.f1, .int .i64 m.f2, .int .i64 m.f3, .int .i64 m.f4, .int .i64 m.f5, .int .i64 m.f6, .bool m.f7, .slice Av m.f8.length cv, .int .i64 m.f9.f0, .int .i64 m.f9.f1, .int .i64 m.f9.f2, .slice A12 m.f9.f3.length c12, .int .i64 m.f10.f0, .int .i64 m.f10.f1, .int .i64 m.f10.f2, .slice A16 m.f10.f3.length c16] (blk_put (HT2.out.set 8 (.slice Av m.f8.length cv) #[.int .i64 m.f0, .int .i64 m.f1, .int .i64 m.f2, .int .i64 m.f3, .int .i64 m.f4, .int .i64 m.f5, .int .i64 m.f6, .bool m.f7, .slice Av m.f8.length cv, .int .i64 m.f9.f0, .int .i64 m.f9.f1, .int .i64 m.f9.f2, .slice A12 m.f9.f3.length c12, .int .i64 m.f10.f0, .int .i64 m.f10.f1, .int .i64 m.f10.f2, .slice A16 m.f10.f3.length c16] (blk_put HT2.out.y 8 _ rfl)).y 9 _ rfl)).set 10 (.int .i64 m.f9.f1) #[.int .i64 m.f0, .int .i64 m.f1, .int .i64 m.f2, .int .i64 m.f3, .int .i64 m.f4, .int .i64 m.f5, .int .i64 m.f6, .bool m.f7, .slice Av m.f8.length cv, .int .i64 m.f9.f0, .int .i64 m.f9.f1, .int .i64 m.f9.f2, .slice A12 m.f9.f3.length c12, .int .i64 m.f10.f0, .int .i64 m.f10.f1, .int .i64 m.f10.f2, .slice A16 m.f10.f3.length c16] (blk_put ((HT2.out.set 8 (.slice Av m.f8.length cv) #[.int .i64 m.f0, .int .i64 m.f1, .int .i64 m.f2, .int .i64 m.f3, .int .i64 m.f4, .int .i64 m.f5, .int .i64 m.f6, .bool m.f7, .slice Av m.f8.length cv, .int .i64 m.f9.f0, .int .i64 m.f9.f1, .int .i64 m.f9.f2, .slice A12 m.f9.f3.length c12, .int .i64 m.f10.f0, .int .i64 m.f10.f1, .int .i64 m.f10.f2, .slice A16 m.f10.f3.length c16] (blk_put HT2.out.y 8 _ rfl)).set 9 (.int .i64 m.f9.f0) #[.int .i64 m.f0, .int .i64 m.f1, .int .i64 m.f2, .int .i64 m.f3, .int .i64 m.f4, .int .i64 m.f5, .int .i64 m.f6, .bool m.f7, .slice Av m.f8.length cv, .int .i64 m.f9.f0, .int .i64 m.f9.f1, .int .i64 m.f9.f2, .slice A12 m.f9.f3.length c12, .int .i64 m.f10.f0, .int .i64 m.f10.f1, .int .i64 m.f10.f2, .slice A16 m.f10.f3.length c16] (blk_put (HT2.out.set 8 (.slice Av m.f8.length cv) #[.int .i64 m.f0, .int .i64 m.f1, .int .i64 m.f2, .int .i64 m.f3, .int .i64 m.f4, .int .i64 m.f5, .int .i64 m.f6, .bool m.f7, .slice Av m.f8.length cv, .int .i64 m.f9.f0, .int .i64 m.f9.f1, .int .i64 m.f9.f2, .slice A12 m.f9.f3.length c12, .int .i64 m.f10.f0, .int .i64 m.f10.f1, .int .i64 m.f10.f2, .slice A16 m.f10.f3.length c16] (blk_put HT2.out.y 8 _ rfl)).y 9 _ rfl)).y 10 _ rfl)).set 11 (.int .i64 m.f9.f2) #[.int .i64 m.f0, .int .i64 m.f1, .int .i64 m.f2, .int .i64 m.f3, .int .i64 m.f4, .int .i64 m.f5, .int .i64 m.f6, .bool m.f7, .slice Av m.f8.length cv, .int .i64 m.f9.f0, .int .i64 m.f9.f1, .int .i64 m.f9.f2, .slice A12 m.f9.f3.length c12, .int .i64 m.f10.f0, .int .i64 m.f10.f1, .int .i64 m.f10.f2, .slice A16 m.f10.f3.length c16] (blk_put (((HT2.out.set 8 (.slice Av m.f8.length cv) #[.int .i64 m.f0, .int .i64 m.f1, .int .i64 m.f2, .int .i64 m.f3, .int .i64 m.f4, .int .i64 m.f5, .int .i64 m.f6, .bool m.f7, .slice Av m.f8.length cv, .int .i64 m.f9.f0, .int .i64 m.f9.f1, .int .i64 m.f9.f2, .slice A12 m.f9.f3.length c12, .int .i64 m.f10.f0, .int .i64 m.f10.f1, .int .i64 m.f10.f2, .slice A16 m.f10.f3.length c16] (blk_put HT2.out.y 8 _ rfl)).set 9 (.int .i64 m.f9.f0) #[.int .i64 m.f0, .int .i64 m.f1, .int .i64 m.f2, .int .i64 m.f3, .int .i64 m.f4, .int .i64 m.f5, .int .i64 m.f6, .bool m.f7, .slice Av m.f8.length cv, .int .i64 m.f9.f0, .int .i64 m.f9.f1, .int .i64 m.f9.f2, .slice A12 m.f9.f3.length c12, .int .i64 m.f10.f0, .int .i64 m.f10.f1, .int .i64 m.f10.f2, .slice A16 m.f10.f3.length c16] (blk_put (HT2.out.set 8 (.slice Av m.f8.length cv) #[.int .i64 m.f0, .int .i64 m.f1, .int .i64 m.f2, .int .i64 m.f3, .int .i64 m.f4, .int .i64 m.f5, .int .i64 m.f6, .bool m.f7, .slice Av m.f8.length cv, .int .i64 m.f9.f0, .int .i64 m.f9.f1, .int .i64 m.f9.f2, .slice A12 m.f9.f3.length c12, .int .i64 m.f10.f0, .int .i64 m.f10.f1, .int .i64 m.f10.f2, .slice A16 m.f10.f3.length c16] (blk_put HT2.out.y 8 _ rfl)).y 9 _ rfl)).set 10 (.int .i64 m.f9.f1) #[.int .i64 m.f0, .int .i64 m.f1, .int .i64 m.f2, .int .i64 m.f3, .int .i64 m.f4, .int .i64 m.f5, .int .i64 m.f6, .bool m.f7, .slice Av m.f8.length cv, .int .i64 m.f9.f0, .int .i64 m.f9.f1, .int .i64 m.f9.f2, .slice A12 m.f9.f3.length c12, .int .i64 m.f10.f0, .int .i64 m.f10.f1, .int .i64 m.f10.f2, .slice A16 m.f10.f3.length c16] (blk_put ((HT2.out.set 8 (.slice Av m.f8.length cv) #[.int .i64 m.f0, .int .i64 m.f1, .int .i64 m.f2, .int .i64 m.f3, .int .i64 m.f4, .int .i64 m.f5, .int .i64 m.f6, .bool m.f7, .slice Av m.f8.length cv, .int .i64 m.f9.f0, .int .i64 m.f9.f1, .int .i64 m.f9.f2, .slice A12 m.f9.f3.length c12, .int .i64 m.f10.f0, .int .i64 m.f10.f1, .int .i64 m.f10.f2, .slice A16 m.f10.f3.length c16] (blk_put HT2.out.y 8 _ rfl)).set 9 (.int .i64 m.f9.f0) #[.int .i64 m.f0, .int .i64 m.f1, .int .i64 m.f2, .int .i64 m.f3, .int .i64 m.f4, .int .i64 m.f5, .int .i64 m.f6, .bool m.f7, .slice Av m.f8.length cv, .int .i64 m.f9.f0, .int .i64 m.f9.f1, .int .i64 m.f9.f2, .slice A12 m.f9.f3.length c12, .int .i64 m.f10.f0, .int .i64 m.f10.f1, .int .i64 m.f10.f2, .slice A16 m.f10.f3.length c16] (blk_put (HT2.out.set 8 (.slice Av m.f8.length cv) #[.int .i64 m.f0, .int .i64 m.f1, .int .i64 m.f2, .int .i64 m.f3, .int .i64 m.f4, .int .i64 m.f5, .int .i64 m.f6, .bool m.f7, .slice Av m.f8.length cv, .int .i64 m.f9.f0, .int .i64 m.f9.f1, .int .i64 m.f9.f2, .slice A12 m.f9.f3.length c12, .int .i64 m.f10.f0, .int .i64 m.f10.f1, .int .i64 m.f10.f2, .slice A16 m.f10.f3.length c16] (blk_put HT2.out.y 8 _ rfl)).y 9 _ rfl)).y 10 _ rfl)).y 11 _ rfl)).set 12 (.slice N12 m.f9.f3.length n12) #[.int .i64 m.f0, .int .i64 m.f1, .int .i64 m.f2, .int .i64 m.f3, .int .i64 m.f4, .int .i64 m.f5, .int .i64 m.f6, .bool m.f7, .slice Av m.f8.length cv, .int .i64 m.f9.f0, .int .i64 m.f9.f1, .int .i64 m.f9.f2, .slice N12 m.f9.f3.length n12, .int .i64 m.f10.f0, .int .i64 m.f10.f1, .int .i64 m.f10.f2, .slice A16 m.f10.f3.length c16] (blk_put ((((HT2.out.set 8 (.slice Av m.f8.length cv) #[.int .i64 m.f0, .int .i64 m.f1, .int .i64 m.f2, .int .i64 m.f3, .int .i64 m.f4, .int .i64 m.f5, .int .i64 m.f6, .bool m.f7, .slice Av m.f8.length cv, .int .i64 m.f9.f0, .int .i64 m.f9.f1, .int .i64 m.f9.f2, .slice A12 m.f9.f3.length c12, .int .i64 m.f10.f0, .int .i64 m.f10.f1, .int .i64 m.f10.f2, .slice A16 m.f10.f3.length c16] (blk_put HT2.out.y 8 _ rfl)).set 9 (.int .i64 m.f9.f0) #[.int .i64 m.f0, .int .i64 m.f1, .int .i64 m.f2, .int .i64 m.f3, .int .i64 m.f4, .int .i64 m.f5, .int .i64 m.f6, .bool m.f7, .slice Av m.f8.length cv, .int .i64 m.f9.f0, .int .i64 m.f9.f1, .int .i64 m.f9.f2, .slice A12 m.f9.f3.length c12, .int .i64 m.f10.f0, .int .i64 m.f10.f1, .int .i64 m.f10.f2, .slice A16 m.f10.f3.length c16] (blk_put (HT2.out.set 8 (.slice Av m.f8.length cv) #[.int .i64 m.f0, .int .i64 m.f1, .int .i64 m.f2, .int .i64 m.f3, .int .i64 m.f4, .int .i64 m.f5, .int .i64 m.f6, .bool m.f7, .slice Av m.f8.length cv, .int .i64 m.f9.f0, .int .i64 m.f9.f1, .int .i64 m.f9.f2, .slice A12 m.f9.f3.length c12, .int .i64 m.f10.f0, .int .i64 m.f10.f1, .int .i64 m.f10.f2, .slice A16 m.f10.f3.length c16] (blk_put HT2.out.y 8 _ rfl)).y 9 _ rfl)).set 10 (.int .i64 m.f9.f1) #[.int .i64 m.f0, .int .i64 m.f1, .int .i64 m.f2, .int .i64 m.f3, .int .i64 m.f4, .int .i64 m.f5, .int .i64 m.f6, .bool m.f7, .slice Av m.f8.length cv, .int .i64 m.f9.f0, .int .i64 m.f9.f1, .int .i64 m.f9.f2, .slice A12 m.f9.f3.length c12, .int .i64 m.f10.f0, .int .i64 m.f10.f1, .int .i64 m.f10.f2, .slice A16 m.f10.f3.length c16] (blk_put ((HT2.out.set 8 (.slice Av m.f8.length cv) #[.int .i64 m.f0, .int .i64 m.f1, .int .i64 m.f2, .int .i64 m.f3, .int .i64 m.f4, .int .i64 m.f5, .int .i64 m.f6, .bool m.f7, .slice Av m.f8.length cv, .int .i64 m.f9.f0, .int .i64 m.f9.f1, .int .i64 m.f9.f2, .slice A12 m.f9.f3.length c12, .int .i64 m.f10.f0, .int .i64 m.f10.f1, .int .i64 m.f10.f2, .slice A16 m.f10.f3.length c16] (blk_put HT2.out.y 8 _ rfl)).set 9 (.int .i64 m.f9.f0) #[.int .i64 m.f0, .int .i64 m.f1, .int .i64 m.f2, .int .i64 m.f3, .int .i64 m.f4, .int .i64 m.f5, .int .i64 m.f6, .bool m.f7, .slice Av m.f8.length cv, .int .i64 m.f9.f0, .int .i64 m.f9.f1, .int .i64 m.f9.f2, .slice A12 m.f9.f3.length c12, .int .i64 m.f10.f0, .int .i64 m.f10.f1, .int .i64 m.f10.f2, .slice A16 m.f10.f3.length c16] (blk_put (HT2.out.set 8 (.slice Av m.f8.length cv) #[.int .i64 m.f0, .int .i64 m.f1, .int .i64 m.f2, .int .i64 m.f3, .int .i64 m.f4, .int .i64 m.f5, .int .i64 m.f6, .bool m.f7, .slice Av m.f8.length cv, .int .i64 m.f9.f0, .int .i64 m.f9.f1, .int .i64 m.f9.f2, .slice A12 m.f9.f3.length c12, .int .i64 m.f10.f0, .int .i64 m.f10.f1, .int .i64 m.f10.f2, .slice A16 m.f10.f3.length c16] (blk_put HT2.out.y 8 _ rfl)).y 9 _ rfl)).y 10 _ rfl)).set 11 (.int .i64 m.f9.f2) #[.int .i64 m.f0, .int .i64 m.f1, .int .i64 m.f2, .int .i64 m.f3, .int .i64 m.f4, .int .i64 m.f5, .int .i64 m.f6, .bool m.f7, .slice Av m.f8.length cv, .int .i64 m.f9.f0, .int .i64 m.f9.f1, .int .i64 m.f9.f2, .slice A12 m.f9.f3.length c12, .int .i64 m.f10.f0, .int .i64 m.f10.f1, .int .i64 m.f10.f2, .slice A16 m.f10.f3.length c16] (blk_put (((HT2.out.set 8 (.slice Av m.f8.length cv) #[.int .i64 m.f0, .int .i64 m.f1, .int .i64 m.f2, .int .i64 m.f3, .int .i64 m.f4, .int .i64 m.f5, .int .i64 m.f6, .bool m.f7, .slice Av m.f8.length cv, .int .i64 m.f9.f0, .int .i64 m.f9.f1, .int .i64 m.f9.f2, .slice A12 m.f9.f3.length c12, .int .i64 m.f10.f0, .int .i64 m.f10.f1, .int .i64 m.f10.f2, .slice A16 m.f10.f3.length c16] (blk_put HT2.out.y 8 _ rfl)).set 9 (.int .i64 m.f9.f0) #[.int .i64 m.f0, .int .i64 m.f1, .int .i64 m.f2, .int .i64 m.f3, .int .i64 m.f4, .int .i64 m.f5, .int .i64 m.f6, .bool m.f7, .slice Av m.f8.length cv, .int .i64 m.f9.f0, .int .i64 m.f9.f1, .int .i64 m.f9.f2, .slice A12 m.f9.f3.length c12, .int .i64 m.f10.f0, .int .i64 m.f10.f1, .int .i64 m.f10.f2, .slice A16 m.f10.f3.length c16] (blk_put (HT2.out.set 8 (.slice Av m.f8.length cv) #[.int .i64 m.f0, .int .i64 m.f1, .int .i64 m.f2, .int .i64 m.f3, .int .i64 m.f4, .int .i64 m.f5, .int .i64 m.f6, .bool m.f7, .slice Av m.f8.length cv, .int .i64 m.f9.f0, .int .i64 m.f9.f1, .int .i64 m.f9.f2, .slice A12 m.f9.f3.length c12, .int .i64 m.f10.f0, .int .i64 m.f10.f1, .int .i64 m.f10.f2, .slice A16 m.f10.f3.length c16] (blk_put HT2.out.y 8 _ rfl)).y 9 _ rfl)).set 10 (.int .i64 m.f9.f1) #[.int .i64 m.f0, .int .i64 m.f1, .int .i64 m.f2, .int .i64 m.f3, .int .i64 m.f4, .int .i64 m.f5, .int .i64 m.f6, .bool m.f7, .slice Av m.f8.length cv, .int .i64 m.f9.f0, .int .i64 m.f9.f1, .int .i64 m.f9.f2, .slice A12 m.f9.f3.length c12, .int .i64 m.f10.f0, .int .i64 m.f10.f1, .int .i64 m.f10.f2, .slice A16 m.f10.f3.length c16] (blk_put ((HT2.out.set 8 (.slice Av m.f8.length cv) #[.int .i64 m.f0, .int .i64 m.f1, .int .i64 m.f2, .int .i64 m.f3, .int .i64 m.f4, .int .i64 m.f5, .int .i64 m.f6, .bool m.f7, .slice Av m.f8.length cv, .int .i64 m.f9.f0, .int .i64 m.f9.f1, .int .i64 m.f9.f2, .slice A12 m.f9.f3.length c12, .int .i64 m.f10.f0, .int .i64 m.f10.f1, .int .i64 m.f10.f2, .slice A16 m.f10.f3.length c16] (blk_put HT2.out.y 8 _ rfl)).set 9 (.int .i64 m.f9.f0) #[.int .i64 m.f0, .int .i64 m.f1, .int .i64 m.f2, .int .i64 m.f3, .int .i64 m.f4, .int .i64 m.f5, .int .i64 m.f6, .bool m.f7, .slice Av m.f8.length cv, .int .i64 m.f9.f0, .int .i64 m.f9.f1, .int .i64 m.f9.f2, .slice A12 m.f9.f3.length c12, .int .i64 m.f10.f0, .int .i64 m.f10.f1, .int .i64 m.f10.f2, .slice A16 m.f10.f3.length c16] (blk_put (HT2.out.set 8 (.slice Av m.f8.length cv) #[.int .i64 m.f0, .int .i64 m.f1, .int .i64 m.f2, .int .i64 m.f3, .int .i64 m.f4, .int .i64 m.f5, .int .i64 m.f6, .bool m.f7, .slice Av m.f8.length cv, .int .i64 m.f9.f0, .int .i64 m.f9.f1, .int .i64 m.f9.f2, .slice A12 m.f9.f3.length c12, .int .i64 m.f10.f0, .int .i64 m.f10.f1, .int .i64 m.f10.f2, .slice A16 m.f10.f3.length c16] (blk_put HT2.out.y 8 _ rfl)).y 9 _ rfl)).y 10 _ rfl)).y 11 _ rfl)).y 12 _ rfl)).y 16 _ rfl))
   obtain ⟨w3, hw⟩ : ∃ w3, ((((((w2.setCell ⟨g, 8, none⟩ (.slice Av m.f8.length cv)).setCell ⟨g, 9, none⟩ (.int .i64 m.f9.f0)).setCell ⟨g, 10, none⟩ (.int .i64 m.f9.f1)).setCell ⟨g, 11, none⟩ (.int .i64 m.f9.f2)).setCell ⟨g, 12, none⟩ (.slice N12 m.f9.f3.length n12)).setCell ⟨g, 16, none⟩ (.slice N16 m.f10.f3.length n16)) = w3 := ⟨_, rfl⟩
   rw [hw] at HT3 ⊢
   clear hw HT2 q8 z8 q9 z9 q10 z10 q11 z11 q12 z12 q16 z16
   have d0 : w3.cell? ⟨g, 0, none⟩ = some (.int .i64 m.f0) := (blk_cell HT3.out.y 0).trans rfl
   have z0 : w3.frozen? ⟨g, 0, none⟩ = false := blk_frozen HT3.out.y 0
   have d1 : w3.cell? ⟨g, 1, none⟩ = some (.int .i64 m.f1) := (blk_cell HT3.out.y 1).trans rfl
   have z1 : w3.frozen? ⟨g, 1, none⟩ = false := blk_frozen HT3.out.y 1
   have d2 : w3.cell? ⟨g, 2, none⟩ = some (.int .i64 m.f2) := (blk_cell HT3.out.y 2).trans rfl
   have z2 : w3.frozen? ⟨g, 2, none⟩ = false := blk_frozen HT3.out.y 2
   have d3 : w3.cell? ⟨g, 3, none⟩ = some (.int .i64 m.f3) := (blk_cell HT3.out.y 3).trans rfl
   have z3 : w3.frozen? ⟨g, 3, none⟩ = false := blk_frozen HT3.out.y 3
   have d4 : w3.cell? ⟨g, 4, none⟩ = some (.int .i64 m.f4) := (blk_cell HT3.out.y 4).trans rfl
   have z4 : w3.frozen? ⟨g, 4, none⟩ = false := blk_frozen HT3.out.y 4
   have d5 : w3.cell? ⟨g, 5, none⟩ = some (.int .i64 m.f5) := (blk_cell HT3.out.y 5).trans rfl
   have z5 : w3.frozen? ⟨g, 5, none⟩ = false := blk_frozen HT3.out.y 5
   have d6 : w3.cell? ⟨g, 6, none⟩ = some (.int .i64 m.f6) := (blk_cell HT3.out.y 6).trans rfl
   have z6 : w3.frozen? ⟨g, 6, none⟩ = false := blk_frozen HT3.out.y 6
   have d7 : w3.cell? ⟨g, 7, none⟩ = some (.bool m.f7) := (blk_cell HT3.out.y 7).trans rfl
   have z7 : w3.frozen? ⟨g, 7, none⟩ = false := blk_frozen HT3.out.y 7
   have d8 : w3.cell? ⟨g, 8, none⟩ = some (.slice Av m.f8.length cv) := (blk_cell HT3.out.y 8).trans rfl
   have z8 : w3.frozen? ⟨g, 8, none⟩ = false := blk_frozen HT3.out.y 8
   have d9 : w3.cell? ⟨g, 9, none⟩ = some (.int .i64 m.f9.f0) := (blk_cell HT3.out.y 9).trans rfl
   have z9 : w3.frozen? ⟨g, 9, none⟩ = false := blk_frozen HT3.out.y 9
   have d10 : w3.cell? ⟨g, 10, none⟩ = some (.int .i64 m.f9.f1) := (blk_cell HT3.out.y 10).trans rfl
   have z10 : w3.frozen? ⟨g, 10, none⟩ = false := blk_frozen HT3.out.y 10
   have d11 : w3.cell? ⟨g, 11, none⟩ = some (.int .i64 m.f9.f2) := (blk_cell HT3.out.y 11).trans rfl
   have z11 : w3.frozen? ⟨g, 11, none⟩ = false := blk_frozen HT3.out.y 11
   have d12 : w3.cell? ⟨g, 12, none⟩ = some (.slice N12 m.f9.f3.length n12) := (blk_cell HT3.out.y 12).trans rfl
   have z12 : w3.frozen? ⟨g, 12, none⟩ = false := blk_frozen HT3.out.y 12
   have d13 : w3.cell? ⟨g, 13, none⟩ = some (.int .i64 m.f10.f0) := (blk_cell HT3.out.y 13).trans rfl
   have z13 : w3.frozen? ⟨g, 13, none⟩ = false := blk_frozen HT3.out.y 13
   have d14 : w3.cell? ⟨g, 14, none⟩ = some (.int .i64 m.f10.f1) := (blk_cell HT3.out.y 14).trans rfl
   have z14 : w3.frozen? ⟨g, 14, none⟩ = false := blk_frozen HT3.out.y 14
   have d15 : w3.cell? ⟨g, 15, none⟩ = some (.int .i64 m.f10.f2) := (blk_cell HT3.out.y 15).trans rfl
   have z15 : w3.frozen? ⟨g, 15, none⟩ = false := blk_frozen HT3.out.y 15
   have d16 : w3.cell? ⟨g, 16, none⟩ = some (.slice N16 m.f10.f3.length n16) := (blk_cell HT3.out.y 16).trans rfl
   have z16 : w3.frozen? ⟨g, 16, none⟩ = false := blk_frozen HT3.out.y 16
   have e0 : w3.cell? ⟨g + 1, 0, none⟩ = some (.int .i64 0) := (blk_cell HT3.out.g0 0).trans rfl
   have y0 : w3.frozen? ⟨g + 1, 0, none⟩ = false := blk_frozen HT3.out.g0 0
   have e1 : w3.cell? ⟨g + 1, 1, none⟩ = some (.int .i64 0) := (blk_cell HT3.out.g0 1).trans rfl
   have y1 : w3.frozen? ⟨g + 1, 1, none⟩ = false := blk_frozen HT3.out.g0 1
   have e2 : w3.cell? ⟨g + 1, 2, none⟩ = some (.int .i64 0) := (blk_cell HT3.out.g0 2).trans rfl
   have y2 : w3.frozen? ⟨g + 1, 2, none⟩ = false := blk_frozen HT3.out.g0 2
   have e3 : w3.cell? ⟨g + 1, 3, none⟩ = some (.int .i64 0) := (blk_cell HT3.out.g0 3).trans rfl
   have y3 : w3.frozen? ⟨g + 1, 3, none⟩ = false := blk_frozen HT3.out.g0 3
   have e4 : w3.cell? ⟨g + 1, 4, none⟩ = some (.int .i64 0) := (blk_cell HT3.out.g0 4).trans rfl
   have y4 : w3.frozen? ⟨g + 1, 4, none⟩ = false := blk_frozen HT3.out.g0 4
   have e5 : w3.cell? ⟨g + 1, 5, none⟩ = some (.int .i64 0) := (blk_cell HT3.out.g0 5).trans rfl
   have y5 : w3.frozen? ⟨g + 1, 5, none⟩ = false := blk_frozen HT3.out.g0 5
   have e6 : w3.cell? ⟨g + 1, 6, none⟩ = some (.int .i64 0) := (blk_cell HT3.out.g0 6).trans rfl
   have y6 : w3.frozen? ⟨g + 1, 6, none⟩ = false := blk_frozen HT3.out.g0 6
   have e7 : w3.cell? ⟨g + 1, 7, none⟩ = some (.bool false) := (blk_cell HT3.out.g0 7).trans rfl
   have y7 : w3.frozen? ⟨g + 1, 7, none⟩ = false := blk_frozen HT3.out.g0 7
   have e8 : w3.cell? ⟨g + 1, 8, none⟩ = some (.slice none 0 0) := (blk_cell HT3.out.g0 8).trans rfl
   have y8 : w3.frozen? ⟨g + 1, 8, none⟩ = false := blk_frozen HT3.out.g0 8
   have e9 : w3.cell? ⟨g + 1, 9, none⟩ = some (.int .i64 0) := (blk_cell HT3.out.g0 9).trans rfl
   have y9 : w3.frozen? ⟨g + 1, 9, none⟩ = false := blk_frozen HT3.out.g0 9
   have e10 : w3.cell? ⟨g + 1, 10, none⟩ = some (.int .i64 0) := (blk_cell HT3.out.g0 10).trans rfl
   have y10 : w3.frozen? ⟨g + 1, 10, none⟩ = false := blk_frozen HT3.out.g0 10
   have e11 : w3.cell? ⟨g + 1, 11, none⟩ = some (.int .i64 0) := (blk_cell HT3.out.g0 11).trans rfl
   have y11 : w3.frozen? ⟨g + 1, 11, none⟩ = false := blk_frozen HT3.out.g0 11
   have e12 : w3.cell? ⟨g + 1, 12, none⟩ = some (.slice none 0 0) := (blk_cell HT3.out.g0 12).trans rfl
   have y12 : w3.frozen? ⟨g + 1, 12, none⟩ = false := blk_frozen HT3.out.g0 12
   have e13 : w3.cell? ⟨g + 1, 13, none⟩ = some (.int .i64 0) := (blk_cell HT3.out.g0 13).trans rfl
   have y13 : w3.frozen? ⟨g + 1, 13, none⟩ = false := blk_frozen HT3.out.g0 13
   have e14 : w3.cell? ⟨g + 1, 14, none⟩ = some (.int .i64 0) := (blk_cell HT3.out.g0 14).trans rfl
   have y14 : w3.frozen? ⟨g + 1, 14, none⟩ = false := blk_frozen HT3.out.g0 14
   have e15 : w3.cell? ⟨g + 1, 15, none⟩ = some (.int .i64 0) := (blk_cell HT3.out.g0 15).trans rfl
   have y15 : w3.frozen? ⟨g + 1, 15, none⟩ = false := blk_frozen HT3.out.g0 15
   have e16 : w3.cell? ⟨g + 1, 16, none⟩ = some (.slice none 0 0) := (blk_cell HT3.out.g0 16).trans rfl
   have y16 : w3.frozen? ⟨g + 1, 16, none⟩ = false := blk_frozen HT3.out.g0 16
   go_wp2_with fail
   have HEB := Lib.hid (blk_put (cs := #[.int .i64 m.f0, .int .i64 m.f1, .int .i64 m.f2, .int .i64 m.f3, .int .i64 m.f4, .int .i64 m.f5, .int .i64 m.f6, .bool m.f7, .slice Av m.f8.length cv, .int .i64 m.f9.f0, .int .i64 m.f9.f1, .int .i64 m.f9.f2, .slice N12 m.f9.f3.length n12, .int .i64 m.f10.f0, .int .i64 m.f10.f1, .int .i64 m.f10.f2, .slice none 0 0]) (blk_put (cs := #[.int .i64 m.f0, .int .i64 m.f1, .int .i64 m.f2, .int .i64 m.f3, .int .i64 m.f4, .int .i64 m.f5, .int .i64 m.f6, .bool m.f7, .slice Av m.f8.length cv, .int .i64 m.f9.f0, .int .i64 m.f9.f1, .int .i64 m.f9.f2, .slice N12 m.f9.f3.length n12, .int .i64 m.f10.f0, .int .i64 m.f10.f1, .int .i64 0, .slice none 0 0]) (blk_put (cs := #[.int .i64 m.f0, .int .i64 m.f1, .int .i64 m.f2, .int .i64 m.f3, .int .i64 m.f4, .int .i64 m.f5, .int .i64 m.f6, .bool m.f7, .slice Av m.f8.length cv, .int .i64 m.f9.f0, .int .i64 m.f9.f1, .int .i64 m.f9.f2, .slice N12 m.f9.f3.length n12, .int .i64 m.f10.f0, .int .i64 0, .int .i64 0, .slice none 0 0]) (blk_put (cs := #[.int .i64 m.f0, .int .i64 m.f1, .int .i64 m.f2, .int .i64 m.f3, .int .i64 m.f4, .int .i64 m.f5, .int .i64 m.f6, .bool m.f7, .slice Av m.f8.length cv, .int .i64 m.f9.f0, .int .i64 m.f9.f1, .int .i64 m.f9.f2, .slice N12 m.f9.f3.length n12, .int .i64 0, .int .i64 0, .int .i64 0, .slice none 0 0]) (blk_put (cs := #[.int .i64 m.f0, .int .i64 m.f1, .int .i64 m.f2, .int .i64 m.f3, .int .i64 m.f4, .int .i64 m.f5, .int .i64 m.f6, .bool m.f7, .slice Av m.f8.length cv, .int .i64 m.f9.f0, .int .i64 m.f9.f1, .int .i64 m.f9.f2, .slice none 0 0, .int .i64 0, .int .i64 0, .int .i64 0, .slice none 0 0]) (blk_put (cs := #[.int .i64 m.f0, .int .i64 m.f1, .int .i64 m.f2, .int .i64 m.f3, .int .i64 m.f4, .int .i64 m.f5, .int .i64 m.f6, .bool m.f7, .slice Av m.f8.length cv, .int .i64 m.f9.f0, .int .i64 m.f9.f1, .int .i64 0, .slice none 0 0, .int .i64 0, .int .i64 0, .int .i64 0, .slice none 0 0]) (blk_put (cs := #[.int .i64 m.f0, .int .i64 m.f1, .int .i64 m.f2, .int .i64 m.f3, .int .i64 m.f4, .int .i64 m.f5, .int .i64 m.f6, .bool m.f7, .slice Av m.f8.length cv, .int .i64 m.f9.f0, .int .i64 0, .int .i64 0, .slice none 0 0, .int .i64 0, .int .i64 0, .int .i64 0, .slice none 0 0]) (blk_put (cs := #[.int .i64 m.f0, .int .i64 m.f1, .int .i64 m.f2, .int .i64 m.f3, .int .i64 m.f4, .int .i64 m.f5, .int .i64 m.f6, .bool m.f7, .slice Av m.f8.length cv, .int .i64 0, .int .i64 0, .int .i64 0, .slice none 0 0, .int .i64 0, .int .i64 0, .int .i64 0, .slice none 0 0]) (blk_put (cs := #[.int .i64 m.f0, .int .i64 m.f1, .int .i64 m.f2, .int .i64 m.f3, .int .i64 m.f4, .int .i64 m.f5, .int .i64 m.f6, .bool m.f7, .slice none 0 0, .int .i64 0, .int .i64 0, .int .i64 0, .slice none 0 0, .int .i64 0, .int .i64 0, .int .i64 0, .slice none 0 0]) (blk_put (cs := #[.int .i64 m.f0, .int .i64 m.f1, .int .i64 m.f2, .int .i64 m.f3, .int .i64 m.f4, .int .i64 m.f5, .int .i64 m.f6, .bool false, .slice none 0 0, .int .i64 0, .int .i64 0, .int .i64 0, .slice none 0 0, .int .i64 0, .int .i64 0, .int .i64 0, .slice none 0 0]) (blk_put (cs := #[.int .i64 m.f0, .int .i64 m.f1, .int .i64 m.f2, .int .i64 m.f3, .int .i64 m.f4, .int .i64 m.f5, .int .i64 0, .bool false, .slice none 0 0, .int .i64 0, .int .i64 0, .int .i64 0, .slice none 0 0, .int .i64 0, .int .i64 0, .int .i64 0, .slice none 0 0]) (blk_put (cs := #[.int .i64 m.f0, .int .i64 m.f1, .int .i64 m.f2, .int .i64 m.f3, .int .i64 m.f4, .int .i64 0, .int .i64 0, .bool false, .slice none 0 0, .int .i64 0, .int .i64 0, .int .i64 0, .slice none 0 0, .int .i64 0, .int .i64 0, .int .i64 0, .slice none 0 0]) (blk_put (cs := #[.int .i64 m.f0, .int .i64 m.f1, .int .i64 m.f2, .int .i64 m.f3, .int .i64 0, .int .i64 0, .int .i64 0, .bool false, .slice none 0 0, .int .i64 0, .int .i64 0, .int .i64 0, .slice none 0 0, .int .i64 0, .int .i64 0, .int .i64 0, .slice none 0 0]) (blk_put (cs := #[.int .i64 m.f0, .int .i64 m.f1, .int .i64 m.f2, .int .i64 0, .int .i64 0, .int .i64 0, .int .i64 0, .bool false, .slice none 0 0, .int .i64 0, .int .i64 0, .int .i64 0, .slice none 0 0, .int .i64 0, .int .i64 0, .int .i64 0, .slice none 0 0]) (blk_put (cs := #[.int .i64 m.f0, .int .i64 m.f1, .int .i64 0, .int .i64 0, .int .i64 0, .int .i64 0, .int .i64 0, .bool false, .slice none 0 0, .int .i64 0, .int .i64 0, .int .i64 0, .slice none 0 0, .int .i64 0, .int .i64 0, .int .i64 0, .slice none 0 0]) (blk_put (cs := #[.int .i64 m.f0, .int .i64 0, .int .i64 0, .int .i64 0, .int .i64 0, .int .i64 0, .int .i64 0, .bool false, .slice none 0 0, .int .i64 0, .int .i64 0, .int .i64 0, .slice none 0 0, .int .i64 0, .int .i64 0, .int .i64 0, .slice none 0 0]) (blk_put (cs := #[.int .i64 0, .int .i64 0, .int .i64 0, .int .i64 0, .int .i64 0, .int .i64 0, .int .i64 0, .bool false, .slice none 0 0, .int .i64 0, .int .i64 0, .int .i64 0, .slice none 0 0, .int .i64 0, .int .i64 0, .int .i64 0, .slice none 0 0]) HT3.out.g0 0 (.int .i64 m.f0) rfl) 1 (.int .i64 m.f1) rfl) 2 (.int .i64 m.f2) rfl) 3 (.int .i64 m.f3) rfl) 4 (.int .i64 m.f4) rfl) 5 (.int .i64 m.f5) rfl) 6 (.int .i64 m.f6) rfl) 7 (.bool m.f7) rfl) 8 (.slice Av m.f8.length cv) rfl) 9 (.int .i64 m.f9.f0) rfl) 10 (.int .i64 m.f9.f1) rfl) 11 (.int .i64 m.f9.f2) rfl) 12 (.slice N12 m.f9.f3.length n12) rfl) 13 (.int .i64 m.f10.f0) rfl) 14 (.int .i64 m.f10.f1) rfl) 15 (.int .i64 m.f10.f2) rfl) 16 (.slice N16 m.f10.f3.length n16) rfl)
   have HD := Lib.hid (HT3.out.done ((((((((((((((((((KeepS.refl (fun k => k = g + 1 ∨ k = g) w3).set (p := ⟨g + 1, 0, none⟩) (.inl (.inl rfl)) (.int .i64 m.f0)).set (p := ⟨g + 1, 1, none⟩) (.inl (.inl rfl)) (.int .i64 m.f1)).set (p := ⟨g + 1, 2, none⟩) (.inl (.inl rfl)) (.int .i64 m.f2)).set (p := ⟨g + 1, 3, none⟩) (.inl (.inl rfl)) (.int .i64 m.f3)).set (p := ⟨g + 1, 4, none⟩) (.inl (.inl rfl)) (.int .i64 m.f4)).set (p := ⟨g + 1, 5, none⟩) (.inl (.inl rfl)) (.int .i64 m.f5)).set (p := ⟨g + 1, 6, none⟩) (.inl (.inl rfl)) (.int .i64 m.f6)).set (p := ⟨g + 1, 7, none⟩) (.inl (.inl rfl)) (.bool m.f7)).set (p := ⟨g + 1, 8, none⟩) (.inl (.inl rfl)) (.slice Av m.f8.length cv)).set (p := ⟨g + 1, 9, none⟩) (.inl (.inl rfl)) (.int .i64 m.f9.f0)).set (p := ⟨g + 1, 10, none⟩) (.inl (.inl rfl)) (.int .i64 m.f9.f1)).set (p := ⟨g + 1, 11, none⟩) (.inl (.inl rfl)) (.int .i64 m.f9.f2)).set (p := ⟨g + 1, 12, none⟩) (.inl (.inl rfl)) (.slice N12 m.f9.f3.length n12)).set (p := ⟨g + 1, 13, none⟩) (.inl (.inl rfl)) (.int .i64 m.f10.f0)).set (p := ⟨g + 1, 14, none⟩) (.inl (.inl rfl)) (.int .i64 m.f10.f1)).set (p := ⟨g + 1, 15, none⟩) (.inl (.inl rfl)) (.int .i64 m.f10.f2)).set (p := ⟨g + 1, 16, none⟩) (.inl (.inl rfl)) (.slice N16 m.f10.f3.length n16)))
   obtain ⟨W, hW⟩ : ∃ W, (((((((((((((((((w3.setCell ⟨g + 1, 0, none⟩ (.int .i64 m.f0)).setCell ⟨g + 1, 1, none⟩ (.int .i64 m.f1)).setCell ⟨g + 1, 2, none⟩ (.int .i64 m.f2)).setCell ⟨g + 1, 3, none⟩ (.int .i64 m.f3)).setCell ⟨g + 1, 4, none⟩ (.int .i64 m.f4)).setCell ⟨g + 1, 5, none⟩ (.int .i64 m.f5)).setCell ⟨g + 1, 6, none⟩ (.int .i64 m.f6)).setCell ⟨g + 1, 7, none⟩ (.bool m.f7)).setCell ⟨g + 1, 8, none⟩ (.slice Av m.f8.length cv)).setCell ⟨g + 1, 9, none⟩ (.int .i64 m.f9.f0)).setCell ⟨g + 1, 10, none⟩ (.int .i64 m.f9.f1)).setCell ⟨g + 1, 11, none⟩ (.int .i64 m.f9.f2)).setCell ⟨g + 1, 12, none⟩ (.slice N12 m.f9.f3.length n12)).setCell ⟨g + 1, 13, none⟩ (.int .i64 m.f10.f0)).setCell ⟨g + 1, 14, none⟩ (.int .i64 m.f10.f1)).setCell ⟨g + 1, 15, none⟩ (.int .i64 m.f10.f2)).setCell ⟨g + 1, 16, none⟩ (.slice N16 m.f10.f3.length n16)) = W := ⟨_, rfl⟩
   rw [hW] at HEB HD ⊢
   clear hW
   refine bodyPost_ret (results_cell_row rfl _ _ (g + 1) 34 #[.int .i64 m.f0, .int .i64 m.f1, .int .i64 m.f2, .int .i64 m.f3, .int .i64 m.f4, .int .i64 m.f5, .int .i64 m.f6, .bool m.f7, .slice Av m.f8.length cv, .int .i64 m.f9.f0, .int .i64 m.f9.f1, .int .i64 m.f9.f2, .slice N12 m.f9.f3.length n12, .int .i64 m.f10.f0, .int .i64 m.f10.f1, .int .i64 m.f10.f2, .slice N16 m.f10.f3.length n16] (0, 0) _ rfl HEB.out Tryz.underlying34 rfl (by kernel_rfl)) rfl ?_
   obtain ⟨⟨⟨⟨-, p8⟩, p12⟩, p16⟩, dd⟩ := HD.out
   have hz := HZA.out
   refine ⟨_, _, _, wa.heap.size, w1.heap.size, rfl, HZ1.out, Kd.S_mono p8 (fun k hk => by rw [← hz]; exact hk.2), Kd.S_mono p12 (fun k hk => hk), Kd.R_mono p16 (fun k hk => hk.1), dd⟩
end Go.Proofs.YtgiefblcckikeaaGreat.M
end

section
/- What 'spoil' may do: blocks from base on keep what leads on, and their kinds of ints; rows of which that alone is known. -/
namespace Go.Proofs.YtgiefblcckikeaaGreat.M
open Go.RowKit Go.Proofs.YtgiefblcckikeaaGreatW.PrintWords Go.Proofs.YtgiefblcckikeaaGreatW.PrintLast Go.Proofs.YtgiefblcckikeaaGreatW.PrintMore Go.Proofs.YtgiefblcckikeaaGreat.G
structure Sp (base : Nat) (w W : World) : Prop where
 b : Below base w W
 c : ∀ (g j : Nat) (v : Value), base ≤ g → w.cell? ⟨g, j, none⟩ = some v → W.cell? ⟨g, j, none⟩ = some v ∨ ∃ k x y, v = .int k x ∧ W.cell? ⟨g, j, none⟩ = some (.int k y)
 f : ∀ g j : Nat, base ≤ g → (w.cell? ⟨g, j, none⟩).isSome = true → w.frozen? ⟨g, j, none⟩ = false → W.frozen? ⟨g, j, none⟩ = false
theorem Sp.refl (base : Nat) (w : World) : Sp base w w := ⟨Below.refl _ _, fun _ _ _ _ h => .inl h, fun _ _ _ _ h => h⟩
theorem Sp.trans {base : Nat} {w W V : World} (h : Sp base w W) (k : Sp base W V) : Sp base w V where
 b := h.b.trans k.b
 c g j v hg hv := by
  rcases h.c g j v hg hv with h1 | ⟨q, x, y, rfl, h1⟩
  ·exact k.c g j v hg h1
  ·rcases k.c g j _ hg h1 with h2 | ⟨q', x', y', h3, h2⟩
   ·exact .inr ⟨q, x, y, rfl, h2⟩
   ·injection h3 with h4 h5
    subst h4
    exact .inr ⟨q, x, y', rfl, h2⟩
 f g j hg hs hf := k.f g j hg (by
  obtain ⟨v, hv⟩ := Option.isSome_iff_exists.1 hs
  rcases h.c g j v hg hv with h1 | ⟨q, x, y, rfl, h1⟩ <;> simp [h1]) (h.f g j hg hs hf)
theorem Sp.alloc (base : Nat) (w : World) (o : Obj) (hb : base ≤ w.heap.size) : Sp base w (w.alloc o) where
 b := below_alloc' hb o
 c g j v hg hv := .inl (by rw [World.cell?_alloc_some w _ o (by rw [hv]; rfl)]; exact hv)
 f g j hg hs hf := by
  obtain ⟨v, hv⟩ := Option.isSome_iff_exists.1 hs
  have hlt := World.block_lt_of_cell? w _ hv
  rw [frozen_alloc w o hlt]
  exact hf
where
 below_alloc' {base : Nat} {w : World} (hb : base ≤ w.heap.size) (o : Obj) : Below base w (w.alloc o) := (Below.refl base w).alloc hb o
 frozen_alloc (w : World) (o : Obj) {g j : Nat} (h : g < w.heap.size) : (w.alloc o).frozen? ⟨g, j, none⟩ = w.frozen? ⟨g, j, none⟩ := by
  unfold World.frozen?
  rw [((Below.refl w.heap.size w).alloc (Nat.le_refl _) o).block g h]
theorem Sp.put {base : Nat} {w : World} {g j : Nat} {k : IntKind} {x : Int} (hg : base ≤ g) (hc : w.cell? ⟨g, j, none⟩ = some (.int k x)) (y : Int) : Sp base w (w.setCell ⟨g, j, none⟩ (.int k y)) where
 b := (Below.refl base w).setCell hg _
 c g' j' v hg' hv := by
  by_cases h : (⟨g, j, none⟩ : Addr) = ⟨g', j', none⟩
  ·rw [← h] at hv ⊢
   rw [hc] at hv
   injection hv with hv
   subst hv
   exact .inr ⟨k, x, y, rfl, World.cell?_setCell_same' w _ _ (by rw [hc]; rfl)⟩
  ·exact .inl (by rw [World.cell?_setCell_other w _ _ _ h]; exact hv)
 f g' j' hg' hs hf := by
  rw [World.frozen?_setCell]
  exact hf
theorem Sp.below {base : Nat} {w W : World} (hb : Below w.heap.size w W) (h : base ≤ w.heap.size) : Sp base w W where
 b := hb.mono h
 c g j v hg hv := .inl ((hb.cell (World.block_lt_of_cell? w _ hv)).trans hv)
 f g j hg hs hf := by
  obtain ⟨v, hv⟩ := Option.isSome_iff_exists.1 hs
  have hlt := World.block_lt_of_cell? w _ hv
  unfold World.frozen? at hf ⊢
  rw [hb.block g hlt]
  exact hf
structure Ints (k : IntKind) (base : Nat) (W : World) (A : Option Addr) (n : Nat) : Prop where
 m : n ≤ 9223372036854775807
 at_ : ∀ j, j < n → ∃ g, A = some ⟨g, 0, none⟩ ∧ base ≤ g ∧ (∃ x, W.cell? ⟨g, j, none⟩ = some (.int k x)) ∧ W.frozen? ⟨g, j, none⟩ = false
structure Keys (base : Nat) (W : World) (A : Option Addr) (n : Nat) : Prop where
 m : n ≤ 9223372036854775807
 at_ : ∀ j, j < n → ∃ g, A = some ⟨g, 0, none⟩ ∧ base ≤ g ∧ (∃ x, W.cell? ⟨g, j * 2 + 1, none⟩ = some (.int .i64 x)) ∧ W.frozen? ⟨g, j * 2 + 1, none⟩ = false
def TxO (base : Nat) (W : World) (g o : Nat) : Prop := ∃ (x0 x1 : Int) (A2 A3 A4 A5 : Option Addr) (n2 n3 n4 n5 c2 c3 c4 c5 : Nat),
 W.cell? ⟨g, o, none⟩ = some (.int .i64 x0) ∧ W.cell? ⟨g, o + 1, none⟩ = some (.int .i64 x1) ∧ W.cell? ⟨g, o + 2, none⟩ = some (.slice A2 n2 c2) ∧ W.cell? ⟨g, o + 3, none⟩ = some (.slice A3 n3 c3) ∧ W.cell? ⟨g, o + 4, none⟩ = some (.slice A4 n4 c4) ∧ W.cell? ⟨g, o + 5, none⟩ = some (.slice A5 n5 c5) ∧
 W.frozen? ⟨g, o, none⟩ = false ∧ Ints .u8 base W A2 n2 ∧ Ints .i64 base W A3 n3 ∧ Keys base W A4 n4 ∧ Keys base W A5 n5
structure Txs (base : Nat) (W : World) (A : Option Addr) (n : Nat) : Prop where
 m : n ≤ 9223372036854775807
 at_ : ∀ j, j < n → ∃ g, A = some ⟨g, 0, none⟩ ∧ base ≤ g ∧ TxO base W g (j * 6)
section
variable {base : Nat} {w W : World}
theorem Sp.int {g j : Nat} {k : IntKind} (h : Sp base w W) (hg : base ≤ g) (hc : ∃ x, w.cell? ⟨g, j, none⟩ = some (.int k x)) : ∃ x, W.cell? ⟨g, j, none⟩ = some (.int k x) := by
 obtain ⟨x, hx⟩ := hc
 rcases h.c g j _ hg hx with h1 | ⟨q, a, b, h2, h1⟩
 ·exact ⟨x, h1⟩
 ·injection h2 with h3 h4
  subst h3
  exact ⟨b, h1⟩
theorem Sp.slice {g j : Nat} {A : Option Addr} {n c : Nat} (h : Sp base w W) (hg : base ≤ g) (hc : w.cell? ⟨g, j, none⟩ = some (.slice A n c)) : W.cell? ⟨g, j, none⟩ = some (.slice A n c) := by
 rcases h.c g j _ hg hc with h1 | ⟨q, a, b, h2, h1⟩
 ·exact h1
 ·cases h2
theorem Ints.step {k : IntKind} {A : Option Addr} {n : Nat} (h : Ints k base w A n) (s : Sp base w W) : Ints k base W A n :=
 ⟨h.m, fun j hj => by
  obtain ⟨g, rfl, hg, hx, hf⟩ := h.at_ j hj
  refine ⟨g, rfl, hg, s.int hg hx, s.f g j hg ?_ hf⟩
  obtain ⟨x, hx⟩ := hx
  rw [hx]; rfl⟩
theorem Keys.step {A : Option Addr} {n : Nat} (h : Keys base w A n) (s : Sp base w W) : Keys base W A n :=
 ⟨h.m, fun j hj => by
  obtain ⟨g, rfl, hg, hx, hf⟩ := h.at_ j hj
  refine ⟨g, rfl, hg, s.int hg hx, s.f g _ hg ?_ hf⟩
  obtain ⟨x, hx⟩ := hx
  rw [hx]; rfl⟩
theorem TxO.step {g o : Nat} (h : TxO base w g o) (hg : base ≤ g) (s : Sp base w W) : TxO base W g o := by
 obtain ⟨x0, x1, A2, A3, A4, A5, n2, n3, n4, n5, c2, c3, c4, c5, h0, h1, h2, h3, h4, h5, hf, i2, i3, i4, i5⟩ := h
 obtain ⟨y0, e0⟩ := s.int hg ⟨x0, h0⟩
 obtain ⟨y1, e1⟩ := s.int hg ⟨x1, h1⟩
 exact ⟨y0, y1, A2, A3, A4, A5, n2, n3, n4, n5, c2, c3, c4, c5, e0, e1, s.slice hg h2, s.slice hg h3, s.slice hg h4, s.slice hg h5, s.f g o hg (by rw [h0]; rfl) hf, i2.step s, i3.step s, i4.step s, i5.step s⟩
theorem Txs.step {A : Option Addr} {n : Nat} (h : Txs base w A n) (s : Sp base w W) : Txs base W A n :=
 ⟨h.m, fun j hj => by
  obtain ⟨g, rfl, hg, hx⟩ := h.at_ j hj
  exact ⟨g, rfl, hg, hx.step hg s⟩⟩
theorem Ints.of {k : IntKind} {e b : Nat} {ok : Nat → Prop} {A : Option Addr} {n c : Nat} {xs : List Int} (h : Kd.R (Kd.int k) e w b ok (.slice A n c) xs) (hb : base ≤ b) : Ints k base w A n := by
 obtain rfl := (Kd.R_reads' h).1
 refine ⟨Kd.C_max (Kd.R_reads' h).2.2, fun j hj => ?_⟩
 obtain ⟨g, cap, hv, hg, _⟩ := Kd.R_form h (by omega)
 injection hv with h1 h2 h3
 subst h1
 obtain ⟨cs, hl, hM, hc, hf⟩ := Kd.R_elem h 0 (j : Int) (by omega) (by omega)
 have hM' : cs = [.int k (xs.getD (j : Int).toNat 0)] := hM
 rw [Int.toNat_natCast] at hc hf
 have hs : (Kd.int k).sz = 1 := rfl
 rw [hs] at hc hf
 refine ⟨g, rfl, Nat.le_trans hb hg, ⟨_, by have := hc 0 _ (by rw [hM']; rfl); rwa [Nat.mul_one, Nat.add_zero] at this⟩, by have := hf 0; rwa [Nat.mul_one, Nat.add_zero] at this⟩
theorem Keys.of {e b : Nat} {ok : Nat → Prop} {A : Option Addr} {n c : Nat} {xs : List KeyD} (h : Kd.R G.k101 e w b ok (.slice A n c) xs) (hb : base ≤ b) : Keys base w A n := by
 obtain rfl := (Kd.R_reads' h).1
 refine ⟨Kd.C_max (Kd.R_reads' h).2.2, fun j hj => ?_⟩
 obtain ⟨g, cap, hv, hg, _⟩ := Kd.R_form h (by omega)
 injection hv with h1 h2 h3
 subst h1
 obtain ⟨cs, hl, hM, hc, hf⟩ := Kd.R_elem h ⟨0, 0⟩ (j : Int) (by omega) (by omega)
 obtain ⟨_, _, rfl, rfl, rfl⟩ := hM
 rw [Int.toNat_natCast] at hc hf
 have hs : (G.k101).sz = 2 := rfl
 rw [hs] at hc hf
 exact ⟨g, rfl, Nat.le_trans hb hg, ⟨_, hc 1 _ rfl⟩, hf 1⟩
theorem TxO.of {ok : Nat → Prop} {b g o : Nat} {x : TxD} {cs : List Value} (h : Kd.M G.k26 w b ok x cs) (hb : base ≤ b) (hc : ∀ j u, cs[j]? = some u → w.cell? ⟨g, o + j, none⟩ = some u) (hf : w.frozen? ⟨g, o, none⟩ = false) : TxO base w g o := by
 obtain ⟨v2, v3, v4, v5, rfl, r2, r3, r4, r5⟩ := G.k26_openM h
 obtain ⟨A2, c2, rfl⟩ := Kd.R_slice r2
 obtain ⟨A3, c3, rfl⟩ := Kd.R_slice r3
 obtain ⟨A4, c4, rfl⟩ := Kd.R_slice r4
 obtain ⟨A5, c5, rfl⟩ := Kd.R_slice r5
 exact ⟨_, _, A2, A3, A4, A5, _, _, _, _, c2, c3, c4, c5, hc 0 _ rfl, hc 1 _ rfl, hc 2 _ rfl, hc 3 _ rfl, hc 4 _ rfl, hc 5 _ rfl, hf, Ints.of r2 hb, Ints.of r3 hb, Keys.of r4 hb, Keys.of r5 hb⟩
theorem Txs.of {e b : Nat} {ok : Nat → Prop} {A : Option Addr} {n c : Nat} {xs : List TxD} (h : Kd.R G.k26 e w b ok (.slice A n c) xs) (hb : base ≤ b) : Txs base w A n := by
 obtain rfl := (Kd.R_reads' h).1
 refine ⟨Kd.C_max (Kd.R_reads' h).2.2, fun j hj => ?_⟩
 obtain ⟨g, cap, hv, hg, _⟩ := Kd.R_form h (by omega)
 injection hv with h1 h2 h3
 subst h1
 obtain ⟨cs, hl, hM, hc, hf⟩ := Kd.R_elem h ⟨0, 0, [], [], [], []⟩ (j : Int) (by omega) (by omega)
 rw [Int.toNat_natCast] at hc hf
 have hs : (G.k26).sz = 6 := rfl
 rw [hs] at hc hf
 exact ⟨g, rfl, Nat.le_trans hb hg, TxO.of hM hb hc (by have := hf 0; rwa [Nat.add_zero] at this)⟩
end
def TrO (base : Nat) (W : World) (g o : Nat) : Prop := ∃ (x0 x1 x2 x3 : Int) (A : Option Addr) (n c : Nat),
 W.cell? ⟨g, o, none⟩ = some (.int .i64 x0) ∧ W.cell? ⟨g, o + 1, none⟩ = some (.int .i64 x1) ∧ W.cell? ⟨g, o + 2, none⟩ = some (.int .i64 x2) ∧ W.cell? ⟨g, o + 3, none⟩ = some (.int .i64 x3) ∧ W.cell? ⟨g, o + 4, none⟩ = some (.slice A n c) ∧
 W.frozen? ⟨g, o, none⟩ = false ∧ Txs base W A n
structure Trs (base : Nat) (W : World) (A : Option Addr) (n : Nat) : Prop where
 m : n ≤ 9223372036854775807
 at_ : ∀ j, j < n → ∃ g, A = some ⟨g, 0, none⟩ ∧ base ≤ g ∧ TrO base W g (j * 5)
section
variable {base : Nat} {w W : World}
theorem TrO.step {g o : Nat} (h : TrO base w g o) (hg : base ≤ g) (s : Sp base w W) : TrO base W g o := by
 obtain ⟨x0, x1, x2, x3, A, n, c, h0, h1, h2, h3, h4, hf, hx⟩ := h
 obtain ⟨y0, e0⟩ := s.int hg ⟨x0, h0⟩
 obtain ⟨y1, e1⟩ := s.int hg ⟨x1, h1⟩
 obtain ⟨y2, e2⟩ := s.int hg ⟨x2, h2⟩
 obtain ⟨y3, e3⟩ := s.int hg ⟨x3, h3⟩
 exact ⟨y0, y1, y2, y3, A, n, c, e0, e1, e2, e3, s.slice hg h4, s.f g o hg (by rw [h0]; rfl) hf, hx.step s⟩
theorem Trs.step {A : Option Addr} {n : Nat} (h : Trs base w A n) (s : Sp base w W) : Trs base W A n :=
 ⟨h.m, fun j hj => by
  obtain ⟨g, rfl, hg, hx⟩ := h.at_ j hj
  exact ⟨g, rfl, hg, hx.step hg s⟩⟩
theorem Trs.of {e b : Nat} {ok : Nat → Prop} {A : Option Addr} {n c : Nat} {xs : List TrD} (h : Kd.R G.k63 e w b ok (.slice A n c) xs) (hb : base ≤ b) : Trs base w A n := by
 obtain rfl := (Kd.R_reads' h).1
 refine ⟨Kd.C_max (Kd.R_reads' h).2.2, fun j hj => ?_⟩
 obtain ⟨g, cap, hv, hg, _⟩ := Kd.R_form h (by omega)
 injection hv with h1 h2 h3
 subst h1
 obtain ⟨cs, hl, hM, hc, hf⟩ := Kd.R_elem h ⟨0, ⟨0, 0, 0, []⟩⟩ (j : Int) (by omega) (by omega)
 obtain ⟨v, rfl, hr⟩ := G.k63_openM hM
 obtain ⟨V, cv, rfl⟩ := Kd.R_slice hr
 rw [Int.toNat_natCast] at hc hf
 have hs : (G.k63).sz = 5 := rfl
 rw [hs] at hc hf
 exact ⟨g, rfl, Nat.le_trans hb hg, _, _, _, _, V, _, cv, hc 0 _ rfl, hc 1 _ rfl, hc 2 _ rfl, hc 3 _ rfl, hc 4 _ rfl, by have := hf 0; rwa [Nat.add_zero] at this, Txs.of hr hb⟩
end
end Go.Proofs.YtgiefblcckikeaaGreat.M
end

section
/- spoil: what it may write (printed by genunm04.py). -/
attribute [local irreducible] Go.wpStill
namespace Go.Proofs.YtgiefblcckikeaaGreat.M
open Go.RowKit Go.Proofs.YtgiefblcckikeaaGreatW.PrintWords Go.Proofs.YtgiefblcckikeaaGreatW.PrintLast Go.Proofs.YtgiefblcckikeaaGreatW.PrintMore Go.Proofs.YtgiefblcckikeaaGreat.G
set_option maxHeartbeats 4000000 in
theorem spoil_is {w : World} {base : Nat} (x0 x1 x2 : Int) (A : Option Addr) (n c : Nat) (h : Txs base w A n) (hb : base ≤ w.heap.size) :
  Calls Tryz.prog 34 #[.agg #[.int .i64 x0, .int .i64 x1, .int .i64 x2, .slice A n c]] w fun e w' => e = .returned (.tuple #[]) ∧ Sp base w w' := by
 have HB := Lib.hid hb
 have s0 := Sp.alloc base w (.cells #[.int .i64 x0, .int .i64 x1, .int .i64 x2, .slice A n c] 29) hb
 have k3 : (w.alloc (.cells #[.int .i64 x0, .int .i64 x1, .int .i64 x2, .slice A n c] 29)).cell? ⟨w.heap.size, 3, none⟩ = some (.slice A n c) := (blk_cell (heap_alloc_new w _) 3).trans rfl
 obtain ⟨w1, hw⟩ : ∃ W, w.alloc (.cells #[.int .i64 x0, .int .i64 x1, .int .i64 x2, .slice A n c] 29) = W := ⟨_, rfl⟩
 obtain ⟨g, hg⟩ : ∃ g, w.heap.size = g := ⟨_, rfl⟩
 have HG := Lib.hid (show base ≤ g by rw [← hg]; exact hb)
 rw [hw] at s0 k3
 rw [hg] at k3
 have H1 := Lib.hid (h.step s0); have S0 := Lib.hid s0; have K3 := Lib.hid k3
 have HM : n ≤ 9223372036854775807 := h.m
 clear h s0 k3 hb
 go_enter Tryz.func34, Tryz.ntmps34
 have k3 := K3.out
 go_upto_block 0 with fail
 clear k3 hw hg
 go_wp2_with fail
 go_loopw [11] (fun i W => ∃ k : Nat, i = .int .i64 (k : Int) ∧ k ≤ n ∧ Sp base w1 W) (fun i _ => n - (intOf i).toNat)
 case atStart => exact ⟨0, rfl, Nat.zero_le _, Sp.refl _ _⟩
 case round =>
  obtain ⟨k, rfl, hk, hS⟩ := hrel
  have HS := Lib.hid hS
  clear hS
  by_cases hlt : k < n
  ·obtain ⟨gt, rfl, hgt, y0, y1, A2, A3, A4, A5, n2, n3, n4, n5, c2, c3, c4, c5, e0, e1, e2, e3, e4, e5, ef, i2, i3, i4, i5⟩ := (H1.out.step HS.out).at_ k hlt
   have k3 := HS.out.slice HG.out K3.out
   go_upto_region 5 with fail
   have st := Sp.alloc base wr (.cells #[.int .i64 y0, .int .i64 y1, .slice A2 n2 c2, .slice A3 n3 c3, .slice A4 n4 c4, .slice A5 n5 c5] 26) (Nat.le_trans HB.out (Nat.le_trans S0.out.b.size HS.out.b.size))
   have hx := heap_alloc_new wr (.cells #[.int .i64 y0, .int .i64 y1, .slice A2 n2 c2, .slice A3 n3 c3, .slice A4 n4 c4, .slice A5 n5 c5] 26)
   obtain ⟨wt, hw⟩ : ∃ W, wr.alloc (.cells #[.int .i64 y0, .int .i64 y1, .slice A2 n2 c2, .slice A3 n3 c3, .slice A4 n4 c4, .slice A5 n5 c5] 26) = W := ⟨_, rfl⟩
   have hgb : base ≤ wr.heap.size := Nat.le_trans HB.out (Nat.le_trans S0.out.b.size HS.out.b.size)
   obtain ⟨tb, hg⟩ : ∃ g, wr.heap.size = g := ⟨_, rfl⟩
   rw [hw] at st hx ⊢
   rw [hg] at hx hgb ⊢
   have TB := Lib.hid hgb
   have Q2 := Lib.hid (show wt.cell? ⟨tb, 2, none⟩ = some (.slice A2 n2 c2) from (blk_cell hx 2).trans rfl); have I2 := Lib.hid (i2.step st); have m2 : n2 ≤ 9223372036854775807 := i2.m
   have Q3 := Lib.hid (show wt.cell? ⟨tb, 3, none⟩ = some (.slice A3 n3 c3) from (blk_cell hx 3).trans rfl); have I3 := Lib.hid (i3.step st); have m3 : n3 ≤ 9223372036854775807 := i3.m
   have Q4 := Lib.hid (show wt.cell? ⟨tb, 4, none⟩ = some (.slice A4 n4 c4) from (blk_cell hx 4).trans rfl); have I4 := Lib.hid (i4.step st); have m4 : n4 ≤ 9223372036854775807 := i4.m
   have Q5 := Lib.hid (show wt.cell? ⟨tb, 5, none⟩ = some (.slice A5 n5 c5) from (blk_cell hx 5).trans rfl); have I5 := Lib.hid (i5.step st); have m5 : n5 ≤ 9223372036854775807 := i5.m
   have E0 := Lib.hid (And.intro e0 ef); have HT := Lib.hid (HS.out.trans st)
   have ST := Lib.hid st
   clear hw hg st hx hgb e0 e1 e2 e3 e4 e5 ef i2 i3 i4 i5 k3
   have q2 := Q2.out
   go_upto_block 2 with fail
   clear q2
   go_wp2_with fail
   go_loopw [22] (fun i W => ∃ j : Nat, i = .int .i64 (j : Int) ∧ j ≤ n2 ∧ Sp base wt W) (fun i _ => n2 - (intOf i).toNat)
   case atStart => exact ⟨0, rfl, Nat.zero_le _, Sp.refl _ _⟩
   case round =>
    obtain ⟨j, rfl, hj, hS⟩ := hrel
    have S2 := Lib.hid hS
    clear hS
    by_cases hjl : j < n2
    ·obtain ⟨ga, rfl, hga, ⟨x, hx⟩, hf⟩ := (I2.out.step S2.out).at_ j hjl
     have q2 := S2.out.slice TB.out Q2.out
     have HX := Lib.hid (And.intro hga hx)
     go_wp2_with fail
     go_roundw
     case rel => exact ⟨j + 1, by go_num, hjl, S2.out.trans (Sp.put HX.out.1 HX.out.2 _)⟩
     case measure => simp [intOf]; omega
    ·have hjl : j = n2 := by omega
     subst hjl
     clear hj
     have q3 := S2.out.slice TB.out Q3.out
     go_upto_block 4 with fail
     clear q3
     go_wp2_with fail
     go_loopw [36] (fun i W => ∃ j : Nat, i = .int .i64 (j : Int) ∧ j ≤ n3 ∧ Sp base wt W) (fun i _ => n3 - (intOf i).toNat)
     case atStart => exact ⟨0, rfl, Nat.zero_le _, S2.out⟩
     case round =>
      obtain ⟨j, rfl, hj, hS⟩ := hrel
      have S3 := Lib.hid hS
      clear hS
      by_cases hjl : j < n3
      ·obtain ⟨ga, rfl, hga, ⟨x, hx⟩, hf⟩ := (I3.out.step S3.out).at_ j hjl
       have q3 := S3.out.slice TB.out Q3.out
       have HX := Lib.hid (And.intro hga hx)
       go_wp2_with fail
       go_roundw
       case rel => exact ⟨j + 1, by go_num, hjl, S3.out.trans (Sp.put HX.out.1 HX.out.2 _)⟩
       case measure => simp [intOf]; omega
      ·have hjl : j = n3 := by omega
       subst hjl
       clear hj
       have q4 := S3.out.slice TB.out Q4.out
       go_upto_block 6 with fail
       clear q4
       go_wp2_with fail
       go_loopw [47] (fun i W => ∃ j : Nat, i = .int .i64 (j : Int) ∧ j ≤ n4 ∧ Sp base wt W) (fun i _ => n4 - (intOf i).toNat)
       case atStart => exact ⟨0, rfl, Nat.zero_le _, S3.out⟩
       case round =>
        obtain ⟨j, rfl, hj, hS⟩ := hrel
        have S4 := Lib.hid hS
        clear hS
        by_cases hjl : j < n4
        ·obtain ⟨ga, rfl, hga, ⟨x, hx⟩, hf⟩ := (I4.out.step S4.out).at_ j hjl
         have q4 := S4.out.slice TB.out Q4.out
         have HX := Lib.hid (And.intro hga hx)
         go_wp2_with fail
         go_roundw
         case rel => exact ⟨j + 1, by go_num, hjl, S4.out.trans (Sp.put HX.out.1 HX.out.2 _)⟩
         case measure => simp [intOf]; omega
        ·have hjl : j = n4 := by omega
         subst hjl
         clear hj
         have q5 := S4.out.slice TB.out Q5.out
         go_upto_block 8 with fail
         clear q5
         go_wp2_with fail
         go_loopw [59] (fun i W => ∃ j : Nat, i = .int .i64 (j : Int) ∧ j ≤ n5 ∧ Sp base wt W) (fun i _ => n5 - (intOf i).toNat)
         case atStart => exact ⟨0, rfl, Nat.zero_le _, S4.out⟩
         case round =>
          obtain ⟨j, rfl, hj, hS⟩ := hrel
          have S5 := Lib.hid hS
          clear hS
          by_cases hjl : j < n5
          ·obtain ⟨ga, rfl, hga, ⟨x, hx⟩, hf⟩ := (I5.out.step S5.out).at_ j hjl
           have q5 := S5.out.slice TB.out Q5.out
           have HX := Lib.hid (And.intro hga hx)
           go_wp2_with fail
           go_roundw
           case rel => exact ⟨j + 1, by go_num, hjl, S5.out.trans (Sp.put HX.out.1 HX.out.2 _)⟩
           case measure => simp [intOf]; omega
          ·have hjl : j = n5 := by omega
           subst hjl
           clear hj
           have k3 := (HT.out.trans S5.out).slice HG.out K3.out
           obtain ⟨z, hz⟩ := (ST.out.trans S5.out).int hgt ⟨_, E0.out.1⟩
           have hzf := (ST.out.trans S5.out).f gt _ hgt (by rw [E0.out.1]; rfl) E0.out.2
           have HZ := Lib.hid (And.intro hgt hz)
           go_wp2_with fail
           go_roundw
           case rel => exact ⟨k + 1, by go_num, hlt, (HT.out.trans S5.out).trans (Sp.put HZ.out.1 HZ.out.2 _)⟩
           case measure => simp [intOf]; omega
  ·have hkl : k = n := by omega
   subst hkl
   go_wp2_with fail
   go_end0
   exact ⟨rfl, S0.out.trans HS.out⟩
end Go.Proofs.YtgiefblcckikeaaGreat.M
end

section
/- the reference's CloneTxn (printed by genclref04.py). -/
attribute [local irreducible] Go.wpStill
namespace Go.Proofs.YtgiefblcckikeaaGreat.M
open Go.RowKit Go.Proofs.YtgiefblcckikeaaGreatW.PrintWords Go.Proofs.YtgiefblcckikeaaGreatW.PrintLast Go.Proofs.YtgiefblcckikeaaGreatW.PrintMore Go.Proofs.YtgiefblcckikeaaGreat.G
set_option maxHeartbeats 4000000 in
theorem refCloneTx_is {w : World} (t : TxD) {A2 A3 A4 A5 : Option Addr} {c2 c3 c4 c5 : Nat} (hC : TxC w t A2 c2 A3 c3 A4 c4 A5 c5) (hs : SmT t) :
  Calls Tryz.prog 71 #[txV t A2 c2 A3 c3 A4 c4 A5 c5] w fun e w' => TxNew w t e w' := by
 have HC := Lib.hid hC; have HS := Lib.hid hs
 have HT0 := Lib.hid (Bx.start w 26 #[.int .i64 0, .int .i64 0, .slice none 0 0, .slice none 0 0, .slice none 0 0, .slice none 0 0] #[.int .i64 t.f0, .int .i64 t.f1, .slice A2 t.f2.length c2, .slice A3 t.f3.length c3, .slice A4 t.f4.length c4, .slice A5 t.f5.length c5])
 clear hC hs
 go_enter Tryz.func71, Tryz.ntmps71
 go_upto_region 1 with fail
 obtain ⟨g, hg⟩ : ∃ g, w.heap.size = g := ⟨_, rfl⟩
 obtain ⟨w0, hw⟩ : ∃ w0, (w.alloc (.cells #[.int .i64 t.f0, .int .i64 t.f1, .slice A2 t.f2.length c2, .slice A3 t.f3.length c3, .slice A4 t.f4.length c4, .slice A5 t.f5.length c5] 26)).alloc (.cells #[.int .i64 0, .int .i64 0, .slice none 0 0, .slice none 0 0, .slice none 0 0, .slice none 0 0] 26) = w0 := ⟨_, rfl⟩
 have HG := Lib.hid hg
 rw [hw] at HT0 ⊢
 rw [hg] at HT0 ⊢
 clear hw hg
 have d2 : w0.cell? ⟨g, 2, none⟩ = some (.slice A2 t.f2.length c2) := (blk_cell HT0.out.y 2).trans rfl
 go_upto_region 2 with ((with_reducible refine gate_builtin (b := .append) (xs := #[.const (.slice none 0 0), .tmp 4]) rfl ?_); at_builtin; refine Kd.R_append_rows (Kd.int .u8) (w0 := w0) w0.heap.size rfl (.const (.slice none 0 0)) (.tmp 4) 23 5 (.int .u8 0) 1 rfl Tryz.underlying23 infoU8 rfl (by decide) (by omega) _ ([] : List Int) t.f2 _ _ _ (fun _ => True) (fun _ => False) rfl rfl (Kd.R_nil _ _ _ _ _) (Kd.C_below HC.out.g2 HT0.out.d) (fun _ _ h => h) (fun _ h => h.elim) (fun _ _ => trivial) (Below.refl _ _) (Nat.le_refl _) (by have := HS.out.1; simp; omega) ?_; intro w_ w1 hv hb _ _; rw [List.nil_append] at hv; obtain ⟨N2, N2c, rfl⟩ := Kd.R_slice hv; have HT1 := Lib.hid (HT0.out.callR hb hv); clear hv hb d2; have d2 : w1.cell? ⟨g, 2, none⟩ = some (.slice A2 t.f2.length c2) := (blk_cell HT1.out.y 2).trans rfl; have z2 : w1.frozen? ⟨g, 2, none⟩ = false := blk_frozen HT1.out.y 2)
 have HT2 := Lib.hid (HT1.out.set 2 (.slice N2 t.f2.length N2c) #[.int .i64 t.f0, .int .i64 t.f1, .slice N2 t.f2.length N2c, .slice A3 t.f3.length c3, .slice A4 t.f4.length c4, .slice A5 t.f5.length c5] (blk_put HT1.out.y 2 _ rfl))
 have HSZ2 := Lib.hid (show w1.heap.size ≤ (w1.setCell ⟨g, 2, none⟩ (.slice N2 t.f2.length N2c)).heap.size by rw [World.size_setCell]; exact Nat.le_refl _)
 obtain ⟨w2, hw⟩ : ∃ W, w1.setCell ⟨g, 2, none⟩ (.slice N2 t.f2.length N2c) = W := ⟨_, rfl⟩
 rw [hw] at HT2 HSZ2 ⊢
 clear hw HT0 HT1 d2 z2
 have d3 : w2.cell? ⟨g, 3, none⟩ = some (.slice A3 t.f3.length c3) := (blk_cell HT2.out.y 3).trans rfl
 go_upto_region 3 with ((with_reducible refine gate_builtin (b := .append) (xs := #[.const (.slice none 0 0), .tmp 8]) rfl ?_); at_builtin; refine Kd.R_append_rows (Kd.int .i64) (w0 := w2) w2.heap.size rfl (.const (.slice none 0 0)) (.tmp 8) 24 2 (.int .i64 0) 8 rfl Tryz.underlying24 infoI64 rfl (by decide) (by omega) _ ([] : List Int) t.f3 _ _ _ (fun _ => True) (fun _ => False) rfl rfl (Kd.R_nil _ _ _ _ _) (Kd.C_below HC.out.g3 HT2.out.d) (fun _ _ h => h) (fun _ h => h.elim) (fun _ _ => trivial) (Below.refl _ _) (Nat.le_refl _) (by have := HS.out.2.1; simp; omega) ?_; intro w_ w3 hv hb _ _; rw [List.nil_append] at hv; obtain ⟨N3, N3c, rfl⟩ := Kd.R_slice hv; have HT3 := Lib.hid (HT2.out.callR hb hv); clear hv hb d3; have d3 : w3.cell? ⟨g, 3, none⟩ = some (.slice A3 t.f3.length c3) := (blk_cell HT3.out.y 3).trans rfl; have z3 : w3.frozen? ⟨g, 3, none⟩ = false := blk_frozen HT3.out.y 3)
 have HT4 := Lib.hid (HT3.out.set 3 (.slice N3 t.f3.length N3c) #[.int .i64 t.f0, .int .i64 t.f1, .slice N2 t.f2.length N2c, .slice N3 t.f3.length N3c, .slice A4 t.f4.length c4, .slice A5 t.f5.length c5] (blk_put HT3.out.y 3 _ rfl))
 have HSZ4 := Lib.hid (show w3.heap.size ≤ (w3.setCell ⟨g, 3, none⟩ (.slice N3 t.f3.length N3c)).heap.size by rw [World.size_setCell]; exact Nat.le_refl _)
 obtain ⟨w4, hw⟩ : ∃ W, w3.setCell ⟨g, 3, none⟩ (.slice N3 t.f3.length N3c) = W := ⟨_, rfl⟩
 rw [hw] at HT4 HSZ4 ⊢
 clear hw HT2 HT3 d3 z3
 have d4 : w4.cell? ⟨g, 4, none⟩ = some (.slice A4 t.f4.length c4) := (blk_cell HT4.out.y 4).trans rfl
 go_upto_region 4 with ((with_reducible refine gate_builtin (b := .append) (xs := #[.const (.slice none 0 0), .tmp 12]) rfl ?_); at_builtin; refine Kd.R_append_rows G.k101 (w0 := w4) w4.heap.size rfl (.const (.slice none 0 0)) (.tmp 12) 22 101 (.agg #[.int .i32 0, .int .i64 0]) 16 rfl Tryz.underlying22 infoKey rfl (by decide) (by omega) _ ([] : List (G.S101)) t.f4 _ _ _ (fun _ => True) (fun _ => False) rfl rfl (Kd.R_nil _ _ _ _ _) (Kd.C_below HC.out.g4 HT4.out.d) (fun x cs h => (by rw [G.k101_open h]; exact G.k101_mkM _ _ _ _)) (fun _ h => h.elim) (fun _ _ => trivial) (Below.refl _ _) (Nat.le_refl _) (by have := HS.out.2.2.1; simp; omega) ?_; intro w_ w5 hv hb _ _; rw [List.nil_append] at hv; obtain ⟨N4, N4c, rfl⟩ := Kd.R_slice hv; have HT5 := Lib.hid (HT4.out.callR hb hv); clear hv hb d4; have d4 : w5.cell? ⟨g, 4, none⟩ = some (.slice A4 t.f4.length c4) := (blk_cell HT5.out.y 4).trans rfl; have z4 : w5.frozen? ⟨g, 4, none⟩ = false := blk_frozen HT5.out.y 4)
 have HT6 := Lib.hid (HT5.out.set 4 (.slice N4 t.f4.length N4c) #[.int .i64 t.f0, .int .i64 t.f1, .slice N2 t.f2.length N2c, .slice N3 t.f3.length N3c, .slice N4 t.f4.length N4c, .slice A5 t.f5.length c5] (blk_put HT5.out.y 4 _ rfl))
 have HSZ6 := Lib.hid (show w5.heap.size ≤ (w5.setCell ⟨g, 4, none⟩ (.slice N4 t.f4.length N4c)).heap.size by rw [World.size_setCell]; exact Nat.le_refl _)
 obtain ⟨w6, hw⟩ : ∃ W, w5.setCell ⟨g, 4, none⟩ (.slice N4 t.f4.length N4c) = W := ⟨_, rfl⟩
 rw [hw] at HT6 HSZ6 ⊢
 clear hw HT4 HT5 d4 z4
 have d5 : w6.cell? ⟨g, 5, none⟩ = some (.slice A5 t.f5.length c5) := (blk_cell HT6.out.y 5).trans rfl
 go_upto_region 5 with ((with_reducible refine gate_builtin (b := .append) (xs := #[.const (.slice none 0 0), .tmp 16]) rfl ?_); at_builtin; refine Kd.R_append_rows G.k101 (w0 := w6) w6.heap.size rfl (.const (.slice none 0 0)) (.tmp 16) 22 101 (.agg #[.int .i32 0, .int .i64 0]) 16 rfl Tryz.underlying22 infoKey rfl (by decide) (by omega) _ ([] : List (G.S101)) t.f5 _ _ _ (fun _ => True) (fun _ => False) rfl rfl (Kd.R_nil _ _ _ _ _) (Kd.C_below HC.out.g5 HT6.out.d) (fun x cs h => (by rw [G.k101_open h]; exact G.k101_mkM _ _ _ _)) (fun _ h => h.elim) (fun _ _ => trivial) (Below.refl _ _) (Nat.le_refl _) (by have := HS.out.2.2.2; simp; omega) ?_; intro w_ w7 hv hb _ _; rw [List.nil_append] at hv; obtain ⟨N5, N5c, rfl⟩ := Kd.R_slice hv; have HT7 := Lib.hid (HT6.out.callR hb hv); clear hv hb d5; have d5 : w7.cell? ⟨g, 5, none⟩ = some (.slice A5 t.f5.length c5) := (blk_cell HT7.out.y 5).trans rfl; have z5 : w7.frozen? ⟨g, 5, none⟩ = false := blk_frozen HT7.out.y 5)
 have HT8 := Lib.hid (HT7.out.set 5 (.slice N5 t.f5.length N5c) #[.int .i64 t.f0, .int .i64 t.f1, .slice N2 t.f2.length N2c, .slice N3 t.f3.length N3c, .slice N4 t.f4.length N4c, .slice N5 t.f5.length N5c] (blk_put HT7.out.y 5 _ rfl))
 have HSZ8 := Lib.hid (show w7.heap.size ≤ (w7.setCell ⟨g, 5, none⟩ (.slice N5 t.f5.length N5c)).heap.size by rw [World.size_setCell]; exact Nat.le_refl _)
 obtain ⟨w8, hw⟩ : ∃ W, w7.setCell ⟨g, 5, none⟩ (.slice N5 t.f5.length N5c) = W := ⟨_, rfl⟩
 rw [hw] at HT8 HSZ8 ⊢
 clear hw HT6 HT7 d5 z5
 have d0 : w8.cell? ⟨g, 0, none⟩ = some (.int .i64 t.f0) := (blk_cell HT8.out.y 0).trans rfl
 have z0 : w8.frozen? ⟨g, 0, none⟩ = false := blk_frozen HT8.out.y 0
 have d1 : w8.cell? ⟨g, 1, none⟩ = some (.int .i64 t.f1) := (blk_cell HT8.out.y 1).trans rfl
 have z1 : w8.frozen? ⟨g, 1, none⟩ = false := blk_frozen HT8.out.y 1
 have d2 : w8.cell? ⟨g, 2, none⟩ = some (.slice N2 t.f2.length N2c) := (blk_cell HT8.out.y 2).trans rfl
 have z2 : w8.frozen? ⟨g, 2, none⟩ = false := blk_frozen HT8.out.y 2
 have d3 : w8.cell? ⟨g, 3, none⟩ = some (.slice N3 t.f3.length N3c) := (blk_cell HT8.out.y 3).trans rfl
 have z3 : w8.frozen? ⟨g, 3, none⟩ = false := blk_frozen HT8.out.y 3
 have d4 : w8.cell? ⟨g, 4, none⟩ = some (.slice N4 t.f4.length N4c) := (blk_cell HT8.out.y 4).trans rfl
 have z4 : w8.frozen? ⟨g, 4, none⟩ = false := blk_frozen HT8.out.y 4
 have d5 : w8.cell? ⟨g, 5, none⟩ = some (.slice N5 t.f5.length N5c) := (blk_cell HT8.out.y 5).trans rfl
 have z5 : w8.frozen? ⟨g, 5, none⟩ = false := blk_frozen HT8.out.y 5
 have e0 : w8.cell? ⟨g + 1, 0, none⟩ = some (.int .i64 0) := (blk_cell HT8.out.g0 0).trans rfl
 have y0 : w8.frozen? ⟨g + 1, 0, none⟩ = false := blk_frozen HT8.out.g0 0
 have e1 : w8.cell? ⟨g + 1, 1, none⟩ = some (.int .i64 0) := (blk_cell HT8.out.g0 1).trans rfl
 have y1 : w8.frozen? ⟨g + 1, 1, none⟩ = false := blk_frozen HT8.out.g0 1
 have e2 : w8.cell? ⟨g + 1, 2, none⟩ = some (.slice none 0 0) := (blk_cell HT8.out.g0 2).trans rfl
 have y2 : w8.frozen? ⟨g + 1, 2, none⟩ = false := blk_frozen HT8.out.g0 2
 have e3 : w8.cell? ⟨g + 1, 3, none⟩ = some (.slice none 0 0) := (blk_cell HT8.out.g0 3).trans rfl
 have y3 : w8.frozen? ⟨g + 1, 3, none⟩ = false := blk_frozen HT8.out.g0 3
 have e4 : w8.cell? ⟨g + 1, 4, none⟩ = some (.slice none 0 0) := (blk_cell HT8.out.g0 4).trans rfl
 have y4 : w8.frozen? ⟨g + 1, 4, none⟩ = false := blk_frozen HT8.out.g0 4
 have e5 : w8.cell? ⟨g + 1, 5, none⟩ = some (.slice none 0 0) := (blk_cell HT8.out.g0 5).trans rfl
 have y5 : w8.frozen? ⟨g + 1, 5, none⟩ = false := blk_frozen HT8.out.g0 5
 go_wp2_with fail
 have HEB := Lib.hid (blk_put (cs := #[.int .i64 t.f0, .int .i64 t.f1, .slice N2 t.f2.length N2c, .slice N3 t.f3.length N3c, .slice N4 t.f4.length N4c, .slice none 0 0]) (blk_put (cs := #[.int .i64 t.f0, .int .i64 t.f1, .slice N2 t.f2.length N2c, .slice N3 t.f3.length N3c, .slice none 0 0, .slice none 0 0]) (blk_put (cs := #[.int .i64 t.f0, .int .i64 t.f1, .slice N2 t.f2.length N2c, .slice none 0 0, .slice none 0 0, .slice none 0 0]) (blk_put (cs := #[.int .i64 t.f0, .int .i64 t.f1, .slice none 0 0, .slice none 0 0, .slice none 0 0, .slice none 0 0]) (blk_put (cs := #[.int .i64 t.f0, .int .i64 0, .slice none 0 0, .slice none 0 0, .slice none 0 0, .slice none 0 0]) (blk_put (cs := #[.int .i64 0, .int .i64 0, .slice none 0 0, .slice none 0 0, .slice none 0 0, .slice none 0 0]) HT8.out.g0 0 (.int .i64 t.f0) rfl) 1 (.int .i64 t.f1) rfl) 2 (.slice N2 t.f2.length N2c) rfl) 3 (.slice N3 t.f3.length N3c) rfl) 4 (.slice N4 t.f4.length N4c) rfl) 5 (.slice N5 t.f5.length N5c) rfl)
 have HD := Lib.hid (HT8.out.done (((((((KeepS.refl (fun k => k = g + 1 ∨ k = g) w8).set (p := ⟨g + 1, 0, none⟩) (.inl (.inl rfl)) (.int .i64 t.f0)).set (p := ⟨g + 1, 1, none⟩) (.inl (.inl rfl)) (.int .i64 t.f1)).set (p := ⟨g + 1, 2, none⟩) (.inl (.inl rfl)) (.slice N2 t.f2.length N2c)).set (p := ⟨g + 1, 3, none⟩) (.inl (.inl rfl)) (.slice N3 t.f3.length N3c)).set (p := ⟨g + 1, 4, none⟩) (.inl (.inl rfl)) (.slice N4 t.f4.length N4c)).set (p := ⟨g + 1, 5, none⟩) (.inl (.inl rfl)) (.slice N5 t.f5.length N5c)))
 obtain ⟨W, hW⟩ : ∃ W, ((((((w8.setCell ⟨g + 1, 0, none⟩ (.int .i64 t.f0)).setCell ⟨g + 1, 1, none⟩ (.int .i64 t.f1)).setCell ⟨g + 1, 2, none⟩ (.slice N2 t.f2.length N2c)).setCell ⟨g + 1, 3, none⟩ (.slice N3 t.f3.length N3c)).setCell ⟨g + 1, 4, none⟩ (.slice N4 t.f4.length N4c)).setCell ⟨g + 1, 5, none⟩ (.slice N5 t.f5.length N5c)) = W := ⟨_, rfl⟩
 rw [hW] at HEB HD ⊢
 clear hW
 refine bodyPost_ret (results_cell_row rfl _ _ (g + 1) 26 #[.int .i64 t.f0, .int .i64 t.f1, .slice N2 t.f2.length N2c, .slice N3 t.f3.length N3c, .slice N4 t.f4.length N4c, .slice N5 t.f5.length N5c] (0, 0) _ rfl HEB.out Tryz.underlying26 rfl (by kernel_rfl)) rfl ?_
 obtain ⟨⟨⟨⟨⟨-, p2⟩, p3⟩, p4⟩, p5⟩, dd⟩ := HD.out
 exact ⟨_, _, _, _, rfl, Kd.R_mono p2 (fun _ _ => trivial), Kd.R_mono p3 (fun _ _ => trivial), Iv.apart p4 p5 (.inl HSZ6.out), Iv.apart p5 p4 (.inr HSZ6.out), dd⟩
end Go.Proofs.YtgiefblcckikeaaGreat.M
end

section
/- the reference's CloneEntry (printed by genclref04.py). -/
attribute [local irreducible] Go.wpStill
namespace Go.Proofs.YtgiefblcckikeaaGreat.M
open Go.RowKit Go.Proofs.YtgiefblcckikeaaGreatW.PrintWords Go.Proofs.YtgiefblcckikeaaGreatW.PrintLast Go.Proofs.YtgiefblcckikeaaGreatW.PrintMore Go.Proofs.YtgiefblcckikeaaGreat.G
set_option maxHeartbeats 4000000 in
theorem refCloneEn_is {w : World} (x : EntD) {A : Option Addr} {c : Nat} (hc : x.f3.length ≤ c) (hC : Kd.C G.k26 w A x.f3.length x.f3) (hs : SmE x) :
  Calls Tryz.prog 32 #[.agg #[.int .i64 x.f0, .int .i64 x.f1, .int .i64 x.f2, .slice A x.f3.length c]] w fun e w' => EnNew w x e w' := by
 have HC := Lib.hid hC; have HS := Lib.hid hs; have hlm : x.f3.length ≤ 1048576 := hs.1
 have HT0 := Lib.hid (Bx.start w 29 #[.int .i64 0, .int .i64 0, .int .i64 0, .slice none 0 0] #[.int .i64 x.f0, .int .i64 x.f1, .int .i64 x.f2, .slice A x.f3.length c])
 clear hC hs
 go_enter Tryz.func32, Tryz.ntmps32
 go_upto_region 1 with fail
 obtain ⟨g, hg⟩ : ∃ g, w.heap.size = g := ⟨_, rfl⟩
 obtain ⟨w0, hw⟩ : ∃ w0, (w.alloc (.cells #[.int .i64 x.f0, .int .i64 x.f1, .int .i64 x.f2, .slice A x.f3.length c] 29)).alloc (.cells #[.int .i64 0, .int .i64 0, .int .i64 0, .slice none 0 0] 29) = w0 := ⟨_, rfl⟩
 have HG := Lib.hid hg
 rw [hw] at HT0 ⊢
 rw [hg] at HT0 ⊢
 clear hw hg
 have d3 : w0.cell? ⟨g, 3, none⟩ = some (.slice A x.f3.length c) := (blk_cell HT0.out.y 3).trans rfl
 have z3 : w0.frozen? ⟨g, 3, none⟩ = false := blk_frozen HT0.out.y 3
 go_wp2_with fail
 go_loopw [3, 4] (fun v i wr => CeI x A c w w0 g v i wr) (fun _ i _ => x.f3.length - (intOf i).toNat)
 case atStart => exact ⟨0, rfl, Nat.zero_le _, Kd.S_nil _ _ _ _ _, HT0.out, Below.refl _ _⟩
 case round =>
  obtain ⟨k, rfl, hk, hS, hT, hB⟩ := hrel
  obtain ⟨Av, cv, rfl⟩ := Kd.S_slice hS
  have HSS := Lib.hid hS; have HT := Lib.hid hT; have HB := Lib.hid hB
  clear hS hT hB d3 z3
  have d3 : wr.cell? ⟨g, 3, none⟩ = some (.slice A x.f3.length c) := (blk_cell HT.out.y 3).trans rfl
  have hlt1 : (x.f3.take k).length = k := by rw [List.length_take]; omega
  rw [hlt1]
  rw [hlt1] at HSS
  clear hlt1
  by_cases hlt : k < x.f3.length
  ·obtain ⟨t, ht⟩ : ∃ t, x.f3[k]? = some t := ⟨_, List.getElem?_eq_getElem hlt⟩
   obtain ⟨ad, A2, c2, A3, c3, A4, c4, A5, c5, rfl, ⟨e0, e1, e2, e3, e4, e5⟩, hX⟩ := tx_get (Kd.C_below HC.out HT.out.d) ht
   have HB1 := Lib.hid (Below.refl wr.heap.size wr)
   have HTM := Lib.hid (show SmT t from HS.out.2 t (List.mem_of_getElem? ht))
   have HN := Lib.hid (refCloneTx_is t (hX.below HB1.out) HTM.out)
   have HTK := Lib.hid (show x.f3.take (k + 1) = x.f3.take k ++ [t] by rw [List.take_add_one, ht]; rfl)
   clear hX ht
   go_wp2_with fail
   refine HN.out.mono ?_
   rintro e w3 ⟨v2, v3, v4, v5, rfl, r2, r3, r4, r5, hb⟩
   obtain ⟨N2, n2, rfl⟩ := Kd.R_slice r2
   obtain ⟨N3, n3, rfl⟩ := Kd.R_slice r3
   obtain ⟨N4, n4, rfl⟩ := Kd.R_slice r4
   obtain ⟨N5, n5, rfl⟩ := Kd.R_slice r5
   have HBB := Lib.hid (HB1.out.trans (hb.mono HB1.out.size))
   have HZW := Lib.hid (show w0.heap.size ≤ wr.heap.size from HB.out.size)
   have HZ1 := Lib.hid (Nat.le_trans HZW.out HB1.out.size)
   have R2 := Lib.hid (show Kd.R (Kd.int .u8) 5 w3 w0.heap.size (fun k => wr.heap.size ≤ k) _ t.f2 from Kd.R_mono (Kd.R_lower (Kd.R_bound r2) HZ1.out) (fun k hk => Nat.le_trans HB1.out.size hk.2.1))
   have R3 := Lib.hid (show Kd.R (Kd.int .i64) 2 w3 w0.heap.size (fun k => wr.heap.size ≤ k) _ t.f3 from Kd.R_mono (Kd.R_lower (Kd.R_bound r3) HZ1.out) (fun k hk => Nat.le_trans HB1.out.size hk.2.1))
   have R4 := Lib.hid (show Kd.R G.k101 101 w3 w0.heap.size (fun k => wr.heap.size ≤ k) _ t.f4 from Kd.R_mono (Kd.R_lower (Kd.R_bound r4) HZ1.out) (fun k hk => Nat.le_trans HB1.out.size hk.2.1))
   have R5 := Lib.hid (show Kd.R G.k101 101 w3 w0.heap.size (fun k => wr.heap.size ≤ k) _ t.f5 from Kd.R_mono (Kd.R_lower (Kd.R_bound r5) HZ1.out) (fun k hk => Nat.le_trans HB1.out.size hk.2.1))
   have HS3 := Lib.hid (show Kd.S G.k26 26 w3 w0.heap.size (fun k => True ∧ ¬ wr.heap.size ≤ k) (.slice Av k cv) (x.f3.take k) from Kd.S_mono (Kd.S_step (Kd.S_bound HSS.out) (fun k hk2 hlt => HBB.out.block k hlt)) (fun k hk => ⟨trivial, by have := hk.2.2.1; omega⟩))
   have HOWN := Lib.hid (Kd.S_lt HSS.out)
   have HZ3 := Lib.hid (Nat.le_trans HZW.out HBB.out.size)
   have hkl : (x.f3.take k).length ≤ 1048576 := by rw [List.length_take]; omega
   clear r2 r3 r4 r5 hb e0 e1 e2 e3 e4 e5
   go_wp2_with ((with_reducible refine gate_builtin (b := .append) (xs := #[.tmp 12, .tmp 19]) rfl ?_); at_builtin; refine Kd.S_append G.k26 (w0 := w3) w0.heap.size rfl (.tmp 12) (.tmp 19) 27 26 (.agg #[.int .i64 0, .int .i64 0, .slice none 0 0, .slice none 0 0, .slice none 0 0, .slice none 0 0]) 112 rfl Tryz.underlying27 G.info26 rfl (by decide) (by omega) _ (x.f3.take k) t [.int .i64 t.f0, .int .i64 t.f1, .slice N2 t.f2.length n2, .slice N3 t.f3.length n3, .slice N4 t.f4.length n4, .slice N5 t.f5.length n5] (fun _ => True) (fun k => wr.heap.size ≤ k) rfl rfl (G.k26_mkM _ _ _ t R2.out R3.out R4.out R5.out) (fun k hk => ⟨trivial, fun e => by have := HOWN.out k e.symm; omega⟩) (fun _ _ => trivial) HS3.out (Below.refl _ _) HZ3.out (by omega) ?_; intro v1 w5 ho hb5 hg5 hat; rw [← HTK.out] at ho; have HS5 := Lib.hid ho; have HB5 := Lib.hid ((HB.out.trans (HBB.out.mono HB.out.size)).trans hb5); have HT5 := Lib.hid ((HT.out.below HBB.out).grow HT0.out.hz HT0.out.hz2 HT0.out.d.size hb5); clear ho hb5 hg5 hat)
   go_roundw
   case rel => exact ⟨k + 1, by go_num, hlt, HS5.out, HT5.out, HB5.out⟩
   case measure => simp [intOf]; omega
  ·have hkl : k = x.f3.length := by omega
   subst hkl
   rw [List.take_length] at HSS
   have q3 : wr.cell? ⟨g, 3, none⟩ = some (.slice A x.f3.length c) := (blk_cell HT.out.y 3).trans rfl
   have z3 : wr.frozen? ⟨g, 3, none⟩ = false := blk_frozen HT.out.y 3
   have d0 : wr.cell? ⟨g, 0, none⟩ = some (.int .i64 x.f0) := (blk_cell HT.out.y 0).trans rfl
   have d1 : wr.cell? ⟨g, 1, none⟩ = some (.int .i64 x.f1) := (blk_cell HT.out.y 1).trans rfl
   have d2 : wr.cell? ⟨g, 2, none⟩ = some (.int .i64 x.f2) := (blk_cell HT.out.y 2).trans rfl
   have e0 : wr.cell? ⟨g + 1, 0, none⟩ = some (.int .i64 0) := (blk_cell HT.out.g0 0).trans rfl
   have y0 : wr.frozen? ⟨g + 1, 0, none⟩ = false := blk_frozen HT.out.g0 0
   have e1 : wr.cell? ⟨g + 1, 1, none⟩ = some (.int .i64 0) := (blk_cell HT.out.g0 1).trans rfl
   have y1 : wr.frozen? ⟨g + 1, 1, none⟩ = false := blk_frozen HT.out.g0 1
   have e2 : wr.cell? ⟨g + 1, 2, none⟩ = some (.int .i64 0) := (blk_cell HT.out.g0 2).trans rfl
   have y2 : wr.frozen? ⟨g + 1, 2, none⟩ = false := blk_frozen HT.out.g0 2
   have e3 : wr.cell? ⟨g + 1, 3, none⟩ = some (.slice none 0 0) := (blk_cell HT.out.g0 3).trans rfl
   have y3 : wr.frozen? ⟨g + 1, 3, none⟩ = false := blk_frozen HT.out.g0 3
   go_wp2_with fail
   have HT1 := Lib.hid ((HT.out.and ((Sv.of HSS.out HT0.out.d.size).held (fun k hk => by have h1 := HT0.out.hz; have h2 := HT0.out.hz2; rcases hk with rfl | rfl <;> omega))).set 3 (.slice Av x.f3.length cv) #[.int .i64 x.f0, .int .i64 x.f1, .int .i64 x.f2, .slice Av x.f3.length cv] (blk_put HT.out.y 3 _ rfl))
   obtain ⟨w1, hw⟩ : ∃ w1, wr.setCell ⟨g, 3, none⟩ (.slice Av x.f3.length cv) = w1 := ⟨_, rfl⟩
   rw [hw] at HT1 ⊢
   clear hw
   have HEB := Lib.hid (blk_put (cs := #[.int .i64 x.f0, .int .i64 x.f1, .int .i64 x.f2, .slice none 0 0]) (blk_put (cs := #[.int .i64 x.f0, .int .i64 x.f1, .int .i64 0, .slice none 0 0]) (blk_put (cs := #[.int .i64 x.f0, .int .i64 0, .int .i64 0, .slice none 0 0]) (blk_put (cs := #[.int .i64 0, .int .i64 0, .int .i64 0, .slice none 0 0]) HT1.out.g0 0 (.int .i64 x.f0) rfl) 1 (.int .i64 x.f1) rfl) 2 (.int .i64 x.f2) rfl) 3 (.slice Av x.f3.length cv) rfl)
   have HD := Lib.hid (HT1.out.done (((((KeepS.refl (fun k => k = g + 1 ∨ k = g) w1).set (p := ⟨g + 1, 0, none⟩) (.inl (.inl rfl)) (.int .i64 x.f0)).set (p := ⟨g + 1, 1, none⟩) (.inl (.inl rfl)) (.int .i64 x.f1)).set (p := ⟨g + 1, 2, none⟩) (.inl (.inl rfl)) (.int .i64 x.f2)).set (p := ⟨g + 1, 3, none⟩) (.inl (.inl rfl)) (.slice Av x.f3.length cv)))
   obtain ⟨W, hW⟩ : ∃ W, ((((w1.setCell ⟨g + 1, 0, none⟩ (.int .i64 x.f0)).setCell ⟨g + 1, 1, none⟩ (.int .i64 x.f1)).setCell ⟨g + 1, 2, none⟩ (.int .i64 x.f2)).setCell ⟨g + 1, 3, none⟩ (.slice Av x.f3.length cv)) = W := ⟨_, rfl⟩
   rw [hW] at HEB HD ⊢
   clear hW
   refine bodyPost_ret (results_cell_row rfl _ _ (g + 1) 29 #[.int .i64 x.f0, .int .i64 x.f1, .int .i64 x.f2, .slice Av x.f3.length cv] (0, 0) _ rfl HEB.out Tryz.underlying29 rfl (by kernel_rfl)) rfl ?_
   obtain ⟨⟨-, p3⟩, dd⟩ := HD.out
   exact ⟨_, rfl, Kd.S_mono p3 (fun _ _ => trivial), dd⟩
end Go.Proofs.YtgiefblcckikeaaGreat.M
end

section
/- the reference's CloneMsg (printed by genclrefm04.py). -/
attribute [local irreducible] Go.wpStill
namespace Go.Proofs.YtgiefblcckikeaaGreat.M
open Go.RowKit Go.Proofs.YtgiefblcckikeaaGreatW.PrintWords Go.Proofs.YtgiefblcckikeaaGreatW.PrintLast Go.Proofs.YtgiefblcckikeaaGreatW.PrintMore Go.Proofs.YtgiefblcckikeaaGreat.G
theorem cu' {w W : World} {a : Addr} {v : Value} (hb : Below w.heap.size w W) (h : w.cell? a = some v) : W.cell? a = some v := (hb.cell (World.block_lt_of_cell? w _ h)).trans h
set_option maxHeartbeats 4000000 in
theorem refCloneMs_is {w : World} (m : MsgD) {A8 A12 A16 : Option Addr} {c8 c12 c16 : Nat} (hC : MsgC w m A8 c8 A12 c12 A16 c16) (hs : SmM m) :
  Calls Tryz.prog 33 #[.agg #[.int .i64 m.f0, .int .i64 m.f1, .int .i64 m.f2, .int .i64 m.f3, .int .i64 m.f4, .int .i64 m.f5, .int .i64 m.f6, .bool m.f7, .slice A8 m.f8.length c8, .int .i64 m.f9.f0, .int .i64 m.f9.f1, .int .i64 m.f9.f2, .slice A12 m.f9.f3.length c12, .int .i64 m.f10.f0, .int .i64 m.f10.f1, .int .i64 m.f10.f2, .slice A16 m.f10.f3.length c16]] w fun e w' => MsNew w m e w' := by
 have HC := Lib.hid hC; have HS := Lib.hid hs; have hlm : m.f8.length ≤ 1048576 := hs.1
 have HT0 := Lib.hid (Bx.start w 34 #[.int .i64 0, .int .i64 0, .int .i64 0, .int .i64 0, .int .i64 0, .int .i64 0, .int .i64 0, .bool false, .slice none 0 0, .int .i64 0, .int .i64 0, .int .i64 0, .slice none 0 0, .int .i64 0, .int .i64 0, .int .i64 0, .slice none 0 0] #[.int .i64 m.f0, .int .i64 m.f1, .int .i64 m.f2, .int .i64 m.f3, .int .i64 m.f4, .int .i64 m.f5, .int .i64 m.f6, .bool m.f7, .slice A8 m.f8.length c8, .int .i64 m.f9.f0, .int .i64 m.f9.f1, .int .i64 m.f9.f2, .slice A12 m.f9.f3.length c12, .int .i64 m.f10.f0, .int .i64 m.f10.f1, .int .i64 m.f10.f2, .slice A16 m.f10.f3.length c16])
 clear hC hs
 go_enter Tryz.func33, Tryz.ntmps33
 go_upto_region 1 with fail
 obtain ⟨g, hg⟩ : ∃ g, w.heap.size = g := ⟨_, rfl⟩
 obtain ⟨w0, hw⟩ : ∃ w0, (w.alloc (.cells #[.int .i64 m.f0, .int .i64 m.f1, .int .i64 m.f2, .int .i64 m.f3, .int .i64 m.f4, .int .i64 m.f5, .int .i64 m.f6, .bool m.f7, .slice A8 m.f8.length c8, .int .i64 m.f9.f0, .int .i64 m.f9.f1, .int .i64 m.f9.f2, .slice A12 m.f9.f3.length c12, .int .i64 m.f10.f0, .int .i64 m.f10.f1, .int .i64 m.f10.f2, .slice A16 m.f10.f3.length c16] 34)).alloc (.cells #[.int .i64 0, .int .i64 0, .int .i64 0, .int .i64 0, .int .i64 0, .int .i64 0, .int .i64 0, .bool false, .slice none 0 0, .int .i64 0, .int .i64 0, .int .i64 0, .slice none 0 0, .int .i64 0, .int .i64 0, .int .i64 0, .slice none 0 0] 34) = w0 := ⟨_, rfl⟩
 have HG := Lib.hid hg
 rw [hw] at HT0 ⊢
 rw [hg] at HT0 ⊢
 clear hw hg
 have d8 : w0.cell? ⟨g, 8, none⟩ = some (.slice A8 m.f8.length c8) := (blk_cell HT0.out.y 8).trans rfl
 have z8 : w0.frozen? ⟨g, 8, none⟩ = false := blk_frozen HT0.out.y 8
 go_wp2_with fail
 go_loopw [3, 4] (fun v i wr => CmI m A8 c8 A12 c12 A16 c16 w w0 g v i wr) (fun _ i _ => m.f8.length - (intOf i).toNat)
 case atStart => exact ⟨0, rfl, Nat.zero_le _, Kd.S_nil _ _ _ _ _, HT0.out, Below.refl _ _⟩
 case round =>
  obtain ⟨k, rfl, hk, hS, hT, hB⟩ := hrel
  obtain ⟨Av, cv, rfl⟩ := Kd.S_slice hS
  have HSS := Lib.hid hS; have HT := Lib.hid hT; have HB := Lib.hid hB
  clear hS hT hB d8 z8
  have d8 : wr.cell? ⟨g, 8, none⟩ = some (.slice A8 m.f8.length c8) := (blk_cell HT.out.y 8).trans rfl
  have hlt1 : (m.f8.take k).length = k := by rw [List.length_take]; omega
  rw [hlt1]
  rw [hlt1] at HSS
  clear hlt1
  by_cases hlt : k < m.f8.length
  ·obtain ⟨t, ht⟩ : ∃ t, m.f8[k]? = some t := ⟨_, List.getElem?_eq_getElem hlt⟩
   obtain ⟨ad, B, d, hA8, e0, e1, e2, e3, e4, hl, hX⟩ := tr_get HC.out.g8 ht
   have FE := Lib.hid (fun (W : World) (hb : Below w.heap.size w W) => And.intro (cu' hb e0) (And.intro (cu' hb e1) (And.intro (cu' hb e2) (And.intro (cu' hb e3) (cu' hb e4)))))
   have HTM := Lib.hid (show SmE t.f1 from HS.out.2.1 t (List.mem_of_getElem? ht))
   have HX := Lib.hid hX
   have HTK := Lib.hid (show m.f8.take (k + 1) = m.f8.take k ++ [t] by rw [List.take_add_one, ht]; rfl)
   clear hX ht e0 e1 e2 e3 e4
   subst hA8
   go_upto_region 5 with fail
   have HTD := Lib.hid HT.out.drew
   refine start_ (n := 18) (S := fun w' => w'.cell? ⟨g, 8, none⟩ = some (.slice (some ad) m.f8.length c8) ∧ w'.cell? (ad.add (k * 5)) = some (.int .i64 t.f0) ∧ w'.cell? ⟨(ad.add (k * 5)).block, (ad.add (k * 5)).off + 1, none⟩ = some (.int .i64 t.f1.f0) ∧ w'.cell? ⟨(ad.add (k * 5)).block, (ad.add (k * 5)).off + 2, none⟩ = some (.int .i64 t.f1.f1) ∧ w'.cell? ⟨(ad.add (k * 5)).block, (ad.add (k * 5)).off + 3, none⟩ = some (.int .i64 t.f1.f2) ∧ w'.cell? ⟨(ad.add (k * 5)).block, (ad.add (k * 5)).off + 4, none⟩ = some (.slice B t.f1.f3.length d)) (ds := []) #[false, false, false, false, false, false, false, false, false, false, false, false, false, false, false, false, false, false] (by kernel_rfl) rfl rfl ⟨(blk_cell HTD.out.y 8).trans rfl, FE.out _ HTD.out.d⟩ (fun hHeld => ?_)
   obtain ⟨wa, hwa⟩ : ∃ wa, wr.drew = wa := ⟨_, rfl⟩
   have HB1 := Lib.hid (show Below wr.heap.size wr wa by rw [← hwa]; exact (Below.refl _ _).drew)
   rw [hwa] at HTD hHeld ⊢
   clear hwa d8
   refine pure_ (i := 0) (N := some 12) (v := ?_) (a' := ?_) #[true, false, false, false, false, false, false, false, false, false, false, false, false, false, false, false, false, false] rfl rfl (by kernel_rfl) (fun _ _ _ h => h) (Or.inl ⟨by rfl, ?_⟩) ?_ ?_
   rotate_left
   ·intro w'
    go_simp
    try with_reducible rfl
   rotate_left
   ·simp only [Act.put, sq1, sq2, sq3, i64_w, i32_w]
    rfl
   refine pure_ (i := 1) (N := some 13) (v := ?_) (a' := ?_) #[true, true, false, false, false, false, false, false, false, false, false, false, false, false, false, false, false, false] rfl rfl (by kernel_rfl) (fun _ _ _ h => h) (Or.inl ⟨by rfl, ?_⟩) ?_ ?_
   rotate_left
   ·intro w'
    go_simp
    try with_reducible rfl
   rotate_left
   ·simp only [Act.put, sq1, sq2, sq3, i64_w, i32_w]
    rfl
   refine pure_ (i := 3) (N := some 15) (v := ?_) (a' := ?_) #[true, true, false, true, false, false, false, false, false, false, false, false, false, false, false, false, false, false] rfl rfl (by kernel_rfl) (fun _ _ _ h => h) (Or.inl ⟨by rfl, ?_⟩) ?_ ?_
   rotate_left
   ·intro w'
    go_simp
    try with_reducible rfl
   rotate_left
   ·simp only [Act.put, sq1, sq2, sq3, i64_w, i32_w]
    rfl
   refine pure_ (i := 7) (N := some 19) (v := ?_) (a' := ?_) #[true, true, false, true, false, false, false, true, false, false, false, false, false, false, false, false, false, false] rfl rfl (by kernel_rfl) (fun _ _ _ h => h) (Or.inl ⟨by rfl, ?_⟩) ?_ ?_
   rotate_left
   ·intro w'
    go_simp
    try with_reducible rfl
   rotate_left
   ·simp only [Act.put, sq1, sq2, sq3, i64_w, i32_w]
    rfl
   refine pure_ (i := 9) (N := some 21) (v := ?_) (a' := ?_) #[true, true, false, true, false, false, false, true, false, true, false, false, false, false, false, false, false, false] rfl rfl (by kernel_rfl) (fun _ _ _ h => h) (Or.inl ⟨by rfl, ?_⟩) ?_ ?_
   rotate_left
   ·intro w'
    go_simp
    try with_reducible rfl
   rotate_left
   ·simp only [Act.put, sq1, sq2, sq3, i64_w, i32_w]
    rfl
   refine take_ (i := 2) (N := some 14) (v := ?_) (a' := ?_) #[true, true, true, true, false, false, false, true, false, true, false, false, false, false, false, false, false, false] rfl rfl (by kernel_rfl) (fun _ _ _ h => h) (Or.inl ⟨by rfl, ?_⟩) hHeld ?_ ?_
   rotate_left
   ·intro w' hS
    go_simp
    try with_reducible rfl
   rotate_left
   ·simp only [Act.put, sq1, sq2, sq3, i64_w, i32_w]
    rfl
   refine pure_ (i := 4) (N := some 16) (v := ?_) (a' := ?_) #[true, true, true, true, true, false, false, true, false, true, false, false, false, false, false, false, false, false] rfl rfl (by kernel_rfl) (fun _ _ _ h => h) (Or.inl ⟨by rfl, ?_⟩) ?_ ?_
   rotate_left
   ·intro w'
    go_simp
    try with_reducible rfl
   rotate_left
   ·simp only [Act.put, sq1, sq2, sq3, i64_w, i32_w]
    rfl
   refine pure_ (i := 5) (N := some 17) (v := ?_) (a' := ?_) #[true, true, true, true, true, true, false, true, false, true, false, false, false, false, false, false, false, false] rfl rfl (by kernel_rfl) (fun _ _ _ h => h) (Or.inl ⟨by rfl, ?_⟩) ?_ ?_
   rotate_left
   ·intro w'
    go_simp
    try with_reducible rfl
   rotate_left
   ·simp only [Act.put, sq1, sq2, sq3, i64_w, i32_w]
    rfl
   refine take_ (i := 6) (N := some 18) (v := ?_) (a' := ?_) #[true, true, true, true, true, true, true, true, false, true, false, false, false, false, false, false, false, false] rfl rfl (by kernel_rfl) (fun _ _ _ h => h) (Or.inl ⟨by rfl, ?_⟩) hHeld ?_ ?_
   rotate_left
   ·intro w' hS
    go_simp
    try with_reducible rfl
   rotate_left
   ·simp only [Act.put, sq1, sq2, sq3, i64_w, i32_w]
    rfl
   refine take_ (i := 8) (N := some 20) (v := ?_) (a' := ?_) #[true, true, true, true, true, true, true, true, true, true, false, false, false, false, false, false, false, false] rfl rfl (by kernel_rfl) (fun _ _ _ h => h) (Or.inl ⟨by rfl, ?_⟩) hHeld ?_ ?_
   rotate_left
   ·intro w' hS
    go_simp
    try with_reducible rfl
   rotate_left
   ·simp only [Act.put, sq1, sq2, sq3, i64_w, i32_w]
    rfl
   refine pure_ (i := 10) (N := some 22) (v := ?_) (a' := ?_) #[true, true, true, true, true, true, true, true, true, true, true, false, false, false, false, false, false, false] rfl rfl (by kernel_rfl) (fun _ _ _ h => h) (Or.inl ⟨by rfl, ?_⟩) ?_ ?_
   rotate_left
   ·intro w'
    go_simp
    try with_reducible rfl
   rotate_left
   ·simp only [Act.put, sq1, sq2, sq3, i64_w, i32_w]
    rfl
   refine pure_ (i := 11) (N := some 23) (v := ?_) (a' := ?_) #[true, true, true, true, true, true, true, true, true, true, true, true, false, false, false, false, false, false] rfl rfl (by kernel_rfl) (fun _ _ _ h => h) (Or.inl ⟨by rfl, ?_⟩) ?_ ?_
   rotate_left
   ·intro w'
    go_simp
    try with_reducible rfl
   rotate_left
   ·simp only [Act.put, sq1, sq2, sq3, i64_w, i32_w]
    rfl
   refine take_ (i := 12) (N := some 24) (v := ?_) (a' := ?_) #[true, true, true, true, true, true, true, true, true, true, true, true, true, false, false, false, false, false] rfl rfl (by kernel_rfl) (fun _ _ _ h => h) (Or.inl ⟨by rfl, ?_⟩) hHeld ?_ ?_
   rotate_left
   ·intro w' hS
    go_simp
    try with_reducible rfl
   rotate_left
   ·simp only [Act.put, sq1, sq2, sq3, i64_w, i32_w]
    rfl
   refine one_ (i := 13) (N := some 25) #[true, true, true, true, true, true, true, true, true, true, true, true, true, true, false, false, false, false] rfl rfl (by kernel_rfl) (by decide) (fun K hK => ?_)
   go_simp
   refine (refCloneEn_is t.f1 hl (Kd.C_below HX.out HTD.out.d) HTM.out).mono ?_
   rintro e w3 ⟨v_, rfl, hv, hb⟩
   obtain ⟨N, n, rfl⟩ := Kd.R_slice (Kd.S_R hv)
   have HBB := Lib.hid (HB1.out.trans (hb.mono HB1.out.size))
   have HZW := Lib.hid (show w0.heap.size ≤ wr.heap.size from HB.out.size)
   have HZ1 := Lib.hid (Nat.le_trans HZW.out HB1.out.size)
   have HT3 := Lib.hid (HT.out.below HBB.out)
   have RN := Lib.hid (show Kd.R G.k26 26 w3 w0.heap.size (fun k => wr.heap.size ≤ k) _ t.f1.f3 from Kd.R_mono (Kd.R_lower (Kd.R_bound (Kd.S_R hv)) HZ1.out) (fun k hk => Nat.le_trans HB1.out.size hk.2.1))
   have HS3 := Lib.hid (show Kd.S G.k63 63 w3 w0.heap.size (fun k => True ∧ ¬ wr.heap.size ≤ k) (.slice Av k cv) (m.f8.take k) from Kd.S_mono (Kd.S_step (Kd.S_bound HSS.out) (fun k hk2 hlt => HBB.out.block k hlt)) (fun k hk => ⟨trivial, by have := hk.2.2.1; omega⟩))
   have HOWN := Lib.hid (Kd.S_lt HSS.out)
   have HZ3 := Lib.hid (Nat.le_trans HZW.out HBB.out.size)
   have hkl : (m.f8.take k).length ≤ 1048576 := by rw [List.length_take]; omega
   clear hv hb
   refine hK.out _ _ ⟨(blk_cell HT3.out.y 8).trans rfl, FE.out _ HT3.out.d⟩ (fun hHeld => ?_)
   clear hK K
   refine pure_ (i := 14) (N := some 26) (v := ?_) (a' := ?_) #[true, true, true, true, true, true, true, true, true, true, true, true, true, true, true, false, false, false] rfl rfl (by kernel_rfl) (fun _ _ _ h => h) (Or.inl ⟨by rfl, ?_⟩) ?_ ?_
   rotate_left
   ·intro w'
    go_simp
    try with_reducible rfl
   rotate_left
   ·simp only [Act.put, sq1, sq2, sq3, i64_w, i32_w]
    rfl
   refine one_ (i := 15) (N := some 27) #[true, true, true, true, true, true, true, true, true, true, true, true, true, true, true, true, false, false] rfl rfl (by kernel_rfl) (by decide) (fun K hK => ?_)
   refine value_ (w1 := ?_) (v := ?_) (by rfl) rfl ?_ ?_
   rotate_left 2
   ·go_simp
    constructor <;> rfl
   have HT4 := Lib.hid (HT3.out.below ((Below.refl _ w3).alloc (Nat.le_refl _) (.cells #[.int .i64 t.f0, .int .i64 t.f1.f0, .int .i64 t.f1.f1, .int .i64 t.f1.f2, .slice N t.f1.f3.length n] 63)))
   refine hK.out _ _ ⟨(blk_cell HT4.out.y 8).trans rfl, FE.out _ HT4.out.d⟩ (fun hHeld => ?_)
   clear hK K
   refine norm_ (a' := ?_) ?_ ?_
   rotate_left
   ·show Act.put _ (some 27) _ = _
    simp only [Act.put, sq1, sq2, sq3, i64_w, i32_w]
    rfl
   refine one_ (i := 16) (N := some 28) #[true, true, true, true, true, true, true, true, true, true, true, true, true, true, true, true, true, false] rfl rfl (by kernel_rfl) (by decide) (fun K hK => ?_)
   refine Kd.S_append_step G.k63 (w0 := w3) w0.heap.size (by rfl) (.tmp 12) (.tmp 27) 30 63 (.agg #[.int .i64 0, .int .i64 0, .int .i64 0, .int .i64 0, .slice none 0 0]) 56 rfl Tryz.underlying30 G.info63 rfl (by decide) (by omega) _ (m.f8.take k) t [.int .i64 t.f0, .int .i64 t.f1.f0, .int .i64 t.f1.f1, .int .i64 t.f1.f2, .slice N t.f1.f3.length n] (fun _ => True) (fun k => wr.heap.size ≤ k) rfl rfl (G.k63_mkM _ _ _ t RN.out) (fun k hk => ⟨trivial, fun e => by have := HOWN.out k e.symm; omega⟩) (fun _ _ => trivial) HS3.out (Below.refl _ _) HZ3.out (by omega) ?_
   intro v1 w5 ho hb5 hg5 hat
   rw [← HTK.out] at ho
   have HS5 := Lib.hid ho
   have HB5 := Lib.hid ((HB.out.trans (HBB.out.mono HB.out.size)).trans hb5)
   have HT5 := Lib.hid ((HT.out.below HBB.out).grow HT0.out.hz HT0.out.hz2 HT0.out.d.size hb5)
   clear ho hb5 hg5 hat
   refine hK.out _ _ ⟨(blk_cell HT5.out.y 8).trans rfl, FE.out _ HT5.out.d⟩ (fun hHeld => ?_)
   clear hK K
   refine norm_ (a' := ?_) ?_ ?_
   rotate_left
   ·show Act.put _ (some 28) _ = _
    simp only [Act.put, sq1, sq2, sq3, i64_w, i32_w]
    rfl
   refine pure_ (i := 17) (N := some 3) (v := ?_) (a' := ?_) #[true, true, true, true, true, true, true, true, true, true, true, true, true, true, true, true, true, true] rfl rfl (by kernel_rfl) (fun _ _ _ h => h) (Or.inl ⟨by rfl, ?_⟩) ?_ ?_
   rotate_left
   ·intro w'
    go_simp
    try with_reducible rfl
   rotate_left
   ·simp only [Act.put, sq1, sq2, sq3, i64_w, i32_w]
    rfl
   refine done_ (by kernel_rfl) ?_
   try go_wp2
   go_roundw
   case rel => exact ⟨k + 1, by go_num, hlt, HS5.out, HT5.out, HB5.out⟩
   case measure => simp [intOf]; omega
  ·have hkl : k = m.f8.length := by omega
   subst hkl
   rw [List.take_length] at HSS
   have z8 : wr.frozen? ⟨g, 8, none⟩ = false := blk_frozen HT.out.y 8
   go_upto_region 7 with fail
   have HTL := Lib.hid (HT.out.and ((Sv.of HSS.out HT0.out.d.size).held (fun k hk => by have h1 := HT0.out.hz; have h2 := HT0.out.hz2; rcases hk with rfl | rfl <;> omega)))
   clear d8 z8
   have HT1 := Lib.hid (HTL.out.set 8 (.slice Av m.f8.length cv) #[.int .i64 m.f0, .int .i64 m.f1, .int .i64 m.f2, .int .i64 m.f3, .int .i64 m.f4, .int .i64 m.f5, .int .i64 m.f6, .bool m.f7, .slice Av m.f8.length cv, .int .i64 m.f9.f0, .int .i64 m.f9.f1, .int .i64 m.f9.f2, .slice A12 m.f9.f3.length c12, .int .i64 m.f10.f0, .int .i64 m.f10.f1, .int .i64 m.f10.f2, .slice A16 m.f10.f3.length c16] (blk_put HTL.out.y 8 _ rfl))
   have HZw1 := Lib.hid (show wr.heap.size ≤ (wr.setCell ⟨g, 8, none⟩ (.slice Av m.f8.length cv)).heap.size by rw [World.size_setCell]; exact Nat.le_refl _)
   obtain ⟨w1, hw⟩ : ∃ W, wr.setCell ⟨g, 8, none⟩ (.slice Av m.f8.length cv) = W := ⟨_, rfl⟩
   rw [hw] at HT1 HZw1 ⊢
   clear hw HTL
   have d9 : w1.cell? ⟨g, 9, none⟩ = some (.int .i64 m.f9.f0) := (blk_cell HT1.out.y 9).trans rfl
   have d10 : w1.cell? ⟨g, 10, none⟩ = some (.int .i64 m.f9.f1) := (blk_cell HT1.out.y 10).trans rfl
   have d11 : w1.cell? ⟨g, 11, none⟩ = some (.int .i64 m.f9.f2) := (blk_cell HT1.out.y 11).trans rfl
   have d12 : w1.cell? ⟨g, 12, none⟩ = some (.slice A12 m.f9.f3.length c12) := (blk_cell HT1.out.y 12).trans rfl
   go_wp2_with fail
   refine (refCloneEn_is (w := w1) m.f9 HC.out.l12 (Kd.C_below HC.out.g12 HT1.out.d) HS.out.2.2.1).mono ?_
   rintro e w2 ⟨v_, rfl, hv, hb⟩
   obtain ⟨N12, n12, rfl⟩ := Kd.R_slice (Kd.S_R hv)
   have HT2 := Lib.hid (HT1.out.callS hb hv)
   have HZ2 := Lib.hid hb.size
   clear hv hb HT1 d9 d10 d11 d12
   have d9 : w2.cell? ⟨g, 9, none⟩ = some (.int .i64 m.f9.f0) := (blk_cell HT2.out.y 9).trans rfl
   have z9 : w2.frozen? ⟨g, 9, none⟩ = false := blk_frozen HT2.out.y 9
   have d10 : w2.cell? ⟨g, 10, none⟩ = some (.int .i64 m.f9.f1) := (blk_cell HT2.out.y 10).trans rfl
   have z10 : w2.frozen? ⟨g, 10, none⟩ = false := blk_frozen HT2.out.y 10
   have d11 : w2.cell? ⟨g, 11, none⟩ = some (.int .i64 m.f9.f2) := (blk_cell HT2.out.y 11).trans rfl
   have z11 : w2.frozen? ⟨g, 11, none⟩ = false := blk_frozen HT2.out.y 11
   have d12 : w2.cell? ⟨g, 12, none⟩ = some (.slice A12 m.f9.f3.length c12) := (blk_cell HT2.out.y 12).trans rfl
   have z12 : w2.frozen? ⟨g, 12, none⟩ = false := blk_frozen HT2.out.y 12
   go_upto_region 8 with fail
   clear d9 d10 d11 d12 z9 z10 z11 z12
   have HT3 := Lib.hid (show Bx w g (g + 1) 34 #[.int .i64 0, .int .i64 0, .int .i64 0, .int .i64 0, .int .i64 0, .int .i64 0, .int .i64 0, .bool false, .slice none 0 0, .int .i64 0, .int .i64 0, .int .i64 0, .slice none 0 0, .int .i64 0, .int .i64 0, .int .i64 0, .slice none 0 0] #[.int .i64 m.f0, .int .i64 m.f1, .int .i64 m.f2, .int .i64 m.f3, .int .i64 m.f4, .int .i64 m.f5, .int .i64 m.f6, .bool m.f7, .slice Av m.f8.length cv, .int .i64 m.f9.f0, .int .i64 m.f9.f1, .int .i64 m.f9.f2, .slice N12 m.f9.f3.length n12, .int .i64 m.f10.f0, .int .i64 m.f10.f1, .int .i64 m.f10.f2, .slice A16 m.f10.f3.length c16] _ _ from ((((HT2.out.put 9 (.int .i64 m.f9.f0)).put 10 (.int .i64 m.f9.f1)).put 11 (.int .i64 m.f9.f2)).put 12 (.slice N12 m.f9.f3.length n12)))
   have HZ3 := Lib.hid (show w2.heap.size ≤ ((((w2.setCell ⟨g, 9, none⟩ (.int .i64 m.f9.f0)).setCell ⟨g, 10, none⟩ (.int .i64 m.f9.f1)).setCell ⟨g, 11, none⟩ (.int .i64 m.f9.f2)).setCell ⟨g, 12, none⟩ (.slice N12 m.f9.f3.length n12)).heap.size by simp only [World.size_setCell]; exact Nat.le_refl _)
   obtain ⟨w3, hw⟩ : ∃ W, ((((w2.setCell ⟨g, 9, none⟩ (.int .i64 m.f9.f0)).setCell ⟨g, 10, none⟩ (.int .i64 m.f9.f1)).setCell ⟨g, 11, none⟩ (.int .i64 m.f9.f2)).setCell ⟨g, 12, none⟩ (.slice N12 m.f9.f3.length n12)) = W := ⟨_, rfl⟩
   rw [hw] at HT3 HZ3 ⊢
   clear hw HT2
   have d16 : w3.cell? ⟨g, 16, none⟩ = some (.slice A16 m.f10.f3.length c16) := (blk_cell HT3.out.y 16).trans rfl
   go_upto_region 9 with ((with_reducible refine gate_builtin (b := .append) (xs := #[.const (.slice none 0 0), .tmp 37]) rfl ?_); at_builtin; refine Kd.R_append_rows (Kd.int .u8) (w0 := w3) w3.heap.size rfl (.const (.slice none 0 0)) (.tmp 37) 23 5 (.int .u8 0) 1 rfl Tryz.underlying23 infoU8 rfl (by decide) (by omega) _ ([] : List Int) m.f10.f3 _ _ _ (fun _ => True) (fun _ => False) rfl rfl (Kd.R_nil _ _ _ _ _) (Kd.C_below HC.out.g16 HT3.out.d) (fun _ _ h => h) (fun _ h => h.elim) (fun _ _ => trivial) (Below.refl _ _) (Nat.le_refl _) (by have := HS.out.2.2.2; simp; omega) ?_; intro w_ w4 hv hb _ _; rw [List.nil_append] at hv; obtain ⟨N16, n16, rfl⟩ := Kd.R_slice hv; have HT4 := Lib.hid (HT3.out.callR hb hv); clear hv hb d16; have d16 : w4.cell? ⟨g, 16, none⟩ = some (.slice A16 m.f10.f3.length c16) := (blk_cell HT4.out.y 16).trans rfl; have z16 : w4.frozen? ⟨g, 16, none⟩ = false := blk_frozen HT4.out.y 16)
   clear d16 z16
   have HT5 := Lib.hid (HT4.out.set 16 (.slice N16 m.f10.f3.length n16) #[.int .i64 m.f0, .int .i64 m.f1, .int .i64 m.f2, .int .i64 m.f3, .int .i64 m.f4, .int .i64 m.f5, .int .i64 m.f6, .bool m.f7, .slice Av m.f8.length cv, .int .i64 m.f9.f0, .int .i64 m.f9.f1, .int .i64 m.f9.f2, .slice N12 m.f9.f3.length n12, .int .i64 m.f10.f0, .int .i64 m.f10.f1, .int .i64 m.f10.f2, .slice N16 m.f10.f3.length n16] (blk_put HT4.out.y 16 _ rfl))
   have HZw5 := Lib.hid (show w4.heap.size ≤ (w4.setCell ⟨g, 16, none⟩ (.slice N16 m.f10.f3.length n16)).heap.size by rw [World.size_setCell]; exact Nat.le_refl _)
   obtain ⟨w5, hw⟩ : ∃ W, w4.setCell ⟨g, 16, none⟩ (.slice N16 m.f10.f3.length n16) = W := ⟨_, rfl⟩
   rw [hw] at HT5 HZw5 ⊢
   clear hw HT4
   have d0 : w5.cell? ⟨g, 0, none⟩ = some (.int .i64 m.f0) := (blk_cell HT5.out.y 0).trans rfl
   have z0 : w5.frozen? ⟨g, 0, none⟩ = false := blk_frozen HT5.out.y 0
   have d1 : w5.cell? ⟨g, 1, none⟩ = some (.int .i64 m.f1) := (blk_cell HT5.out.y 1).trans rfl
   have z1 : w5.frozen? ⟨g, 1, none⟩ = false := blk_frozen HT5.out.y 1
   have d2 : w5.cell? ⟨g, 2, none⟩ = some (.int .i64 m.f2) := (blk_cell HT5.out.y 2).trans rfl
   have z2 : w5.frozen? ⟨g, 2, none⟩ = false := blk_frozen HT5.out.y 2
   have d3 : w5.cell? ⟨g, 3, none⟩ = some (.int .i64 m.f3) := (blk_cell HT5.out.y 3).trans rfl
   have z3 : w5.frozen? ⟨g, 3, none⟩ = false := blk_frozen HT5.out.y 3
   have d4 : w5.cell? ⟨g, 4, none⟩ = some (.int .i64 m.f4) := (blk_cell HT5.out.y 4).trans rfl
   have z4 : w5.frozen? ⟨g, 4, none⟩ = false := blk_frozen HT5.out.y 4
   have d5 : w5.cell? ⟨g, 5, none⟩ = some (.int .i64 m.f5) := (blk_cell HT5.out.y 5).trans rfl
   have z5 : w5.frozen? ⟨g, 5, none⟩ = false := blk_frozen HT5.out.y 5
   have d6 : w5.cell? ⟨g, 6, none⟩ = some (.int .i64 m.f6) := (blk_cell HT5.out.y 6).trans rfl
   have z6 : w5.frozen? ⟨g, 6, none⟩ = false := blk_frozen HT5.out.y 6
   have d7 : w5.cell? ⟨g, 7, none⟩ = some (.bool m.f7) := (blk_cell HT5.out.y 7).trans rfl
   have z7 : w5.frozen? ⟨g, 7, none⟩ = false := blk_frozen HT5.out.y 7
   have d8 : w5.cell? ⟨g, 8, none⟩ = some (.slice Av m.f8.length cv) := (blk_cell HT5.out.y 8).trans rfl
   have z8 : w5.frozen? ⟨g, 8, none⟩ = false := blk_frozen HT5.out.y 8
   have d9 : w5.cell? ⟨g, 9, none⟩ = some (.int .i64 m.f9.f0) := (blk_cell HT5.out.y 9).trans rfl
   have z9 : w5.frozen? ⟨g, 9, none⟩ = false := blk_frozen HT5.out.y 9
   have d10 : w5.cell? ⟨g, 10, none⟩ = some (.int .i64 m.f9.f1) := (blk_cell HT5.out.y 10).trans rfl
   have z10 : w5.frozen? ⟨g, 10, none⟩ = false := blk_frozen HT5.out.y 10
   have d11 : w5.cell? ⟨g, 11, none⟩ = some (.int .i64 m.f9.f2) := (blk_cell HT5.out.y 11).trans rfl
   have z11 : w5.frozen? ⟨g, 11, none⟩ = false := blk_frozen HT5.out.y 11
   have d12 : w5.cell? ⟨g, 12, none⟩ = some (.slice N12 m.f9.f3.length n12) := (blk_cell HT5.out.y 12).trans rfl
   have z12 : w5.frozen? ⟨g, 12, none⟩ = false := blk_frozen HT5.out.y 12
   have d13 : w5.cell? ⟨g, 13, none⟩ = some (.int .i64 m.f10.f0) := (blk_cell HT5.out.y 13).trans rfl
   have z13 : w5.frozen? ⟨g, 13, none⟩ = false := blk_frozen HT5.out.y 13
   have d14 : w5.cell? ⟨g, 14, none⟩ = some (.int .i64 m.f10.f1) := (blk_cell HT5.out.y 14).trans rfl
   have z14 : w5.frozen? ⟨g, 14, none⟩ = false := blk_frozen HT5.out.y 14
   have d15 : w5.cell? ⟨g, 15, none⟩ = some (.int .i64 m.f10.f2) := (blk_cell HT5.out.y 15).trans rfl
   have z15 : w5.frozen? ⟨g, 15, none⟩ = false := blk_frozen HT5.out.y 15
   have d16 : w5.cell? ⟨g, 16, none⟩ = some (.slice N16 m.f10.f3.length n16) := (blk_cell HT5.out.y 16).trans rfl
   have z16 : w5.frozen? ⟨g, 16, none⟩ = false := blk_frozen HT5.out.y 16
   have e0 : w5.cell? ⟨g + 1, 0, none⟩ = some (.int .i64 0) := (blk_cell HT5.out.g0 0).trans rfl
   have y0 : w5.frozen? ⟨g + 1, 0, none⟩ = false := blk_frozen HT5.out.g0 0
   have e1 : w5.cell? ⟨g + 1, 1, none⟩ = some (.int .i64 0) := (blk_cell HT5.out.g0 1).trans rfl
   have y1 : w5.frozen? ⟨g + 1, 1, none⟩ = false := blk_frozen HT5.out.g0 1
   have e2 : w5.cell? ⟨g + 1, 2, none⟩ = some (.int .i64 0) := (blk_cell HT5.out.g0 2).trans rfl
   have y2 : w5.frozen? ⟨g + 1, 2, none⟩ = false := blk_frozen HT5.out.g0 2
   have e3 : w5.cell? ⟨g + 1, 3, none⟩ = some (.int .i64 0) := (blk_cell HT5.out.g0 3).trans rfl
   have y3 : w5.frozen? ⟨g + 1, 3, none⟩ = false := blk_frozen HT5.out.g0 3
   have e4 : w5.cell? ⟨g + 1, 4, none⟩ = some (.int .i64 0) := (blk_cell HT5.out.g0 4).trans rfl
   have y4 : w5.frozen? ⟨g + 1, 4, none⟩ = false := blk_frozen HT5.out.g0 4
   have e5 : w5.cell? ⟨g + 1, 5, none⟩ = some (.int .i64 0) := (blk_cell HT5.out.g0 5).trans rfl
   have y5 : w5.frozen? ⟨g + 1, 5, none⟩ = false := blk_frozen HT5.out.g0 5
   have e6 : w5.cell? ⟨g + 1, 6, none⟩ = some (.int .i64 0) := (blk_cell HT5.out.g0 6).trans rfl
   have y6 : w5.frozen? ⟨g + 1, 6, none⟩ = false := blk_frozen HT5.out.g0 6
   have e7 : w5.cell? ⟨g + 1, 7, none⟩ = some (.bool false) := (blk_cell HT5.out.g0 7).trans rfl
   have y7 : w5.frozen? ⟨g + 1, 7, none⟩ = false := blk_frozen HT5.out.g0 7
   have e8 : w5.cell? ⟨g + 1, 8, none⟩ = some (.slice none 0 0) := (blk_cell HT5.out.g0 8).trans rfl
   have y8 : w5.frozen? ⟨g + 1, 8, none⟩ = false := blk_frozen HT5.out.g0 8
   have e9 : w5.cell? ⟨g + 1, 9, none⟩ = some (.int .i64 0) := (blk_cell HT5.out.g0 9).trans rfl
   have y9 : w5.frozen? ⟨g + 1, 9, none⟩ = false := blk_frozen HT5.out.g0 9
   have e10 : w5.cell? ⟨g + 1, 10, none⟩ = some (.int .i64 0) := (blk_cell HT5.out.g0 10).trans rfl
   have y10 : w5.frozen? ⟨g + 1, 10, none⟩ = false := blk_frozen HT5.out.g0 10
   have e11 : w5.cell? ⟨g + 1, 11, none⟩ = some (.int .i64 0) := (blk_cell HT5.out.g0 11).trans rfl
   have y11 : w5.frozen? ⟨g + 1, 11, none⟩ = false := blk_frozen HT5.out.g0 11
   have e12 : w5.cell? ⟨g + 1, 12, none⟩ = some (.slice none 0 0) := (blk_cell HT5.out.g0 12).trans rfl
   have y12 : w5.frozen? ⟨g + 1, 12, none⟩ = false := blk_frozen HT5.out.g0 12
   have e13 : w5.cell? ⟨g + 1, 13, none⟩ = some (.int .i64 0) := (blk_cell HT5.out.g0 13).trans rfl
   have y13 : w5.frozen? ⟨g + 1, 13, none⟩ = false := blk_frozen HT5.out.g0 13
   have e14 : w5.cell? ⟨g + 1, 14, none⟩ = some (.int .i64 0) := (blk_cell HT5.out.g0 14).trans rfl
   have y14 : w5.frozen? ⟨g + 1, 14, none⟩ = false := blk_frozen HT5.out.g0 14
   have e15 : w5.cell? ⟨g + 1, 15, none⟩ = some (.int .i64 0) := (blk_cell HT5.out.g0 15).trans rfl
   have y15 : w5.frozen? ⟨g + 1, 15, none⟩ = false := blk_frozen HT5.out.g0 15
   have e16 : w5.cell? ⟨g + 1, 16, none⟩ = some (.slice none 0 0) := (blk_cell HT5.out.g0 16).trans rfl
   have y16 : w5.frozen? ⟨g + 1, 16, none⟩ = false := blk_frozen HT5.out.g0 16
   go_wp2_with fail
   have HEB := Lib.hid (blk_put (cs := #[.int .i64 m.f0, .int .i64 m.f1, .int .i64 m.f2, .int .i64 m.f3, .int .i64 m.f4, .int .i64 m.f5, .int .i64 m.f6, .bool m.f7, .slice Av m.f8.length cv, .int .i64 m.f9.f0, .int .i64 m.f9.f1, .int .i64 m.f9.f2, .slice N12 m.f9.f3.length n12, .int .i64 m.f10.f0, .int .i64 m.f10.f1, .int .i64 m.f10.f2, .slice none 0 0]) (blk_put (cs := #[.int .i64 m.f0, .int .i64 m.f1, .int .i64 m.f2, .int .i64 m.f3, .int .i64 m.f4, .int .i64 m.f5, .int .i64 m.f6, .bool m.f7, .slice Av m.f8.length cv, .int .i64 m.f9.f0, .int .i64 m.f9.f1, .int .i64 m.f9.f2, .slice N12 m.f9.f3.length n12, .int .i64 m.f10.f0, .int .i64 m.f10.f1, .int .i64 0, .slice none 0 0]) (blk_put (cs := #[.int .i64 m.f0, .int .i64 m.f1, .int .i64 m.f2, .int .i64 m.f3, .int .i64 m.f4, .int .i64 m.f5, .int .i64 m.f6, .bool m.f7, .slice Av m.f8.length cv, .int .i64 m.f9.f0, .int .i64 m.f9.f1, .int .i64 m.f9.f2, .slice N12 m.f9.f3.length n12, .int .i64 m.f10.f0, .int .i64 0, .int .i64 0, .slice none 0 0]) (blk_put (cs := #[.int .i64 m.f0, .int .i64 m.f1, .int .i64 m.f2, .int .i64 m.f3, .int .i64 m.f4, .int .i64 m.f5, .int .i64 m.f6, .bool m.f7, .slice Av m.f8.length cv, .int .i64 m.f9.f0, .int .i64 m.f9.f1, .int .i64 m.f9.f2, .slice N12 m.f9.f3.length n12, .int .i64 0, .int .i64 0, .int .i64 0, .slice none 0 0]) (blk_put (cs := #[.int .i64 m.f0, .int .i64 m.f1, .int .i64 m.f2, .int .i64 m.f3, .int .i64 m.f4, .int .i64 m.f5, .int .i64 m.f6, .bool m.f7, .slice Av m.f8.length cv, .int .i64 m.f9.f0, .int .i64 m.f9.f1, .int .i64 m.f9.f2, .slice none 0 0, .int .i64 0, .int .i64 0, .int .i64 0, .slice none 0 0]) (blk_put (cs := #[.int .i64 m.f0, .int .i64 m.f1, .int .i64 m.f2, .int .i64 m.f3, .int .i64 m.f4, .int .i64 m.f5, .int .i64 m.f6, .bool m.f7, .slice Av m.f8.length cv, .int .i64 m.f9.f0, .int .i64 m.f9.f1, .int .i64 0, .slice none 0 0, .int .i64 0, .int .i64 0, .int .i64 0, .slice none 0 0]) (blk_put (cs := #[.int .i64 m.f0, .int .i64 m.f1, .int .i64 m.f2, .int .i64 m.f3, .int .i64 m.f4, .int .i64 m.f5, .int .i64 m.f6, .bool m.f7, .slice Av m.f8.length cv, .int .i64 m.f9.f0, .int .i64 0, .int .i64 0, .slice none 0 0, .int .i64 0, .int .i64 0, .int .i64 0, .slice none 0 0]) (blk_put (cs := #[.int .i64 m.f0, .int .i64 m.f1, .int .i64 m.f2, .int .i64 m.f3, .int .i64 m.f4, .int .i64 m.f5, .int .i64 m.f6, .bool m.f7, .slice Av m.f8.length cv, .int .i64 0, .int .i64 0, .int .i64 0, .slice none 0 0, .int .i64 0, .int .i64 0, .int .i64 0, .slice none 0 0]) (blk_put (cs := #[.int .i64 m.f0, .int .i64 m.f1, .int .i64 m.f2, .int .i64 m.f3, .int .i64 m.f4, .int .i64 m.f5, .int .i64 m.f6, .bool m.f7, .slice none 0 0, .int .i64 0, .int .i64 0, .int .i64 0, .slice none 0 0, .int .i64 0, .int .i64 0, .int .i64 0, .slice none 0 0]) (blk_put (cs := #[.int .i64 m.f0, .int .i64 m.f1, .int .i64 m.f2, .int .i64 m.f3, .int .i64 m.f4, .int .i64 m.f5, .int .i64 m.f6, .bool false, .slice none 0 0, .int .i64 0, .int .i64 0, .int .i64 0, .slice none 0 0, .int .i64 0, .int .i64 0, .int .i64 0, .slice none 0 0]) (blk_put (cs := #[.int .i64 m.f0, .int .i64 m.f1, .int .i64 m.f2, .int .i64 m.f3, .int .i64 m.f4, .int .i64 m.f5, .int .i64 0, .bool false, .slice none 0 0, .int .i64 0, .int .i64 0, .int .i64 0, .slice none 0 0, .int .i64 0, .int .i64 0, .int .i64 0, .slice none 0 0]) (blk_put (cs := #[.int .i64 m.f0, .int .i64 m.f1, .int .i64 m.f2, .int .i64 m.f3, .int .i64 m.f4, .int .i64 0, .int .i64 0, .bool false, .slice none 0 0, .int .i64 0, .int .i64 0, .int .i64 0, .slice none 0 0, .int .i64 0, .int .i64 0, .int .i64 0, .slice none 0 0]) (blk_put (cs := #[.int .i64 m.f0, .int .i64 m.f1, .int .i64 m.f2, .int .i64 m.f3, .int .i64 0, .int .i64 0, .int .i64 0, .bool false, .slice none 0 0, .int .i64 0, .int .i64 0, .int .i64 0, .slice none 0 0, .int .i64 0, .int .i64 0, .int .i64 0, .slice none 0 0]) (blk_put (cs := #[.int .i64 m.f0, .int .i64 m.f1, .int .i64 m.f2, .int .i64 0, .int .i64 0, .int .i64 0, .int .i64 0, .bool false, .slice none 0 0, .int .i64 0, .int .i64 0, .int .i64 0, .slice none 0 0, .int .i64 0, .int .i64 0, .int .i64 0, .slice none 0 0]) (blk_put (cs := #[.int .i64 m.f0, .int .i64 m.f1, .int .i64 0, .int .i64 0, .int .i64 0, .int .i64 0, .int .i64 0, .bool false, .slice none 0 0, .int .i64 0, .int .i64 0, .int .i64 0, .slice none 0 0, .int .i64 0, .int .i64 0, .int .i64 0, .slice none 0 0]) (blk_put (cs := #[.int .i64 m.f0, .int .i64 0, .int .i64 0, .int .i64 0, .int .i64 0, .int .i64 0, .int .i64 0, .bool false, .slice none 0 0, .int .i64 0, .int .i64 0, .int .i64 0, .slice none 0 0, .int .i64 0, .int .i64 0, .int .i64 0, .slice none 0 0]) (blk_put (cs := #[.int .i64 0, .int .i64 0, .int .i64 0, .int .i64 0, .int .i64 0, .int .i64 0, .int .i64 0, .bool false, .slice none 0 0, .int .i64 0, .int .i64 0, .int .i64 0, .slice none 0 0, .int .i64 0, .int .i64 0, .int .i64 0, .slice none 0 0]) HT5.out.g0 0 (.int .i64 m.f0) rfl) 1 (.int .i64 m.f1) rfl) 2 (.int .i64 m.f2) rfl) 3 (.int .i64 m.f3) rfl) 4 (.int .i64 m.f4) rfl) 5 (.int .i64 m.f5) rfl) 6 (.int .i64 m.f6) rfl) 7 (.bool m.f7) rfl) 8 (.slice Av m.f8.length cv) rfl) 9 (.int .i64 m.f9.f0) rfl) 10 (.int .i64 m.f9.f1) rfl) 11 (.int .i64 m.f9.f2) rfl) 12 (.slice N12 m.f9.f3.length n12) rfl) 13 (.int .i64 m.f10.f0) rfl) 14 (.int .i64 m.f10.f1) rfl) 15 (.int .i64 m.f10.f2) rfl) 16 (.slice N16 m.f10.f3.length n16) rfl)
   have HD := Lib.hid (HT5.out.done ((((((((((((((((((KeepS.refl (fun k => k = g + 1 ∨ k = g) w5).set (p := ⟨g + 1, 0, none⟩) (.inl (.inl rfl)) (.int .i64 m.f0)).set (p := ⟨g + 1, 1, none⟩) (.inl (.inl rfl)) (.int .i64 m.f1)).set (p := ⟨g + 1, 2, none⟩) (.inl (.inl rfl)) (.int .i64 m.f2)).set (p := ⟨g + 1, 3, none⟩) (.inl (.inl rfl)) (.int .i64 m.f3)).set (p := ⟨g + 1, 4, none⟩) (.inl (.inl rfl)) (.int .i64 m.f4)).set (p := ⟨g + 1, 5, none⟩) (.inl (.inl rfl)) (.int .i64 m.f5)).set (p := ⟨g + 1, 6, none⟩) (.inl (.inl rfl)) (.int .i64 m.f6)).set (p := ⟨g + 1, 7, none⟩) (.inl (.inl rfl)) (.bool m.f7)).set (p := ⟨g + 1, 8, none⟩) (.inl (.inl rfl)) (.slice Av m.f8.length cv)).set (p := ⟨g + 1, 9, none⟩) (.inl (.inl rfl)) (.int .i64 m.f9.f0)).set (p := ⟨g + 1, 10, none⟩) (.inl (.inl rfl)) (.int .i64 m.f9.f1)).set (p := ⟨g + 1, 11, none⟩) (.inl (.inl rfl)) (.int .i64 m.f9.f2)).set (p := ⟨g + 1, 12, none⟩) (.inl (.inl rfl)) (.slice N12 m.f9.f3.length n12)).set (p := ⟨g + 1, 13, none⟩) (.inl (.inl rfl)) (.int .i64 m.f10.f0)).set (p := ⟨g + 1, 14, none⟩) (.inl (.inl rfl)) (.int .i64 m.f10.f1)).set (p := ⟨g + 1, 15, none⟩) (.inl (.inl rfl)) (.int .i64 m.f10.f2)).set (p := ⟨g + 1, 16, none⟩) (.inl (.inl rfl)) (.slice N16 m.f10.f3.length n16)))
   obtain ⟨W, hW⟩ : ∃ W, (((((((((((((((((w5.setCell ⟨g + 1, 0, none⟩ (.int .i64 m.f0)).setCell ⟨g + 1, 1, none⟩ (.int .i64 m.f1)).setCell ⟨g + 1, 2, none⟩ (.int .i64 m.f2)).setCell ⟨g + 1, 3, none⟩ (.int .i64 m.f3)).setCell ⟨g + 1, 4, none⟩ (.int .i64 m.f4)).setCell ⟨g + 1, 5, none⟩ (.int .i64 m.f5)).setCell ⟨g + 1, 6, none⟩ (.int .i64 m.f6)).setCell ⟨g + 1, 7, none⟩ (.bool m.f7)).setCell ⟨g + 1, 8, none⟩ (.slice Av m.f8.length cv)).setCell ⟨g + 1, 9, none⟩ (.int .i64 m.f9.f0)).setCell ⟨g + 1, 10, none⟩ (.int .i64 m.f9.f1)).setCell ⟨g + 1, 11, none⟩ (.int .i64 m.f9.f2)).setCell ⟨g + 1, 12, none⟩ (.slice N12 m.f9.f3.length n12)).setCell ⟨g + 1, 13, none⟩ (.int .i64 m.f10.f0)).setCell ⟨g + 1, 14, none⟩ (.int .i64 m.f10.f1)).setCell ⟨g + 1, 15, none⟩ (.int .i64 m.f10.f2)).setCell ⟨g + 1, 16, none⟩ (.slice N16 m.f10.f3.length n16)) = W := ⟨_, rfl⟩
   rw [hW] at HEB HD ⊢
   clear hW
   refine bodyPost_ret (results_cell_row rfl _ _ (g + 1) 34 #[.int .i64 m.f0, .int .i64 m.f1, .int .i64 m.f2, .int .i64 m.f3, .int .i64 m.f4, .int .i64 m.f5, .int .i64 m.f6, .bool m.f7, .slice Av m.f8.length cv, .int .i64 m.f9.f0, .int .i64 m.f9.f1, .int .i64 m.f9.f2, .slice N12 m.f9.f3.length n12, .int .i64 m.f10.f0, .int .i64 m.f10.f1, .int .i64 m.f10.f2, .slice N16 m.f10.f3.length n16] (0, 0) _ rfl HEB.out Tryz.underlying34 rfl (by kernel_rfl)) rfl ?_
   obtain ⟨⟨⟨⟨-, p8⟩, p12⟩, p16⟩, dd⟩ := HD.out
   refine ⟨_, _, _, w1.heap.size, w2.heap.size, rfl, HZ2.out, Kd.S_mono p8 (fun k hk => Nat.lt_of_lt_of_le hk.2 HZw1.out), Kd.S_mono p12 (fun k hk => hk), Kd.R_mono p16 (fun k hk => Nat.le_trans HZ3.out hk.1), dd⟩
end Go.Proofs.YtgiefblcckikeaaGreat.M
end

section
/- The eye's lists: transactions (printed by geneye04.py). -/
attribute [local irreducible] Go.wpStill
namespace Go.Proofs.YtgiefblcckikeaaGreat.M
open Go.RowKit Go.Proofs.YtgiefblcckikeaaGreatW.PrintWords Go.Proofs.YtgiefblcckikeaaGreatW.PrintLast Go.Proofs.YtgiefblcckikeaaGreatW.PrintMore Go.Proofs.YtgiefblcckikeaaGreat.G
def LiI_txns (g : EyeS → TxD × EyeS) (n : Int) (s0 : EyeS) (w0 w : World) (x : Nat) (v i : Value) (W : World) : Prop := ∃ (U : List TxD) (s : EyeS), i = .int .i64 (U.length : Int) ∧ U.length ≤ 4096 ∧ U.length ≤ n.toNat ∧ (s.e = 0 → n ≤ 4096) ∧ Kd.S G.k26 26 W w.heap.size (fun _ => True) v U ∧ IsEye w0 W x s ∧ Below w0.heap.size w0 W ∧ KeepS (fun i => i = x) w W ∧ okS s ∧ eList g s0 = (U ++ (eMany g (n.toNat - U.length) s).1, (eMany g (n.toNat - U.length) s).2)
set_option maxHeartbeats 2000000 in
theorem eList_txns {w0 w : World} {x : Nat} {s : EyeS} (hI : IsEye w0 w x s) (hB : Below w0.heap.size w0 w) (hok : okS s) :
  Calls Tryz.prog 113 #[.pointer (some ⟨x, 0, none⟩), .func (.func 114) #[.pointer (some ⟨x, 0, none⟩)] #[]] w fun e w' => LiP G.k26 26 w0 w x (eList eTxn s).1 (eList eTxn s).2 e w' := by
 have HN := Lib.hid (eNum_is hI hB hok)
 have HOK := Lib.hid (okS_num hok)
 have HLT := Lib.hid hI.lt
 have HGEW := Lib.hid (show w0.heap.size ≤ w.heap.size from hB.size)
 obtain ⟨n, hn⟩ : ∃ n, (eNum s).1 = n := ⟨_, rfl⟩
 obtain ⟨s1, hs1⟩ : ∃ s1, (eNum s).2 = s1 := ⟨_, rfl⟩
 have HCT := Lib.hid (show eCount s = eWrong (decide (n < 0) || decide (4096 < n)) s1 by unfold eCount; rw [hn, hs1])
 have Hapi.Txn := Lib.hid (show eList eTxn s = eMany eTxn n.toNat (eCount s) by unfold eList; rw [hn])
 rw [hn, hs1] at HN
 rw [hs1] at HOK
 clear hI hB hok hn hs1
 go_enter Tryz.func113, Tryz.ntmps113
 go_wp2_with fail
 refine HN.out.mono ?_
 rintro e w1 ⟨rfl, h1, h2, h3⟩
 have H1 := Lib.hid h1; have H2 := Lib.hid h2; have H3 := Lib.hid h3
 clear h1 h2 h3 HN
 go_upto_region 2 with fail
 go_cut [] (fun wx => IsEye w0 wx x (eCount s) ∧ Below w0.heap.size w0 wx ∧ KeepS (fun i => i = x) w wx)
 case first =>
  by_cases ha : n < 0
  ·have hq : decide (n < 0) = true := decide_eq_true ha
   have HW := Lib.hid (eWrong_is H1.out H2.out true)
   have HC2 := Lib.hid (show eCount s = eWrong true s1 by rw [HCT.out, hq, Bool.true_or])
   clear ha
   go_wp2_with fail
   refine HW.out.mono ?_
   rintro e w2 ⟨rfl, h1, h2, h3⟩
   have G1 := Lib.hid h1; have G2 := Lib.hid h2; have G3 := Lib.hid (H3.out.trans h3)
   clear h1 h2 h3
   go_wp2_with fail
   go_meet
   exact ⟨by rw [HC2.out]; exact G1.out, G2.out, G3.out⟩
  ·have hq : decide (n < 0) = false := decide_eq_false ha
   obtain ⟨b, hb⟩ : ∃ b, decide ((4096 : Int) < n) = b := ⟨_, rfl⟩
   have HW := Lib.hid (eWrong_is H1.out H2.out b)
   have HC2 := Lib.hid (show eCount s = eWrong b s1 by rw [HCT.out, hq, hb, Bool.false_or])
   clear ha
   go_wp2_with fail
   refine HW.out.mono ?_
   rintro e w2 ⟨rfl, h1, h2, h3⟩
   have G1 := Lib.hid h1; have G2 := Lib.hid h2; have G3 := Lib.hid (H3.out.trans h3)
   clear h1 h2 h3
   go_wp2_with fail
   go_meet
   exact ⟨by rw [HC2.out]; exact G1.out, G2.out, G3.out⟩
 case rest =>
  obtain ⟨h1, h2, h3⟩ := hcut
  have G1 := Lib.hid h1; have G2 := Lib.hid h2; have G3 := Lib.hid h3
  have HE0 := Lib.hid (show (eCount s).e = 0 → n ≤ 4096 by
   intro h
   rw [HCT.out] at h
   by_cases h5 : (4096 : Int) < n
   ·rw [decide_eq_true h5, Bool.or_true] at h
    unfold eWrong at h
    split at h
    ·cases h
    ·next h6 => exact absurd ⟨h, rfl⟩ h6
   ·omega)
  have HOC := Lib.hid (show okS (eCount s) by rw [HCT.out]; exact okS_wrong _ HOK.out)
  clear h1 h2 h3
  go_wp2_with fail
  go_loopw [6, 7] (fun v i wr => LiI_txns eTxn n s w0 w x v i wr) (fun _ i _ => n.toNat - (intOf i).toNat)
  case atStart => exact ⟨[], eCount s, rfl, by simp, by simp, HE0.out, Kd.S_nil _ _ _ _ _, G1.out, G2.out, G3.out, HOC.out, by simpa using Hapi.Txn.out⟩
  case round =>
   obtain ⟨U, s2, rfl, hU, hUn, hE, hS, hI, hB, hK, hO, hF⟩ := hrel
   have HI := Lib.hid hI; have HB := Lib.hid hB; have HK := Lib.hid hK; have HO := Lib.hid hO; have HF := Lib.hid hF; have HS := Lib.hid hS; have HUN := Lib.hid hUn; have HE := Lib.hid hE
   obtain ⟨Av, cv, rfl⟩ := Kd.S_slice hS
   obtain ⟨A, c, g1, g2, g3, g4⟩ := hI
   have c1 : wr.cell? ⟨x, 1, none⟩ = some (.int .i64 s2.e) := by simp [World.cell?, g1]
   clear hB hK hO hF hS hUn hE g1 g2 g3 g4
   by_cases hlt : (U.length : Int) < n
   ·by_cases he : s2.e = 0
    ·have hq1 : decide ((U.length : Int) < n) = true := decide_eq_true hlt
     have hq2 : (s2.e == 0) = true := by rw [he]; rfl
     have HN4 := Lib.hid (HE.out he)
     have HG := Lib.hid (eTxn_is HI.out HB.out HO.out)
     have HGO := Lib.hid (okS_txn HO.out)
     obtain ⟨y, hy⟩ : ∃ y, (eTxn s2).1 = y := ⟨_, rfl⟩
     obtain ⟨s3, hs3⟩ : ∃ s3, (eTxn s2).2 = s3 := ⟨_, rfl⟩
     have HF2 := Lib.hid (show eList eTxn s = ((U ++ [y]) ++ (eMany eTxn (n.toNat - (U ++ [y]).length) s3).1, (eMany eTxn (n.toNat - (U ++ [y]).length) s3).2) by
      rw [HF.out]
      have e1 : n.toNat - U.length = (n.toNat - (U ++ [y]).length) + 1 := by simp; omega
      rw [e1]
      simp only [eMany, he, if_true, hy, hs3, List.append_assoc, List.singleton_append])
     have HLT2 := Lib.hid hlt
     rw [hy, hs3] at HG
     rw [hs3] at HGO
     clear hlt he hy hs3
     go_wp2_with fail
     refine HG.out.mono ?_
     rintro e w3 ⟨v2, v3, v4, v5, rfl, r2, r3, r4, r5, h1, h2, h3⟩
     obtain ⟨A2, c2, rfl⟩ := Kd.R_slice r2
     obtain ⟨A3, c3, rfl⟩ := Kd.R_slice r3
     obtain ⟨A4, c4, rfl⟩ := Kd.R_slice r4
     obtain ⟨A5, c5, rfl⟩ := Kd.R_slice r5
     have HBW := Lib.hid (show w.heap.size ≤ wr.heap.size from HK.out.size)
     have R2 := Lib.hid (show Kd.R (Kd.int .u8) 5 w3 w.heap.size (fun k => wr.heap.size ≤ k) _ y.f2 from Kd.R_mono (Kd.R_lower (Kd.R_bound r2) HBW.out) (fun k hk => hk.2.1))
     have R3 := Lib.hid (show Kd.R (Kd.int .i64) 2 w3 w.heap.size (fun k => wr.heap.size ≤ k) _ y.f3 from Kd.R_mono (Kd.R_lower (Kd.R_bound r3) HBW.out) (fun k hk => hk.2.1))
     have R4 := Lib.hid (show Kd.R G.k101 101 w3 w.heap.size (fun k => wr.heap.size ≤ k) _ y.f4 from Kd.R_mono (Kd.R_lower (Kd.R_bound r4) HBW.out) (fun k hk => hk.2.1))
     have R5 := Lib.hid (show Kd.R G.k101 101 w3 w.heap.size (fun k => wr.heap.size ≤ k) _ y.f5 from Kd.R_mono (Kd.R_lower (Kd.R_bound r5) HBW.out) (fun k hk => hk.2.1))
     have HS3 := Lib.hid (show Kd.S G.k26 26 w3 w.heap.size (fun k => True ∧ ¬ wr.heap.size ≤ k) (.slice Av U.length cv) U from Kd.S_mono (Kd.S_step (Kd.S_bound HS.out) (fun k hk2 hlt => h3.block k hlt (fun e => by have := hk2.2.1; have := HLT.out; omega))) (fun k hk => ⟨trivial, by have := hk.2.2.1; omega⟩))
     have HOWN := Lib.hid (Kd.S_lt HS.out)
     have HZ3 := Lib.hid (Nat.le_trans HK.out.size h3.size)
     have K1 := Lib.hid h1; have K2 := Lib.hid h2; have K3 := Lib.hid (HK.out.trans h3)
     clear h1 h2 h3 r2 r3 r4 r5
     go_wp2_with ((with_reducible refine gate_builtin (b := .append) (xs := #[.tmp 30, .tmp 33]) rfl ?_); at_builtin; refine Kd.S_append G.k26 (w0 := w3) w.heap.size rfl (.tmp 30) (.tmp 33) 27 26 (.agg #[.int .i64 0, .int .i64 0, .slice none 0 0, .slice none 0 0, .slice none 0 0, .slice none 0 0]) 112 rfl Tryz.underlying27 G.info26 rfl (by decide) (by omega) _ U y [.int .i64 y.f0, .int .i64 y.f1, .slice A2 y.f2.length c2, .slice A3 y.f3.length c3, .slice A4 y.f4.length c4, .slice A5 y.f5.length c5] (fun _ => True) (fun k => wr.heap.size ≤ k) rfl rfl (G.k26_mkM _ _ _ y R2.out R3.out R4.out R5.out) (fun k hk => ⟨trivial, fun e => by have := HOWN.out k e.symm; omega⟩) (fun _ _ => trivial) HS3.out (Below.refl _ _) HZ3.out (by omega) ?_; intro v1 w5 ho hb5 hg5 hat; obtain ⟨A9, c9, rfl⟩ := Kd.S_slice ho; have HS5 := Lib.hid ho; have HK5 := Lib.hid (K3.out.then_base hb5); have HI5 := Lib.hid (K1.out.at (hb5.block x HLT.out)); have HB5 := Lib.hid (K2.out.trans (hb5.mono HGEW.out)); clear ho hb5 hg5 hat)
     go_roundw
     case rel =>
      refine ⟨U ++ [y], s3, by rw [List.length_append]; go_num, ?_, ?_, fun _ => HN4.out, (by have h9 := HS5.out; rw [List.length_append] at h9; exact h9), HI5.out, HB5.out, HK5.out, HGO.out, HF2.out⟩
      ·have h1 := HN4.out; have h2 := HLT2.out
       rw [List.length_append, List.length_singleton]
       omega
      ·have h2 := HLT2.out
       rw [List.length_append, List.length_singleton]
       omega
     case measure => simp [intOf]; have h2 := HLT2.out; omega
    ·have hq1 : decide ((U.length : Int) < n) = true := decide_eq_true hlt
     have hq2 : (s2.e == 0) = false := beq_eq_false_iff_ne.2 he
     have HF2 := Lib.hid (show eList eTxn s = (U, s2) by rw [HF.out, eMany_stop he, List.append_nil])
     clear hlt he
     go_wp2_with fail
     go_ret
     exact ⟨_, rfl, by rw [HF2.out]; exact HS.out, by rw [HF2.out]; exact HI.out, HB.out, HK.out⟩
   ·have hq1 : decide ((U.length : Int) < n) = false := decide_eq_false hlt
    have HF2 := Lib.hid (show eList eTxn s = (U, s2) by
     have e1 : n.toNat - U.length = 0 := by omega
     rw [HF.out, e1]
     simp only [eMany, List.append_nil])
    clear hlt
    go_wp2_with fail
    go_ret
    exact ⟨_, rfl, by rw [HF2.out]; exact HS.out, by rw [HF2.out]; exact HI.out, HB.out, HK.out⟩
end Go.Proofs.YtgiefblcckikeaaGreat.M
end

section
/- The eye: an entry (printed by geneyee04.py). -/
attribute [local irreducible] Go.wpStill
namespace Go.Proofs.YtgiefblcckikeaaGreat.M
open Go.RowKit Go.Proofs.YtgiefblcckikeaaGreatW.PrintWords Go.Proofs.YtgiefblcckikeaaGreatW.PrintLast Go.Proofs.YtgiefblcckikeaaGreatW.PrintMore Go.Proofs.YtgiefblcckikeaaGreat.G
abbrev EnD := Int × Int × Int × List TxD
def eKind (s : EyeS) : EyeS := eWrong (decide ((eNum s).1 ≠ 0) && decide ((eNum s).1 ≠ 1)) (eNum s).2
def eBody (s : EyeS) : EnD × EyeS := ((1, (eSmall s).1, (eNum (eSmall s).2).1, (eList eTxn (eNum (eSmall s).2).2).1), (eList eTxn (eNum (eSmall s).2).2).2)
def eEntry (s : EyeS) : EnD × EyeS := if ¬ (eKind s).e = 0 ∨ (eNum s).1 = 0 then ((0, 0, 0, []), eKind s) else eBody (eKind s)
theorem okS_body {s : EyeS} (h : okS s) : okS (eBody s).2 := okS_list (fun _ => okS_txn) (okS_num (okS_small h))
theorem okS_kind {s : EyeS} (h : okS s) : okS (eKind s) := okS_wrong _ (okS_num h)
theorem okS_entry {s : EyeS} (h : okS s) : okS (eEntry s).2 := by
 unfold eEntry
 split
 ·exact okS_kind h
 ·exact okS_body (okS_kind h)
def EnP (w0 w : World) (x : Nat) (y : EnD) (s' : EyeS) (e : Ending) (w' : World) : Prop := ∃ v : Value, e = .returned (.agg #[.int .i64 y.1, .int .i64 y.2.1, .int .i64 y.2.2.1, v]) ∧ Kd.S G.k26 26 w' w.heap.size (fun _ => True) v y.2.2.2 ∧ IsEye w0 w' x s' ∧ Below w0.heap.size w0 w' ∧ KeepS (fun i => i = x) w w'
abbrev zEnt : Obj := .cells #[.int .i64 0, .int .i64 0, .int .i64 0, .slice none 0 0] 29
set_option maxHeartbeats 4000000 in
theorem eEntry_is {w0 w : World} {x : Nat} {s : EyeS} (hI : IsEye w0 w x s) (hB : Below w0.heap.size w0 w) (hok : okS s) :
  Calls Tryz.prog 54 #[.pointer (some ⟨x, 0, none⟩)] w fun e w' => EnP w0 w x (eEntry s).1 (eEntry s).2 e w' := by
 have hbx := heap_alloc_new w zEnt
 have hb1 := (Below.refl _ w).alloc (Nat.le_refl _) zEnt
 have HLT := Lib.hid (show x < w.heap.size from hI.lt); have HGEW := Lib.hid (show w0.heap.size ≤ w.heap.size from hB.size)
 have HN := Lib.hid (eNum_is (hI.below hb1) (hB.alloc hB.size _) hok)
 have HK1 := Lib.hid (KeepS.of_below (fun i => i = x) hb1)
 have HOK := Lib.hid (okS_kind hok)
 obtain ⟨k, hk⟩ : ∃ k, (eNum s).1 = k := ⟨_, rfl⟩
 obtain ⟨s1, hs1⟩ : ∃ s1, (eNum s).2 = s1 := ⟨_, rfl⟩
 have HKD := Lib.hid (show eKind s = eWrong (decide (k ≠ 0) && decide (k ≠ 1)) s1 by unfold eKind; rw [hk, hs1])
 have HF := Lib.hid (show eEntry s = if ¬ (eKind s).e = 0 ∨ k = 0 then ((0, 0, 0, []), eKind s) else eBody (eKind s) by unfold eEntry; rw [hk])
 rw [hk, hs1] at HN
 have HBX := Lib.hid hbx
 have HZ := Lib.hid (show w.heap.size < (w.alloc zEnt).heap.size by simp)
 clear hk hs1 hI hB hok hbx hb1
 go_enter Tryz.func54, Tryz.ntmps54
 go_wp2_with fail
 refine HN.out.mono ?_
 rintro e w1 ⟨rfl, h1, h2, h3⟩
 have H1 := Lib.hid h1; have H2 := Lib.hid h2
 have HZ1 := Lib.hid (Nat.lt_of_lt_of_le HZ.out h3.size)
 have HB1 := Lib.hid ((h3.block w.heap.size HZ.out (by have := HLT.out; omega)).trans HBX.out)
 have HK2 := Lib.hid (HK1.out.trans h3)
 clear h1 h2 h3
 go_upto_region 2 with fail
 go_cut [] (fun wx => IsEye w0 wx x (eKind s) ∧ Below w0.heap.size w0 wx ∧ KeepS (fun i => i = x) w1 wx)
 case first =>
  by_cases ha : k = 0
  ·have hq : (k != 0) = false := by rw [ha]; rfl
   have HW := Lib.hid (eWrong_is H1.out H2.out false)
   have HC2 := Lib.hid (show eKind s = eWrong false s1 by rw [HKD.out, decide_eq_false (fun h => h ha), Bool.false_and])
   clear ha
   go_wp2_with fail
   refine HW.out.mono ?_
   rintro e w2 ⟨rfl, h1, h2, h3⟩
   have G1 := Lib.hid h1; have G2 := Lib.hid h2; have G3 := Lib.hid h3
   clear h1 h2 h3
   go_wp2_with fail
   go_meet
   exact ⟨by rw [HC2.out]; exact G1.out, G2.out, G3.out⟩
  ·have hq : (k != 0) = true := bne_iff_ne.2 ha
   obtain ⟨b, hb⟩ : ∃ b, (k != 1) = b := ⟨_, rfl⟩
   have HW := Lib.hid (eWrong_is H1.out H2.out b)
   have HC2 := Lib.hid (show eKind s = eWrong b s1 by
    rw [HKD.out, decide_eq_true ha, Bool.true_and]
    have : decide (k ≠ 1) = b := by
     rw [← hb, Bool.eq_iff_iff, decide_eq_true_eq, bne_iff_ne]
    rw [this])
   clear ha
   go_wp2_with fail
   refine HW.out.mono ?_
   rintro e w2 ⟨rfl, h1, h2, h3⟩
   have G1 := Lib.hid h1; have G2 := Lib.hid h2; have G3 := Lib.hid h3
   clear h1 h2 h3
   go_wp2_with fail
   go_meet
   exact ⟨by rw [HC2.out]; exact G1.out, G2.out, G3.out⟩
 case rest =>
  obtain ⟨h1, h2, h3⟩ := hcut
  obtain ⟨w2, rfl⟩ : ∃ w2, w2 = wc := ⟨_, rfl⟩
  have HIX := Lib.hid h1; have HDX := Lib.hid h2
  have HZ2 := Lib.hid (Nat.lt_of_lt_of_le HZ1.out h3.size)
  have HB2 := Lib.hid ((h3.block w.heap.size HZ1.out (by have := HLT.out; omega)).trans HB1.out)
  have HQX := Lib.hid (HK2.out.trans h3)
  obtain ⟨s2, hs2⟩ : ∃ s2, eKind s = s2 := ⟨_, rfl⟩
  rw [hs2] at HIX HF HOK
  have HIX := Lib.hid HIX.out
  have c1 : w2.cell? ⟨x, 1, none⟩ = some (.int .i64 s2.e) := by
   obtain ⟨A, c, g1, _⟩ := HIX.out
   simp [World.cell?, g1]
  have x0 : w2.cell? ⟨w.heap.size, 0, none⟩ = some (.int .i64 0) := by simp [World.cell?, HB2.out]
  have x1 : w2.cell? ⟨w.heap.size, 1, none⟩ = some (.int .i64 0) := by simp [World.cell?, HB2.out]
  have x2 : w2.cell? ⟨w.heap.size, 2, none⟩ = some (.int .i64 0) := by simp [World.cell?, HB2.out]
  have x3 : w2.cell? ⟨w.heap.size, 3, none⟩ = some (.slice none 0 0) := by simp [World.cell?, HB2.out]
  obtain ⟨y0, y1, y2, y3⟩ := bf4 HB2.out
  clear h1 h2 h3 hs2 HN HK1 HBX H1 H2 HB1 HK2 HZ HKD
  by_cases he : s2.e = 0
  ·have hq1 : (s2.e != 0) = false := by rw [he]; rfl
   by_cases hk : k = 0
   ·have hq2 : (k == 0) = true := by rw [hk]; rfl
    have HR := Lib.hid (show eEntry s = ((0, 0, 0, []), s2) by rw [HF.out, if_pos (.inr hk)])
    clear he hk
    go_wp2_with fail
    have HEB := Lib.hid (blk_put (cs := #[.int .i64 0, .int .i64 0, .int .i64 0, .slice none 0 0]) (blk_put (cs := #[.int .i64 0, .int .i64 0, .int .i64 0, .slice none 0 0]) (blk_put (cs := #[.int .i64 0, .int .i64 0, .int .i64 0, .slice none 0 0]) (blk_put (cs := #[.int .i64 0, .int .i64 0, .int .i64 0, .slice none 0 0]) (HB2.out) 0 (.int .i64 0) rfl) 1 (.int .i64 0) rfl) 2 (.int .i64 0) rfl) 3 (.slice none 0 0) rfl)
    have HKS := Lib.hid ((((((KeepS.refl (fun i => i = w.heap.size) w2)).set (p := ⟨w.heap.size, 0, none⟩) (.inl rfl) (.int .i64 0)).set (p := ⟨w.heap.size, 1, none⟩) (.inl rfl) (.int .i64 0)).set (p := ⟨w.heap.size, 2, none⟩) (.inl rfl) (.int .i64 0)).set (p := ⟨w.heap.size, 3, none⟩) (.inl rfl) (.slice none 0 0))
    obtain ⟨W, hW⟩ : ∃ W, ((((w2).setCell ⟨w.heap.size, 0, none⟩ (.int .i64 0)).setCell ⟨w.heap.size, 1, none⟩ (.int .i64 0)).setCell ⟨w.heap.size, 2, none⟩ (.int .i64 0)).setCell ⟨w.heap.size, 3, none⟩ (.slice none 0 0) = W := ⟨_, rfl⟩
    rw [hW] at HEB HKS ⊢
    clear hW
    refine bodyPost_ret (results_cell_row rfl _ _ w.heap.size 29 #[.int .i64 0, .int .i64 0, .int .i64 0, .slice none 0 0] (0, 0) _ rfl HEB.out Tryz.underlying29 rfl (by kernel_rfl)) rfl ?_
    rw [HR.out]
    have hz := HZ2.out
    have hlt := HLT.out
    have hgw := HGEW.out
    exact ⟨_, rfl, Kd.S_nil _ _ _ _ _, HIX.out.at (HKS.out.block x (by omega) (by show ¬ x = w.heap.size; omega)), HDX.out.trans (HKS.out.below (B := w0.heap.size) HDX.out.size (by rintro i rfl; omega)), HQX.out.then_base (HKS.out.below (B := w.heap.size) (by omega) (by rintro i rfl; omega))⟩
   ·have hq2 : (k == 0) = false := beq_eq_false_iff_ne.2 hk
    have HR := Lib.hid (show eEntry s = eBody s2 by rw [HF.out, if_neg (fun h => h.elim (fun h => h he) hk)])
    clear he hk
    obtain ⟨r, HR0⟩ : ∃ r, eBody s2 = r := ⟨_, rfl⟩
    have HR1 := HR0
    unfold eBody at HR1
    have ho2 := HOK.out
    obtain ⟨f, hf⟩ : ∃ f, (eSmall s2).1 = f := ⟨_, rfl⟩
    obtain ⟨s3, hs3⟩ : ∃ s3, (eSmall s2).2 = s3 := ⟨_, rfl⟩
    have ho3 := okS_small ho2
    rw [hf, hs3] at HR1
    rw [hs3] at ho3
    obtain ⟨n, hn⟩ : ∃ n, (eNum s3).1 = n := ⟨_, rfl⟩
    obtain ⟨s4, hs4⟩ : ∃ s4, (eNum s3).2 = s4 := ⟨_, rfl⟩
    have ho4 := okS_num ho3
    rw [hn, hs4] at HR1
    rw [hs4] at ho4
    obtain ⟨l, hl⟩ : ∃ l, (eList eTxn s4).1 = l := ⟨_, rfl⟩
    obtain ⟨s5, hs5⟩ : ∃ s5, (eList eTxn s4).2 = s5 := ⟨_, rfl⟩
    rw [hl, hs5] at HR1
    have HR2 := Lib.hid (show eEntry s = _ from HR.out.trans (HR0.trans HR1.symm))
    have HO1 := Lib.hid ho2; have HO2 := Lib.hid ho3; have HO3 := Lib.hid ho4
    have HE1 := Lib.hid (And.intro hf hs3); have HE2 := Lib.hid (And.intro hn hs4); have HE3 := Lib.hid (And.intro hl hs5)
    clear hf hs3 hn hs4 hl hs5 ho2 ho3 ho4 HR HR0 HR1 HF HOK y0 y1 y2 y3 x0 x1 x2 x3
    go_wp2_with fail
    have hby := heap_alloc_new w2 (.cells #[.int .i64 1, .int .i64 0, .int .i64 0, .slice none 0 0] 29)
    have hay := (Below.refl _ w2).alloc (Nat.le_refl _) (.cells #[.int .i64 1, .int .i64 0, .int .i64 0, .slice none 0 0] 29)
    have hzy : (w2.alloc (.cells #[.int .i64 1, .int .i64 0, .int .i64 0, .slice none 0 0] 29)).heap.size = w2.heap.size + 1 := by simp
    obtain ⟨w4, hw4⟩ : ∃ w4, w2.alloc (.cells #[.int .i64 1, .int .i64 0, .int .i64 0, .slice none 0 0] 29) = w4 := ⟨_, rfl⟩
    rw [hw4] at hby hay hzy ⊢
    obtain ⟨g, hg⟩ : ∃ g, w2.heap.size = g := ⟨_, rfl⟩
    have HI4 := Lib.hid (HIX.out.below hay)
    have HD4 := Lib.hid (HDX.out.trans (hay.mono HDX.out.size))
    have HB4 := Lib.hid ((hay.block w.heap.size HZ2.out).trans HB2.out)
    have HQ4 := Lib.hid (HQX.out.then_below hay)
    rw [hg] at hby hzy HZ2 ⊢
    have HY4 := Lib.hid hby
    have HGZ := Lib.hid (show w.heap.size < g ∧ x < w.heap.size from ⟨HZ2.out, HLT.out⟩)
    have HZZ4 := Lib.hid (show g < w4.heap.size by omega)
    clear hw4 hg hby hay hzy HIX HDX HB2 HQX c1
    have h4 := eSmall_is HI4.out HD4.out HO1.out
    rw [HE1.out.1, HE1.out.2] at h4
    have HNN1 := Lib.hid h4
    clear h4
    refine HNN1.out.mono ?_
    rintro e w5 ⟨rfl, h1, h2, h3⟩
    have HB5 := Lib.hid ((h3.block w.heap.size (by have := HGZ.out; have := HZZ4.out; omega) (by have := HGZ.out; omega)).trans HB4.out)
    have HY5 := Lib.hid ((h3.block g HZZ4.out (by have := HGZ.out; omega)).trans HY4.out)
    have HQ5 := Lib.hid (HQ4.out.trans h3)
    have HZZ5 := Lib.hid (Nat.lt_of_lt_of_le HZZ4.out h3.size)
    have HI5 := Lib.hid h1
    have HD5 := Lib.hid h2
    have d1 : w5.cell? ⟨g, 1, none⟩ = some (.int .i64 0) := by simp [World.cell?, HY5.out]
    have z1 : w5.frozen? ⟨g, 1, none⟩ = false := by simp [World.frozen?, HY5.out]
    clear h1 h2 h3 HNN1
    go_wp2_with fail
    have HY6 := Lib.hid (blk_put (cs := #[.int .i64 1, .int .i64 0, .int .i64 0, .slice none 0 0]) HY5.out 1 (.int .i64 f) rfl)
    have HB6 := Lib.hid ((Below.heap_setCell w5 ⟨g, 1, none⟩ (.int .i64 f) w.heap.size (by have := HGZ.out; simp; omega)).trans HB5.out)
    have HI6 := Lib.hid (HI5.out.at (Below.heap_setCell w5 ⟨g, 1, none⟩ (.int .i64 f) x (by have := HGZ.out; simp; omega)))
    have HD6 := Lib.hid (HD5.out.setCell (p := ⟨g, 1, none⟩) (by have := HGZ.out; have := HGEW.out; simp; omega) (.int .i64 f))
    have HQ6 := Lib.hid (HQ5.out.set (p := ⟨g, 1, none⟩) (.inr (by have := HGZ.out; simp; omega)) (.int .i64 f))
    have HZZ6 := Lib.hid (show g < (w5.setCell ⟨g, 1, none⟩ (.int .i64 f)).heap.size by rw [World.size_setCell]; exact HZZ5.out)
    obtain ⟨w6, hw6⟩ : ∃ w6, w5.setCell ⟨g, 1, none⟩ (.int .i64 f) = w6 := ⟨_, rfl⟩
    rw [hw6] at HY6 HB6 HI6 HD6 HQ6 HZZ6 ⊢
    clear hw6 HY5 HB5 HI5 HD5 HQ5 HZZ5 d1 z1
    have h4 := eNum_is HI6.out HD6.out HO2.out
    rw [HE2.out.1, HE2.out.2] at h4
    have HNN2 := Lib.hid h4
    clear h4
    refine HNN2.out.mono ?_
    rintro e w7 ⟨rfl, h1, h2, h3⟩
    have HB7 := Lib.hid ((h3.block w.heap.size (by have := HGZ.out; have := HZZ6.out; omega) (by have := HGZ.out; omega)).trans HB6.out)
    have HY7 := Lib.hid ((h3.block g HZZ6.out (by have := HGZ.out; omega)).trans HY6.out)
    have HQ7 := Lib.hid (HQ6.out.trans h3)
    have HZZ7 := Lib.hid (Nat.lt_of_lt_of_le HZZ6.out h3.size)
    have HI7 := Lib.hid h1
    have HD7 := Lib.hid h2
    have d2 : w7.cell? ⟨g, 2, none⟩ = some (.int .i64 0) := by simp [World.cell?, HY7.out]
    have z2 : w7.frozen? ⟨g, 2, none⟩ = false := by simp [World.frozen?, HY7.out]
    clear h1 h2 h3 HNN2
    go_wp2_with fail
    have HY8 := Lib.hid (blk_put (cs := #[.int .i64 1, .int .i64 f, .int .i64 0, .slice none 0 0]) HY7.out 2 (.int .i64 n) rfl)
    have HB8 := Lib.hid ((Below.heap_setCell w7 ⟨g, 2, none⟩ (.int .i64 n) w.heap.size (by have := HGZ.out; simp; omega)).trans HB7.out)
    have HI8 := Lib.hid (HI7.out.at (Below.heap_setCell w7 ⟨g, 2, none⟩ (.int .i64 n) x (by have := HGZ.out; simp; omega)))
    have HD8 := Lib.hid (HD7.out.setCell (p := ⟨g, 2, none⟩) (by have := HGZ.out; have := HGEW.out; simp; omega) (.int .i64 n))
    have HQ8 := Lib.hid (HQ7.out.set (p := ⟨g, 2, none⟩) (.inr (by have := HGZ.out; simp; omega)) (.int .i64 n))
    have HZZ8 := Lib.hid (show g < (w7.setCell ⟨g, 2, none⟩ (.int .i64 n)).heap.size by rw [World.size_setCell]; exact HZZ7.out)
    obtain ⟨w8, hw8⟩ : ∃ w8, w7.setCell ⟨g, 2, none⟩ (.int .i64 n) = w8 := ⟨_, rfl⟩
    rw [hw8] at HY8 HB8 HI8 HD8 HQ8 HZZ8 ⊢
    clear hw8 HY7 HB7 HI7 HD7 HQ7 HZZ7 d2 z2
    have h4 := eList_txns HI8.out HD8.out HO3.out
    rw [HE3.out.1, HE3.out.2] at h4
    have HNN3 := Lib.hid h4
    clear h4
    refine HNN3.out.mono ?_
    rintro e w9 ⟨vl, rfl, hv, h1, h2, h3⟩
    obtain ⟨Al, cl, rfl⟩ := Kd.S_slice hv
    have HV := Lib.hid (show Kd.S G.k26 26 w9 w.heap.size (fun k => k ≠ g ∧ k ≠ w.heap.size) _ l from Kd.S_mono (Kd.S_lower (Kd.S_bound hv) HQ8.out.size) (fun k hk => by
     have h7 := hk.2.1; have h9 := HGZ.out; have h8 := HZZ8.out; constructor <;> omega))
    clear hv
    have HB9 := Lib.hid ((h3.block w.heap.size (by have := HGZ.out; have := HZZ8.out; omega) (by have := HGZ.out; omega)).trans HB8.out)
    have HY9 := Lib.hid ((h3.block g HZZ8.out (by have := HGZ.out; omega)).trans HY8.out)
    have HQ9 := Lib.hid (HQ8.out.trans h3)
    have HZZ9 := Lib.hid (Nat.lt_of_lt_of_le HZZ8.out h3.size)
    have HI9 := Lib.hid h1
    have HD9 := Lib.hid h2
    have d3 : w9.cell? ⟨g, 3, none⟩ = some (.slice none 0 0) := by simp [World.cell?, HY9.out]
    have z3 : w9.frozen? ⟨g, 3, none⟩ = false := by simp [World.frozen?, HY9.out]
    clear h1 h2 h3 HNN3
    have d0 : w9.cell? ⟨g, 0, none⟩ = some (.int .i64 1) := by simp [World.cell?, HY9.out]
    have d1 : w9.cell? ⟨g, 1, none⟩ = some (.int .i64 f) := by simp [World.cell?, HY9.out]
    have d2 : w9.cell? ⟨g, 2, none⟩ = some (.int .i64 n) := by simp [World.cell?, HY9.out]
    have x0 : w9.cell? ⟨w.heap.size, 0, none⟩ = some (.int .i64 0) := by simp [World.cell?, HB9.out]
    have x1 : w9.cell? ⟨w.heap.size, 1, none⟩ = some (.int .i64 0) := by simp [World.cell?, HB9.out]
    have x2 : w9.cell? ⟨w.heap.size, 2, none⟩ = some (.int .i64 0) := by simp [World.cell?, HB9.out]
    have x3 : w9.cell? ⟨w.heap.size, 3, none⟩ = some (.slice none 0 0) := by simp [World.cell?, HB9.out]
    obtain ⟨y0, y1, y2, y3⟩ := bf4 HB9.out
    have HGN : w.heap.size ≠ g := by have := HGZ.out; omega
    go_wp2_with fail
    have HEB := Lib.hid (blk_put (cs := #[.int .i64 1, .int .i64 f, .int .i64 n, .slice none 0 0]) (blk_put (cs := #[.int .i64 1, .int .i64 f, .int .i64 0, .slice none 0 0]) (blk_put (cs := #[.int .i64 1, .int .i64 0, .int .i64 0, .slice none 0 0]) (blk_put (cs := #[.int .i64 0, .int .i64 0, .int .i64 0, .slice none 0 0]) ((Below.heap_setCell w9 ⟨g, 3, none⟩ (.slice Al l.length cl) w.heap.size HGN).trans HB9.out) 0 (.int .i64 1) rfl) 1 (.int .i64 f) rfl) 2 (.int .i64 n) rfl) 3 (.slice Al l.length cl) rfl)
    have HKS := Lib.hid (((((((KeepS.refl (fun i => i = g ∨ i = w.heap.size) w9)).set (p := ⟨g, 3, none⟩) (.inl (.inl rfl)) (.slice Al l.length cl)).set (p := ⟨w.heap.size, 0, none⟩) (.inl (.inr rfl)) (.int .i64 1)).set (p := ⟨w.heap.size, 1, none⟩) (.inl (.inr rfl)) (.int .i64 f)).set (p := ⟨w.heap.size, 2, none⟩) (.inl (.inr rfl)) (.int .i64 n)).set (p := ⟨w.heap.size, 3, none⟩) (.inl (.inr rfl)) (.slice Al l.length cl))
    obtain ⟨W, hW⟩ : ∃ W, ((((w9.setCell ⟨g, 3, none⟩ (.slice Al l.length cl)).setCell ⟨w.heap.size, 0, none⟩ (.int .i64 1)).setCell ⟨w.heap.size, 1, none⟩ (.int .i64 f)).setCell ⟨w.heap.size, 2, none⟩ (.int .i64 n)).setCell ⟨w.heap.size, 3, none⟩ (.slice Al l.length cl) = W := ⟨_, rfl⟩
    rw [hW] at HEB HKS ⊢
    clear hW
    refine bodyPost_ret (results_cell_row rfl _ _ w.heap.size 29 #[.int .i64 1, .int .i64 f, .int .i64 n, .slice Al l.length cl] (0, 0) _ rfl HEB.out Tryz.underlying29 rfl (by kernel_rfl)) rfl ?_
    rw [HR2.out]
    have hq := HQ9.out.size
    have hgz := HGZ.out
    refine ⟨_, rfl, Kd.S_mono (Kd.S_step HV.out (fun k hk hlt => HKS.out.block k hlt ?_)) (fun _ _ => trivial), HI9.out.at (HKS.out.block x (by omega) ?_), HD9.out.trans (HKS.out.below (B := w0.heap.size) HD9.out.size ?_), HQ9.out.then_base (HKS.out.below (B := w.heap.size) hq ?_)⟩
    ·rintro (h | h); exact hk.1 h; exact hk.2 h
    ·rintro (h | h) <;> omega
    ·have := HGEW.out
     rintro i (h | h) <;> omega
    ·rintro i (h | h) <;> omega
  ·have hq1 : (s2.e != 0) = true := bne_iff_ne.2 he
   have HR := Lib.hid (show eEntry s = ((0, 0, 0, []), s2) by rw [HF.out, if_pos (.inl he)])
   clear he
   go_wp2_with fail
   have HEB := Lib.hid (blk_put (cs := #[.int .i64 0, .int .i64 0, .int .i64 0, .slice none 0 0]) (blk_put (cs := #[.int .i64 0, .int .i64 0, .int .i64 0, .slice none 0 0]) (blk_put (cs := #[.int .i64 0, .int .i64 0, .int .i64 0, .slice none 0 0]) (blk_put (cs := #[.int .i64 0, .int .i64 0, .int .i64 0, .slice none 0 0]) (HB2.out) 0 (.int .i64 0) rfl) 1 (.int .i64 0) rfl) 2 (.int .i64 0) rfl) 3 (.slice none 0 0) rfl)
   have HKS := Lib.hid ((((((KeepS.refl (fun i => i = w.heap.size) w2)).set (p := ⟨w.heap.size, 0, none⟩) (.inl rfl) (.int .i64 0)).set (p := ⟨w.heap.size, 1, none⟩) (.inl rfl) (.int .i64 0)).set (p := ⟨w.heap.size, 2, none⟩) (.inl rfl) (.int .i64 0)).set (p := ⟨w.heap.size, 3, none⟩) (.inl rfl) (.slice none 0 0))
   obtain ⟨W, hW⟩ : ∃ W, ((((w2).setCell ⟨w.heap.size, 0, none⟩ (.int .i64 0)).setCell ⟨w.heap.size, 1, none⟩ (.int .i64 0)).setCell ⟨w.heap.size, 2, none⟩ (.int .i64 0)).setCell ⟨w.heap.size, 3, none⟩ (.slice none 0 0) = W := ⟨_, rfl⟩
   rw [hW] at HEB HKS ⊢
   clear hW
   refine bodyPost_ret (results_cell_row rfl _ _ w.heap.size 29 #[.int .i64 0, .int .i64 0, .int .i64 0, .slice none 0 0] (0, 0) _ rfl HEB.out Tryz.underlying29 rfl (by kernel_rfl)) rfl ?_
   rw [HR.out]
   have hz := HZ2.out
   have hlt := HLT.out
   have hgw := HGEW.out
   exact ⟨_, rfl, Kd.S_nil _ _ _ _ _, HIX.out.at (HKS.out.block x (by omega) (by show ¬ x = w.heap.size; omega)), HDX.out.trans (HKS.out.below (B := w0.heap.size) HDX.out.size (by rintro i rfl; omega)), HQX.out.then_base (HKS.out.below (B := w.heap.size) (by omega) (by rintro i rfl; omega))⟩
end Go.Proofs.YtgiefblcckikeaaGreat.M
end

section
/- TakeEntry (printed by gentake04.py). -/
attribute [local irreducible] Go.wpStill
namespace Go.Proofs.YtgiefblcckikeaaGreat.M
open Go.RowKit Go.Proofs.YtgiefblcckikeaaGreatW.PrintWords Go.Proofs.YtgiefblcckikeaaGreatW.PrintLast Go.Proofs.YtgiefblcckikeaaGreatW.PrintMore Go.Proofs.YtgiefblcckikeaaGreat.G
def eEnds (s : EyeS) (may all : Bool) : Int := if ¬ s.e = 0 then s.e else if all = true ∧ 0 < s.l.length then 13 else if s.o = true ∨ may = false then 40 else 0
theorem eEnds_is {w0 w : World} {x : Nat} {s : EyeS} (hI : IsEye w0 w x s) (may all : Bool) :
  Calls Tryz.prog 55 #[.pointer (some ⟨x, 0, none⟩), .bool may, .bool all] w fun e w' => e = .returned (.int .i64 (eEnds s may all)) ∧ w' = w := by
 obtain ⟨A, c, h1, h2, h3, h4⟩ := hI
 have c0 : w.cell? ⟨x, 0, none⟩ = some (.slice A s.l.length c) := by simp [World.cell?, h1]
 have c1 : w.cell? ⟨x, 1, none⟩ = some (.int .i64 s.e) := by simp [World.cell?, h1]
 have c2 : w.cell? ⟨x, 2, none⟩ = some (.bool s.o) := by simp [World.cell?, h1]
 clear h1 h2 h3 h4
 obtain ⟨l, e, o⟩ := s
 simp only at c0 c1 c2
 by_cases he : e = 0
 ·have hq : (e != 0) = false := by rw [he]; rfl
  cases all with
  | true =>
   by_cases hl : 0 < l.length
   ·have hq2 : decide (0 < l.length) = true := decide_eq_true (by omega)
    have HF := Lib.hid (show eEnds ⟨l, e, o⟩ may true = 13 by unfold eEnds; rw [if_neg (fun h => h he), if_pos ⟨rfl, hl⟩])
    clear he hl
    go_enter Tryz.func55, Tryz.ntmps55
    go_wp2_with fail
    go_ret
    exact ⟨by rw [HF.out]; rfl, rfl⟩
   ·have hq2 : decide (0 < l.length) = false := decide_eq_false (by omega)
    have HF := Lib.hid (show eEnds ⟨l, e, o⟩ may true = if o = true ∨ may = false then 40 else 0 by unfold eEnds; rw [if_neg (fun h => h he), if_neg (fun h => hl h.2)])
    clear he hl
    cases o <;> cases may <;> (go_enter Tryz.func55, Tryz.ntmps55; go_wp2_with fail; go_ret; exact ⟨by rw [HF.out]; rfl, rfl⟩)
  | false =>
   have HF := Lib.hid (show eEnds ⟨l, e, o⟩ may false = if o = true ∨ may = false then 40 else 0 by unfold eEnds; rw [if_neg (fun h => h he), if_neg (fun h => by cases h.1)])
   clear he
   cases o <;> cases may <;> (go_enter Tryz.func55, Tryz.ntmps55; go_wp2_with fail; go_ret; exact ⟨by rw [HF.out]; rfl, rfl⟩)
 ·have hq : (e != 0) = true := bne_iff_ne.2 he
  have HF := Lib.hid (show eEnds ⟨l, e, o⟩ may all = e by unfold eEnds; rw [if_pos he])
  clear he
  go_enter Tryz.func55, Tryz.ntmps55
  go_wp2_with fail
  go_ret
  exact ⟨by rw [HF.out]; rfl, rfl⟩
def takeEn (l : List Int) : EnD × Int :=
 if eEnds (eEntry ⟨l, 0, false⟩).2 (mayE (eEntry ⟨l, 0, false⟩).1.1 (eEntry ⟨l, 0, false⟩).1.2.1 (eEntry ⟨l, 0, false⟩).1.2.2.1 (eEntry ⟨l, 0, false⟩).1.2.2.2) true = 0 then ((eEntry ⟨l, 0, false⟩).1, 0)
 else ((0, 0, 0, []), eEnds (eEntry ⟨l, 0, false⟩).2 (mayE (eEntry ⟨l, 0, false⟩).1.1 (eEntry ⟨l, 0, false⟩).1.2.1 (eEntry ⟨l, 0, false⟩).1.2.2.1 (eEntry ⟨l, 0, false⟩).1.2.2.2) true)
abbrev oEye (A : Option Addr) (n c : Nat) : Obj := .cells #[.slice A n c, .int .i64 0, .bool false] 81
set_option maxHeartbeats 4000000 in
theorem takeEn_is (A : Option Addr) (c : Nat) (l : List Int) (w : World) (hr : Kd.C (Kd.int .u8) w A l.length l) (hc : l.length ≤ c) (hb : okB l = true) (hl : l.length < 140737488355328) :
  Calls Tryz.prog 23 #[.slice A l.length c] w fun e w' => ∃ v : Value, e = .returned (.tuple #[.agg #[.int .i64 (takeEn l).1.1, .int .i64 (takeEn l).1.2.1, .int .i64 (takeEn l).1.2.2.1, v], .int .i64 (takeEn l).2]) ∧ Kd.S G.k26 26 w' w.heap.size (fun _ => True) v (takeEn l).1.2.2.2 ∧ Below w.heap.size w w' := by
 have h0 := heap_alloc_new w zEnt
 have s1 : (w.alloc zEnt).heap.size = w.heap.size + 1 := by simp
 have h1 := heap_alloc_new (w.alloc zEnt) (oEye A l.length c)
 have s2 : ((w.alloc zEnt).alloc (oEye A l.length c)).heap.size = w.heap.size + 1 + 1 := by simp
 have b1 := ((Below.refl _ w).alloc (Nat.le_refl _) zEnt).alloc (by simp) (oEye A l.length c)
 have g1 : ((w.alloc zEnt).alloc (oEye A l.length c)).heap[w.heap.size]? = some zEnt := by
  have := (Below.refl _ (w.alloc zEnt)).alloc (Nat.le_refl _) (oEye A l.length c)
  exact (this.block w.heap.size (by omega)).trans h0
 rw [s1] at h1
 go_enter Tryz.func23, Tryz.ntmps23
 go_wp2_with fail
 obtain ⟨w2, hw2⟩ : ∃ w2, (w.alloc zEnt).alloc (oEye A l.length c) = w2 := ⟨_, rfl⟩
 obtain ⟨x, hx⟩ : ∃ x, w.heap.size + 1 = x := ⟨_, rfl⟩
 rw [hw2] at h1 s2 b1 g1 ⊢
 rw [hx] at h1 s1 s2 ⊢
 have HI := Lib.hid (show IsEye w w2 x ⟨l, 0, false⟩ from ⟨A, c, h1, by omega, hc, hr⟩)
 have HX := Lib.hid hx; have HS2 := Lib.hid s2; have HB2 := Lib.hid b1; have HG2 := Lib.hid g1
 have HN := Lib.hid (eEntry_is HI.out HB2.out (s := ⟨l, 0, false⟩) ⟨hb, hl⟩)
 obtain ⟨r, hr1⟩ : ∃ r, takeEn l = r := ⟨_, rfl⟩
 have hr2 := hr1
 unfold takeEn at hr2
 obtain ⟨y, hy⟩ : ∃ y, (eEntry ⟨l, 0, false⟩).1 = y := ⟨_, rfl⟩
 obtain ⟨s', hs'⟩ : ∃ s', (eEntry ⟨l, 0, false⟩).2 = s' := ⟨_, rfl⟩
 rw [hy, hs'] at hr2 HN
 obtain ⟨k, f, n, t⟩ := y
 simp only at hr2
 obtain ⟨er, her⟩ : ∃ er, eEnds s' (mayE k f n t) true = er := ⟨_, rfl⟩
 rw [her] at hr2
 have HER := Lib.hid her; have HR1 := Lib.hid hr1; have HR2 := Lib.hid hr2
 clear h0 s1 h1 s2 b1 g1 hw2 hx hy hs' hr2 hr1 her hr hc hb hl
 refine HN.out.mono ?_
 rintro e w3 ⟨v, rfl, hv, h1, h2, h3⟩
 obtain ⟨At, ct, rfl, htc, hC⟩ := Kd.S_reads hv
 simp only at hv hC htc
 have HZ2 := Lib.hid (show w.heap.size < w2.heap.size by have := HS2.out; have := HX.out; omega)
 have HV := Lib.hid (show Kd.S G.k26 26 w3 w.heap.size (fun k => k ≠ w.heap.size ∧ k < w3.heap.size) (.slice At t.length ct) t from Kd.S_mono (Kd.S_lower (Kd.S_bound hv) (Nat.le_of_lt HZ2.out)) (fun k hk => ⟨by have h7 := hk.2.1; have := HZ2.out; omega, hk.2.2.1⟩))
 have HC := Lib.hid hC
 have HI3 := Lib.hid h1; have HB3 := Lib.hid h2
 have HG3 := Lib.hid ((h3.block w.heap.size HZ2.out (by have := HX.out; omega)).trans HG2.out)
 have HZ3 := Lib.hid (Nat.lt_of_lt_of_le HZ2.out h3.size)
 clear hv hC htc h1 h2 h3 HN HI HB2 HG2
 go_wp2_with fail
 have hby := heap_alloc_new w3 (.cells #[.int .i64 k, .int .i64 f, .int .i64 n, .slice At t.length ct] 29)
 have hay := (Below.refl _ w3).alloc (Nat.le_refl _) (.cells #[.int .i64 k, .int .i64 f, .int .i64 n, .slice At t.length ct] 29)
 have hzy : (w3.alloc (.cells #[.int .i64 k, .int .i64 f, .int .i64 n, .slice At t.length ct] 29)).heap.size = w3.heap.size + 1 := by simp
 obtain ⟨w4, hw4⟩ : ∃ w4, w3.alloc (.cells #[.int .i64 k, .int .i64 f, .int .i64 n, .slice At t.length ct] 29) = w4 := ⟨_, rfl⟩
 rw [hw4] at hby hay hzy ⊢
 have HM := Lib.hid (mayEn_is k f n At ct t w4 (Kd.C_below HC.out hay))
 have HI4 := Lib.hid (HI3.out.below hay)
 have HB4 := Lib.hid (HB3.out.trans (hay.mono HB3.out.size))
 have HG4 := Lib.hid ((hay.block w.heap.size HZ3.out).trans HG3.out)
 have HV4 := Lib.hid (Kd.S_below HV.out hay)
 obtain ⟨g, hg⟩ : ∃ g, w3.heap.size = g := ⟨_, rfl⟩
 rw [hg] at hby hzy HV4 HZ3 ⊢
 have HY4 := Lib.hid hby
 have HZ4 := Lib.hid (show w.heap.size < g ∧ g < w4.heap.size ∧ x < w4.heap.size from ⟨HZ3.out, by omega, HI4.out.lt⟩)
 have d0 : w4.cell? ⟨g, 0, none⟩ = some (.int .i64 k) := by simp [World.cell?, HY4.out]
 have d1 : w4.cell? ⟨g, 1, none⟩ = some (.int .i64 f) := by simp [World.cell?, HY4.out]
 have d2 : w4.cell? ⟨g, 2, none⟩ = some (.int .i64 n) := by simp [World.cell?, HY4.out]
 have d3 : w4.cell? ⟨g, 3, none⟩ = some (.slice At t.length ct) := by simp [World.cell?, HY4.out]
 clear hw4 hg hby hay hzy HI3 HB3 HG3 HV HC
 go_wp2_with fail
 refine HM.out.mono ?_
 rintro e w5 ⟨rfl, hb5⟩
 have HI5 := Lib.hid (HI4.out.below hb5)
 have HE := Lib.hid (eEnds_is HI5.out (mayE k f n t) true)
 rw [HER.out] at HE
 have HB5 := Lib.hid (HB4.out.trans (hb5.mono HB4.out.size))
 have HG5 := Lib.hid ((hb5.block w.heap.size (by have := HZ4.out; omega)).trans HG4.out)
 have HY5 := Lib.hid ((hb5.block g HZ4.out.2.1).trans HY4.out)
 have HV5 := Lib.hid (Kd.S_below HV4.out hb5)
 clear hb5 d0 d1 d2 d3 HI4 HB4 HG4 HY4 HV4 HM
 go_wp2_with fail
 refine HE.out.mono ?_
 rintro e w6 ⟨rfl, rfl⟩
 have d0 : w6.cell? ⟨g, 0, none⟩ = some (.int .i64 k) := by simp [World.cell?, HY5.out]
 have d1 : w6.cell? ⟨g, 1, none⟩ = some (.int .i64 f) := by simp [World.cell?, HY5.out]
 have d2 : w6.cell? ⟨g, 2, none⟩ = some (.int .i64 n) := by simp [World.cell?, HY5.out]
 have d3 : w6.cell? ⟨g, 3, none⟩ = some (.slice At t.length ct) := by simp [World.cell?, HY5.out]
 have x0 : w6.cell? ⟨w.heap.size, 0, none⟩ = some (.int .i64 0) := by simp [World.cell?, HG5.out]
 have x1 : w6.cell? ⟨w.heap.size, 1, none⟩ = some (.int .i64 0) := by simp [World.cell?, HG5.out]
 have x2 : w6.cell? ⟨w.heap.size, 2, none⟩ = some (.int .i64 0) := by simp [World.cell?, HG5.out]
 have x3 : w6.cell? ⟨w.heap.size, 3, none⟩ = some (.slice none 0 0) := by simp [World.cell?, HG5.out]
 obtain ⟨y0, y1, y2, y3⟩ := bf4 HG5.out
 have HGN : w.heap.size ≠ g := by have := HZ4.out; omega
 by_cases he : er = 0
 ·have hq : (er != 0) = false := by rw [he]; rfl
  have HR := Lib.hid (show takeEn l = ((k, f, n, t), 0) by rw [HR1.out, ← HR2.out, if_pos he])
  clear he
  go_wp2_with fail
  have HEB := Lib.hid (blk_put (cs := #[.int .i64 k, .int .i64 f, .int .i64 n, .slice none 0 0]) (blk_put (cs := #[.int .i64 k, .int .i64 f, .int .i64 0, .slice none 0 0]) (blk_put (cs := #[.int .i64 k, .int .i64 0, .int .i64 0, .slice none 0 0]) (blk_put (cs := #[.int .i64 0, .int .i64 0, .int .i64 0, .slice none 0 0]) (HG5.out) 0 (.int .i64 k) rfl) 1 (.int .i64 f) rfl) 2 (.int .i64 n) rfl) 3 (.slice At t.length ct) rfl)
  have HKS := Lib.hid ((((((KeepS.refl (fun i => i = w.heap.size) w6)).set (p := ⟨w.heap.size, 0, none⟩) (.inl rfl) (.int .i64 k)).set (p := ⟨w.heap.size, 1, none⟩) (.inl rfl) (.int .i64 f)).set (p := ⟨w.heap.size, 2, none⟩) (.inl rfl) (.int .i64 n)).set (p := ⟨w.heap.size, 3, none⟩) (.inl rfl) (.slice At t.length ct))
  obtain ⟨W, hW⟩ : ∃ W, ((((w6).setCell ⟨w.heap.size, 0, none⟩ (.int .i64 k)).setCell ⟨w.heap.size, 1, none⟩ (.int .i64 f)).setCell ⟨w.heap.size, 2, none⟩ (.int .i64 n)).setCell ⟨w.heap.size, 3, none⟩ (.slice At t.length ct) = W := ⟨_, rfl⟩
  rw [hW] at HEB HKS ⊢
  clear hW
  refine bodyPost_ret (results_ct rfl _ _ w.heap.size 29 #[.int .i64 k, .int .i64 f, .int .i64 n, .slice At t.length ct] (0, 0) _ rfl HEB.out Tryz.underlying29 rfl (by kernel_rfl)) rfl ?_
  rw [HR.out]
  refine ⟨_, rfl, Kd.S_mono (Kd.S_step HV5.out (fun k hk hlt => HKS.out.block k hlt hk.1)) (fun _ _ => trivial), HB5.out.trans (HKS.out.below (B := w.heap.size) HB5.out.size (by rintro i rfl; exact Nat.le_refl _))⟩
 ·have hq : (er != 0) = true := bne_iff_ne.2 he
  have HR := Lib.hid (show takeEn l = ((0, 0, 0, []), er) by rw [HR1.out, ← HR2.out, if_neg he])
  clear he
  go_wp2_with fail
  have HEB := Lib.hid (blk_put (cs := #[.int .i64 0, .int .i64 0, .int .i64 0, .slice none 0 0]) (blk_put (cs := #[.int .i64 0, .int .i64 0, .int .i64 0, .slice none 0 0]) (blk_put (cs := #[.int .i64 0, .int .i64 0, .int .i64 0, .slice none 0 0]) (blk_put (cs := #[.int .i64 0, .int .i64 0, .int .i64 0, .slice none 0 0]) (HG5.out) 0 (.int .i64 0) rfl) 1 (.int .i64 0) rfl) 2 (.int .i64 0) rfl) 3 (.slice none 0 0) rfl)
  have HKS := Lib.hid ((((((KeepS.refl (fun i => i = w.heap.size) w6)).set (p := ⟨w.heap.size, 0, none⟩) (.inl rfl) (.int .i64 0)).set (p := ⟨w.heap.size, 1, none⟩) (.inl rfl) (.int .i64 0)).set (p := ⟨w.heap.size, 2, none⟩) (.inl rfl) (.int .i64 0)).set (p := ⟨w.heap.size, 3, none⟩) (.inl rfl) (.slice none 0 0))
  obtain ⟨W, hW⟩ : ∃ W, ((((w6).setCell ⟨w.heap.size, 0, none⟩ (.int .i64 0)).setCell ⟨w.heap.size, 1, none⟩ (.int .i64 0)).setCell ⟨w.heap.size, 2, none⟩ (.int .i64 0)).setCell ⟨w.heap.size, 3, none⟩ (.slice none 0 0) = W := ⟨_, rfl⟩
  rw [hW] at HEB HKS ⊢
  clear hW
  refine bodyPost_ret (results_ct rfl _ _ w.heap.size 29 #[.int .i64 0, .int .i64 0, .int .i64 0, .slice none 0 0] (0, 0) _ rfl HEB.out Tryz.underlying29 rfl (by kernel_rfl)) rfl ?_
  rw [HR.out]
  refine ⟨_, rfl, Kd.S_nil _ _ _ _ _, HB5.out.trans (HKS.out.below (B := w.heap.size) HB5.out.size (by rintro i rfl; exact Nat.le_refl _))⟩
end Go.Proofs.YtgiefblcckikeaaGreat.M
namespace Go.Proofs.YtgiefblcckikeaaGreat.G
open Go.RowKit Go.Proofs.YtgiefblcckikeaaGreatW.PrintWords Go.Proofs.YtgiefblcckikeaaGreat.M
def record_TakeEntry.f (l0 : List Int) : Option (Int × Int × Int × List S26 × Int) := if okB l0 = true ∧ l0.length < 140737488355328 then some ((takeEn l0).1.1, (takeEn l0).1.2.1, (takeEn l0).1.2.2.1, (takeEn l0).1.2.2.2, (takeEn l0).2) else none
theorem record_TakeEntry.calls (A0 : Option Addr) (c0 : Nat) (l0 : List Int) (r1 r2 r3 : Int) (r4 : List S26) (r5 : Int) (w : World) (hr0 : Kd.C (Kd.int .u8) w A0 l0.length l0) (hc0 : l0.length ≤ c0) (h : record_TakeEntry.f l0 = some (r1, r2, r3, r4, r5)) :
  Calls Tryz.prog 23 #[.slice A0 l0.length c0] w fun e w' => ∃ v3_ : Value, e = .returned (.tuple #[.agg #[.int .i64 r1, .int .i64 r2, .int .i64 r3, v3_], .int .i64 r5]) ∧ Kd.S k26 26 w' w.heap.size (fun _ => True) v3_ r4 ∧ Below w.heap.size w w' := by
 unfold record_TakeEntry.f at h
 split at h
 ·next hq =>
  simp only [Option.some.injEq, Prod.mk.injEq] at h
  obtain ⟨rfl, rfl, rfl, rfl, rfl⟩ := h
  exact takeEn_is A0 c0 l0 w hr0 hc0 hq.1 hq.2
 ·cases h
end Go.Proofs.YtgiefblcckikeaaGreat.G
end

section
/- A whole struct's load, at once. -/
namespace Go.Proofs.YtgiefblcckikeaaGreat.M
open Go
end Go.Proofs.YtgiefblcckikeaaGreat.M
end

section
/- A chain of && and ||: behind a false (true) it needs no walk, operation by operation; and a list of operations may be walked part by part. -/
namespace Go.Proofs.YtgiefblcckikeaaGreat.M
open Go
structure Aside0C (p : Prop) : Prop where mk :: (out : p)
abbrev Kn := List (Nat × Option Bool)
def Knows (a : Act) (K : Kn) : Prop := ∀ p, p ∈ K → a.tmps[p.1]? = some (match p.2 with | some b => .bool b | none => undef)
def kget : Kn → Nat → Option (Option Bool)
 | [], _ => none
 | p :: K, d => if p.1 = d then some p.2 else kget K d
def kdel (K : Kn) (d : Nat) : Kn := K.filter (fun p => decide (p.1 ≠ d))
def kput (N : Nat) (K : Kn) (dst : Option Tmp) (v : Option Bool) : Option Kn := match dst with
 | none => some K
 | some d => if d < N then some ((d, v) :: kdel K d) else none
def kval (K : Kn) : Operand → Option Bool
 | .tmp t => match kget K t with
  | some (some b) => some b
  | _ => none
 | .const (.bool b) => some b
 | _ => none
def kwant (ops : Array Oper) (K : Kn) (o : Oper) : Option Bool := match o.guard with
 | none => some true
 | some (j, want) => match (ops[j]?).bind (·.dst) with
  | none => some false
  | some d => match kget K d with
   | some (some b) => some (b == want)
   | some none => some false
   | none => none
def kexec (K : Kn) (o : Oper) : Option Bool := match o.op with
 | .move x | .assign x => kval K x
 | .pick c x y => match kval K c with
  | some true => kval K x
  | some false => kval K y
  | none => none
 | .unOp .not _ x => (kval K x).map (!·)
 | _ => none
def chainRun (ops : Array Oper) (N : Nat) : List Oper → Kn → Option Kn
 | [], K => some K
 | o :: r, K => match kwant ops K o with
  | none => none
  | some false => (kput N K o.dst none).bind (chainRun ops N r)
  | some true => (kexec K o).bind fun b => (kput N K o.dst (some b)).bind (chainRun ops N r)
theorem kget_mem : ∀ {K : Kn} {d : Nat} {v : Option Bool}, kget K d = some v → (d, v) ∈ K
 | p :: K, d, v, h => by
  unfold kget at h
  split at h
  ·obtain rfl := Option.some.inj h
   next e => subst e; exact List.mem_cons_self
  ·exact List.mem_cons_of_mem _ (kget_mem h)
theorem Knows.put {a : Act} {K K' : Kn} {N : Nat} {dst : Option Tmp} {v : Option Bool} {u : Value} (h : Knows a K) (hu : u = (match v with | some b => .bool b | none => undef)) (hN : N ≤ a.tmps.size) (hp : kput N K dst v = some K') : Knows (a.put dst u) K' ∧ N ≤ (a.put dst u).tmps.size ∧ (a.put dst u).defers = a.defers := by
 unfold kput at hp
 cases dst with
 | none => obtain rfl := Option.some.inj hp; exact ⟨h, hN, rfl⟩
 | some d =>
  simp only at hp
  by_cases hd : d < N
  ·rw [if_pos hd] at hp
   obtain rfl := Option.some.inj hp
   refine ⟨fun p hm => ?_, by simpa [Act.put] using hN, rfl⟩
   show (a.tmps.setIfInBounds d u)[p.1]? = _
   rcases List.mem_cons.1 hm with rfl | hm
   ·rw [Array.getElem?_setIfInBounds_self_of_lt (Nat.lt_of_lt_of_le hd hN), hu]
   ·have h2 := List.mem_filter.1 hm
    have h3 : p.1 ≠ d := of_decide_eq_true h2.2
    rw [Array.getElem?_setIfInBounds_ne (fun e => h3 e.symm)]
    exact h p h2.1
  ·rw [if_neg hd] at hp; cases hp
theorem kval_eval {a : Act} {K : Kn} {x : Operand} {b : Bool} (h : Knows a K) (hx : kval K x = some b) : a.eval x = .bool b := by
 unfold kval at hx
 split at hx
 ·next t =>
  split at hx
  ·next b' hg =>
   obtain rfl := Option.some.inj hx
   have := h _ (kget_mem hg)
   simp only at this
   show a.tmps.getD t undef = _
   rw [Array.getD_eq_getD_getElem?, this]
   rfl
  ·cases hx
 ·obtain rfl := Option.some.inj hx; rfl
 ·cases hx
theorem kexec_run {P : Program} {a : Act} {K : Kn} {o : Oper} {b : Bool} (h : Knows a K) (hx : kexec K o = some b) (w : World) : (execOp a.eval o).run P w = .ok (.value (.bool b)) w := by
 unfold kexec at hx
 split at hx
 ·next x ho => rw [BigFrame.run_move x ho, kval_eval h hx]
 ·next x ho => rw [BigFrame.run_assign x ho, kval_eval h hx]
 ·next c x y ho =>
  split at hx
  ·next hc => unfold execOp; rw [ho]; simp only [kval_eval h hc, kval_eval h hx]; rfl
  ·next hc => unfold execOp; rw [ho]; simp only [kval_eval h hc, kval_eval h hx]; rfl
  ·cases hx
 ·next tt x ho =>
  obtain ⟨b', hb', rfl⟩ := Option.map_eq_some_iff.1 hx
  unfold execOp
  rw [ho]
  simp only [kval_eval h hb']
  rfl
 ·cases hx
theorem chain_run {P : Program} {ops : Array Oper} {Q : Exit → Act → World → Prop} {w : World} {N : Nat} : ∀ (l : List Oper) (K K' : Kn) (a : Act), chainRun ops N l K = some K' → Knows a K → N ≤ a.tmps.size →
  (∀ a' : Act, Knows a' K' → a'.defers = a.defers → Q .normal a' w) → wpList P ops Q l a w
 | [], K, K', a, hr, h, hN, hq => by obtain rfl := Option.some.inj hr; exact hq a h rfl
 | o :: r, K, K', a, hr, h, hN, hq => by
  unfold chainRun at hr
  have hw : ∀ b, kwant ops K o = some b → Region.wanted o (yielded ops a.tmps) = b := by
   intro b hb
   unfold kwant at hb
   unfold Region.wanted
   split at hb
   ·next hg => rw [hg]; exact Option.some.inj hb
   ·next j want hg =>
    rw [hg]
    simp only
    unfold yielded
    split at hb
    ·next hd => rw [hd]; obtain rfl := Option.some.inj hb; rfl
    ·next d hd =>
     rw [hd, Option.bind_some]
     split at hb
     ·next b' hk => rw [h _ (kget_mem hk)]; obtain rfl := Option.some.inj hb; cases b' <;> cases want <;> rfl
     ·next hk => rw [h _ (kget_mem hk)]; obtain rfl := Option.some.inj hb; rfl
     ·cases hb
  unfold wpList
  split at hr
  ·cases hr
  ·next hk =>
   rw [hw _ hk, if_neg (by simp)]
   obtain ⟨K1, h1, h2⟩ := Option.bind_eq_some_iff.1 hr
   obtain ⟨h3, h4, h5⟩ := h.put (u := undef) rfl hN h1
   exact chain_run r K1 K' _ h2 h3 h4 (fun a' q1 q2 => hq a' q1 (q2.trans h5))
  ·next hk =>
   rw [hw _ hk, if_pos rfl]
   obtain ⟨b, hb, h0⟩ := Option.bind_eq_some_iff.1 hr
   obtain ⟨K1, h1, h2⟩ := Option.bind_eq_some_iff.1 h0
   obtain ⟨h3, h4, h5⟩ := h.put (u := .bool b) (v := some b) rfl hN h1
   refine .inl ?_
   unfold Oper.wp
   rw [kexec_run h hb]
   exact chain_run r K1 K' _ h2 h3 h4 (fun a' q1 q2 => hq a' q1 (q2.trans h5))
theorem Knows.nil (a : Act) : Knows a [] := fun p h => by cases h
theorem Knows.cons {a : Act} {K : Kn} {d : Nat} {b : Bool} (h : a.tmps[d]? = some (.bool b)) (k : Knows a K) : Knows a ((d, some b) :: K) := fun p hp => by
 rcases List.mem_cons.1 hp with rfl | hp
 ·exact h
 ·exact k p hp
theorem chain_to {P : Program} {ops : Array Oper} {Q : Exit → Act → World → Prop} {w : World} {a : Act} {l : List Oper} (N d : Nat) (b : Bool) (K : Kn) (hr : (chainRun ops N l K).bind (fun K' => kget K' d) = some (some b)) (h : Knows a K) (hN : N ≤ a.tmps.size)
  (hq : ∀ a' : Act, a'.tmps[d]? = some (.bool b) → a'.defers = a.defers → Q .normal a' w) : wpList P ops Q l a w := by
 obtain ⟨K', h1, h2⟩ := Option.bind_eq_some_iff.1 hr
 exact chain_run l K K' a h1 h hN (fun a' q1 q2 => hq a' (q1 _ (kget_mem h2)) q2)
theorem results_slot {fn : Func} {t : Nat} {a : Array Value} {v : Value} {P : Program} {w : World} (hr : fn.results = #[.tmp t]) (h : a[t]? = some v) : (results fn a).run P w = .ok v w := by
 simp [results, hr, h]
structure Halt (p : Prop) : Prop where mk :: (out : p)
def stopAt (Q : Exit → Act → World → Prop) (N : Act → World → Prop) : Exit → Act → World → Prop
 | .normal, a, w => Halt (N a w)
 | e, a, w => Q e a w
theorem upon_stop {P : Program} {o : Oper} {a : Act} {K K' : Act → World → Prop} {Q : Exit → Act → World → Prop} {N : Act → World → Prop} (hk : ∀ a w, K a w → K' a w) : ∀ r : Result Next, o.upon P a K (stopAt Q N) r → o.upon P a K' Q r := by
 intro r h
 unfold Oper.upon at h ⊢
 split at h
 ·exact hk _ _ h
 ·exact hk _ _ h
 ·exact hk _ _ h
 ·refine h.mono (fun e w' he => ?_)
  cases e with
  | returned v => exact hk _ _ he
  | panicked c => exact he
  | outgrown => obtain ⟨a, w, h⟩ := he; exact ⟨a, w, h⟩
 ·exact Rows.mono h (fun v w' he => hk _ _ he)
 ·exact h
 ·exact h.elim
theorem wpList_stop {P : Program} {ops : Array Oper} {Q : Exit → Act → World → Prop} {l2 : List Oper} : ∀ (l1 : List Oper) (a : Act) (w : World), wpList P ops (stopAt Q (wpList P ops Q l2)) l1 a w → wpList P ops Q (l1 ++ l2) a w
 | [], a, w, h => by
  unfold wpList at h
  exact h.out
 | o :: r, a, w, h => by
  unfold wpList at h
  rw [List.cons_append]
  unfold wpList
  split at h
  ·next hw =>
   rw [if_pos hw]
   rcases h with h | ⟨h1, a', w', h2⟩
   ·exact .inl (upon_stop (fun a w h => wpList_stop r a w h) _ h)
   ·exact .inr ⟨h1, a', w', h2⟩
  ·next hw =>
   rw [if_neg hw]
   exact wpList_stop r _ _ h
theorem wpList_cut {P : Program} {ops : Array Oper} {Q : Exit → Act → World → Prop} {a : Act} {w : World} {l : List Oper} (k : Nat) (h : wpList P ops (stopAt Q (wpList P ops Q (l.drop k))) (l.take k) a w) : wpList P ops Q l a w := by
 have := wpList_stop _ _ _ h
 rwa [List.take_append_drop] at this
theorem with_fin {P : Program} {ops : Array Oper} {Q : Exit → Act → World → Prop} {a : Act} {w : World} {l : List Oper} (Φ : Act → World → Prop) (hf : ∀ a' W, Φ a' W → Q .normal a' W) (h : Aside0C (∀ a' W, Φ a' W → Q .normal a' W) → wpList P ops Q l a w) : wpList P ops Q l a w := h ⟨hf⟩
end Go.Proofs.YtgiefblcckikeaaGreat.M
end
