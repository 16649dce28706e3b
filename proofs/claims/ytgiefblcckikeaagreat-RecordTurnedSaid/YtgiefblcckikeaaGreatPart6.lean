/- RecordTurnedSaid: contracts of the functions that the law goes through, put together in build order (part 7 of 7). -/
import Derived.Test.YtgiefblcckikeaaGreatPart5
import Derived.Laws.BitsAllLaws
set_option linter.unusedVariables false
set_option linter.unusedSimpArgs false
set_option maxRecDepth 100000
section
/- RecordTurned returns true (printed by genunm04.py). -/
attribute [local irreducible] Go.wpStill
namespace Go.Proofs.YtgiefblcckikeaaGreat.M
open Go.RowKit Go.Proofs.YtgiefblcckikeaaGreatW.PrintWords Go.Proofs.YtgiefblcckikeaaGreatW.PrintLast Go.Proofs.YtgiefblcckikeaaGreatW.PrintMore Go.Proofs.YtgiefblcckikeaaGreat.G
theorem entB_okm {k f n : Int} {l : List TxD} (ho : okE k f n l = true) (hm : mayE k f n l = true) : okB (entB k f n l) = true := by
 have h := mayE_parts hm
 refine entB_ok ho ?_ ?_
 ·rcases h with ⟨_, _, _, rfl⟩ | ⟨_, h, _⟩
  ·simp
  ·omega
 ·intro t ht
  rcases h with ⟨_, _, _, rfl⟩ | ⟨_, _, h⟩
  ·cases ht
  ·obtain ⟨a, b, c, d⟩ := mayT_len (h t ht)
   exact ⟨by omega, by omega, by omega, by omega⟩
theorem trB_ok {x : TrD} (ho : isI64 x.f0 ∧ okE x.f1.f0 x.f1.f1 x.f1.f2 x.f1.f3 = true) (hm : mayE x.f1.f0 x.f1.f1 x.f1.f2 x.f1.f3 = true) : okB (trB x) = true := by
 unfold trB
 rw [okB_app, numB_ok ho.1, entB_okm ho.2 hm]
 rfl
theorem yesB_ok (b : Bool) : okB (yesB b) = true := by cases b <;> exact numB_ok (by decide)
theorem xorB {a : Int} {j : Nat} (ha : 0 ≤ a ∧ a ≤ 255) (hj : j < 8) : (0 ≤ Go.bits .xor .u8 a (2 ^ min j 8 % 256) ∧ Go.bits .xor .u8 a (2 ^ min j 8 % 256) ≤ 255) ∧ Go.bits .xor .u8 a (2 ^ min j 8 % 256) ≠ a := by
 obtain ⟨n, hn, hn0, hn8⟩ : ∃ n : Nat, (2 ^ min j 8 % 256 : Int) = (n : Int) ∧ 0 < n ∧ n < 256 := by
  obtain rfl | rfl | rfl | rfl | rfl | rfl | rfl | rfl : j = 0 ∨ j = 1 ∨ j = 2 ∨ j = 3 ∨ j = 4 ∨ j = 5 ∨ j = 6 ∨ j = 7 := by omega
  ·exact ⟨1, by decide, by decide, by decide⟩
  ·exact ⟨2, by decide, by decide, by decide⟩
  ·exact ⟨4, by decide, by decide, by decide⟩
  ·exact ⟨8, by decide, by decide, by decide⟩
  ·exact ⟨16, by decide, by decide, by decide⟩
  ·exact ⟨32, by decide, by decide, by decide⟩
  ·exact ⟨64, by decide, by decide, by decide⟩
  ·exact ⟨128, by decide, by decide, by decide⟩
 obtain ⟨x, rfl⟩ : ∃ x : Nat, a = (x : Int) := ⟨a.toNat, by omega⟩
 rw [hn, u8_xor_nat x n (by omega) (by omega)]
 have h1 : x ^^^ n < 2 ^ 8 := Nat.xor_lt_two_pow (by omega) (by omega)
 refine ⟨⟨by omega, by omega⟩, fun h => ?_⟩
 have h2 : x ^^^ n = x := by omega
 have h3 : x ^^^ (x ^^^ n) = n := by rw [← Nat.xor_assoc, Nat.xor_self, Nat.zero_xor]
 rw [h2, Nat.xor_self] at h3
 omega
theorem okI_3 {a b c d : Int} (h : okI [a, b, c, d] = true) : okI [a, b, c] = true := by
 obtain ⟨x, h⟩ := okI_cons.1 h
 obtain ⟨y, h⟩ := okI_cons.1 h
 obtain ⟨z, h⟩ := okI_cons.1 h
 exact okI_cons.2 ⟨x, okI_cons.2 ⟨y, okI_cons.2 ⟨z, rfl⟩⟩⟩
theorem msgB_ok {m : MsgD} (ho : OkM m) (hy : mayMs m = true) (hd : okB m.f10.f3 = true) : okB (msgB m) = true := by
 have h3 := (okI_cons.1 ho.t).1
 have h4 := (okI_cons.1 (okI_cons.1 ho.t).2).1
 have hy' := hy
 unfold mayMs at hy'
 simp only [Bool.and_eq_true, decide_eq_true_eq, List.all_eq_true] at hy'
 obtain ⟨_, _, _, hkd, _, hl8, hml, h5, h6⟩ := hy'
 unfold msgB
 rw [okB_app, numsB_ok ho.h, Bool.true_and]
 unfold tailB
 split
 ·exact numsB_ok (okI_3 ho.t)
 split
 ·rw [okB_app, numB_ok h3, yesB_ok]; rfl
 split
 ·rw [okB_app, okB_app, numsB_ok ho.t, numB_ok (nat_i64 _ (by omega)), okB_flat (fun x hx => trB_ok (ho.l x hx) (mayTr_e (hml x hx)))]; rfl
 split
 ·rw [okB_app, okB_app, numB_ok h3, yesB_ok, numB_ok h4]; rfl
 split
 ·next hk =>
  have hp : m.f10.f3.length ≤ 16384 := by
   have : mayPt m.f10 = true := by
    rw [hk] at h5
    simpa using h5
   unfold mayPt at this
   simp only [Bool.and_eq_true, decide_eq_true_eq] at this
   omega
  have hi : okI [m.f3, m.f4, m.f5, m.f10.f0, m.f10.f1, m.f10.f2] = true := by
   obtain ⟨a, t⟩ := okI_cons.1 ho.t
   obtain ⟨b, t⟩ := okI_cons.1 t
   obtain ⟨c, t⟩ := okI_cons.1 t
   exact okI_cons.2 ⟨a, okI_cons.2 ⟨b, okI_cons.2 ⟨c, ho.p⟩⟩⟩
  rw [okB_app, okB_app, numsB_ok hi, numB_ok (nat_i64 _ (by omega)), hd]; rfl
 ·next n1 n2 n3 n4 n5 =>
  have h6' : m.f0 = 6 := by
   unfold isKind at hkd
   simp only [Bool.and_eq_true, decide_eq_true_eq] at hkd
   omega
  rw [h6'] at h6
  exact entB_okm ho.e (by simpa using h6)
set_option maxHeartbeats 4000000 in
theorem turned_walk (w : World) (m : MsgD) (bit cut : Int) {A8 A12 A16 : Option Addr} {c8 c12 c16 : Nat} (hm : MsgC w m A8 c8 A12 c12 A16 c16) (ho : OkM m) (hd : okB m.f10.f3 = true) (hbit : isI64 bit) (hcut : isI64 cut) :
  Calls Tryz.prog 7 #[.agg #[.int .i64 m.f0, .int .i64 m.f1, .int .i64 m.f2, .int .i64 m.f3, .int .i64 m.f4, .int .i64 m.f5, .int .i64 m.f6, .bool m.f7, .slice A8 m.f8.length c8, .int .i64 m.f9.f0, .int .i64 m.f9.f1, .int .i64 m.f9.f2, .slice A12 m.f9.f3.length c12, .int .i64 m.f10.f0, .int .i64 m.f10.f1, .int .i64 m.f10.f2, .slice A16 m.f10.f3.length c16], .int .i64 bit, .int .i64 cut] w fun e w' => e = .returned (.bool true) ∧ Below w.heap.size w w' := by
 obtain ⟨x, hb⟩ := box1 w #[.int .i64 m.f0, .int .i64 m.f1, .int .i64 m.f2, .int .i64 m.f3, .int .i64 m.f4, .int .i64 m.f5, .int .i64 m.f6, .bool m.f7, .slice A8 m.f8.length c8, .int .i64 m.f9.f0, .int .i64 m.f9.f1, .int .i64 m.f9.f2, .slice A12 m.f9.f3.length c12, .int .i64 m.f10.f0, .int .i64 m.f10.f1, .int .i64 m.f10.f2, .slice A16 m.f10.f3.length c16] 34
 have hm := hm.below hb
 have HO := Lib.hid ho; have HD := Lib.hid hd; have HBT := Lib.hid hbit; have HCT := Lib.hid hcut
 clear ho hd hbit hcut
 go_enter Tryz.func7, Tryz.ntmps7
 go_upto_region 1 with fail
 obtain ⟨w0, hw⟩ : ∃ W, w.alloc (.cells #[.int .i64 m.f0, .int .i64 m.f1, .int .i64 m.f2, .int .i64 m.f3, .int .i64 m.f4, .int .i64 m.f5, .int .i64 m.f6, .bool m.f7, .slice A8 m.f8.length c8, .int .i64 m.f9.f0, .int .i64 m.f9.f1, .int .i64 m.f9.f2, .slice A12 m.f9.f3.length c12, .int .i64 m.f10.f0, .int .i64 m.f10.f1, .int .i64 m.f10.f2, .slice A16 m.f10.f3.length c16] 34) = W := ⟨_, rfl⟩
 obtain ⟨g, hg⟩ : ∃ g, w.heap.size = g := ⟨_, rfl⟩
 rw [hw] at x hb hm ⊢
 rw [hg] at x ⊢
 have HG := Lib.hid hg; have X0 := Lib.hid (show MsBox w0 g m A8 c8 A12 c12 A16 c16 from x); have B0 := Lib.hid hb; have M0 := Lib.hid hm
 clear x hb hm hw hg
 go_wp2_with fail
 refine (begun_is w0).mono ?_
 rintro e w1 ⟨rfl, hb⟩
 have X1 := Lib.hid (X0.out.below hb); have B1 := Lib.hid (B0.out.trans (hb.mono B0.out.size)); have M1 := Lib.hid (M0.out.below hb)
 clear hb X0 B0 M0
 obtain ⟨r, er, hr⟩ : ∃ r er, marF sealedB m = (r, er) := ⟨_, _, rfl⟩
 have HF := Lib.hid hr
 clear hr
 go_upto_region 3 with fail
 refine wp_region_list ?_
 refine wpList_load_row rfl 34 (.tmp 3) rfl g rfl 34 #[.int .i64 m.f0, .int .i64 m.f1, .int .i64 m.f2, .int .i64 m.f3, .int .i64 m.f4, .int .i64 m.f5, .int .i64 m.f6, .bool m.f7, .slice A8 m.f8.length c8, .int .i64 m.f9.f0, .int .i64 m.f9.f1, .int .i64 m.f9.f2, .slice A12 m.f9.f3.length c12, .int .i64 m.f10.f0, .int .i64 m.f10.f1, .int .i64 m.f10.f2, .slice A16 m.f10.f3.length c16] (0, 0) _ X1.out Tryz.underlying34 rfl (by kernel_rfl) ?_
 go_wp2_with fail
 have h4 := mar_is m M1.out HO.out sealedB sealC
 rw [HF.out] at h4
 refine h4.mono ?_
 rintro e w2 ⟨v, rfl, hv, hb⟩
 obtain ⟨B, cB, rfl⟩ := Kd.R_slice hv
 have R2 := Lib.hid (Kd.R_reads' hv); have X2 := Lib.hid (X1.out.below hb); have B2 := Lib.hid (B1.out.trans (hb.mono B1.out.size)); have M2 := Lib.hid (M1.out.below hb)
 clear h4 hb hv X1 B1 M1
 cases hy : mayMs m with
 | false =>
  obtain ⟨rfl, rfl⟩ : r = [] ∧ er = 40 := by
   have := HF.out
   unfold marF at this
   rw [if_neg (by rw [hy]; simp)] at this
   simpa using this.symm
  have HY := Lib.hid hy
  clear hy HF
  go_upto_region 5 with fail
  refine wp_region_list ?_
  refine wpList_cut 3 ?_
  simp only [List.take_succ_cons, List.take_zero, List.drop_succ_cons, List.drop_zero]
  go_wp2_with fail
  refine Halt.mk ?_
  refine gate_guard (by rfl) ?_
  dsimp only
  refine wpList_load_row rfl 34 (.tmp 3) rfl g rfl 34 #[.int .i64 m.f0, .int .i64 m.f1, .int .i64 m.f2, .int .i64 m.f3, .int .i64 m.f4, .int .i64 m.f5, .int .i64 m.f6, .bool m.f7, .slice A8 m.f8.length c8, .int .i64 m.f9.f0, .int .i64 m.f9.f1, .int .i64 m.f9.f2, .slice A12 m.f9.f3.length c12, .int .i64 m.f10.f0, .int .i64 m.f10.f1, .int .i64 m.f10.f2, .slice A16 m.f10.f3.length c16] (0, 0) _ X2.out Tryz.underlying34 rfl (by kernel_rfl) ?_
  go_wp2_with fail
  have h4 := refMayMs_is m M2.out
  rw [HY.out] at h4
  refine h4.mono ?_
  rintro e w3 ⟨rfl, hb⟩
  have B3 := Lib.hid (B2.out.trans (hb.mono B2.out.size))
  clear h4 hb
  go_wp2_with fail
  go_ret
  exact ⟨rfl, B3.out⟩
 | true =>
  by_cases hln : 1048576 < (msgB m).length
  ·obtain ⟨rfl, rfl⟩ : r = [] ∧ er = 3 := by
    have := HF.out
    unfold marF at this
    rw [if_pos hy, if_pos hln] at this
    simpa using this.symm
   clear hy HF hln
   go_wp2_with fail
   go_ret
   exact ⟨rfl, B2.out⟩
  obtain ⟨rfl, rfl⟩ : r = sealedB (msgB m) ∧ er = 0 := by
   have := HF.out
   unfold marF at this
   rw [if_pos hy, if_neg hln] at this
   simpa using this.symm
  have HOB := Lib.hid (msgB_ok HO.out hy HD.out)
  obtain ⟨d, hd⟩ : ∃ d, msgB m = d := ⟨_, rfl⟩
  rw [hd] at HOB R2 hln ⊢
  have HLN := Lib.hid (show d.length ≤ 1048576 by omega)
  clear hd hy HF hln
  have hsl := sealed_len d
  have hns := numB_len (isI64_len (d := d) (by have := HLN.out; omega))
  obtain ⟨S, hS⟩ : ∃ S, sealedB d = S := ⟨_, rfl⟩
  have HT := Lib.hid (fun (i : Nat) (v : Int) (hi : i < S.length) (hv : 0 ≤ v ∧ v ≤ 255) (hne : v ≠ rd S (i : Int)) => (by rw [← hS] at hi hne ⊢; exact unm_turned HOB.out HLN.out i v hi hv hne : ¬ (unm (S.set i v)).2 = 0 ∧ (unm (S.set i v)).1 = zM))
  have HU := Lib.hid (fun (k : Nat) (hk : k < S.length) => (by rw [← hS] at hk ⊢; exact unm_short HLN.out k hk : unm (S.take k) = (zM, 10)))
  have HSO := Lib.hid (show okB S = true by rw [← hS]; exact sealed_ok HOB.out HLN.out)
  rw [hS] at R2 hsl ⊢
  have HSL := Lib.hid (show 9 ≤ S.length ∧ S.length < 2000000 by have := HLN.out; omega)
  clear hS hsl hns HLN HOB
  have q0 : ((S.length : Int) == 0) = false := beq_eq_false_iff_ne.2 (by have := HSL.out; omega)
  have q0' : decide (0 < (S.length : Int)) = true := decide_eq_true (by have := HSL.out; omega)
  have q0'' : decide (0 < S.length) = true := decide_eq_true (by have := HSL.out; omega)
  by_cases hneg : bit < 0
  ·have q1 : decide (bit < 0) = true := decide_eq_true hneg
   clear hneg
   go_wp2_with fail
   go_ret
   exact ⟨rfl, B2.out⟩
  have q1 : decide (bit < 0) = false := decide_eq_false hneg
  by_cases hge : (S.length : Int) ≤ wrap64 (bit.tdiv 8)
  ·have q2 : decide ((S.length : Int) ≤ wrap64 (bit.tdiv 8)) = true := decide_eq_true hge
   clear hneg hge
   go_wp2_with fail
   go_ret
   exact ⟨rfl, B2.out⟩
  have q2 : decide ((S.length : Int) ≤ wrap64 (bit.tdiv 8)) = false := decide_eq_false hge
  obtain ⟨i, hi, hil⟩ : ∃ i : Nat, wrap64 (bit.tdiv 8) = (i : Int) ∧ i < S.length := by
   have h1 := HBT.out; have h2 := HSL.out
   unfold isI64 at h1
   have h3 : bit.tdiv 8 = bit / 8 := Int.tdiv_eq_ediv_of_nonneg (by omega)
   have h4 : wrap64 (bit.tdiv 8) = bit / 8 := by rw [h3]; unfold wrap64; omega
   exact ⟨(bit / 8).toNat, by rw [h4]; omega, by omega⟩
  obtain ⟨j, hj, hj8⟩ : ∃ j : Nat, bit.tmod 8 = (j : Int) ∧ j < 8 := by
   have h3 : bit.tmod 8 = bit % 8 := Int.tmod_eq_emod_of_nonneg (by omega)
   exact ⟨(bit % 8).toNat, by rw [h3]; omega, by omega⟩
  have HI := Lib.hid hi; have HIL := Lib.hid hil; have HJ := Lib.hid hj; have HJ8 := Lib.hid hj8
  clear hneg hge hi hil hj hj8
  go_wp2_with fail
  refine (bclone_calls B cB S w2 R2.out.2.2 R2.out.2.1 (by have := HSL.out; omega)).mono ?_
  rintro e w3 ⟨v, rfl, hv, hb⟩
  obtain ⟨b, cb, rfl, hbase, hblt, cells, hcell⟩ := Kd.R_form hv (by have := HSL.out; omega)
  have V3 := Lib.hid hv; have BB := Lib.hid (And.intro hbase hblt); have K2 := Lib.hid hb
  have hc := Kd.R_cell (enc := Value.int .u8) (0 : Int) hv (i : Int) (by omega) (by have := HIL.out; omega)
  obtain ⟨hc1, hc2⟩ := hc
  rw [Int.toNat_natCast] at hc1 hc2
  have hi := HI.out; have hj := HJ.out; have hi' : IntKind.i64.wrap (bit.tdiv 8) = (i : Int) := by rw [← hi, IntKind.wrap_i64]; unfold wrap64; rfl
  have p1 : (0 : Int) ≤ (i : Int) := by omega
  have p2 : (i : Int) < (S.length : Int) := by have := HIL.out; omega
  have p3 : (0 : Int) ≤ (j : Int) := by omega
  clear hb hv hcell hbase hblt q1 q2
  go_upto_region 9 with fail
  go_region
  obtain ⟨v, hv⟩ : ∃ v, (Go.bits .xor .u8 (rdOf 0 S (i : Int)) (2 ^ min j 8 % 256)) = v := ⟨_, rfl⟩
  have HV := Lib.hid (show (0 ≤ v ∧ v ≤ 255) ∧ v ≠ rd S (i : Int) by
   rw [← hv]
   exact xorB (okB_rd HSO.out (i : Int)) HJ8.out)
  rw [hv]
  clear hv
  have hp := (Kd.R_put (enc := Value.int .u8) V3.out (i : Int) v).1
  rw [Int.toNat_natCast] at hp
  have K4 := Lib.hid ((K2.out.setCell (p := ⟨b, i, none⟩) BB.out.1 (.int .u8 v)).drew)
  obtain ⟨S', hS'⟩ : ∃ S', S.set i v = S' := ⟨_, rfl⟩
  have HLS := Lib.hid (show S'.length = S.length by rw [← hS', List.length_set])
  have HTT := HT.out i v HIL.out HV.out.1 HV.out.2
  rw [hS'] at hp HTT
  have HOS := Lib.hid (show okB S' = true by
   rw [← hS']
   have h0 := HSO.out
   unfold okB at h0 ⊢
   rw [List.all_eq_true] at h0 ⊢
   intro x hx
   rcases List.mem_or_eq_of_mem_set hx with h | h
   ·exact h0 x h
   ·rw [h]; have := HV.out.1; simp; omega)
  have RN := Lib.hid (Kd.R_drew hp)
  have HTT := Lib.hid HTT
  obtain ⟨w4, hw⟩ : ∃ W, (w3.setCell ⟨b, i, none⟩ (.int .u8 v)).drew = W := ⟨_, rfl⟩
  rw [hw] at K4 RN ⊢
  clear hw hp hS' hc1 hc2 hi hj hi' p1 p2 p3 V3 K2 HI HJ HJ8 HV HT BB
  have X4 := Lib.hid (X2.out.below K4.out); have B4 := Lib.hid (B2.out.trans (K4.out.mono B2.out.size)); have M4 := Lib.hid (M2.out.below K4.out); have R4 := Lib.hid (Kd.C_below R2.out.2.2 K4.out); have RL := Lib.hid R2.out.2.1
  clear X2 B2 M2 R2 K4
  have hrn := RN.out
  rw [← HLS.out] at hrn
  have RS := Lib.hid (Kd.R_reads' hrn)
  clear hrn RN
  obtain ⟨e1, he1⟩ : ∃ e1, (unm S').2 = e1 := ⟨_, rfl⟩
  have h4 := unm_is (some ⟨b, 0, none⟩) cb S' w4 RS.out.2.2 RS.out.2.1 HOS.out (by have := HLS.out; have := HSL.out; omega)
  rw [HTT.out.2, he1, HLS.out] at h4
  have HE1 := Lib.hid (show ¬ e1 = 0 by rw [← he1]; exact HTT.out.1)
  have H4 := Lib.hid h4
  clear h4 he1 HTT
  go_wp2_with fail
  refine H4.out.mono ?_
  rintro e w5 ⟨v8, v12, v16, rfl, r8, r12, r16, hb⟩
  obtain ⟨E8, d8, rfl⟩ := Kd.R_slice r8
  obtain ⟨E12, d12, rfl⟩ := Kd.R_slice r12
  obtain ⟨E16, d16, rfl⟩ := Kd.R_slice r16
  have MZ := Lib.hid (show MsgC w5 zM E8 d8 E12 d12 E16 d16 from ⟨(Kd.R_reads' r8).2.1, (Kd.R_reads' r8).2.2, (Kd.R_reads' r12).2.1, (Kd.R_reads' r12).2.2, (Kd.R_reads' r16).2.1, (Kd.R_reads' r16).2.2⟩)
  have X5 := Lib.hid (X4.out.below hb); have B5 := Lib.hid (B4.out.trans (hb.mono B4.out.size)); have M5 := Lib.hid (M4.out.below hb); have R5 := Lib.hid (Kd.C_below R4.out hb)
  clear hb r8 r12 r16 X4 B4 M4 R4 H4
  have q3 : (e1 == (0 : Int)) = false := beq_eq_false_iff_ne.2 HE1.out
  have q3' : (e1 != (0 : Int)) = true := by simp [HE1.out]
  go_upto_region 11 with fail
  obtain ⟨x5, hb5⟩ := box1 w5 #[.int .i64 zM.f0, .int .i64 zM.f1, .int .i64 zM.f2, .int .i64 zM.f3, .int .i64 zM.f4, .int .i64 zM.f5, .int .i64 zM.f6, .bool zM.f7, .slice E8 zM.f8.length d8, .int .i64 zM.f9.f0, .int .i64 zM.f9.f1, .int .i64 zM.f9.f2, .slice E12 zM.f9.f3.length d12, .int .i64 zM.f10.f0, .int .i64 zM.f10.f1, .int .i64 zM.f10.f2, .slice E16 zM.f10.f3.length d16] 34
  refine wp_region_list ?_
  refine wpList_cut 11 ?_
  simp only [List.take_succ_cons, List.take_zero, List.drop_succ_cons, List.drop_zero]
  go_wp2_with fail
  refine Halt.mk ?_
  obtain ⟨w6, hw⟩ : ∃ W, w5.alloc (.cells #[.int .i64 zM.f0, .int .i64 zM.f1, .int .i64 zM.f2, .int .i64 zM.f3, .int .i64 zM.f4, .int .i64 zM.f5, .int .i64 zM.f6, .bool zM.f7, .slice E8 zM.f8.length d8, .int .i64 zM.f9.f0, .int .i64 zM.f9.f1, .int .i64 zM.f9.f2, .slice E12 zM.f9.f3.length d12, .int .i64 zM.f10.f0, .int .i64 zM.f10.f1, .int .i64 zM.f10.f2, .slice E16 zM.f10.f3.length d16] 34) = W := ⟨_, rfl⟩
  rw [hw] at x5 hb5 ⊢
  clear hw
  have B6 := Lib.hid (B5.out.trans (hb5.mono B5.out.size)); have R6 := Lib.hid (Kd.C_below R5.out hb5); have M6 := Lib.hid (MZ.out.below hb5); have X6 := Lib.hid x5
  clear hb5 x5 B5 R5 MZ X5 M5
  refine gate_guard (by rfl) ?_
  dsimp only
  refine wpList_load_row rfl 34 (.tmp 10) rfl w5.heap.size rfl 34 #[.int .i64 zM.f0, .int .i64 zM.f1, .int .i64 zM.f2, .int .i64 zM.f3, .int .i64 zM.f4, .int .i64 zM.f5, .int .i64 zM.f6, .bool zM.f7, .slice E8 zM.f8.length d8, .int .i64 zM.f9.f0, .int .i64 zM.f9.f1, .int .i64 zM.f9.f2, .slice E12 zM.f9.f3.length d12, .int .i64 zM.f10.f0, .int .i64 zM.f10.f1, .int .i64 zM.f10.f2, .slice E16 zM.f10.f3.length d16] (0, 0) _ X6.out Tryz.underlying34 rfl (by kernel_rfl) ?_
  go_wp2_with fail
  have h4 := refSameMs_is zM zM M6.out (show MsgC w6 zM none 0 none 0 none 0 from ⟨Nat.le_refl 0, Kd.C_nil _ _, Nat.le_refl 0, Kd.C_nil _ _, Nat.le_refl 0, Kd.C_nil _ _⟩)
  rw [eqMs_refl] at h4
  refine h4.mono ?_
  rintro e w7 ⟨rfl, hb⟩
  have B7 := Lib.hid (B6.out.trans (hb.mono B6.out.size)); have R7 := Lib.hid (Kd.C_below R6.out hb)
  clear h4 hb B6 R6 M6 X6
  obtain ⟨ad, hA, hx⟩ := Kd.at_int R7.out (0 : Int) (by omega) (by have := HSL.out; omega)
  subst hA
  rw [show ((0 : Int)).toNat = 0 from rfl, Addr.add_zero'] at hx
  have q4 : (0 : Int) < (S.length : Int) := by have := HSL.out; omega
  go_upto_region 14 with fail
  obtain ⟨kk, hkk⟩ : ∃ kk, wrap64 ((wrap64 (rd S 0)).tdiv 2) = kk := ⟨_, rfl⟩
  rw [hkk]
  clear hkk
  go_cut [92] (fun s wx => s = .bool false ∧ wx = w7)
  case first =>
   cases hq5 : decide (kk < wrap64 (bit.tdiv 8)) <;> (go_wp2_with fail; go_meet; exact ⟨rfl, rfl⟩)
  case rest =>
   obtain ⟨rfl, h92⟩ := hcut
   obtain ⟨w8, rfl⟩ : ∃ w8, w8 = wc := ⟨_, rfl⟩
   subst h92
   by_cases hcn : cut < 0
   ·have q5 : decide (cut < 0) = true := decide_eq_true hcn
    clear hcn
    go_wp2_with fail
    go_ret
    exact ⟨rfl, B7.out⟩
   have q5 : decide (cut < 0) = false := decide_eq_false hcn
   by_cases hcg : (S.length : Int) ≤ cut
   ·have q6 : decide ((S.length : Int) ≤ cut) = true := decide_eq_true hcg
    clear hcn hcg
    go_wp2_with fail
    go_ret
    exact ⟨rfl, B7.out⟩
   have q6 : decide ((S.length : Int) ≤ cut) = false := decide_eq_false hcg
   obtain ⟨n, rfl⟩ : ∃ n : Nat, cut = (n : Int) := ⟨cut.toNat, by omega⟩
   have hn : n < S.length := by omega
   have q7 : (n : Int) ≤ (cB : Int) := by have := RL.out; omega
   have q8 : (0 : Int) ≤ (n : Int) := by omega
   have q9 : n ≤ cB := by omega
   have HU := Lib.hid (HU.out n hn)
   have HC := Lib.hid (Kd.C_take R7.out (m := n) (by omega))
   have hlt : (S.take n).length = n := by rw [List.length_take]; omega
   have HOT := Lib.hid (show okB (S.take n) = true by
    have h0 := HSO.out
    unfold okB at h0 ⊢
    rw [List.all_eq_true] at h0 ⊢
    intro x hx
    exact h0 x (List.mem_of_mem_take hx))
   have h4 := unm_is (some ad) cB (S.take n) w8 HC.out (by rw [hlt]; exact q9) HOT.out (by have := HSL.out; omega)
   rw [HU.out, hlt] at h4
   have H4 := Lib.hid h4
   clear h4 hcn hcg
   go_wp2_with fail
   refine H4.out.mono ?_
   rintro e w9 ⟨v8, v12, v16, rfl, r8, r12, r16, hb⟩
   have B9 := Lib.hid (B7.out.trans (hb.mono B7.out.size))
   clear r8 r12 r16 hb
   go_wp2_with fail
   go_ret
   exact ⟨rfl, B9.out⟩
end Go.Proofs.YtgiefblcckikeaaGreat.M
end
