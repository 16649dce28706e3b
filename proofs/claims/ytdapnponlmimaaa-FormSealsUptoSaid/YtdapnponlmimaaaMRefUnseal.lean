/- Contract of trivet/trivetref01.Unseal. -/
import Derived.Test.YtdapnponlmimaaaMRefLow
import Derived.Test.YtdapnponlmimaaaGx0
import Derived.Test.YtdapnponlmimaaaGx11
set_option linter.unusedVariables false
set_option linter.unusedSimpArgs false
namespace Go.Proofs.Ytdapnponlmimaaa.M
open Go.RowKit Go.Proofs.YtdapnponlmimaaaW.PrintWords Go.Proofs.YtdapnponlmimaaaW.PrintLast Go.Proofs.YtdapnponlmimaaaW.PrintMore Go.Proofs.Ytdapnponlmimaaa.G

set_option maxHeartbeats 4000000 in
theorem refUnseal_calls (A : Option Addr) (c : Nat) (l : List Int) (w : World) (hr : Kd.C (Kd.int .u8) w A l.length l) (hc : l.length ≤ c) (hb : okB l = true) (hlen : l.length < 140737488355328) :
    Calls Try.prog 28 #[.slice A l.length c] w fun e w' => ∃ v0_ : Value, e = .returned (.tuple #[v0_, .int .i64 (takeSeal l).2.1, .int .i64 (takeSeal l).2.2]) ∧ Own w' w.heap.size v0_ (takeSeal l).1 ∧ Below w.heap.size w w' := by
  have HR := Aside0.mk hr
  have HC := Aside0.mk hc
  have HLEN := Aside0.mk hlen
  obtain ⟨T1, T2, T3, HTS⟩ : ∃ T1 T2 T3, Aside0 (takeSeal l = (T1, T2, T3)) := ⟨_, _, _, ⟨rfl⟩⟩
  rw [HTS.out]
  obtain ⟨x1, x2, x3, hx⟩ : ∃ x1 x2 x3, takeNum l = (x1, x2, x3) := ⟨_, _, _, rfl⟩
  have HT := Aside0.mk (show trivetref01_TakeNum.f l = some (x1, x2, x3) by unfold trivetref01_TakeNum.f; rw [if_pos hb, hx])
  by_cases he : tkE l = 0
  · obtain ⟨f1, f2⟩ := form_one hb he
    have hs1 := tkS_pos l
    have hs2 := tkE_size he
    unfold takeNum at hx
    rw [if_pos he] at hx
    simp only [Prod.mk.injEq] at hx
    obtain ⟨hn, hs, rfl⟩ := hx
    have HN := Aside0.mk hn
    have HS := Aside0.mk hs
    have HE := Aside0.mk he
    rw [hs] at hs1 hs2
    unfold isI64 at f2
    rw [hn] at f2
    have HBE := Aside0.mk (show blE l 1048576 8 = if x1 < 0 then 11 else if 1048576 < x1 then 3 else if (l.length : Int) - x2 - 8 < x1 then 10 else 0 by
      unfold blE; rw [if_neg (by omega), hn, hs])
    clear hn hs he f1
    have hbad : ∀ z : Int, ¬ z = 0 → blE l 1048576 8 = z → Aside0 (T1 = [] ∧ T2 = 0 ∧ T3 = z) := by
      intro z hz hzz
      have hu : unE l = z := by unfold unE; rw [if_pos (by omega), hzz]
      have := HTS.out
      unfold takeSeal at this
      rw [hu, if_neg hz] at this
      simp only [Prod.mk.injEq] at this
      exact ⟨this.1.symm, this.2.1.symm, this.2.2.symm⟩
    by_cases h1 : x1 < 0
    · have HX := hbad 11 (by decide) (by rw [HBE.out, if_pos h1])
      have g1 : decide (x1 < 0) = true := decide_eq_true h1
      clear h1 hbad hs1 hs2 f2 hr hc hlen
      go_enter Try.func28, Try.ntmps28
      go_wp2_with (go_at_call 11; refine (trivetref01_TakeNum.calls A c l _ _ _ _ HR.out HC.out HT.out).mono ?_; rintro e w1 ⟨rfl, hd⟩; have HB1 := Aside0.mk hd; clear hd)
      refine bodyPost_ret (v := .tuple #[.slice none 0 0, .int .i64 0, .int .i64 11]) (by simp [results, Try.results28, go_sem]) rfl ⟨_, by rw [HX.out.2.1, HX.out.2.2], by rw [HX.out.1]; exact Own.nil _ _, HB1.out⟩
    have g1 : decide (x1 < 0) = false := decide_eq_false h1
    by_cases h2 : 1048576 < x1
    · have HX := hbad 3 (by decide) (by rw [HBE.out, if_neg h1, if_pos h2])
      have g2 : decide (1048576 < x1) = true := decide_eq_true h2
      clear h1 h2 hbad hs1 hs2 f2 hr hc hlen
      go_enter Try.func28, Try.ntmps28
      go_wp2_with (go_at_call 11; refine (trivetref01_TakeNum.calls A c l _ _ _ _ HR.out HC.out HT.out).mono ?_; rintro e w1 ⟨rfl, hd⟩; have HB1 := Aside0.mk hd; clear hd)
      refine bodyPost_ret (v := .tuple #[.slice none 0 0, .int .i64 0, .int .i64 3]) (by simp [results, Try.results28, go_sem]) rfl ⟨_, by rw [HX.out.2.1, HX.out.2.2], by rw [HX.out.1]; exact Own.nil _ _, HB1.out⟩
    have g2 : decide (1048576 < x1) = false := decide_eq_false h2
    have w1a : IntKind.i64.wrap (x1 + 8) = x1 + 8 := by rw [IntKind.wrap_i64]; omega
    have w1b : IntKind.i64.wrap ((l.length : Int) - x2) = (l.length : Int) - x2 := by rw [IntKind.wrap_i64]; omega
    by_cases h3 : (l.length : Int) - x2 < x1 + 8
    · have HX := hbad 10 (by decide) (by rw [HBE.out, if_neg h1, if_neg h2, if_pos (by omega)])
      have g3 : decide ((l.length : Int) - x2 < x1 + 8) = true := decide_eq_true h3
      clear h1 h2 h3 hbad hs1 hs2 f2 hr hc hlen
      go_enter Try.func28, Try.ntmps28
      go_wp2_with (go_at_call 11; refine (trivetref01_TakeNum.calls A c l _ _ _ _ HR.out HC.out HT.out).mono ?_; rintro e w1 ⟨rfl, hd⟩; have HB1 := Aside0.mk hd; clear hd)
      refine bodyPost_ret (v := .tuple #[.slice none 0 0, .int .i64 0, .int .i64 10]) (by simp [results, Try.results28, go_sem]) rfl ⟨_, by rw [HX.out.2.1, HX.out.2.2], by rw [HX.out.1]; exact Own.nil _ _, HB1.out⟩
    have g3 : decide ((l.length : Int) - x2 < x1 + 8) = false := decide_eq_false h3
    have hbz : blE l 1048576 8 = 0 := by rw [HBE.out, if_neg h1, if_neg h2, if_neg (by omega)]
    obtain ⟨q1, q2, q3, q4, q5, q6⟩ := blE_good hbz
    obtain ⟨hi, HHI⟩ : ∃ hi, Aside0 (blHi l = hi) := ⟨_, ⟨rfl⟩⟩
    have hlo : blLo l = x2 := HS.out
    have hhi : hi = x2 + x1 := by rw [← HHI.out]; unfold blHi; rw [HS.out, HN.out]
    obtain ⟨A', c', hV, hc', hr'⟩ := blobV_form hr hc ⟨q6, q5, by omega⟩
    unfold blobV at hV
    rw [hlo, HHI.out] at hV
    obtain ⟨At, ct, hVt, hct, hrt⟩ := tail_form (A := A) (c := c) (l := l) (w := w) hr hc (by omega) (by omega)
    rw [HHI.out] at hVt q4 q5
    obtain ⟨i0, hi0, hz0, hz1, hz2⟩ := info_parts infoU8
    have hcut1 := cut_mid (P := Try.prog) 22 5 .i64 .i64 Try.underlying22 hi0 1 hz1 A l.length c x2 hi (by omega) (by omega) (by omega) hc
    have hcut2 := cut_mid (P := Try.prog) 22 5 .i64 .i64 Try.underlying22 hi0 1 hz1 A l.length c hi (hi + 8) (by omega) (by omega) (by omega) hc
    rw [hV] at hcut1
    rw [hVt] at hcut2
    have HLD := Aside0.mk (show (blD l).length < 140737488355328 by
      have := blD_length (l := l) ⟨q6, by rw [hlo, HHI.out]; omega, by rw [HHI.out]; omega⟩
      rw [this, HHI.out]; omega)
    have HK1 := Aside0.mk (ref_check (blD l) HLD.out ((blD l).length + 1) (by omega))
    have HK2 := Aside0.mk (show trivetref01_low.f 9 (chk (blD l)) = some (sealB (blD l)) from ref_low _ (chk_range _) 9 (by omega))
    obtain ⟨K1, hK1⟩ : ∃ K1, (blD l).length + 1 = K1 := ⟨_, rfl⟩
    obtain ⟨K2, hK2⟩ : ∃ K2, 9 = K2 := ⟨_, rfl⟩
    rw [hK1] at HK1
    rw [hK2] at HK2
    have HRD := Aside0.mk hr'
    have HRT := Aside0.mk hrt
    have wa : IntKind.i64.wrap (x2 + x1) = hi := by rw [IntKind.wrap_i64]; omega
    have wb : IntKind.i64.wrap (hi + 8) = hi + 8 := by rw [IntKind.wrap_i64]; omega
    obtain ⟨bq, hbq⟩ : ∃ bq, ((strOfNums (sealB (blD l))).toList == (strOfNums (tail8 l)).toList) = bq := ⟨_, rfl⟩
    have HY0 := Aside0.mk (show bq = true → T1 = blD l ∧ T2 = hi + 8 ∧ T3 = 0 by
      intro h0
      rw [h0, beq_iff_eq] at hbq
      have e1 : sealB (blD l) = tail8 l := bytesOf_inj (sealB_ok (blD l)) (okB_drop (okB_take hb _) _) hbq
      have := HTS.out
      have hu : unE l = 0 := by unfold unE; rw [hbz, if_neg (by simp), if_pos e1]
      unfold takeSeal at this
      rw [hu, if_pos rfl, HHI.out] at this
      simp only [Prod.mk.injEq] at this
      exact ⟨this.1.symm, this.2.1.symm, this.2.2.symm⟩)
    have HY1 := Aside0.mk (show bq = false → T1 = [] ∧ T2 = 0 ∧ T3 = 12 by
      intro h0
      rw [h0, beq_eq_false_iff_ne] at hbq
      have := HTS.out
      have hu : unE l = 12 := by unfold unE; rw [hbz, if_neg (by simp), if_neg (fun e => hbq (by rw [e]))]
      unfold takeSeal at this
      rw [hu, if_neg (by decide)] at this
      simp only [Prod.mk.injEq] at this
      exact ⟨this.1.symm, this.2.1.symm, this.2.2.symm⟩)
    clear h1 h2 h3 hbad hs1 hs2 f2 hr hc hlen hbz q1 q2 q3 q4 q5 q6 hlo hhi hV hr' hVt hrt hi0 hz0 hz1 hz2 hK1 hK2 hct hb
    go_enter Try.func28, Try.ntmps28
    go_wp2_with (first
      | (go_at_call 11; refine (trivetref01_TakeNum.calls A c l _ _ _ _ HR.out HC.out HT.out).mono ?_; rintro e w1 ⟨rfl, hd⟩; have HB1 := Aside0.mk hd; clear hd)
      | ((with_reducible refine gate_builtin (b := .append) (xs := #[.tmp 33, .tmp 37]) rfl ?_); at_builtin; refine Kd.R_append_rows (Kd.int .u8) (w0 := w) w.heap.size rfl (.tmp 33) (.tmp 37) 22 5 (.int .u8 0) 1 rfl Try.underlying22 infoU8 rfl (by decide) (by omega) (.slice none 0 0) ([] : List Int) (blD l) _ _ _ (fun _ => True) (fun _ => False) rfl rfl (Kd.R_nil _ _ _ _ (fun _ => True)) (Kd.C_below HRD.out HB1.out) (fun _ _ h => h) (fun _ h => h.elim) (fun _ _ => trivial) HB1.out HB1.out.size (by have := HLD.out; simp; omega) ?_; intro v2 w2 ho hb2 _ _; rw [List.nil_append] at ho; obtain ⟨A2, c2, rfl, hc2, hr2⟩ := Kd.R_reads ho; have HO2 := Aside0.mk (show Own w2 w.heap.size (.slice A2 (blD l).length c2) (blD l) from ho); have HB2 := Aside0.mk hb2; have HR2 := Aside0.mk hr2; have HC2 := Aside0.mk hc2; clear ho hb2 hr2 hc2))
    refine start_ (n := 11) (S := fun w' => Kd.C (Kd.int .u8) w' At (tail8 l).length (tail8 l)) (ds := []) #[false, false, false, false, false, false, false, false, false, false, false] (by kernel_rfl) rfl rfl (Kd.C_drew (Kd.C_below HRT.out HB2.out)) (fun hHeld => ?_)
    refine pure_ (i := 0) (N := some 39) (v := ?_) (a' := ?_) #[true, false, false, false, false, false, false, false, false, false, false] rfl rfl (by kernel_rfl) (fun _ _ _ h => h) (Or.inl ⟨by rfl, ?_⟩) ?_ ?_
    rotate_left
    · intro w'
      go_simp
      try with_reducible rfl
    rotate_left
    · simp only [Act.put, List.setIfInBounds_toArray, List.set_cons_zero, List.set_cons_succ, i64_w, i32_w]
      rfl
    refine pure_ (i := 4) (N := some 43) (v := ?_) (a' := ?_) #[true, false, false, false, true, false, false, false, false, false, false] rfl rfl (by kernel_rfl) (fun _ _ _ h => h) (Or.inl ⟨by rfl, ?_⟩) ?_ ?_
    rotate_left
    · intro w'
      go_simp
      try with_reducible rfl
    rotate_left
    · simp only [Act.put, List.setIfInBounds_toArray, List.set_cons_zero, List.set_cons_succ, i64_w, i32_w]
      rfl
    refine pure_ (i := 5) (N := some 44) (v := ?_) (a' := ?_) #[true, false, false, false, true, true, false, false, false, false, false] rfl rfl (by kernel_rfl) (fun _ _ _ h => h) (Or.inl ⟨by rfl, ?_⟩) ?_ ?_
    rotate_left
    · intro w'
      go_simp
      try with_reducible rfl
    rotate_left
    · simp only [Act.put, List.setIfInBounds_toArray, List.set_cons_zero, List.set_cons_succ, i64_w, i32_w]
      rfl
    refine pure_ (i := 6) (N := some 45) (v := ?_) (a' := ?_) #[true, false, false, false, true, true, true, false, false, false, false] rfl rfl (by kernel_rfl) (fun _ _ _ h => h) (Or.inl ⟨by rfl, ?_⟩) ?_ ?_
    rotate_left
    · intro w'
      go_simp
      try with_reducible rfl
    rotate_left
    · simp only [Act.put, List.setIfInBounds_toArray, List.set_cons_zero, List.set_cons_succ, i64_w, i32_w]
      rfl
    refine pure_ (i := 7) (N := some 46) (v := ?_) (a' := ?_) #[true, false, false, false, true, true, true, true, false, false, false] rfl rfl (by kernel_rfl) (fun _ _ _ h => h) (Or.inl ⟨by rfl, ?_⟩) ?_ ?_
    rotate_left
    · intro w'
      go_simp
      try with_reducible rfl
    rotate_left
    · simp only [Act.put, List.setIfInBounds_toArray, List.set_cons_zero, List.set_cons_succ, i64_w, i32_w]
      rfl
    refine pure_ (i := 8) (N := some 47) (v := ?_) (a' := ?_) #[true, false, false, false, true, true, true, true, true, false, false] rfl rfl (by kernel_rfl) (fun _ _ _ h => h) (Or.inl ⟨by rfl, ?_⟩) ?_ ?_
    rotate_left
    · intro w'
      go_simp
      try with_reducible rfl
    rotate_left
    · simp only [Act.put, List.setIfInBounds_toArray, List.set_cons_zero, List.set_cons_succ, i64_w, i32_w]
      rfl
    refine take_ (i := 9) (N := some 48) (v := ?_) (a' := ?_) #[true, false, false, false, true, true, true, true, true, true, false] rfl rfl (by kernel_rfl) (fun _ _ _ h => h) (Or.inl ⟨by rfl, ?_⟩) hHeld ?_ ?_
    rotate_left
    · intro w' hS
      have hcv := Kd.C_string (P := Try.prog) (src := 22) (dst := 9) (e := 5) (c := ct) Try.underlying22 Try.underlying5 Try.underlying9 hS
      go_simp
      try with_reducible rfl
    rotate_left
    · simp only [Act.put, List.setIfInBounds_toArray, List.set_cons_zero, List.set_cons_succ, i64_w, i32_w]
      rfl
    refine one_ (i := 1) (N := some 40) #[true, true, false, false, true, true, true, true, true, true, false] rfl rfl (by kernel_rfl) (by decide) (fun K hK => ?_)
    go_simp
    refine (trivetref01_Check.calls K1 _ c2 (blD l) _ _ (Kd.C_drew HR2.out) HC2.out HK1.out).mono ?_
    rintro e w3 ⟨rfl, hd⟩
    have HB3 := Aside0.mk (show Below w.heap.size w w3 from below_step HB2.out.drew hd.below)
    have HO3 := Aside0.mk (show Own w3 w.heap.size (.slice A2 (blD l).length c2) (blD l) from Own.below HO2.out.drew hd.below)
    refine hK.out _ _ (Kd.C_below hHeld hd.below) (fun hHeld => ?_)
    refine one_ (i := 2) (N := some 41) #[true, true, true, false, true, true, true, true, true, true, false] rfl rfl (by kernel_rfl) (by decide) (fun K hK => ?_)
    go_simp
    refine (trivetref01_low.calls K2 (chk (blD l)) (sealB (blD l)) _ HK2.out).mono ?_
    rintro e w4 ⟨v4, rfl, ho4, hb4⟩
    have HB4 := Aside0.mk (show Below w.heap.size w w4 from below_step HB3.out hb4)
    have HO4 := Aside0.mk (show Own w4 w.heap.size (.slice A2 (blD l).length c2) (blD l) from Own.below HO3.out hb4)
    obtain ⟨A4, c4, rfl, hc4, hr4⟩ := Kd.R_reads ho4
    have hcv := Kd.C_string (P := Try.prog) (src := 22) (dst := 9) (e := 5) (c := c4) Try.underlying22 Try.underlying5 Try.underlying9 hr4
    refine hK.out _ _ (Kd.C_below hHeld hb4) (fun hHeld => ?_)
    clear hb4 ho4 hc4 hr4
    refine one_ (i := 3) (N := some 42) #[true, true, true, true, true, true, true, true, true, true, false] rfl rfl (by kernel_rfl) (by decide) (fun K hK => ?_)
    go_simp
    refine hK.out _ _ hHeld (fun hHeld => ?_)
    refine pure_ (i := 10) (N := some 49) (v := ?_) (a' := ?_) #[true, true, true, true, true, true, true, true, true, true, true] rfl rfl (by kernel_rfl) (fun _ _ _ h => h) (Or.inl ⟨by rfl, ?_⟩) ?_ ?_
    rotate_left
    · intro w'
      go_simp
      try with_reducible rfl
    rotate_left
    · simp only [Act.put, List.setIfInBounds_toArray, List.set_cons_zero, List.set_cons_succ, i64_w, i32_w]
      rfl
    refine done_ (by kernel_rfl) ?_
    cases bq with
    | true =>
      have HZ := Aside0.mk (HY0.out rfl)
      go_wp2
      refine bodyPost_ret (v := .tuple #[.slice A2 (blD l).length c2, .int .i64 (hi + 8), .int .i64 0]) (by simp [results, Try.results28, go_sem]) rfl ⟨_, by rw [HZ.out.2.1, HZ.out.2.2], by rw [HZ.out.1]; exact HO4.out, HB4.out⟩
    | false =>
      have HZ := Aside0.mk (HY1.out rfl)
      go_wp2
      refine bodyPost_ret (v := .tuple #[.slice none 0 0, .int .i64 0, .int .i64 12]) (by simp [results, Try.results28, go_sem]) rfl ⟨_, by rw [HZ.out.2.1, HZ.out.2.2], by rw [HZ.out.1]; exact Own.nil _ _, HB4.out⟩
  · have HX := Aside0.mk (show T1 = [] ∧ T2 = 0 ∧ T3 = tkE l by
      have hbe : blE l 1048576 8 = tkE l := by unfold blE; rw [if_pos he]
      have hu : unE l = tkE l := by unfold unE; rw [hbe, if_pos he]
      have := HTS.out
      unfold takeSeal at this
      rw [hu, if_neg he] at this
      simp only [Prod.mk.injEq] at this
      exact ⟨this.1.symm, this.2.1.symm, this.2.2.symm⟩)
    unfold takeNum at hx
    rw [if_neg he] at hx
    simp only [Prod.mk.injEq] at hx
    obtain ⟨rfl, rfl, hx3⟩ := hx
    have g0 : (x3 != 0) = true := bne_iff_ne.2 (by omega)
    have HX3 := Aside0.mk hx3
    clear he hx3 hr hc hlen
    go_enter Try.func28, Try.ntmps28
    go_wp2_with (go_at_call 11; refine (trivetref01_TakeNum.calls A c l _ _ _ _ HR.out HC.out HT.out).mono ?_; rintro e w1 ⟨rfl, hd⟩; have HB1 := Aside0.mk hd; clear hd)
    refine bodyPost_ret (v := .tuple #[.slice none 0 0, .int .i64 0, .int .i64 x3]) (by simp [results, Try.results28, go_sem]) rfl ⟨_, by rw [HX.out.2.1, HX.out.2.2, HX3.out], by rw [HX.out.1]; exact Own.nil _ _, HB1.out⟩
end Go.Proofs.Ytdapnponlmimaaa.M
namespace Go.Proofs.Ytdapnponlmimaaa.G
open Go.RowKit Go.Proofs.YtdapnponlmimaaaW.PrintWords Go.Proofs.Ytdapnponlmimaaa.M
def trivetref01_Unseal.f (l0 : List Int) : Option (List Int × Int × Int) := if okB l0 = true ∧ l0.length < 140737488355328 then some (takeSeal l0) else none
theorem trivetref01_Unseal.calls (A0 : Option Addr) (c0 : Nat) (l0 : List Int) (r1 : List Int) (r2 : Int) (r3 : Int) (w : World) (hr0 : Kd.C (Kd.int .u8) w A0 l0.length l0) (hc0 : l0.length ≤ c0) (h : trivetref01_Unseal.f l0 = some (r1, r2, r3)) :
    Calls Try.prog 28 #[.slice A0 l0.length c0] w fun e w' => ∃ v0_ : Value, e = .returned (.tuple #[v0_, .int .i64 r2, .int .i64 r3]) ∧ Kd.R (Kd.int .u8) 5 w' w.heap.size (fun _ => True) v0_ r1 ∧ Below w.heap.size w w' := by
  unfold trivetref01_Unseal.f at h
  split at h
  · rename_i hb
    have h := Option.some.inj h
    have h1 : r1 = (takeSeal l0).1 := by rw [h]
    have h2 : r2 = (takeSeal l0).2.1 := by rw [h]
    have h3 : r3 = (takeSeal l0).2.2 := by rw [h]
    rw [h1, h2, h3]
    exact refUnseal_calls A0 c0 l0 w hr0 hc0 hb.1 hb.2
  · cases h
end Go.Proofs.Ytdapnponlmimaaa.G
