/- Contract of trivet/shape.take. -/
import Derived.Test.YtdapnponlmimaaaMTry
import Derived.Test.YtdapnponlmimaaaMPure
set_option linter.unusedVariables false
set_option linter.unusedSimpArgs false
namespace Go.Proofs.Ytdapnponlmimaaa.M
open Go.RowKit Go.Proofs.YtdapnponlmimaaaW.PrintWords

def takeEnd (l : List Int) : Ending := if tkE l = 0 then .returned (.tuple #[.int .i64 (tkN l), .int .i64 (tkS l)]) else .panicked [{ v := wrongV (tkE l), recovered := false }]

theorem takeEnd_bad {l : List Int} {e : Int} (h : tkE l = e) (he : ¬ e = 0) : takeEnd l = .panicked [{ v := wrongV e, recovered := false }] := by
  unfold takeEnd
  rw [h, if_neg he]
theorem takeEnd_good {l : List Int} (h : tkE l = 0) : takeEnd l = .returned (.tuple #[.int .i64 (tkN l), .int .i64 (tkS l)]) := by
  unfold takeEnd
  rw [if_pos h]

set_option maxHeartbeats 1000000 in
theorem take_any (A : Option Addr) (c : Nat) (l : List Int) (w : World) (hr : Kd.C (Kd.int .u8) w A l.length l) (hc : l.length ≤ c) (hb : okB l = true) :
    Calls Try.prog 33 #[.slice A l.length c] w fun e w' => e = takeEnd l ∧ w' = w := by
  have HR := Aside0.mk hr
  have HC := Aside0.mk hc
  have HB := Aside0.mk hb
  clear hr hc hb
  obtain ⟨E, hE⟩ : ∃ E, takeEnd l = E := ⟨_, rfl⟩
  rw [hE]
  have HE := Aside0.mk hE
  clear hE
  by_cases h1 : l = []
  · have he : tkE l = 10 := by unfold tkE; rw [if_pos h1]
    have HF := Aside0.mk (HE.out.symm.trans (takeEnd_bad he (by decide)))
    subst h1
    clear he
    go_enter Try.func33, Try.ntmps33
    go_wp2_with (go_at_call 44; first | ((with_reducible refine (give_no _ _).mono ?_); rintro e w' ⟨rfl, rfl⟩) | ((with_reducible refine (give_yes _ _).mono ?_); rintro e w' ⟨rfl, rfl⟩))
    exact ⟨rfl, HF.out.symm, rfl⟩
  have hl : 0 < l.length := List.length_pos_iff.2 h1
  have hlz : ((l.length : Int) == 0) = false := beq_eq_false_iff_ne.2 (by omega)
  have hb0 := okB_rd HB.out 0
  obtain ⟨ad, hA, hx0⟩ := Kd.at_int HR.out 0 (by omega) (by omega)
  rw [show ((0 : Int)).toNat = 0 from rfl, Addr.add_zero'] at hx0
  subst hA
  by_cases h2 : 17 < rd l 0 ∨ rd l 0 = 1
  · have he : tkE l = 11 := by unfold tkE; rw [if_neg h1, if_pos h2]
    have HF := Aside0.mk (HE.out.symm.trans (takeEnd_bad he (by decide)))
    have h3 : decide (17 < rd l 0) = true ∨ (decide (17 < rd l 0) = false ∧ (rd l 0 == 1) = true) := by
      rcases h2 with h | h
      · exact .inl (decide_eq_true h)
      · exact .inr ⟨decide_eq_false (by omega), by rw [h]; rfl⟩
    clear h2 he h1
    rcases h3 with h3 | ⟨h3, h4⟩
    all_goals
      go_enter Try.func33, Try.ntmps33
      go_wp2_with (go_at_call 44; first | ((with_reducible refine (give_no _ _).mono ?_); rintro e w' ⟨rfl, rfl⟩) | ((with_reducible refine (give_yes _ _).mono ?_); rintro e w' ⟨rfl, rfl⟩))
      exact ⟨rfl, HF.out.symm, rfl⟩
  have h3 : decide (17 < rd l 0) = false := decide_eq_false (by omega)
  have h4 : (rd l 0 == 1) = false := beq_eq_false_iff_ne.2 (by omega)
  obtain ⟨k, hk⟩ : ∃ k, tkK l = k := ⟨_, rfl⟩
  have hk8 : k ≤ 8 := by unfold tkK at hk; omega
  have hq : rd l 0 / 2 = (k : Int) := by unfold tkK at hk; omega
  by_cases h5 : l.length ≤ k
  · have he : tkE l = 10 := by unfold tkE; rw [if_neg h1, if_neg h2, hk, if_pos h5]
    have HF := Aside0.mk (HE.out.symm.trans (takeEnd_bad he (by decide)))
    have h6 : decide (l.length ≤ k) = true := decide_eq_true h5
    clear h2 he h1
    have HK := Lib.hid hk
    clear hk
    go_enter Try.func33, Try.ntmps33
    go_wp2_with (go_at_call 44; first | ((with_reducible refine (give_no _ _).mono ?_); rintro e w' ⟨rfl, rfl⟩) | ((with_reducible refine (give_yes _ _).mono ?_); rintro e w' ⟨rfl, rfl⟩))
    exact ⟨rfl, HF.out.symm, rfl⟩
  have h6 : decide (l.length ≤ k) = false := decide_eq_false h5
  have hrk : ∀ i : Nat, i ≤ k → w.cell? (ad.add i) = some (.int .u8 (rd l (i : Int))) := by
    intro i hi
    obtain ⟨ad', hA, hx⟩ := Kd.at_int HR.out (i : Int) (by omega) (by omega)
    obtain rfl : ad = ad' := by injection hA
    simpa using hx
  by_cases h7 : 0 < k ∧ rd l k = 0
  · have he : tkE l = 11 := by unfold tkE; rw [if_neg h1, if_neg h2, hk, if_neg h5, if_pos h7]
    have HF := Aside0.mk (HE.out.symm.trans (takeEnd_bad he (by decide)))
    have hxk := hrk k (Nat.le_refl _)
    obtain ⟨h8, h9⟩ := h7
    rw [h9] at hxk
    have h10 : decide (0 < (k : Int)) = true := decide_eq_true (by omega)
    have h11 : (k : Int) < (l.length : Int) := by omega
    clear h2 he h1 hrk h9
    have HK := Lib.hid hk
    clear hk
    go_enter Try.func33, Try.ntmps33
    go_wp2_with (go_at_call 44; first | ((with_reducible refine (give_no _ _).mono ?_); rintro e w' ⟨rfl, rfl⟩) | ((with_reducible refine (give_yes _ _).mono ?_); rintro e w' ⟨rfl, rfl⟩))
    exact ⟨rfl, HF.out.symm, rfl⟩
  have h8 : (decide (0 < (k : Int)) = false ∧ k = 0) ∨ (0 < k ∧ (rd l k == 0) = false) := by
    rcases Nat.eq_zero_or_pos k with h | h
    · exact .inl ⟨decide_eq_false (by omega), h⟩
    · exact .inr ⟨h, beq_eq_false_iff_ne.2 (fun h' => h7 ⟨h, h'⟩)⟩
  have hxk := hrk k (Nat.le_refl _)
  have h11 : (k : Int) < (l.length : Int) := by omega
  have HP := Aside0.mk (show (if l = [] then (10:Int) else if 17 < rd l 0 ∨ rd l 0 = 1 then 11 else if l.length ≤ tkK l then 10 else if 0 < tkK l ∧ rd l (tkK l) = 0 then 11 else if big63 < tkU l ∨ (tkU l = big63 ∧ rd l 0 % 2 = 0) then 11 else 0) = if big63 < tkU l ∨ (tkU l = big63 ∧ rd l 0 % 2 = 0) then 11 else 0 by rw [if_neg h1, if_neg h2, hk, if_neg h5, if_neg h7])
  have HK := Lib.hid hk
  have HRK := Aside0.mk hrk
  clear hk hrk h2 h5 h7
  go_enter Try.func33, Try.ntmps33
  rcases h8 with ⟨h8, h9⟩ | ⟨h8, h9⟩
  all_goals
    (try (subst h9; clear h6))
    go_wp2_with (go_at_call 44; first | ((with_reducible refine (give_no _ _).mono ?_); rintro e w' ⟨rfl, rfl⟩) | ((with_reducible refine (give_yes _ _).mono ?_); rintro e w' ⟨rfl, rfl⟩))
    go_loop [5, 6] (fun u i => ∃ (j : Nat) (U : Int), j ≤ tkK l ∧ i = .int .i64 (j : Int) ∧ u = .int .u64 U ∧ Aside0 (U = upFrom l j (tkK l))) (fun _ i => (intOf i).toNat)
    case atStart => exact ⟨tkK l, 0, Nat.le_refl _, by first | (rw [HK.out]; done) | (rw [HK.out]; rfl), rfl, ⟨(upFrom_end _ _).symm⟩⟩
    case round =>
      obtain ⟨j, U, hj, rfl, rfl, HU⟩ := hrel
      have hk8' : tkK l ≤ 8 := by rw [HK.out]; exact hk8
      have hkl : tkK l < l.length := by rw [HK.out]; omega
      by_cases hlt : 0 < j
      · have hxj := HRK.out j (by rw [← HK.out]; exact hj)
        have hj0 : (0 : Int) ≤ (j : Int) := by omega
        have hj1 : (j : Int) < (l.length : Int) := by omega
        have hbj := okB_rd HB.out (j : Int)
        have HV := Aside0.mk (show bits BinOp.or IntKind.u64 (U * 256) (rd l j) = upFrom l (j - 1) (tkK l) by
          rw [HU.out, or_byte _ _ (upFrom_nonneg HB.out _ _) (upFrom_lt HB.out hlt hk8') hbj.1 hbj.2, upFrom_step hlt hj hkl])
        have hU0 : 0 ≤ U := by rw [HU.out]; exact upFrom_nonneg HB.out _ _
        have hU1 : U < 72057594037927936 := by rw [HU.out]; exact upFrom_lt HB.out hlt hk8'
        go_wp2
        go_round
        case rel =>
          refine ⟨j - 1, _, by omega, by go_num, rfl, ⟨?_⟩⟩
          exact HV.out
        case measure => simp [intOf]; omega
      · obtain rfl : j = 0 := by omega
        have hU : U = tkU l := by rw [HU.out, upFrom_zero]
        have hu0 : 0 ≤ U := by rw [HU.out]; exact upFrom_nonneg HB.out 0 _
        have hu1 : U < 18446744073709551616 := by rw [HU.out]; exact upFrom_lt8 HB.out (j := 0) hk8'
        have hT : tkE l = if big63 < U ∨ (U = big63 ∧ rd l 0 % 2 = 0) then 11 else 0 := by rw [hU]; exact HP.out
        have hS : tkS l = (tkK l : Int) + 1 := rfl
        rw [HK.out] at hS
        unfold big63 at hT
        have hm : rd l 0 % 2 = 0 ∨ rd l 0 % 2 = 1 := by omega
        rcases hm with hm | hm
        · by_cases hg : U < 9223372036854775808
          · have hN : tkN l = U := by unfold tkN; rw [if_neg (by omega), hU]
            have HF := Aside0.mk (HE.out.symm.trans (takeEnd_good (by rw [hT, if_neg (by omega)])))
            rw [hN, hS] at HF
            clear hU HU hN hS hT
            have hg1 : decide (9223372036854775808 < U) = false := decide_eq_false (by omega)
            have hg2 : (U == 9223372036854775808) = false := beq_eq_false_iff_ne.2 (by omega)
            have hw : wrap64 U = U := by unfold wrap64; omega
            go_wp2_with (go_at_call 44; first | ((with_reducible refine (give_no _ _).mono ?_); rintro e w' ⟨rfl, rfl⟩) | ((with_reducible refine (give_yes _ _).mono ?_); rintro e w' ⟨rfl, rfl⟩))
            go_ret2
            exact ⟨HF.out.symm, rfl⟩
          · have HF := Aside0.mk (HE.out.symm.trans (takeEnd_bad (e := 11) (by rw [hT, if_pos (by omega)]) (by decide)))
            clear hU HU hS hT
            have hg3 : (decide (9223372036854775808 < U) = true) ∨ (decide (9223372036854775808 < U) = false ∧ (U == 9223372036854775808) = true) := by
              by_cases h : 9223372036854775808 < U
              · exact .inl (decide_eq_true h)
              · exact .inr ⟨decide_eq_false h, beq_iff_eq.2 (by omega)⟩
            rcases hg3 with hg1 | ⟨hg1, hg2⟩
            all_goals
              go_wp2_with (go_at_call 44; first | ((with_reducible refine (give_no _ _).mono ?_); rintro e w' ⟨rfl, rfl⟩) | ((with_reducible refine (give_yes _ _).mono ?_); rintro e w' ⟨rfl, rfl⟩))
              exact ⟨rfl, HF.out.symm, rfl⟩
        · by_cases hg : 9223372036854775808 < U
          · have HF := Aside0.mk (HE.out.symm.trans (takeEnd_bad (e := 11) (by rw [hT, if_pos (by omega)]) (by decide)))
            clear hU HU hS hT
            have hg1 : decide (9223372036854775808 < U) = true := decide_eq_true hg
            go_wp2_with (go_at_call 44; first | ((with_reducible refine (give_no _ _).mono ?_); rintro e w' ⟨rfl, rfl⟩) | ((with_reducible refine (give_yes _ _).mono ?_); rintro e w' ⟨rfl, rfl⟩))
            exact ⟨rfl, HF.out.symm, rfl⟩
          · have hN : tkN l = wrap64 (IntKind.u64.wrap (-U)) := by
              unfold tkN; rw [if_pos hm, hU, IntKind.wrap_u64]; unfold wrap64; omega
            have HF := Aside0.mk (HE.out.symm.trans (takeEnd_good (by rw [hT, if_neg (by omega)])))
            rw [hN, hS] at HF
            clear hU HU hN hS hT
            have hg1 : decide (9223372036854775808 < U) = false := decide_eq_false (by omega)
            go_wp2_with (go_at_call 44; first | ((with_reducible refine (give_no _ _).mono ?_); rintro e w' ⟨rfl, rfl⟩) | ((with_reducible refine (give_yes _ _).mono ?_); rintro e w' ⟨rfl, rfl⟩))
            · have h : U = 9223372036854775808 := by assumption
              rw [h] at HF
              go_ret2
              exact ⟨HF.out.symm, rfl⟩
            · go_ret2
              exact ⟨HF.out.symm, rfl⟩
end Go.Proofs.Ytdapnponlmimaaa.M
