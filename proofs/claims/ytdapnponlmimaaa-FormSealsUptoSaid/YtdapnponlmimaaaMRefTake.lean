/- Contract of trivet/trivetref01.TakeNum. -/
import Derived.Test.YtdapnponlmimaaaMTake
import Derived.Test.YtdapnponlmimaaaMTakeNum
set_option linter.unusedVariables false
set_option linter.unusedSimpArgs false
namespace Go.Proofs.Ytdapnponlmimaaa.M
open Go.RowKit Go.Proofs.YtdapnponlmimaaaW.PrintWords

theorem takeNum_bad {l : List Int} {e : Int} (h : tkE l = e) (he : ¬ e = 0) : takeNum l = (0, 0, e) := by
  unfold takeNum
  rw [h, if_neg he]
theorem takeNum_good {l : List Int} (h : tkE l = 0) : takeNum l = (tkN l, tkS l, 0) := by
  unfold takeNum
  rw [if_pos h]
def tri (x : Int × Int × Int) : Ending := .returned (.tuple #[.int .i64 x.1, .int .i64 x.2.1, .int .i64 x.2.2])

set_option maxHeartbeats 1000000 in
theorem refTake_any (A : Option Addr) (c : Nat) (l : List Int) (w : World) (hr : Kd.C (Kd.int .u8) w A l.length l) (hc : l.length ≤ c) (hb : okB l = true) :
    Calls Try.prog 11 #[.slice A l.length c] w fun e w' => e = tri (takeNum l) ∧ w = w' := by
  have HR := Aside0.mk hr
  have HC := Aside0.mk hc
  have HB := Aside0.mk hb
  clear hr hc hb
  obtain ⟨E, hE⟩ : ∃ E, tri (takeNum l) = E := ⟨_, rfl⟩
  rw [hE]
  have HE := Aside0.mk hE
  clear hE
  by_cases h1 : l = []
  · have he : tkE l = 10 := by unfold tkE; rw [if_pos h1]
    have HF := Aside0.mk (HE.out.symm.trans (congrArg tri (takeNum_bad he (by decide))))
    subst h1
    clear he
    go_enter Try.func11, Try.ntmps11
    go_wp2
    go_ret3
    exact ⟨HF.out.symm, rfl⟩
  have hl : 0 < l.length := List.length_pos_iff.2 h1
  have hlz : ((l.length : Int) == 0) = false := beq_eq_false_iff_ne.2 (by omega)
  have hb0 := okB_rd HB.out 0
  obtain ⟨ad, hA, hx0⟩ := Kd.at_int HR.out 0 (by omega) (by omega)
  rw [show ((0 : Int)).toNat = 0 from rfl, Addr.add_zero'] at hx0
  subst hA
  have hmx : (l.length : Int) ≤ 9223372036854775807 := by have := Kd.C_max HR.out; omega
  by_cases h2 : 17 < rd l 0 ∨ rd l 0 = 1
  · have he : tkE l = 11 := by unfold tkE; rw [if_neg h1, if_pos h2]
    have HF := Aside0.mk (HE.out.symm.trans (congrArg tri (takeNum_bad he (by decide))))
    have h3 : decide (17 < rd l 0) = true ∨ (decide (17 < rd l 0) = false ∧ (rd l 0 == 1) = true) := by
      rcases h2 with h | h
      · exact .inl (decide_eq_true h)
      · exact .inr ⟨decide_eq_false (by omega), by rw [h]; rfl⟩
    clear h2 he h1
    rcases h3 with h3 | ⟨h3, h4⟩
    all_goals
      go_enter Try.func11, Try.ntmps11
      go_wp2
      go_ret3
      exact ⟨HF.out.symm, rfl⟩
  have h3 : decide (17 < rd l 0) = false := decide_eq_false (by omega)
  have h4 : (rd l 0 == 1) = false := beq_eq_false_iff_ne.2 (by omega)
  obtain ⟨k, hk⟩ : ∃ k, tkK l = k := ⟨_, rfl⟩
  have hk8 : k ≤ 8 := by unfold tkK at hk; omega
  have hq : rd l 0 / 2 = (k : Int) := by unfold tkK at hk; omega
  by_cases h5 : l.length ≤ k
  · have he : tkE l = 10 := by unfold tkE; rw [if_neg h1, if_neg h2, hk, if_pos h5]
    have HF := Aside0.mk (HE.out.symm.trans (congrArg tri (takeNum_bad he (by decide))))
    have h6 : (l.length : Int) - 1 < (k : Int) := by omega
    clear h2 he h1
    have HK := Lib.hid hk
    clear hk
    go_enter Try.func11, Try.ntmps11
    go_wp2
    go_ret3
    exact ⟨HF.out.symm, rfl⟩
  have h6 : ¬ (l.length : Int) - 1 < (k : Int) := by omega
  have hrk : ∀ i : Nat, i ≤ k → w.cell? (ad.add i) = some (.int .u8 (rd l (i : Int))) := by
    intro i hi
    obtain ⟨ad', hA, hx⟩ := Kd.at_int HR.out (i : Int) (by omega) (by omega)
    obtain rfl : ad = ad' := by injection hA
    simpa using hx
  have hxk := hrk k (Nat.le_refl _)
  have h11 : (k : Int) < (l.length : Int) := by omega
  have HP := Aside0.mk (show tkE l = if 0 < k ∧ rd l k = 0 then 11 else if big63 < tkU l ∨ (tkU l = big63 ∧ rd l 0 % 2 = 0) then 11 else 0 by unfold tkE; rw [if_neg h1, if_neg h2, hk, if_neg h5])
  have HK := Lib.hid hk
  have HRK := Aside0.mk hrk
  clear hk hrk h2 h5
  go_enter Try.func11, Try.ntmps11
  go_wp2
  go_loop [6, 7] (fun u i => ∃ (j : Nat) (U : Int), j ≤ tkK l ∧ i = .int .i64 (j : Int) ∧ u = .int .u64 U ∧ Aside0 (U = upFrom l j (tkK l))) (fun _ i => (intOf i).toNat)
  case atStart => exact ⟨tkK l, 0, Nat.le_refl _, by rw [HK.out], rfl, ⟨(upFrom_end _ _).symm⟩⟩
  case round =>
    obtain ⟨j, U, hj, rfl, rfl, HU⟩ := hrel
    have hk8' : tkK l ≤ 8 := by rw [HK.out]; exact hk8
    have hkl : tkK l < l.length := by rw [HK.out]; omega
    by_cases hlt : 0 < j
    · have hxj := HRK.out j (by rw [← HK.out]; exact hj)
      have hj0 : (0 : Int) ≤ (j : Int) := by omega
      have hj1 : (j : Int) < (l.length : Int) := by omega
      have hj2 : (1 : Int) ≤ (j : Int) := by omega
      have hbj := okB_rd HB.out (j : Int)
      have HV := Aside0.mk (show 256 * U + rd l j = upFrom l (j - 1) (tkK l) by
        rw [HU.out, upFrom_step hlt hj hkl]; omega)
      have hU0 : 0 ≤ U := by rw [HU.out]; exact upFrom_nonneg HB.out _ _
      have hU1 : U < 72057594037927936 := by rw [HU.out]; exact upFrom_lt HB.out hlt hk8'
      go_wp2
      go_round
      case rel =>
        refine ⟨j - 1, _, by omega, by go_num, rfl, ⟨?_⟩⟩
        exact HV.out
      case measure => simp [intOf]; omega
    · obtain rfl : j = 0 := by omega
      have hU : U = tkU l := by rw [HU.out, upFrom_zero]
      have hu0 : 0 ≤ U := by rw [HU.out]; exact upFrom_nonneg HB.out 0 _
      have hu1 : U < 18446744073709551616 := by rw [HU.out]; exact upFrom_lt8 HB.out (j := 0) hk8'
      have hS : tkS l = 1 + (tkK l : Int) := by unfold tkS; omega
      rw [HK.out] at hS
      have hup : k = 0 → U = 0 := by intro h; rw [HU.out, HK.out, h, upFrom_end]
      have hT := HP.out
      rw [← hU] at hT
      unfold big63 at hT
      have hm : rd l 0 % 2 = 0 ∨ rd l 0 % 2 = 1 := by omega
      by_cases h7 : 0 < k ∧ rd l k = 0
      · have HF := Aside0.mk (HE.out.symm.trans (congrArg tri (takeNum_bad (e := 11) (by rw [hT, if_pos h7]) (by decide))))
        obtain ⟨h8, h9⟩ := h7
        rw [h9] at hxk
        clear hT hU HU hS h9 hm hup
        go_wp2
        go_ret3
        exact ⟨HF.out.symm, rfl⟩
      have h8 : (¬ 0 < k) ∨ (0 < k ∧ (rd l k == 0) = false) := by
        rcases Nat.eq_zero_or_pos k with h | h
        · exact .inl (by omega)
        · exact .inr ⟨h, beq_eq_false_iff_ne.2 (fun h' => h7 ⟨h, h'⟩)⟩
      rw [if_neg h7] at hT
      clear h7 hup
      rcases hm with hm | hm
      · have hm1 : (rd l 0 % 2 == 0) = true := beq_iff_eq.2 hm
        by_cases hg : U < 9223372036854775808
        · have hN : tkN l = U := by unfold tkN; rw [if_neg (by omega), hU]
          have HF := Aside0.mk (HE.out.symm.trans (congrArg tri (takeNum_good (by rw [hT, if_neg (by omega)]))))
          rw [hN, hS] at HF
          clear hU HU hN hS hT hm
          have hg1 : decide (9223372036854775808 ≤ U) = false := decide_eq_false (by omega)
          rcases h8 with h8 | ⟨h8, h9⟩
          all_goals
            go_wp2
            go_ret3
            exact ⟨HF.out.symm, rfl⟩
        · have HF := Aside0.mk (HE.out.symm.trans (congrArg tri (takeNum_bad (e := 11) (by rw [hT, if_pos (by omega)]) (by decide))))
          clear hU HU hS hT hm
          have hg1 : decide (9223372036854775808 ≤ U) = true := decide_eq_true (by omega)
          rcases h8 with h8 | ⟨h8, h9⟩
          all_goals
            go_wp2
            go_ret3
            exact ⟨HF.out.symm, rfl⟩
      · have hm1 : (rd l 0 % 2 == 0) = false := beq_eq_false_iff_ne.2 (by omega)
        by_cases hg : 9223372036854775808 < U
        · have HF := Aside0.mk (HE.out.symm.trans (congrArg tri (takeNum_bad (e := 11) (by rw [hT, if_pos (by omega)]) (by decide))))
          clear hU HU hS hT hm
          have hg1 : decide (9223372036854775808 < U) = true := decide_eq_true hg
          rcases h8 with h8 | ⟨h8, h9⟩
          all_goals
            go_wp2
            go_ret3
            exact ⟨HF.out.symm, rfl⟩
        · have hN : tkN l = wrap64 (wrap64 (-(wrap64 (IntKind.u64.wrap (U - 1)))) - 1) := by
            unfold tkN; rw [if_pos hm, hU, IntKind.wrap_u64]; unfold wrap64; omega
          have HF := Aside0.mk (HE.out.symm.trans (congrArg tri (takeNum_good (by rw [hT, if_neg (by omega)]))))
          rw [hN, hS] at HF
          clear hU HU hN hS hT hm
          have hg1 : decide (9223372036854775808 < U) = false := decide_eq_false (by omega)
          rcases h8 with h8 | ⟨h8, h9⟩
          all_goals
            go_wp2
            go_ret3
            exact ⟨HF.out.symm, rfl⟩
end Go.Proofs.Ytdapnponlmimaaa.M

namespace Go.Proofs.Ytdapnponlmimaaa.G
open Go.RowKit Go.Proofs.YtdapnponlmimaaaW.PrintWords Go.Proofs.Ytdapnponlmimaaa.M
def trivetref01_TakeNum.f (l0 : List Int) : Option (Int × Int × Int) := if okB l0 = true then some (takeNum l0) else none
theorem trivetref01_TakeNum.calls (A0 : Option Addr) (c0 : Nat) (l0 : List Int) (r1 : Int) (r2 : Int) (r3 : Int) (w : World) (hr0 : Kd.C (Kd.int .u8) w A0 l0.length l0) (hc0 : l0.length ≤ c0) (h : trivetref01_TakeNum.f l0 = some (r1, r2, r3)) :
    Calls Try.prog 11 #[.slice A0 l0.length c0] w fun e w' => e = .returned (.tuple #[.int .i64 r1, .int .i64 r2, .int .i64 r3]) ∧ Below w.heap.size w w' := by
  unfold trivetref01_TakeNum.f at h
  split at h
  · rename_i hb
    have h := Option.some.inj h
    have h1 : r1 = (takeNum l0).1 := by rw [h]
    have h2 : r2 = (takeNum l0).2.1 := by rw [h]
    have h3 : r3 = (takeNum l0).2.2 := by rw [h]
    rw [h1, h2, h3]
    refine (refTake_any A0 c0 l0 w hr0 hc0 hb).mono ?_
    rintro e w' ⟨rfl, rfl⟩
    exact ⟨rfl, Below.refl _ _⟩
  · cases h
end Go.Proofs.Ytdapnponlmimaaa.G
