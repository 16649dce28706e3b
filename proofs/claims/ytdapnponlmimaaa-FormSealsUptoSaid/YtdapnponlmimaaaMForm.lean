/- There is one form: what a number's bytes are taken as, and what is put is taken back. No program here. -/
import Derived.Test.YtdapnponlmimaaaMNum
import Derived.Test.YtdapnponlmimaaaMTakeNum
import Derived.Test.YtdapnponlmimaaaMTakeBlob
import Derived.Test.YtdapnponlmimaaaMUnseal
import Derived.Test.YtdapnponlmimaaaMRefTake
import Derived.Lib.Bytes
import Derived.Test.YtdapnponlmimaaaGx0
import Derived.Test.YtdapnponlmimaaaGx2
import Derived.Test.YtdapnponlmimaaaGx3
set_option linter.unusedVariables false
set_option linter.unusedSimpArgs false
namespace Go.Proofs.Ytdapnponlmimaaa.M
open Go.RowKit Go.Proofs.YtdapnponlmimaaaW.PrintWords Go.Proofs.Ytdapnponlmimaaa.G
open Go.Lib (strOfNums_toList)

theorem lowB_leNum {m : List Int} (h : okB m = true) (hl : m ≠ [] → m.getD (m.length - 1) 0 ≠ 0) : lowB (leNum m).toNat = m := by
  induction m with
  | nil => simp [leNum, lowB_zero]
  | cons b r ih =>
    have hb := okB_rd h 0
    have hr : okB r = true := okB_drop h 1
    have h0 := leNum_nonneg hr
    simp [rd] at hb
    have hl' := hl (by simp)
    by_cases hre : r = []
    · subst hre
      have hb0 : b ≠ 0 := by simpa using hl'
      simp only [leNum]
      rw [lowB_pos (by omega), show (b + 256 * 0).toNat / 256 = 0 from by omega, lowB_zero]
      congr 1
      omega
    · have hlen : 0 < r.length := List.length_pos_iff.2 hre
      have ihr := ih hr (fun _ => by
        rw [List.length_cons, show r.length + 1 - 1 = (r.length - 1) + 1 from by omega, List.getD_cons_succ] at hl'
        exact hl')
      have hpos : (leNum r).toNat ≠ 0 := by
        intro hz
        rw [hz, lowB_zero] at ihr
        exact hre ihr.symm
      simp only [leNum]
      rw [lowB_pos (by omega), show (b + 256 * leNum r).toNat / 256 = (leNum r).toNat from by omega, ihr]
      congr 1
      omega
theorem leNum_lowB (n : Nat) : leNum (lowB n) = n := by
  induction n using Nat.strongRecOn with
  | _ n ih =>
    by_cases h0 : n = 0
    · subst h0; simp [lowB_zero, leNum]
    · rw [lowB_pos h0, leNum, ih (n / 256) (by omega)]
      omega
theorem lowB_ne {n : Nat} (h : n ≠ 0) : lowB n ≠ [] := by rw [lowB_pos h]; simp
theorem lowB_last (n : Nat) (h : n ≠ 0) : (lowB n).getD ((lowB n).length - 1) 0 ≠ 0 := by
  induction n using Nat.strongRecOn with
  | _ n ih =>
    rw [lowB_pos h]
    by_cases h0 : n / 256 = 0
    · rw [h0, lowB_zero]
      simp
      omega
    · have := ih (n / 256) (by omega) h0
      have hlen : 0 < (lowB (n / 256)).length := List.length_pos_iff.2 (lowB_ne h0)
      rw [List.length_cons, show (lowB (n / 256)).length + 1 - 1 = ((lowB (n / 256)).length - 1) + 1 from by omega, List.getD_cons_succ]
      exact this
theorem rd_cons0 (b : Int) (r : List Int) : rd (b :: r) 0 = b := rfl
theorem rd_consS (b : Int) (r : List Int) (j : Nat) (h : 0 < j) : rd (b :: r) (j : Int) = r.getD (j - 1) 0 := by
  unfold rd
  rw [Int.toNat_natCast, show j = (j - 1) + 1 from by omega, List.getD_cons_succ]
  rfl
/-- What is taken as a number, put again, is the bytes that it had. -/
theorem form_one {l : List Int} (h : okB l = true) (he : tkE l = 0) : numB (tkN l) = l.take (tkS l).toNat ∧ isI64 (tkN l) := by
  unfold tkE at he
  split at he
  · omega
  rename_i hne
  split at he
  · omega
  rename_i h1
  split at he
  · omega
  rename_i h2
  split at he
  · omega
  rename_i h3
  split at he
  · omega
  rename_i h4
  obtain ⟨b, r, rfl⟩ : ∃ b r, l = b :: r := by cases l with | nil => exact absurd rfl hne | cons b r => exact ⟨b, r, rfl⟩
  have hb := okB_rd h 0
  have hr : okB r = true := okB_drop h 1
  rw [rd_cons0] at hb h1 h4
  have hK : tkK (b :: r) = (b / 2).toNat := rfl
  have hU : tkU (b :: r) = leNum (r.take (tkK (b :: r))) := rfl
  generalize hKe : tkK (b :: r) = K at *
  have hokm : okB (r.take K) = true := okB_take hr K
  have hml : (r.take K).length = K := by rw [List.length_take]; simp at h2; omega
  have hu0 := leNum_nonneg hokm
  have hlow : lowB (leNum (r.take K)).toNat = r.take K := lowB_leNum hokm (fun hm => by
    have hKp : 0 < K := by
      rcases Nat.eq_zero_or_pos K with hz | hp
      · subst hz; simp at hm
      · exact hp
    have h5 : rd (b :: r) (K : Int) ≠ 0 := fun hz => h3 ⟨hKp, hz⟩
    rw [rd_consS b r K hKp] at h5
    rw [hml]
    simp only [List.getD_eq_getElem?_getD, List.getElem?_take] at h5 ⊢
    rw [if_pos (by omega)]
    exact h5)
  generalize hUe : leNum (r.take K) = U at *
  rw [hU] at h4
  unfold big63 at h4
  have hpos : b % 2 = 1 → 0 < U := fun hodd => by
    have hKp : 0 < K := by omega
    rcases Int.lt_or_le 0 U with hp | hz
    · exact hp
    · have : U.toNat = 0 := by omega
      rw [this, lowB_zero] at hlow
      rw [← hlow] at hml
      simp at hml
      omega
  have hN : tkN (b :: r) = if b % 2 = 1 then -U else U := by
    unfold tkN
    rw [hU, rd_cons0]
    split
    · have := hpos (by assumption)
      unfold wrap64; omega
    · rfl
  have hS : (tkS (b :: r)).toNat = K + 1 := by unfold tkS; rw [hKe]; omega
  rw [hN, hS, List.take_succ_cons]
  by_cases hodd : b % 2 = 1
  · rw [if_pos hodd]
    have := hpos hodd
    unfold numB mag isI64
    rw [show (-U).natAbs = U.toNat from by omega, hlow, hml, if_pos (by omega)]
    refine ⟨?_, by omega, by omega⟩
    congr 1
    omega
  · rw [if_neg hodd]
    unfold numB mag isI64
    rw [show U.natAbs = U.toNat from by omega, hlow, hml, if_neg (by omega)]
    refine ⟨?_, by omega, by omega⟩
    congr 1
    omega
/-- A number's bytes are taken as it was, whatever stands behind. -/
theorem form_back {n : Int} (h : isI64 n) (rest : List Int) : tkE (numB n ++ rest) = 0 ∧ tkN (numB n ++ rest) = n ∧ tkS (numB n ++ rest) = ((numB n).length : Int) := by
  have h8 := lowB_len _ 8 (mag_lt h)
  have hU0 := leNum_lowB (mag n)
  have hlast := lowB_last (mag n)
  have hz : mag n = 0 → (lowB (mag n)).length = 0 := fun hz => by rw [hz, lowB_zero]; rfl
  have hnz : mag n ≠ 0 → 0 < (lowB (mag n)).length := fun h0 => List.length_pos_iff.2 (lowB_ne h0)
  unfold numB
  have hm : mag n = n.natAbs := rfl
  unfold isI64 at h
  generalize hL : lowB (mag n) = L at *
  generalize hB : (2 * (L.length : Int) + if n < 0 then 1 else 0) = b
  have hb : b = 2 * (L.length : Int) + 1 ∧ n < 0 ∨ b = 2 * (L.length : Int) ∧ 0 ≤ n := by
    rw [← hB]; split <;> omega
  clear hB
  have hK : tkK (b :: L ++ rest) = L.length := by
    unfold tkK
    rw [List.cons_append, rd_cons0]
    omega
  have hU : tkU (b :: L ++ rest) = (mag n : Int) := by
    unfold tkU
    rw [hK, ← hU0]
    simp
  have hr0 : rd (b :: L ++ rest) 0 = b := rfl
  refine ⟨?_, ?_, ?_⟩
  · unfold tkE
    rw [hK, hU, hr0, if_neg (by simp), if_neg (by omega), if_neg (by simp; omega), if_neg, if_neg]
    · unfold big63; omega
    · rintro ⟨h1, h2⟩
      have h3 := hlast (by intro h0; have := hz h0; omega)
      rw [List.cons_append, rd_consS _ _ _ h1] at h2
      apply h3
      rw [List.getD_eq_getElem?_getD] at h2 ⊢
      rw [List.getElem?_append_left (by omega)] at h2
      exact h2
  · unfold tkN
    rw [hU, hr0]
    split
    · unfold wrap64; omega
    · omega
  · unfold tkS
    rw [hK]
    simp

/-! ### bytes.Equal -/
theorem bytesOf_inj {a b : List Int} (ha : okB a = true) (hb : okB b = true) (h : (strOfNums a).toList = (strOfNums b).toList) : a = b := by
  rw [strOfNums_toList, strOfNums_toList] at h
  unfold Go.Lib.bytesOf at h
  induction a generalizing b with
  | nil => cases b with | nil => rfl | cons y b => simp at h
  | cons x a ih =>
    cases b with
    | nil => simp at h
    | cons y b =>
      simp only [List.map_cons, List.cons.injEq] at h
      have h1 := okB_rd ha 0
      have h2 := okB_rd hb 0
      rw [rd_cons0] at h1 h2
      have h3 := congrArg UInt8.toNat h.1
      simp only [UInt8.toNat_ofNat'] at h3
      rw [ih (okB_drop ha 1) (okB_drop hb 1) h.2]
      congr 1
      omega
theorem bytesEq {a b : List Int} (ha : okB a = true) (hb : okB b = true) : bytes_Equal.f a b = some (decide (a = b)) := by
  unfold bytes_Equal.f
  congr 1
  by_cases h : a = b
  · subst h; simp
  · rw [decide_eq_false h, beq_eq_false_iff_ne]
    exact fun he => h (bytesOf_inj ha hb he)
theorem bytesEq_same {a b : List Int} (h : a = b) : bytes_Equal.f a b = some true := by
  subst h
  unfold bytes_Equal.f
  simp

/-! ### live -/
theorem live_f : ∃ K, ∀ k, K ≤ k → trivetlaw01_live.f k = some true := by
  obtain ⟨K, hK⟩ := check_f [] (by simp) (by simp)
  refine ⟨K, fun k hk => ?_⟩
  have hc := hK k hk
  have h1 : shape_TakeNum.f [4, 44, 1, 9] = some (300, 3, 0) := by decide +kernel
  have h2 : shape_Num.f [7] [-5, 0] = some [7, 3, 5, 0] := by decide +kernel
  unfold trivetlaw01_live.f
  rw [h1]
  simp only [Option.bind_some, if_true]
  rw [h2]
  simp only [Option.bind_some]
  rw [bytesEq_same rfl]
  simp only [Option.bind_some, if_true]
  rw [hc]
  rfl
end Go.Proofs.Ytdapnponlmimaaa.M
