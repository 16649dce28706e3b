/- What trivet/trivetref01's Num and Put come to, in plain Lean. -/
import Derived.Test.YtdapnponlmimaaaMForm
import Derived.Test.YtdapnponlmimaaaGx0
import Derived.Test.YtdapnponlmimaaaGx3
set_option linter.unusedVariables false
set_option linter.unusedSimpArgs false
namespace Go.Proofs.Ytdapnponlmimaaa.M
open Go.RowKit Go.Proofs.YtdapnponlmimaaaW.PrintWords Go.Proofs.Ytdapnponlmimaaa.G

theorem ref_num_l0 (j : Nat) : ∀ (k m : Nat) (acc : List Int) (z : Int), m < 256 ^ j → j < k → acc.length + j ≤ 8 → (z = 0 ∨ z = 1) →
    trivetref01_Num.l0 k (m : Int) z acc = some ((2 * ((acc ++ lowB m).length : Int) + z) :: (acc ++ lowB m)) := by
  induction j with
  | zero =>
    intro k m acc z hm hk ha hz
    obtain ⟨k, rfl⟩ : ∃ q, k = q + 1 := ⟨k - 1, by omega⟩
    obtain rfl : m = 0 := by simpa using hm
    simp only [trivetref01_Num.l0]
    rw [if_neg (by simp), lowB_zero, List.append_nil, Option.bind_some, if_pos (by simp; omega)]
    congr 1
    simp only [List.singleton_append]
    congr 1
    unfold wrap64
    omega
  | succ j ih =>
    intro k m acc z hm hk ha hz
    obtain ⟨k, rfl⟩ : ∃ q, k = q + 1 := ⟨k - 1, by omega⟩
    by_cases h0 : m = 0
    · subst h0
      simp only [trivetref01_Num.l0]
      rw [if_neg (by simp), lowB_zero, List.append_nil, Option.bind_some, if_pos (by simp; omega)]
      congr 1
      simp only [List.singleton_append]
      congr 1
      unfold wrap64
      omega
    · have hj : m < 256 ^ 8 := Nat.lt_of_lt_of_le hm (Nat.pow_le_pow_right (by omega) (by omega))
      simp only [trivetref01_Num.l0]
      rw [if_pos (by omega), if_pos (by omega)]
      have e1 : IntKind.u64.wrap (Int.tdiv (m : Int) 256) = ((m / 256 : Nat) : Int) := by
        rw [Int.tdiv_eq_ediv_of_nonneg (by omega), IntKind.wrap_u64]; omega
      have e2 : Int.tmod (m : Int) 256 % 256 = ((m % 256 : Nat) : Int) := by
        rw [Int.tmod_eq_emod_of_nonneg (by omega)]; omega
      rw [e1, e2, ih k (m / 256) _ z (by rw [Nat.pow_succ] at hm; omega) (by omega) (by simp; omega) hz, lowB_pos h0]
      simp only [List.append_assoc, List.singleton_append]
theorem ref_num {n : Int} (h : isI64 n) (k : Nat) (hk : 10 ≤ k) : trivetref01_Num.f k n = some (numB n) := by
  have hm := mag_lt h
  obtain ⟨k, rfl⟩ : ∃ q, k = q + 1 := ⟨k - 1, by omega⟩
  unfold isI64 at h
  unfold trivetref01_Num.f
  by_cases h0 : n < 0
  · rw [if_pos h0]
    have e : IntKind.u64.wrap (IntKind.u64.wrap (wrap64 (-wrap64 (n + 1))) + 1) = (mag n : Int) := by
      simp only [IntKind.wrap_u64]; unfold wrap64 mag; omega
    rw [e]
    simp only [trivetref01_Num.j0]
    rw [ref_num_l0 8 k _ _ _ hm (by omega) (by simp) (.inr rfl)]
    unfold numB
    rw [if_pos h0]
    simp
  · rw [if_neg h0]
    have e : IntKind.u64.wrap n = (mag n : Int) := by
      simp only [IntKind.wrap_u64]; unfold mag; omega
    rw [e]
    simp only [trivetref01_Num.j0]
    rw [ref_num_l0 8 k _ _ _ hm (by omega) (by simp) (.inl rfl)]
    unfold numB
    rw [if_neg h0]
    simp
theorem ref_put_l0 (l : List Int) (hi : okI l = true) (d : Nat) : ∀ (k j : Nat) (acc : List Int), l.length - j = d → j ≤ l.length → acc.length + 9 * d < 140737488355328 → l.length < 140737488355328 → d + 10 ≤ k →
    trivetref01_Put.l0 k l acc (j : Int) = some (acc ++ numsB (l.drop j)) := by
  induction d with
  | zero =>
    intro k j acc hd hj ha hl hk
    obtain ⟨k, rfl⟩ : ∃ q, k = q + 1 := ⟨k - 1, by omega⟩
    simp only [trivetref01_Put.l0]
    rw [if_neg (by omega), List.drop_eq_nil_of_le (by omega)]
    simp [numsB]
  | succ d ih =>
    intro k j acc hd hj ha hl hk
    obtain ⟨k, rfl⟩ : ∃ q, k = q + 1 := ⟨k - 1, by omega⟩
    have hlt : j < l.length := by omega
    have hr : rd l (j : Int) = l[j] := by simp [rd, List.getD_eq_getElem?_getD, List.getElem?_eq_getElem hlt]
    have hx := okI_mem hi (List.getElem_mem hlt)
    have hn := numB_len hx
    simp only [trivetref01_Put.l0]
    rw [if_pos (by omega), if_pos (by omega), hr, ref_num hx k (by omega), Option.bind_some, if_pos (by omega)]
    have hw : wrap64 ((j : Int) + 1) = ((j + 1 : Nat) : Int) := by unfold wrap64; omega
    rw [hw, ih k (j + 1) _ (by omega) (by omega) (by simp only [List.length_append]; omega) hl (by omega), List.drop_eq_getElem_cons hlt]
    simp only [numsB, List.flatMap_cons, List.append_assoc]
theorem ref_put (l0 l1 : List Int) (hi : okI l1 = true) (hs : l0.length + 9 * l1.length < 140737488355328) (k : Nat) (hk : l1.length + 10 ≤ k) : trivetref01_Put.f k l0 l1 = some (l0 ++ numsB l1) := by
  unfold trivetref01_Put.f
  rw [if_pos (by simp; omega)]
  have := ref_put_l0 l1 hi l1.length k 0 ([] ++ l0) (by omega) (by omega) (by simpa using hs) (by omega) hk
  rw [show ((0 : Nat) : Int) = 0 from rfl] at this
  rw [this]
  simp
end Go.Proofs.Ytdapnponlmimaaa.M
