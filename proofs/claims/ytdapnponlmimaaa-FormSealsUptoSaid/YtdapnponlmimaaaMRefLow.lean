/- What trivet/trivetref01's Check, low and Seal come to, in plain Lean. -/
import Derived.Test.YtdapnponlmimaaaMSealPure
import Derived.Test.YtdapnponlmimaaaGx0
import Derived.Test.YtdapnponlmimaaaGx11
set_option linter.unusedVariables false
set_option linter.unusedSimpArgs false
namespace Go.Proofs.Ytdapnponlmimaaa.M
open Go.RowKit Go.Proofs.YtdapnponlmimaaaW.PrintWords Go.Proofs.YtdapnponlmimaaaW.PrintMore Go.Proofs.Ytdapnponlmimaaa.G

theorem ref_check_l0 (l : List Int) (hl : l.length < 140737488355328) (d : Nat) : ∀ (k j : Nat) (h : Int), l.length - j = d → j ≤ l.length → d < k → trivetref01_Check.l0 k l h (j : Int) = some (chkFrom h (l.drop j)) := by
  induction d with
  | zero =>
    intro k j h hd hj hk
    obtain ⟨k, rfl⟩ : ∃ q, k = q + 1 := ⟨k - 1, by omega⟩
    simp only [trivetref01_Check.l0]
    rw [if_neg (by omega), List.drop_eq_nil_of_le (by omega)]
    rfl
  | succ d ih =>
    intro k j h hd hj hk
    obtain ⟨k, rfl⟩ : ∃ q, k = q + 1 := ⟨k - 1, by omega⟩
    have hlt : j < l.length := by omega
    have hr : rd l (j : Int) = l[j] := by simp [rd, List.getD_eq_getElem?_getD, List.getElem?_eq_getElem hlt]
    have hw : wrap64 ((j : Int) + 1) = ((j + 1 : Nat) : Int) := by unfold wrap64; omega
    simp only [trivetref01_Check.l0]
    rw [if_pos (by omega), if_pos (by omega), hw, ih k (j + 1) _ (by omega) (by omega) (by omega), hr, List.drop_eq_getElem_cons hlt, chkFrom_cons]
theorem ref_check (l : List Int) (hl : l.length < 140737488355328) (k : Nat) (hk : l.length < k) : trivetref01_Check.f k l = some (chk l) := by
  unfold trivetref01_Check.f
  have := ref_check_l0 l hl l.length k 0 14695981039346656037 (by omega) (by omega) hk
  rw [show ((0 : Nat) : Int) = 0 from rfl, List.drop_zero] at this
  exact this

def padN : Nat → Nat → List Int
  | 0, _ => []
  | k + 1, n => ((n % 256 : Nat) : Int) :: padN k (n / 256)
theorem padN_low (k : Nat) : ∀ n, n < 256 ^ k → padN k n = lowB n ++ List.replicate (k - (lowB n).length) 0 := by
  induction k with
  | zero =>
    intro n hn
    obtain rfl : n = 0 := by simpa using hn
    simp [padN, lowB_zero]
  | succ k ih =>
    intro n hn
    have hi := ih (n / 256) (by rw [Nat.pow_succ] at hn; omega)
    by_cases h0 : n = 0
    · subst h0
      simp only [padN, Nat.zero_mod, Nat.zero_div] at hi ⊢
      rw [hi, lowB_zero]
      simp [List.replicate_succ]
    · rw [lowB_pos h0, padN, hi, List.length_cons, List.cons_append, Nat.add_sub_add_right]
theorem ref_low_l0 (n : Nat) (d : Nat) : ∀ (k j : Nat) (acc : List Int), 8 - j = d → j ≤ 8 → acc.length = j → d < k → trivetref01_low.l0 k (n : Int) acc (j : Int) = some (acc ++ padN d (n / 256 ^ j)) := by
  induction d with
  | zero =>
    intro k j acc hd hj ha hk
    obtain ⟨k, rfl⟩ : ∃ q, k = q + 1 := ⟨k - 1, by omega⟩
    simp only [trivetref01_low.l0]
    rw [if_neg (by omega)]
    simp [padN]
  | succ d ih =>
    intro k j acc hd hj ha hk
    obtain ⟨k, rfl⟩ : ∃ q, k = q + 1 := ⟨k - 1, by omega⟩
    have hw : wrap64 ((j : Int) + 1) = ((j + 1 : Nat) : Int) := by unfold wrap64; omega
    have hw8 : wrap64 (8 * (j : Int)) = ((8 * j : Nat) : Int) := by unfold wrap64; omega
    have hs : shr .u64 (n : Int) ((8 * j : Nat) : Int) % 256 = ((n / 256 ^ j % 256 : Nat) : Int) := by
      unfold shr
      have hb : IntKind.u64.bits = 64 := rfl
      have hp : (2 : Int) ^ (8 * j) = ((256 ^ j : Nat) : Int) := by
        rw [show (2 : Int) = ((2 : Nat) : Int) from rfl, ← Int.natCast_pow, Nat.pow_mul]
      rw [hb, Int.toNat_natCast, Nat.min_eq_left (by omega), hp]
      first | rfl | norm_cast
    simp only [trivetref01_low.l0]
    rw [if_pos (by omega), hw8, if_pos (by omega), if_pos (by omega), hs, hw, ih k (j + 1) _ (by omega) (by omega) (by simp; omega) (by omega), padN, List.append_assoc, List.singleton_append, Nat.div_div_eq_div_mul, Nat.pow_succ]
theorem ref_low (n : Int) (h : 0 ≤ n ∧ n ≤ 18446744073709551615) (k : Nat) (hk : 8 < k) : trivetref01_low.f k n = some (eightB n.toNat) := by
  unfold trivetref01_low.f
  have := ref_low_l0 n.toNat 8 k 0 [] (by omega) (by omega) rfl hk
  rw [show ((0 : Nat) : Int) = 0 from rfl, show ((n.toNat : Nat) : Int) = n from by omega] at this
  rw [this, Nat.pow_zero, Nat.div_one, padN_low 8 _ (by omega)]
  rfl
theorem ref_seal (l : List Int) (hl : l.length < 140737488355328) (k : Nat) (hk : l.length + 20 < k) : trivetref01_Seal.f k l = if 1048576 < l.length then some ([], 3) else some (sealedB l, 0) := by
  unfold trivetref01_Seal.f
  by_cases h : 1048576 < l.length
  · rw [if_pos (by omega), if_pos h]
  · have hb := ref_blob [] l (by simp; omega) k (by omega)
    have hc := ref_check l hl k (by omega)
    have he : trivetref01_low.f k (chk l) = some (sealB l) := ref_low _ (chk_range l) k (by omega)
    have hn := numB_len (isI64_len (d := l) (by omega))
    have hx := sealB_len l
    have hy := blob_len l
    rw [if_neg (by omega), if_neg h, hb, Option.bind_some, hc, Option.bind_some, he, Option.bind_some, if_pos (by omega)]
    rfl
end Go.Proofs.Ytdapnponlmimaaa.M
