/- FormWhole's law in plain Lean, for sizes that fit. -/
import Derived.Test.YtdapnponlmimaaaMSealPure
import Derived.Test.YtdapnponlmimaaaMClone
import Derived.Test.YtdapnponlmimaaaGx0
import Derived.Test.YtdapnponlmimaaaGx13
set_option linter.unusedVariables false
set_option linter.unusedSimpArgs false
namespace Go.Proofs.Ytdapnponlmimaaa.Pure
open Go.RowKit Go.Proofs.Ytdapnponlmimaaa.G Go.Proofs.Ytdapnponlmimaaa.M Go.Proofs.YtdapnponlmimaaaW.PrintWords Go.Proofs.YtdapnponlmimaaaW.PrintLast

theorem byte_other {x d : Int} (hx : 0 ≤ x ∧ x ≤ 255) (hd : 1 ≤ d ∧ d ≤ 255) : (0 ≤ Go.bits .xor .u8 x d ∧ Go.bits .xor .u8 x d ≤ 255) ∧ Go.bits .xor .u8 x d ≠ x := by
  rw [u8_xor x d (by omega) (by omega) (by omega) (by omega)]
  have h1 : x.toNat ^^^ d.toNat < 2 ^ 8 := Nat.xor_lt_two_pow (by omega) (by omega)
  refine ⟨by omega, fun e => ?_⟩
  have e1 : x.toNat ^^^ d.toNat = x.toNat := by omega
  have e2 := congrArg (x.toNat ^^^ ·) e1
  simp only [← Nat.xor_assoc, Nat.xor_self, Nat.zero_xor] at e2
  omega

theorem FormWhole (l0 l1 : List Int) (a2 : Int) (h0 : l0.length ≤ 1048576) (_ : l0.length * 1 ≤ 140737488351232) (hw0 : ∀ x ∈ l0, (Lit.int .u8 x).wf = true) (h1 : l1.length ≤ 1048576) (_ : l1.length * 1 ≤ 140737488351232) (hw1 : ∀ x ∈ l1, (Lit.int .u8 x).wf = true) (h2 : (Lit.int .u16 a2).wf = true) :
    ∃ k, trivetlaw01_FormWhole.f k l0 l1 a2 = some true := by
  have ho0 := okB_of_wf hw0
  have ho1 := okB_of_wf hw1
  have ha : 0 ≤ a2 ∧ a2 ≤ 65535 := by
    simp only [Lit.wf, Bool.and_eq_true, decide_eq_true_eq] at h2
    have e1 : IntKind.u16.min = 0 := rfl
    have e2 : IntKind.u16.max = 65535 := rfl
    omega
  have hn := numB_len (isI64_len (d := l0) (by omega))
  obtain ⟨nb, hnb⟩ : ∃ nb, (numB (l0.length : Int)).length = nb := ⟨_, rfl⟩
  have hlen := sealed_len l0
  rw [hnb] at hn hlen
  have hok := sealed_ok ho0 h0
  obtain ⟨K1, hK1⟩ := live_f
  obtain ⟨K2, hK2⟩ := shape_seal l0 h0
  obtain ⟨k, hk⟩ : ∃ k, K1 + K2 ≤ k := ⟨K1 + K2, by omega⟩
  refine ⟨k + 2, ?_⟩
  have hlive := hK1 (k + 2) (by omega)
  have hseal := hK2 (k + 2) (by omega)
  -- the third part
  have hpos : Int.tmod (wrap64 a2) (wrap64 ((l0.length : Int) + 8)) = a2 % ((l0.length : Int) + 8) := by
    rw [show wrap64 a2 = a2 from by unfold wrap64; omega, show wrap64 ((l0.length : Int) + 8) = (l0.length : Int) + 8 from by unfold wrap64; omega, Int.tmod_eq_emod_of_nonneg ha.1]
  have hd : (1 + (Int.tmod a2 255 % 256)) % 256 = a2 % 255 + 1 := by
    rw [Int.tmod_eq_emod_of_nonneg ha.1]; omega
  have hi0 : 0 ≤ a2 % ((l0.length : Int) + 8) := Int.emod_nonneg _ (by omega)
  have hi1 : a2 % ((l0.length : Int) + 8) < (l0.length : Int) + 8 := Int.emod_lt_of_pos _ (by omega)
  have hm0 : 0 ≤ a2 % ((sealedB l0).length : Int) := Int.emod_nonneg _ (by omega)
  have hm1 : a2 % ((sealedB l0).length : Int) < ((sealedB l0).length : Int) := Int.emod_lt_of_pos _ (by omega)
  obtain ⟨i, hi⟩ : ∃ i : Nat, a2 % ((l0.length : Int) + 8) = (i : Int) := ⟨(a2 % ((l0.length : Int) + 8)).toNat, by omega⟩
  have hat : wrap64 (wrap64 (wrap64 (((sealedB l0).length : Int) - (l0.length : Int)) - 8) + Int.tmod (wrap64 a2) (wrap64 ((l0.length : Int) + 8))) = ((nb + i : Nat) : Int) := by
    rw [hpos, hi]
    unfold wrap64
    omega
  have hj1 : ∀ k, trivetlaw01_FormWhole.j1 (k + 1) l0 a2 (sealedB l0) false = some true := by
    intro k
    simp only [trivetlaw01_FormWhole.j1]
    have hw : Int.tmod (wrap64 a2) ((sealedB l0).length : Int) = a2 % ((sealedB l0).length : Int) := by
      rw [show wrap64 a2 = a2 from by unfold wrap64; omega, Int.tmod_eq_emod_of_nonneg ha.1]
    have hshort : shape_Unseal.f ((sealedB l0).take (a2 % ((sealedB l0).length : Int)).toNat) = some ([], 0, 10) := by
      unfold shape_Unseal.f
      rw [if_pos ⟨okB_take hok _, by simp only [List.length_take]; omega⟩, seal_short h0 _ (by omega)]
    have hx := okB_rd hok ((nb + i : Nat) : Int)
    obtain ⟨hb1, hb2⟩ := byte_other hx (d := a2 % 255 + 1) (by omega)
    have hch : shape_Unseal.f ((sealedB l0).set (nb + i) (Go.bits .xor .u8 (rd (sealedB l0) ((nb + i : Nat) : Int)) (a2 % 255 + 1))) = some ([], 0, 12) := by
      have hset : okB ((sealedB l0).set (nb + i) (Go.bits .xor .u8 (rd (sealedB l0) ((nb + i : Nat) : Int)) (a2 % 255 + 1))) = true := by
        unfold okB at hok ⊢
        rw [List.all_eq_true] at hok ⊢
        intro y hy
        rcases List.mem_or_eq_of_mem_set hy with h | h
        · exact hok y h
        · rw [h]; simp only [Bool.and_eq_true, decide_eq_true_eq]; exact hb1
      unfold shape_Unseal.f
      rw [if_pos ⟨hset, by simp only [List.length_set]; omega⟩]
      have := seal_changed ho0 h0 i (Go.bits .xor .u8 (rd (sealedB l0) ((nb + i : Nat) : Int)) (a2 % 255 + 1)) (by omega) hb1 (by rw [hnb]; exact hb2)
      rw [hnb] at this
      rw [this]
    rw [hat, hw, hd, Int.toNat_natCast, hshort, hch]
    have g1 : ¬ ((sealedB l0).length : Int) = 0 := by omega
    have g2 : a2 % ((sealedB l0).length : Int) ≤ ((sealedB l0).length : Int) := by omega
    have g3 : ¬ wrap64 ((l0.length : Int) + 8) = 0 := by unfold wrap64; omega
    have g4 : (0 : Int) ≤ ((nb + i : Nat) : Int) := by omega
    have g5 : ((nb + i : Nat) : Int) < ((sealedB l0).length : Int) := by omega
    simp only [if_neg g1, if_pos hm0, if_pos g2, if_neg g3, if_pos g4, if_pos g5, Option.bind_some, if_true, Bool.false_eq_true, if_false]
    rfl
  have hj0 : ∀ k, trivetlaw01_FormWhole.j0 (k + 2) l0 l1 a2 (sealedB l0) false = some true := by
    intro k
    simp only [trivetlaw01_FormWhole.j0]
    have hc : bytes_Clone.f (sealedB l0) = some (sealedB l0) := by unfold bytes_Clone.f; rw [if_pos (by omega)]
    have hu : shape_Unseal.f (sealedB l0 ++ l1) = some (l0, ((sealedB l0).length : Int), 0) := by
      unfold shape_Unseal.f
      rw [if_pos ⟨okB_append hok ho1, by simp only [List.length_append]; omega⟩, seal_back l1 h0]
    have g1 : (sealedB l0).length + l1.length < 140737488355328 := by omega
    rw [hc, Option.bind_some, hu]
    simp only [if_pos g1, Option.bind_some, if_true, Bool.false_eq_true, if_false]
    rw [bytesEq_same rfl]
    simp only [Option.bind_some, Bool.not_true]
    exact hj1 k
  unfold trivetlaw01_FormWhole.f
  have g1 : ¬ (l0.length : Int) > 1048576 := by omega
  have g2 : decide (((sealedB l0).length : Int) < wrap64 ((l0.length : Int) + 9)) = false := decide_eq_false (by unfold wrap64; omega)
  have hj := hj0 k
  rw [if_neg g1, hseal, Option.bind_some, if_pos rfl, hlive, Option.bind_some, if_pos rfl, g2]
  exact hj
end Go.Proofs.Ytdapnponlmimaaa.Pure
