/- FormSeals' law in plain Lean, for sizes that fit. -/
import Derived.Test.YtdapnponlmimaaaMRefLow
import Derived.Test.YtdapnponlmimaaaMRefUnseal
import Derived.Test.YtdapnponlmimaaaGx0
import Derived.Test.YtdapnponlmimaaaGx12
set_option linter.unusedVariables false
set_option linter.unusedSimpArgs false
namespace Go.Proofs.Ytdapnponlmimaaa.Pure
open Go.RowKit Go.Proofs.Ytdapnponlmimaaa.G Go.Proofs.Ytdapnponlmimaaa.M Go.Proofs.YtdapnponlmimaaaW.PrintWords Go.Proofs.YtdapnponlmimaaaW.PrintLast Go.Proofs.YtdapnponlmimaaaW.PrintMore

def sealsEnd (k : Nat) (x1 : List (List Int)) (x5 : List Int) (x6 : Int) (x7 : List Int) (x8 : Int) (x9 : List Int) (x10 x11 : Int) (x12 : List Int) (x13 x14 : Int) (x15 : List Int) : Option Bool :=
  (trivetlaw01_live.f k).bind fun t356 => (if t356 = true then ((bytes_Equal.f x5 x7).bind fun t357 => (if t357 = true then (if x6 = x8 then ((bytes_Equal.f x9 x12).bind fun t358 => (if t358 = true then (if x10 = x13 then (if x11 = x14 then ((shape_Check.f k x1).bind fun t359 => ((trivetref01_Check.f k x15).bind fun t360 => (some (t359 == t360)))) else (some false)) else (some false)) else (some false))) else (some false)) else (some false))) else (some false))
theorem seals_l0 (x5 : List Int) (x6 : Int) (x7 : List Int) (x8 : Int) (x9 : List Int) (x10 x11 : Int) (x12 : List Int) (x13 x14 : Int) (L : List (List Int)) (hL : L.length < 140737488355328) (d : Nat) :
    ∀ (k j : Nat) (acc : List Int), L.length - j = d → j ≤ L.length → (acc ++ (L.drop j).flatten).length < 140737488355328 → d < k →
    trivetlaw01_FormSeals.l0 k L x5 x6 x7 x8 x9 x10 x11 x12 x13 x14 acc L (L.length : Int) (j : Int) = sealsEnd (k - d - 1) L x5 x6 x7 x8 x9 x10 x11 x12 x13 x14 (acc ++ (L.drop j).flatten) := by
  induction d with
  | zero =>
    intro k j acc hd hj ha hk
    obtain ⟨k, rfl⟩ : ∃ q, k = q + 1 := ⟨k - 1, by omega⟩
    simp only [trivetlaw01_FormSeals.l0]
    rw [if_neg (by omega), List.drop_eq_nil_of_le (by omega), List.flatten_nil, List.append_nil]
    rfl
  | succ d ih =>
    intro k j acc hd hj ha hk
    obtain ⟨k, rfl⟩ : ∃ q, k = q + 1 := ⟨k - 1, by omega⟩
    have hlt : j < L.length := by omega
    have hr : rd_L1 L (j : Int) = L[j] := by simp [rd_L1, List.getD_eq_getElem?_getD, List.getElem?_eq_getElem hlt]
    have hw : wrap64 ((j : Int) + 1) = ((j + 1 : Nat) : Int) := by unfold wrap64; omega
    have hfl : acc ++ (L.drop j).flatten = (acc ++ L[j]) ++ (L.drop (j + 1)).flatten := by
      rw [List.drop_eq_getElem_cons hlt, List.flatten_cons, List.append_assoc]
    rw [hfl] at ha ⊢
    have hlen : acc.length + L[j].length < 140737488355328 := by
      simp only [List.length_append] at ha; omega
    simp only [trivetlaw01_FormSeals.l0]
    rw [if_pos (by omega), if_pos (by omega), if_pos (by omega), hr, if_pos hlen, hw, ih k (j + 1) _ (by omega) (by omega) ha (by omega), show k + 1 - (d + 1) - 1 = k - d - 1 from by omega]

theorem FormSeals (l0 : List Int) (L : List (List Int)) (h0 : l0.length ≤ 1048576) (hw0 : ∀ x ∈ l0, (Lit.int .u8 x).wf = true) (h1 : L.length ≤ 1048576) (hf : L.flatten.length ≤ 1048576) :
    ∃ k, trivetlaw01_FormSeals.f k l0 L = some true := by
  have hok := okB_of_wf hw0
  obtain ⟨K1, hK1⟩ := live_f
  obtain ⟨K2, hK2⟩ := shape_seal l0 h0
  have hx : ∀ x ∈ L, (x.length : Int) ≤ 140737488355328 := by
    intro x hx
    have := List.Sublist.length_le (List.sublist_flatten_of_mem hx)
    omega
  obtain ⟨K3, hK3⟩ := check_f L (by omega) hx
  obtain ⟨M, hM⟩ : ∃ M, M = K1 + K2 + K3 + L.flatten.length + l0.length + 30 := ⟨_, rfl⟩
  refine ⟨L.length + M + 1, ?_⟩
  have hs := hK2 (L.length + M + 1) (by omega)
  have hr := ref_seal l0 (by omega) (L.length + M + 1) (by omega)
  rw [if_neg (by omega)] at hr
  have hu : shape_Unseal.f l0 = some (takeSeal l0) := by unfold shape_Unseal.f; rw [if_pos ⟨hok, by omega⟩]
  have hv : trivetref01_Unseal.f l0 = some (takeSeal l0) := by unfold trivetref01_Unseal.f; rw [if_pos ⟨hok, by omega⟩]
  have hc := ref_check L.flatten (by omega) M (by omega)
  have hl := seals_l0 (sealedB l0) 0 (sealedB l0) 0 (takeSeal l0).1 (takeSeal l0).2.1 (takeSeal l0).2.2 (takeSeal l0).1 (takeSeal l0).2.1 (takeSeal l0).2.2 L (by omega) L.length (L.length + M + 1) 0 [] (by omega) (by omega) (by simp only [List.drop_zero, List.nil_append]; omega) (by omega)
  rw [show L.length + M + 1 - L.length - 1 = M from by omega, List.drop_zero, List.nil_append] at hl
  have hend : sealsEnd M L (sealedB l0) 0 (sealedB l0) 0 (takeSeal l0).1 (takeSeal l0).2.1 (takeSeal l0).2.2 (takeSeal l0).1 (takeSeal l0).2.1 (takeSeal l0).2.2 L.flatten = some true := by
    unfold sealsEnd
    rw [hK1 M (by omega), Option.bind_some, if_pos rfl, bytesEq_same rfl, Option.bind_some, if_pos rfl, if_pos rfl, bytesEq_same rfl, Option.bind_some, if_pos rfl, if_pos rfl, if_pos rfl, hK3 M (by omega), Option.bind_some, hc, Option.bind_some]
    simp
  unfold trivetlaw01_FormSeals.f
  rw [hs, Option.bind_some, hr, Option.bind_some, hu, Option.bind_some, hv, Option.bind_some]
  exact hl.trans hend
end Go.Proofs.Ytdapnponlmimaaa.Pure
