/- FormOwn's law in plain Lean. -/
import Derived.Test.YtdapnponlmimaaaMRefNum
import Derived.Test.YtdapnponlmimaaaMSealPure
import Derived.Test.YtdapnponlmimaaaMClone
import Derived.Test.YtdapnponlmimaaaGx0
import Derived.Test.YtdapnponlmimaaaGx8
set_option linter.unusedVariables false
set_option linter.unusedSimpArgs false
namespace Go.Proofs.Ytdapnponlmimaaa.Pure
open Go.RowKit Go.Proofs.Ytdapnponlmimaaa.G Go.Proofs.Ytdapnponlmimaaa.M Go.Proofs.YtdapnponlmimaaaW.PrintWords Go.Proofs.YtdapnponlmimaaaW.PrintLast

theorem own_l0 (x0 : List Int) (x1 : Int) (x5 x6 x7 : List Int) (n : Nat) (hn : n < 140737488355328) (d : Nat) : ∀ (k j : Nat) (x8 : List Int), x8.length = n → n - j = d → j ≤ n → d < k →
    trivetlaw01_FormOwn.l0 k x0 x1 x5 x6 x7 x8 (n : Int) (j : Int) = ((shape_TakeBlob.f x6).bind fun bt => (trivetlaw01_FormOwn.l1 (k - d - 1) x0 x1 x5 x6 x7 bt.1 (bt.1.length : Int) 0)) := by
  induction d with
  | zero =>
    intro k j x8 hx hd hj hk
    obtain ⟨k, rfl⟩ : ∃ q, k = q + 1 := ⟨k - 1, by omega⟩
    simp only [trivetlaw01_FormOwn.l0]
    rw [if_neg (by omega)]
    rfl
  | succ d ih =>
    intro k j x8 hx hd hj hk
    obtain ⟨k, rfl⟩ : ∃ q, k = q + 1 := ⟨k - 1, by omega⟩
    have hw : wrap64 ((j : Int) + 1) = ((j + 1 : Nat) : Int) := by unfold wrap64; omega
    simp only [trivetlaw01_FormOwn.l0]
    rw [if_pos (by omega), if_pos (by omega), if_pos (by omega), hw, ih k (j + 1) _ (by simp only [List.length_set]; exact hx) (by omega) (by omega) (by omega), show k + 1 - (d + 1) - 1 = k - d - 1 from by omega]
theorem own_l1 (x0 : List Int) (x1 : Int) (x5 x6 x7 : List Int) (n : Nat) (hn : n < 140737488355328) (d : Nat) : ∀ (k j : Nat) (x8 : List Int), x8.length = n → n - j = d → j ≤ n → d < k →
    trivetlaw01_FormOwn.l1 k x0 x1 x5 x6 x7 x8 (n : Int) (j : Int) = ((shape_Seal.f (k - d - 1) x6).bind fun bt => (trivetlaw01_FormOwn.l2 (k - d - 1) x0 x1 x5 x6 x7 bt.1 (bt.1.length : Int) 0)) := by
  induction d with
  | zero =>
    intro k j x8 hx hd hj hk
    obtain ⟨k, rfl⟩ : ∃ q, k = q + 1 := ⟨k - 1, by omega⟩
    simp only [trivetlaw01_FormOwn.l1]
    rw [if_neg (by omega)]
    rfl
  | succ d ih =>
    intro k j x8 hx hd hj hk
    obtain ⟨k, rfl⟩ : ∃ q, k = q + 1 := ⟨k - 1, by omega⟩
    have hw : wrap64 ((j : Int) + 1) = ((j + 1 : Nat) : Int) := by unfold wrap64; omega
    simp only [trivetlaw01_FormOwn.l1]
    rw [if_pos (by omega), if_pos (by omega), if_pos (by omega), hw, ih k (j + 1) _ (by simp only [List.length_set]; exact hx) (by omega) (by omega) (by omega), show k + 1 - (d + 1) - 1 = k - d - 1 from by omega]
def ownEnd (k : Nat) (x0 : List Int) (x1 : Int) (x5 x6 x7 : List Int) : Option Bool :=
  ((trivetlaw01_live.f k).bind fun t247 => (if t247 = true then ((bytes_Equal.f x6 x5).bind fun t248 => (if t248 = true then ((trivetref01_Put.f k x0 (([x1] : List Int))).bind fun t252 => ((bytes_Equal.f x7 t252).bind fun t255 => (some t255))) else (some false))) else (some false)))
theorem own_l2 (x0 : List Int) (x1 : Int) (x5 x6 x7 : List Int) (n : Nat) (hn : n < 140737488355328) (d : Nat) : ∀ (k j : Nat) (x8 : List Int), x8.length = n → n - j = d → j ≤ n → d < k →
    trivetlaw01_FormOwn.l2 k x0 x1 x5 x6 x7 x8 (n : Int) (j : Int) = ownEnd (k - d - 1) x0 x1 x5 x6 x7 := by
  induction d with
  | zero =>
    intro k j x8 hx hd hj hk
    obtain ⟨k, rfl⟩ : ∃ q, k = q + 1 := ⟨k - 1, by omega⟩
    simp only [trivetlaw01_FormOwn.l2]
    rw [if_neg (by omega)]
    rfl
  | succ d ih =>
    intro k j x8 hx hd hj hk
    obtain ⟨k, rfl⟩ : ∃ q, k = q + 1 := ⟨k - 1, by omega⟩
    have hw : wrap64 ((j : Int) + 1) = ((j + 1 : Nat) : Int) := by unfold wrap64; omega
    simp only [trivetlaw01_FormOwn.l2]
    rw [if_pos (by omega), if_pos (by omega), if_pos (by omega), hw, ih k (j + 1) _ (by simp only [List.length_set]; exact hx) (by omega) (by omega) (by omega), show k + 1 - (d + 1) - 1 = k - d - 1 from by omega]

theorem FormOwn : trivetlaw01_FormOwn.Pure := by
  intro l a hl hs hw ha
  have hok := okB_of_wf hw
  have hi : isI64 a := by
    have := okI_of_wf (l := [a]) (by intro x hx; rw [List.mem_singleton] at hx; subst hx; exact ha)
    exact okI_mem this (List.mem_singleton.2 rfl)
  have hoi : okI [a] = true := by simp [okI]; exact hi
  have hnl := numB_len hi
  obtain ⟨s, K2, hs2, hK2⟩ : ∃ (s : List Int × Int) (K : Nat), s.1.length < 140737488355328 ∧ ∀ k, K ≤ k → shape_Seal.f k l = some s := by
    rcases Nat.lt_or_ge 1048576 l.length with h | h
    · exact ⟨([], 3), 0, by simp, fun k _ => shape_seal_long l h k⟩
    · obtain ⟨K, hK⟩ := shape_seal l h
      have := sealed_len l
      have := numB_len (isI64_len (d := l) (by omega))
      exact ⟨(sealedB l, 0), K, by simp only []; omega, hK⟩
  obtain ⟨K1, hK1⟩ := live_f
  have htb : shape_TakeBlob.f l = some (takeBlob l) := by unfold shape_TakeBlob.f; rw [if_pos ⟨hok, by omega⟩]
  have htl : (takeBlob l).1.length < 140737488355328 := by
    unfold takeBlob
    split
    · rename_i he
      obtain ⟨g1, g2, g3, g4, g5, g6⟩ := blE_good he
      have := blD_length (l := l) ⟨g6, g5, by omega⟩
      simp only []
      omega
    · simp
  have hblob := blob_f l [97, 98, 99] (by simp; omega)
  have hbl : (blobB l [97, 98, 99]).length < 140737488355328 := by
    have := numB_len (isI64_len (d := [97, 98, 99]) (by simp))
    unfold blobB
    simp only [List.length_append]
    simp at this ⊢
    omega
  generalize blobB l [97, 98, 99] = B at *
  generalize takeBlob l = tb at *
  obtain ⟨M, hM⟩ : ∃ M, M = K1 + K2 + 12 := ⟨_, rfl⟩
  refine ⟨B.length + tb.1.length + s.1.length + M + 3, ?_⟩
  have hclone : bytes_Clone.f l = some l := by unfold bytes_Clone.f; rw [if_pos (by omega)]
  have hw32 : wrap64 ((l.length : Int) + 32) = (l.length : Int) + 32 := by unfold wrap64; omega
  have hnum : shape_Num.f l [a] = some (l ++ numsB [a]) := by unfold shape_Num.f; rw [if_pos ⟨hoi, by simp; omega⟩]
  have hput := ref_put l [a] hoi (by simp; omega) M (by simp; omega)
  have g1 : (0 : Int) ≤ (l.length : Int) + 32 := by omega
  have g2 : ((l.length : Int) + 32).toNat ≤ 281474976710656 := by omega
  have g3 : (List.replicate 0 (0 : Int)).length + l.length < 140737488355328 := by simp; omega
  have hl0 := own_l0 l a l l (l ++ numsB [a]) B.length hbl B.length (B.length + tb.1.length + s.1.length + M + 3) 0 B rfl (by omega) (by omega) (by omega)
  have hl1 := own_l1 l a l l (l ++ numsB [a]) tb.1.length htl tb.1.length (tb.1.length + s.1.length + M + 2) 0 tb.1 rfl (by omega) (by omega) (by omega)
  have hl2 := own_l2 l a l l (l ++ numsB [a]) s.1.length hs2 s.1.length (s.1.length + M + 1) 0 s.1 rfl (by omega) (by omega) (by omega)
  rw [show B.length + tb.1.length + s.1.length + M + 3 - B.length - 1 = tb.1.length + s.1.length + M + 2 from by omega, htb, Option.bind_some] at hl0
  rw [show tb.1.length + s.1.length + M + 2 - tb.1.length - 1 = s.1.length + M + 1 from by omega, hK2 _ (by omega), Option.bind_some] at hl1
  rw [show s.1.length + M + 1 - s.1.length - 1 = M from by omega] at hl2
  have hend : ownEnd M l a l l (l ++ numsB [a]) = some true := by
    unfold ownEnd
    rw [hK1 M (by omega), Option.bind_some, if_pos rfl, bytesEq_same rfl, Option.bind_some, if_pos rfl, hput, Option.bind_some, bytesEq_same rfl]
    rfl
  unfold trivetlaw01_FormOwn.f
  rw [hclone, Option.bind_some, hw32, if_pos g1, if_pos g2, Option.bind_some, if_pos g3, Option.bind_some, show List.replicate 0 (0 : Int) ++ l = l from rfl, hnum, Option.bind_some, hblob, Option.bind_some]
  exact hl0.trans (hl1.trans (hl2.trans hend))
end Go.Proofs.Ytdapnponlmimaaa.Pure
