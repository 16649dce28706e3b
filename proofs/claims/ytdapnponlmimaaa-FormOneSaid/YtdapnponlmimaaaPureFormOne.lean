/- FormOne's law in plain Lean. -/
import Derived.Test.YtdapnponlmimaaaMForm
import Derived.Test.YtdapnponlmimaaaGx0
import Derived.Test.YtdapnponlmimaaaGx5
import Derived.Test.YtdapnponlmimaaaGx6
set_option linter.unusedVariables false
set_option linter.unusedSimpArgs false
namespace Go.Proofs.Ytdapnponlmimaaa.Pure
open Go.RowKit Go.Proofs.Ytdapnponlmimaaa.G Go.Proofs.Ytdapnponlmimaaa.M Go.Proofs.YtdapnponlmimaaaW.PrintWords Go.Proofs.YtdapnponlmimaaaW.PrintLast

theorem FormOne : trivetlaw01_FormOne.Pure := by
  intro l hl hs hw
  have hok := okB_of_wf hw
  obtain ⟨K, hK⟩ := live_f
  have hj : ∀ k, K < k → trivetlaw01_FormOne.j0 k l false = some true := by
    intro k hk
    obtain ⟨k, rfl⟩ : ∃ m, k = m + 1 := ⟨k - 1, by omega⟩
    have hlive := hK k (by omega)
    simp only [trivetlaw01_FormOne.j0]
    rw [if_neg (by simp)]
    have hb : shape_TakeBlob.f l = some (takeBlob l) := by
      unfold shape_TakeBlob.f
      rw [if_pos ⟨hok, by omega⟩]
    rw [hb, Option.bind_some, hlive]
    unfold takeBlob
    by_cases he : blE l big62 0 = 0
    · rw [if_pos he]
      obtain ⟨h1, h2, h3, h4, h5, h6⟩ := blE_good he
      obtain ⟨f1, f2⟩ := form_one hok h1
      have hhi : blHi l = tkS l + tkN l := rfl
      have hlo : blLo l = tkS l := rfl
      have hdl : ((blD l).length : Int) = tkN l := by
        unfold blD
        rw [List.length_drop, List.length_take]
        omega
      have hbl : shape_Blob.f [] (blD l) = some (l.take (blHi l).toNat) := by
        unfold shape_Blob.f shape_Num.f
        rw [hdl, if_pos ⟨by simp [okI]; exact f2, by simp⟩]
        simp only [Option.bind_some, List.nil_append, numsB, List.flatMap_cons, List.flatMap_nil, List.append_nil]
        rw [f1, if_pos (by rw [List.length_take]; omega)]
        congr 1
        unfold blD
        rw [hlo]
        have e1 : l.take (tkS l).toNat = (l.take (blHi l).toNat).take (tkS l).toNat := by rw [List.take_take]; congr 1; omega
        rw [e1, List.take_append_drop]
      simp only []
      rw [if_pos trivial, if_neg (by omega), if_neg (by omega), hbl]
      simp only [Option.bind_some]
      rw [if_pos (by omega), if_pos (by omega), bytesEq_same rfl]
      simp
    · rw [if_neg he]
      simp only []
      rw [if_neg he]
      simp
  refine ⟨K + 1, ?_⟩
  have hb : shape_TakeNum.f l = some (takeNum l) := by
    unfold shape_TakeNum.f
    rw [if_pos hok]
  unfold trivetlaw01_FormOne.f
  rw [hb, Option.bind_some]
  unfold takeNum
  by_cases he : tkE l = 0
  · rw [if_pos he]
    obtain ⟨f1, f2⟩ := form_one hok he
    have h1 := tkS_pos l
    have h2 := tkE_size he
    simp only []
    rw [if_pos trivial, if_neg (by omega), if_neg (by omega)]
    have hn : shape_Num.f [] [tkN l] = some (l.take (tkS l).toNat) := by
      unfold shape_Num.f
      rw [if_pos ⟨by simp [okI]; exact f2, by simp⟩]
      simp only [List.nil_append, numsB, List.flatMap_cons, List.flatMap_nil, List.append_nil]
      rw [f1]
    rw [hn, Option.bind_some, if_pos (by omega), if_pos (by omega), bytesEq_same rfl]
    simp only [Option.bind_some, Bool.not_true]
    exact hj _ (by omega)
  · rw [if_neg he]
    simp only []
    rw [if_neg he]
    exact hj _ (by omega)
end Go.Proofs.Ytdapnponlmimaaa.Pure
