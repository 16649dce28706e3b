/- FormNums' law in plain Lean, for sizes that fit. -/
import Derived.Test.YtdapnponlmimaaaMRefNum
import Derived.Test.YtdapnponlmimaaaGx0
import Derived.Test.YtdapnponlmimaaaGx3
import Derived.Test.YtdapnponlmimaaaGx4
set_option linter.unusedVariables false
set_option linter.unusedSimpArgs false
namespace Go.Proofs.Ytdapnponlmimaaa.Pure
open Go.RowKit Go.Proofs.Ytdapnponlmimaaa.G Go.Proofs.Ytdapnponlmimaaa.M Go.Proofs.YtdapnponlmimaaaW.PrintWords Go.Proofs.YtdapnponlmimaaaW.PrintLast

theorem FormNums (l0 l1 : List Int) (h0 : l0.length ≤ 1048576) (_ : l0.length * 1 ≤ 140737488351232) (hw0 : ∀ x ∈ l0, (Lit.int .u8 x).wf = true) (h1 : l1.length ≤ 1048576) (_ : l1.length * 8 ≤ 140737488351232) (hw1 : ∀ x ∈ l1, (Lit.int .i64 x).wf = true) :
    ∃ k, trivetlaw01_FormNums.f k l0 l1 = some true := by
  have hok := okB_of_wf hw0
  have hoi := okI_of_wf hw1
  have hlen := numsB_len hoi
  have hnk := numsB_ok hoi
  obtain ⟨K, hK⟩ := live_f
  refine ⟨K + l1.length + 10, ?_⟩
  have hlive := hK (K + l1.length + 10) (by omega)
  have ht : shape_TakeNum.f l0 = some (takeNum l0) := by unfold shape_TakeNum.f; rw [if_pos hok]
  have hr : trivetref01_TakeNum.f l0 = some (takeNum l0) := by unfold trivetref01_TakeNum.f; rw [if_pos hok]
  have hn : shape_Num.f l0 l1 = some (l0 ++ numsB l1) := by unfold shape_Num.f; rw [if_pos ⟨hoi, by omega⟩]
  have hn0 : shape_Num.f [] l1 = some ([] ++ numsB l1) := by unfold shape_Num.f; rw [if_pos ⟨hoi, by simp; omega⟩]
  have hp := ref_put l0 l1 hoi (by omega) (K + l1.length + 10) (by omega)
  have hp0 := ref_put [] l1 hoi (by simp; omega) (K + l1.length + 10) (by omega)
  unfold trivetlaw01_FormNums.f shape_Size.f
  rw [ht, hr, hlive, hn, hp, hn0, hp0]
  simp only [Option.bind_some, if_true]
  rw [bytesEq_same rfl]
  simp
end Go.Proofs.Ytdapnponlmimaaa.Pure
