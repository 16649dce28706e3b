/- FormBlobs' law in plain Lean, for sizes that fit. -/
import Derived.Test.YtdapnponlmimaaaMRefBlob
import Derived.Test.YtdapnponlmimaaaGx0
import Derived.Test.YtdapnponlmimaaaGx9
set_option linter.unusedVariables false
set_option linter.unusedSimpArgs false
namespace Go.Proofs.Ytdapnponlmimaaa.Pure
open Go.RowKit Go.Proofs.Ytdapnponlmimaaa.G Go.Proofs.Ytdapnponlmimaaa.M Go.Proofs.YtdapnponlmimaaaW.PrintWords Go.Proofs.YtdapnponlmimaaaW.PrintLast

theorem FormBlobs (l0 l1 : List Int) (a2 : Int) (h0 : l0.length ≤ 1048576) (_ : l0.length * 1 ≤ 140737488351232) (hw0 : ∀ x ∈ l0, (Lit.int .u8 x).wf = true) (h1 : l1.length ≤ 1048576) (_ : l1.length * 1 ≤ 140737488351232) (hw1 : ∀ x ∈ l1, (Lit.int .u8 x).wf = true) (_ : (Lit.int .i64 a2).wf = true) :
    ∃ k, trivetlaw01_FormBlobs.f k l0 l1 a2 = some true := by
  have hok := okB_of_wf hw0
  obtain ⟨K, hK⟩ := live_f
  refine ⟨K + l0.length + 20, ?_⟩
  generalize hk : K + l0.length + 20 = k
  have hlive := hK k (by omega)
  have ht : shape_TakeBlob.f l0 = some (takeBlob l0) := by unfold shape_TakeBlob.f; rw [if_pos ⟨hok, by omega⟩]
  have hr := ref_takeBlob hok (by omega)
  have hn : shape_Nums.f k l0 a2 = some (numsT l0 a2) := by unfold shape_Nums.f; rw [if_pos ⟨hok, by omega⟩]
  have hm := ref_nums l0 a2 hok (by omega) k (by omega)
  have hb := blob_f l0 l1 (by omega)
  have hc := ref_blob l0 l1 (by omega) k (by omega)
  have hlen : (numsT l0 a2).1.length ≤ l0.length := by
    unfold numsT
    simp only []
    split
    · exact nuL_len _ _
    · simp
  unfold trivetlaw01_FormBlobs.f
  rw [ht, hr, hn, hm, hlive, hb, hc]
  simp only [Option.bind_some, if_true]
  rw [bytesEq_same rfl, bytesEq_same rfl, bytesEq_same rfl, equal_same rfl (by omega) k (by omega)]
  simp
end Go.Proofs.Ytdapnponlmimaaa.Pure
