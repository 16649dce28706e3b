/- FormBack's law in plain Lean, for sizes that fit. -/
import Derived.Test.YtdapnponlmimaaaMRefBlob
import Derived.Test.YtdapnponlmimaaaGx0
import Derived.Test.YtdapnponlmimaaaGx9
set_option linter.unusedVariables false
set_option linter.unusedSimpArgs false
namespace Go.Proofs.Ytdapnponlmimaaa.Pure
open Go.RowKit Go.Proofs.Ytdapnponlmimaaa.G Go.Proofs.Ytdapnponlmimaaa.M Go.Proofs.YtdapnponlmimaaaW.PrintWords Go.Proofs.YtdapnponlmimaaaW.PrintLast

theorem FormBack (l0 l1 l2 : List Int) (h0 : l0.length ≤ 1048576) (_ : l0.length * 8 ≤ 140737488351232) (hw0 : ∀ x ∈ l0, (Lit.int .i64 x).wf = true) (h1 : l1.length ≤ 1048576) (_ : l1.length * 1 ≤ 140737488351232) (hw1 : ∀ x ∈ l1, (Lit.int .u8 x).wf = true) (h2 : l2.length ≤ 1048576) (_ : l2.length * 1 ≤ 140737488351232) (hw2 : ∀ x ∈ l2, (Lit.int .u8 x).wf = true) :
    ∃ k, trivetlaw01_FormBack.f k l0 l1 l2 = some true := by
  have ho0 := okI_of_wf hw0
  have ho1 := okB_of_wf hw1
  have ho2 := okB_of_wf hw2
  have hlen := numsB_len ho0
  have hnk := numsB_ok ho0
  have hi := isI64_len (d := l1) (by omega)
  have hnl := numB_len hi
  obtain ⟨K, hK⟩ := live_f
  refine ⟨K + l0.length + 2, ?_⟩
  generalize hk : K + l0.length + 2 = k
  have hlive := hK k (by omega)
  have e : blobB (numsB l0) l1 ++ l2 = numsB l0 ++ (blobB [] l1 ++ l2) := by unfold blobB; simp
  obtain ⟨b1, b2, b3⟩ := nums_back l0 ho0 (blobB [] l1 ++ l2)
  obtain ⟨c1, c2, c3, c4⟩ := blob_back (d := l1) (by omega) l2 big62 0 (by unfold big62; omega) (by omega) (by omega)
  have hbl : (blobB (numsB l0) l1).length = (numsB l0).length + (numB (l1.length : Int)).length + l1.length := by unfold blobB; simp; omega
  have hob : okB (blobB (numsB l0) l1 ++ l2) = true := okB_append (blobB_ok hnk ho1 (by omega)) ho2
  have hob2 : okB (blobB [] l1 ++ l2) = true := okB_append (blobB_ok rfl ho1 (by omega)) ho2
  have hrl : (blobB [] l1 ++ l2).length = (numB (l1.length : Int)).length + l1.length + l2.length := by unfold blobB; simp; omega
  have hn : shape_Num.f [] l0 = some (numsB l0) := by unfold shape_Num.f; rw [if_pos ⟨ho0, by simp; omega⟩]; rfl
  have hb := blob_f (numsB l0) l1 (by omega)
  have hm : shape_Nums.f k (blobB (numsB l0) l1 ++ l2) (l0.length : Int) = some (l0, blobB [] l1 ++ l2, 0) := by
    unfold shape_Nums.f numsT
    rw [if_pos ⟨hob, by rw [List.length_append]; omega⟩, e, Int.toNat_natCast, b1, b2, b3, if_pos rfl, if_pos rfl]
  have ht : shape_TakeBlob.f (blobB [] l1 ++ l2) = some (l1, ((numB (l1.length : Int)).length : Int) + (l1.length : Int), 0) := by
    unfold shape_TakeBlob.f takeBlob
    rw [if_pos ⟨hob2, by omega⟩, c1, c3, c4, if_pos rfl]
  obtain ⟨q, hq⟩ : ∃ q, k = q + 1 := ⟨k - 1, by omega⟩
  have hj : trivetlaw01_FormBack.j0 k l1 l2 (blobB [] l1 ++ l2) false = some true := by
    rw [hq]
    simp only [trivetlaw01_FormBack.j0]
    rw [if_neg (by simp), ht, Option.bind_some]
    simp only []
    rw [if_pos trivial, bytesEq_same rfl, Option.bind_some, if_pos rfl, if_pos (by omega), if_pos (by omega)]
    have ed : (blobB [] l1 ++ l2).drop (((numB (l1.length : Int)).length : Int) + (l1.length : Int)).toNat = l2 := by
      have : blobB [] l1 ++ l2 = (numB (l1.length : Int) ++ l1) ++ l2 := by unfold blobB; simp
      rw [this, show (((numB (l1.length : Int)).length : Int) + (l1.length : Int)).toNat = (numB (l1.length : Int) ++ l1).length from by rw [List.length_append]; omega, List.drop_left]
    rw [ed, bytesEq_same rfl]
    rfl
  unfold trivetlaw01_FormBack.f
  rw [hn, Option.bind_some, hb, Option.bind_some, if_pos (by omega), hm, Option.bind_some, hlive, Option.bind_some]
  simp only []
  rw [if_pos trivial, if_pos trivial, equal_same rfl (by omega) k (by omega), Option.bind_some]
  simp only [Bool.not_true]
  exact hj
end Go.Proofs.Ytdapnponlmimaaa.Pure
