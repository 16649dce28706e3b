/- What trivet/trivetref01's TakeBlob, Nums, Blob and slices.Equal of int64 come to, in plain Lean. -/
import Derived.Test.YtdapnponlmimaaaMRefNum
import Derived.Test.YtdapnponlmimaaaMNums
import Derived.Test.YtdapnponlmimaaaGx0
import Derived.Test.YtdapnponlmimaaaGx5
import Derived.Test.YtdapnponlmimaaaGx9
import Derived.Test.YtdapnponlmimaaaGx10
set_option linter.unusedVariables false
set_option linter.unusedSimpArgs false
namespace Go.Proofs.Ytdapnponlmimaaa.M
open Go.RowKit Go.Proofs.YtdapnponlmimaaaW.PrintWords Go.Proofs.Ytdapnponlmimaaa.G

theorem ref_takeBlob {l : List Int} (h : okB l = true) (hl : l.length < 70368744177664) : trivetref01_TakeBlob.f l = some (takeBlob l) := by
  have hr : trivetref01_TakeNum.f l = some (takeNum l) := by unfold trivetref01_TakeNum.f; rw [if_pos h]
  unfold trivetref01_TakeBlob.f takeBlob
  rw [hr, Option.bind_some]
  unfold takeNum
  by_cases he : tkE l = 0
  · obtain ⟨f1, f2⟩ := form_one h he
    have h1 := tkS_pos l
    have h2 := tkE_size he
    unfold isI64 at f2
    rw [if_pos he]
    simp only []
    rw [if_pos trivial]
    by_cases h3 : tkN l < 0
    · have hb : blE l big62 0 = 11 := by unfold blE; rw [if_neg (by omega), if_pos h3]
      rw [if_pos h3, hb, if_neg (by decide)]
    · rw [if_neg h3]
      have hw : wrap64 ((l.length : Int) - tkS l) = (l.length : Int) - tkS l := by unfold wrap64; omega
      rw [hw]
      by_cases h4 : (l.length : Int) - tkS l < tkN l
      · have hb : blE l big62 0 = 10 := by unfold blE big62; rw [if_neg (by omega), if_neg h3, if_neg (by omega), if_pos (by omega)]
        rw [if_pos (by omega), hb, if_neg (by decide)]
      · have hb : blE l big62 0 = 0 := by unfold blE big62; rw [if_neg (by omega), if_neg h3, if_neg (by omega), if_neg (by omega)]
        have hw2 : wrap64 (tkS l + tkN l) = tkS l + tkN l := by unfold wrap64; omega
        rw [if_neg (by omega), if_pos (by omega), hw2, if_pos (by omega), if_pos (by omega), if_pos (by simp only [List.length_drop, List.length_take]; simp; omega), hb, if_pos rfl]
        rfl
  · have hb : blE l big62 0 = tkE l := by unfold blE; rw [if_pos he]
    rw [if_neg he]
    simp only []
    rw [if_neg he, hb, if_neg he]
theorem ref_nums_l0 (l : List Int) (n : Int) : ∀ (k : Nat) (acc rest : List Int) (j : Nat), rest.length < k → okB rest = true → acc.length + rest.length < 17592186044416 → j + rest.length < 17592186044416 →
    trivetref01_Nums.l0 k l n acc rest (j : Int) = some (if nuE (n.toNat - j) rest = 0 then (acc ++ nuL (n.toNat - j) rest, nuR (n.toNat - j) rest, 0) else ([], l, nuE (n.toNat - j) rest)) := by
  intro k
  induction k with
  | zero => intro acc rest j hk; omega
  | succ k ih =>
    intro acc rest j hk hb ha hj
    simp only [trivetref01_Nums.l0]
    by_cases hlt : (j : Int) < n
    · obtain ⟨m, hm⟩ : ∃ m, n.toNat - j = m + 1 := ⟨n.toNat - j - 1, by omega⟩
      have hm' : n.toNat - (j + 1) = m := by omega
      have hr : trivetref01_TakeNum.f rest = some (takeNum rest) := by unfold trivetref01_TakeNum.f; rw [if_pos hb]
      rw [if_pos hlt, hr, Option.bind_some, hm]
      unfold takeNum
      by_cases he : tkE rest = 0
      · have h1 := tkS_pos rest
        have h2 := tkE_size he
        rw [if_pos he]
        have e1 : nuE (m + 1) rest = nuE m (rest.drop (tkS rest).toNat) := by rw [nuE, if_pos he]
        have e2 : nuL (m + 1) rest = tkN rest :: nuL m (rest.drop (tkS rest).toNat) := by rw [nuL, if_pos he]
        have e3 : nuR (m + 1) rest = nuR m (rest.drop (tkS rest).toNat) := by rw [nuR, if_pos he]
        rw [e1, e2, e3]
        generalize tkS rest = s at *
        generalize tkN rest = x at *
        clear he e1 e2 e3 hr hm
        have hw : wrap64 ((j : Int) + 1) = ((j + 1 : Nat) : Int) := by unfold wrap64; omega
        have hih := ih (acc ++ [x]) (rest.drop s.toNat) (j + 1) (by simp only [List.length_drop]; omega) (okB_drop hb _) (by simp only [List.length_append, List.length_drop, List.length_singleton]; omega) (by simp only [List.length_drop]; omega)
        rw [hm'] at hih
        have g1 : acc.length < 17592186044416 := by omega
        have g2 : (0 : Int) ≤ s := by omega
        simp only [if_true, if_pos g1, if_pos g2, if_pos h2]
        rw [hw, hih]
        simp only [List.append_assoc, List.singleton_append]
      · rw [if_neg he]
        simp only []
        have e1 : nuE (m + 1) rest = tkE rest := by unfold nuE; rw [if_neg he]
        rw [if_neg he, e1, if_neg he]
    · rw [if_neg hlt, show n.toNat - j = 0 from by omega]
      simp [nuE, nuL, nuR]
theorem ref_nums (l : List Int) (n : Int) (hb : okB l = true) (hl : l.length < 17592186044416) (k : Nat) (hk : l.length < k) : trivetref01_Nums.f k l n = some (numsT l n) := by
  unfold trivetref01_Nums.f numsT
  have := ref_nums_l0 l n k [] l 0 hk hb (by simpa using hl) (by omega)
  rw [show ((0 : Nat) : Int) = 0 from rfl, Nat.sub_zero] at this
  rw [this]
  congr 1
  by_cases he : nuE n.toNat l = 0
  · rw [if_pos he, if_pos he, if_pos he, he]; simp
  · rw [if_neg he, if_neg he, if_neg he]
theorem nuR_ok (n : Nat) {l : List Int} (h : okB l = true) : okB (nuR n l) = true := by
  induction n generalizing l with
  | zero => exact h
  | succ n ih => unfold nuR; split; exact ih (okB_drop h _); exact h
theorem nuL_len (n : Nat) (l : List Int) : (nuL n l).length ≤ l.length := by
  induction n generalizing l with
  | zero => simp [nuL]
  | succ n ih =>
    unfold nuL
    split
    · rename_i he
      have h1 := tkS_pos l
      have h2 := tkE_size he
      have := ih (l.drop (tkS l).toNat)
      rw [List.length_drop] at this
      rw [List.length_cons]; omega
    · simp
theorem equal_l0 (a : List Int) (ha : a.length < 140737488355328) (d : Nat) : ∀ (k j : Nat), a.length - j = d → j ≤ a.length → d < k → slices_Equal_int64_int64.l0 k a a (a.length : Int) (j : Int) = some true := by
  induction d with
  | zero =>
    intro k j hd hj hk
    obtain ⟨k, rfl⟩ : ∃ q, k = q + 1 := ⟨k - 1, by omega⟩
    simp only [slices_Equal_int64_int64.l0]
    rw [if_neg (by omega)]
  | succ d ih =>
    intro k j hd hj hk
    obtain ⟨k, rfl⟩ : ∃ q, k = q + 1 := ⟨k - 1, by omega⟩
    have hw : wrap64 ((j : Int) + 1) = ((j + 1 : Nat) : Int) := by unfold wrap64; omega
    simp only [slices_Equal_int64_int64.l0]
    rw [if_pos (by omega), if_pos (by omega), if_pos (by omega), if_pos (by omega), if_pos trivial, hw]
    exact ih k (j + 1) (by omega) (by omega) (by omega)
theorem equal_same {a b : List Int} (h : a = b) (ha : a.length < 140737488355328) (k : Nat) (hk : a.length < k) : slices_Equal_int64_int64.f k a b = some true := by
  subst h
  unfold slices_Equal_int64_int64.f
  rw [if_pos rfl]
  exact equal_l0 a ha a.length k 0 (by omega) (by omega) hk
def blobB (l d : List Int) : List Int := l ++ numB (d.length : Int) ++ d
theorem isI64_len {d : List Int} (h : d.length < 140737488355328) : isI64 (d.length : Int) := by unfold isI64; omega
theorem blob_f (l d : List Int) (h : l.length + d.length + 9 < 140737488355328) : shape_Blob.f l d = some (blobB l d) := by
  have hi := isI64_len (d := d) (by omega)
  have hn := numB_len hi
  unfold shape_Blob.f shape_Num.f
  rw [if_pos ⟨by simp [okI]; exact hi, by simp; omega⟩, Option.bind_some]
  simp only [numsB, List.flatMap_cons, List.flatMap_nil, List.append_nil]
  rw [if_pos (by simp only [List.length_append]; omega)]
  rfl
theorem ref_blob (l d : List Int) (h : l.length + d.length + 9 < 140737488355328) (k : Nat) (hk : 11 ≤ k) : trivetref01_Blob.f k l d = some (blobB l d) := by
  have hi := isI64_len (d := d) (by omega)
  have hn := numB_len hi
  unfold trivetref01_Blob.f
  rw [ref_put l [(d.length : Int)] (by simp [okI]; exact hi) (by simp; omega) k (by simpa using hk), Option.bind_some]
  simp only [numsB, List.flatMap_cons, List.flatMap_nil, List.append_nil]
  rw [if_pos (by simp only [List.length_append]; omega)]
  rfl
theorem blobB_ok {l d : List Int} (hl : okB l = true) (hd : okB d = true) (h : d.length < 140737488355328) : okB (blobB l d) = true :=
  okB_append (okB_append hl (numB_ok (isI64_len h))) hd
/-- A blob is taken as it was, whatever stands behind. -/
theorem blob_back {d : List Int} (h : d.length < 140737488355328) (rest : List Int) (most more : Int) (hm : (d.length : Int) ≤ most) (hr : more ≤ (rest.length : Int)) (h0 : 0 ≤ more) :
    blE (blobB [] d ++ rest) most more = 0 ∧ blLo (blobB [] d ++ rest) = ((numB (d.length : Int)).length : Int) ∧ blHi (blobB [] d ++ rest) = ((numB (d.length : Int)).length : Int) + (d.length : Int) ∧ blD (blobB [] d ++ rest) = d := by
  have e : blobB [] d ++ rest = numB (d.length : Int) ++ (d ++ rest) := by unfold blobB; simp
  obtain ⟨h1, h2, h3⟩ := form_back (isI64_len h) (d ++ rest)
  rw [e]
  have hlo : blLo (numB (d.length : Int) ++ (d ++ rest)) = ((numB (d.length : Int)).length : Int) := by unfold blLo; exact h3
  have hhi : blHi (numB (d.length : Int) ++ (d ++ rest)) = ((numB (d.length : Int)).length : Int) + (d.length : Int) := by unfold blHi; rw [h2, h3]
  refine ⟨?_, hlo, hhi, ?_⟩
  · unfold blE
    rw [h1, h2, h3, if_neg (by omega), if_neg (by omega), if_neg (by omega), if_neg (by simp only [List.length_append]; omega)]
  · unfold blD
    rw [hlo, hhi, show (((numB (d.length : Int)).length : Int) + (d.length : Int)).toNat = (numB (d.length : Int)).length + d.length from by omega, Int.toNat_natCast, List.take_length_add_append, List.drop_left]
    simp
theorem nums_back (l : List Int) (h : okI l = true) (rest : List Int) : nuE l.length (numsB l ++ rest) = 0 ∧ nuL l.length (numsB l ++ rest) = l ∧ nuR l.length (numsB l ++ rest) = rest := by
  induction l with
  | nil => simp [nuE, nuL, nuR, numsB]
  | cons x r ih =>
    have hx := okI_mem h (List.mem_cons_self ..)
    have hr : okI r = true := by unfold okI at h ⊢; rw [List.all_cons, Bool.and_eq_true] at h; exact h.2
    obtain ⟨i1, i2, i3⟩ := ih hr
    have e : numsB (x :: r) ++ rest = numB x ++ (numsB r ++ rest) := by simp [numsB]
    obtain ⟨h1, h2, h3⟩ := form_back hx (numsB r ++ rest)
    rw [e, List.length_cons]
    unfold nuE nuL nuR
    rw [h1, h2, h3, Int.toNat_natCast, List.drop_left]
    simp only [if_true]
    exact ⟨i1, by rw [i2], i3⟩
end Go.Proofs.Ytdapnponlmimaaa.M
