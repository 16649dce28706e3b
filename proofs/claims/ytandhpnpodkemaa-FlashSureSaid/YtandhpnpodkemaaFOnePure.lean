/- FlashOne, in plain Lean: what a change leaves of the other pages. -/
import Derived.Test.YtandhpnpodkemaaFBegun2
import Derived.Test.YtandhpnpodkemaaFClone2
import Derived.Test.YtandhpnpodkemaaFOp
set_option linter.unusedVariables false
set_option linter.unusedSimpArgs false
set_option maxRecDepth 100000
namespace Go.Proofs.Ytandhpnpodkemaa.M
open Go.RowKit

/-- A flash of n blocks without a fuse that has power. -/
structure Quiet (n : Nat) (fl : Fl) : Prop where
  n : fl.n = n
  fuse : fl.fuse = 0
  down : fl.down = false
theorem quiet_new (n : Nat) : Quiet n (newF n) := ⟨rfl, rfl, rfl⟩
theorem Quiet.fu {n : Nat} {fl : Fl} (h : Quiet n fl) : 0 ≤ fl.fuse ∧ fl.fuse ≤ 9223372036854775807 := by rw [h.fuse]; omega
theorem Quiet.change {n : Nat} {fl : Fl} (h : Quiet n fl) (cW cT : Nat → Int) : Quiet n (changeF fl cW cT) := by
  unfold changeF
  rw [if_neg (by rw [h.fuse]; omega)]
  exact ⟨h.n, by show max (fl.fuse - 1) 0 = 0; rw [h.fuse]; rfl, h.down⟩
theorem Quiet.prog {n : Nat} {fl : Fl} (h : Quiet n fl) (b p : Int) (l : List Int) : Quiet n (progF fl b p l) := by
  unfold progF
  split
  · exact h.change _ _
  · exact h
theorem Quiet.erase {n : Nat} {fl : Fl} (h : Quiet n fl) (b : Int) : Quiet n (eraseF fl b) := by
  unfold eraseF
  split
  · exact h.change _ _
  · exact h
theorem putL_far {c : Nat → Int} {o : Nat} {l : List Int} {j : Nat} (h : j < o ∨ o + l.length ≤ j) : putL c o l j = c j := by
  unfold putL
  rw [if_neg (by omega)]
theorem updC_far {c : Nat → Int} {i j : Nat} (x : Int) (h : j ≠ i) : updC c i x j = c j := by unfold updC; rw [if_neg h]
theorem updC_same {c : Nat → Int} {i : Nat} (x : Int) : updC c i x i = x := by unfold updC; rw [if_pos rfl]
theorem fullC_far {c : Nat → Int} {q : Nat} {l : List Int} {j : Nat} (hl : l.length ≤ 256) (h : j < q ∨ q + 257 ≤ j) : fullC c q l j = c j := by
  unfold fullC
  rw [putL_far (by simp; omega), putL_far (by omega), updC_far _ (by omega)]
theorem eraseC_far {c : Nat → Int} {b : Nat} {s : Int} {j : Nat} (h : j < b * 4113 ∨ b * 4113 + 4113 ≤ j) : ∀ k, k ≤ 16 → eraseC c b s k j = c j
  | 0, _ => by unfold eraseC; exact updC_far _ (by omega)
  | k + 1, hk => by
    unfold eraseC eraseC1
    rw [putL_far (by simp; omega), updC_far _ (by omega), eraseC_far h k (by omega)]
theorem changeF_c {fl : Fl} {cW cT : Nat → Int} {j : Nat} (hW : cW j = fl.c j) (hT : cT j = fl.c j) : (changeF fl cW cT).c j = fl.c j := by
  unfold changeF
  split
  · show (if fl.keep = 1 then cT else if fl.keep = 2 then cW else fl.c) j = fl.c j
    split
    · exact hT
    · split
      · exact hW
      · rfl
  · exact hW
theorem changeF_n (fl : Fl) (cW cT : Nat → Int) : (changeF fl cW cT).n = fl.n := by unfold changeF; split <;> rfl
theorem progF_n (fl : Fl) (b p : Int) (l : List Int) : (progF fl b p l).n = fl.n := by unfold progF; split; exact changeF_n _ _ _; rfl
theorem eraseF_n (fl : Fl) (b : Int) : (eraseF fl b).n = fl.n := by unfold eraseF; split; exact changeF_n _ _ _; rfl
theorem far_pg {b p b' p' i : Nat} (hp : p < 16) (hp' : p' < 16) (hi : i < 257) (hne : b' ≠ b ∨ p' ≠ p) : b' * 4113 + p' * 257 + i < b * 4113 + p * 257 ∨ b * 4113 + p * 257 + 257 ≤ b' * 4113 + p' * 257 + i := by
  rcases Nat.lt_trichotomy b' b with h | h | h
  · left; omega
  · subst h
    rcases Nat.lt_trichotomy p' p with h | h | h
    · left; omega
    · omega
    · right; omega
  · right; omega
/-- Program leaves the other pages. -/
theorem progF_far {fl : Fl} {b p : Int} {l : List Int} {b' p' i : Nat} (hp : p' < 16) (hi : i < 257) (hne : ¬ ((b' : Int) = b ∧ (p' : Int) = p)) : (progF fl b p l).c (b' * 4113 + p' * 257 + i) = fl.c (b' * 4113 + p' * 257 + i) := by
  unfold progF
  split
  · rename_i h
    obtain ⟨b0, b1, p0, p1, hl⟩ := okP_of h.1
    obtain ⟨b, rfl⟩ := Int.eq_ofNat_of_zero_le b0
    obtain ⟨p, rfl⟩ := Int.eq_ofNat_of_zero_le p0
    simp only [Int.toNat_natCast] at *
    have hne' : b' ≠ b ∨ p' ≠ p := by omega
    have hfar := far_pg (i := i) (by omega) hp hi hne'
    exact changeF_c (fullC_far hl hfar) (updC_far _ (by omega))
  · rfl
theorem eraseF_far {fl : Fl} {b : Int} {b' p' i : Nat} (hp : p' < 16) (hi : i < 257) (hne : (b' : Int) ≠ b) : (eraseF fl b).c (b' * 4113 + p' * 257 + i) = fl.c (b' * 4113 + p' * 257 + i) := by
  unfold eraseF
  split
  · rename_i h
    obtain ⟨b0, b1⟩ := isB_of h
    obtain ⟨b, rfl⟩ := Int.eq_ofNat_of_zero_le b0
    simp only [Int.toNat_natCast] at *
    have hne' : b' ≠ b := by omega
    exact changeF_c (eraseC_far (by omega) 16 (by omega)) (eraseC_far (by omega) 16 (by omega))
  · rfl
/-- The same page reads the same. -/
def SameAt (fl fl' : Fl) (b p : Nat) : Prop := ∀ i, i < 257 → fl'.c (b * 4113 + p * 257 + i) = fl.c (b * 4113 + p * 257 + i)
theorem SameAt.at_ {fl fl' : Fl} {b p : Nat} (h : SameAt fl fl' b p) : atE fl' b p = atE fl b p := by
  have := h 0 (by omega)
  simp only [Nat.add_zero] at this
  unfold atE
  rw [this]
theorem looks_same {fl fl' : Fl} (hd : fl'.down = fl.down) (r : Bool) : looksE fl' r = looksE fl r := by unfold looksE; rw [hd]
theorem okAt_same {fl fl' : Fl} (hn : fl'.n = fl.n) (b p : Int) : okAt fl' b p = okAt fl b p := by unfold okAt; rw [hn]
theorem SameAt.readE {fl fl' : Fl} {b p : Nat} (h : SameAt fl fl' b p) (hn : fl'.n = fl.n) (hd : fl'.down = fl.down) : readE fl' (b : Int) (p : Int) = readE fl (b : Int) (p : Int) := by
  unfold M.readE
  rw [okAt_same hn, looks_same hd, Int.toNat_natCast, Int.toNat_natCast, h.at_]
theorem SameAt.readL {fl fl' : Fl} {b p : Nat} (h : SameAt fl fl' b p) (hn : fl'.n = fl.n) (hd : fl'.down = fl.down) : readL fl' (b : Int) (p : Int) = readL fl (b : Int) (p : Int) := by
  unfold M.readL
  rw [h.readE hn hd, Int.toNat_natCast, Int.toNat_natCast]
  split
  · unfold pgL
    refine List.map_congr_left fun i hi => ?_
    have := h (i + 1) (by have := List.mem_range.1 hi; omega)
    rw [show b * 4113 + p * 257 + 1 + i = b * 4113 + p * 257 + (i + 1) from by omega]
    exact this
  · rfl
/-- Behind the operation o at the fuse 1, and the power back: what FlashOne compares. -/
def oneF (fl : Fl) (o : OpD) : Fl := if o.Do = 2 then eraseF (setFuseF fl 1 o.Keep) o.Block else progF (setFuseF fl 1 o.Keep) o.Block o.Page o.B
def backF (fl : Fl) : Fl := if fl.down = true then restartF fl else fl
theorem setFuse_ok {n : Nat} {fl : Fl} (h : Quiet n fl) (k : Int) : setFuseE fl 1 = 0 ∧ setFuseF fl 1 k = { fl with fuse := 1, keep := keepV k } := by
  have h1 : setFuseE fl 1 = 0 := by unfold setFuseE looksE; rw [if_neg (by rw [h.down]; simp), if_pos (by decide)]
  exact ⟨h1, by unfold setFuseF; rw [if_pos h1]⟩
theorem back_down (fl : Fl) : (backF fl).down = false := by
  unfold backF
  split
  · rfl
  · rename_i h; simpa using h
theorem back_c (fl : Fl) : (backF fl).c = fl.c := by unfold backF; split <;> rfl
theorem back_n (fl : Fl) : (backF fl).n = fl.n := by unfold backF; split <;> rfl
theorem one_same {fl : Fl} (hq : Quiet 4 fl) (o : OpD) {b p : Nat} (hp : p < 16) (hne : ¬ ((b : Int) = o.Block ∧ (o.Do = 2 ∨ (p : Int) = o.Page))) : SameAt fl (backF (oneF fl o)) b p := by
  intro i hi
  rw [back_c]
  unfold oneF
  have h1 : (setFuseF fl 1 o.Keep).c = fl.c := by rw [(setFuse_ok hq o.Keep).2]
  split
  · rename_i h2
    rw [eraseF_far hp hi (by intro e; exact hne ⟨e, .inl h2⟩), h1]
  · rename_i h2
    rw [progF_far hp hi (by rintro ⟨e1, e2⟩; exact hne ⟨e1, .inr e2⟩), h1]
theorem one_n {n : Nat} {fl : Fl} (hq : Quiet n fl) (o : OpD) : (backF (oneF fl o)).n = n := by
  rw [back_n]
  unfold oneF
  have h1 : (setFuseF fl 1 o.Keep).n = n := by rw [(setFuse_ok hq o.Keep).2]; exact hq.n
  split
  · rw [eraseF_n, h1]
  · rw [progF_n, h1]
theorem one_fu {n : Nat} {fl : Fl} (hq : Quiet n fl) (k : Int) : 0 ≤ (setFuseF fl 1 k).fuse ∧ (setFuseF fl 1 k).fuse ≤ 9223372036854775807 := by
  rw [(setFuse_ok hq k).2]
  exact ⟨by show (0 : Int) ≤ 1; omega, by show (1 : Int) ≤ _; omega⟩
end Go.Proofs.Ytandhpnpodkemaa.M
