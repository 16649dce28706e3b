/- FlashSure, in plain Lean: what was programmed with OK stays until its block is erased. -/
import Derived.Test.YtandhpnpodkemaaFOnePure
set_option linter.unusedVariables false
set_option linter.unusedSimpArgs false
set_option maxRecDepth 100000
namespace Go.Proofs.Ytandhpnpodkemaa.M
open Go.RowKit

def SMap : Type := Int × Int → Option (List Int)
/-- A page that has the bytes l. -/
def HasP (fl : Fl) (b p : Int) (l : List Int) : Prop :=
  ∃ b' p' : Nat, b = b' ∧ p = p' ∧ b' < 4 ∧ p' < 16 ∧ l.length ≤ 256 ∧ fl.c (b' * 4113 + p' * 257) = 2 ∧ ∀ i, i < l.length → fl.c (b' * 4113 + p' * 257 + 1 + i) = l.getD i 0
structure SureI (fl : Fl) (M : Int × Int → Option (List Int)) : Prop where
  n : fl.n = 4
  down : fl.down = false
  fu : 0 ≤ fl.fuse ∧ fl.fuse ≤ 9223372036854775807
  has : ∀ b p l, M (b, p) = some l → HasP fl b p l
theorem HasP.congr {fl fl' : Fl} {b p : Int} {l : List Int} (h : HasP fl b p l) (hc : ∀ b' p' i : Nat, b = b' → p = p' → p' < 16 → i < 257 → fl'.c (b' * 4113 + p' * 257 + i) = fl.c (b' * 4113 + p' * 257 + i)) : HasP fl' b p l := by
  obtain ⟨b', p', rfl, rfl, h1, h2, h3, h4, h5⟩ := h
  refine ⟨b', p', rfl, rfl, h1, h2, h3, ?_, fun i hi => ?_⟩
  · have := hc b' p' 0 rfl rfl h2 (by omega)
    rw [Nat.add_zero] at this
    rw [this, h4]
  · have := hc b' p' (i + 1) rfl rfl h2 (by omega)
    rw [show b' * 4113 + p' * 257 + (i + 1) = b' * 4113 + p' * 257 + 1 + i from by omega] at this
    rw [this, h5 i hi]
theorem backF_fuse (fl : Fl) : (backF fl).fuse = fl.fuse := by unfold backF; split <;> rfl
theorem SureI.back {fl : Fl} {M : Int × Int → Option (List Int)} (hn : fl.n = 4) (hf : 0 ≤ fl.fuse ∧ fl.fuse ≤ 9223372036854775807) (hh : ∀ b p l, M (b, p) = some l → HasP fl b p l) : SureI (backF fl) M :=
  ⟨by rw [back_n, hn], back_down fl, by rw [backF_fuse]; exact hf, fun b p l hm => (hh b p l hm).congr (fun _ _ _ _ _ _ _ => by rw [back_c])⟩
theorem sure_new : SureI (newF 4) (fun _ => none) := ⟨rfl, rfl, by show (0 : Int) ≤ 0 ∧ (0 : Int) ≤ 9223372036854775807; omega, fun _ _ _ h => by cases h⟩
theorem changeF_fu {fl : Fl} (h : 0 ≤ fl.fuse ∧ fl.fuse ≤ 9223372036854775807) (cW cT : Nat → Int) : 0 ≤ (changeF fl cW cT).fuse ∧ (changeF fl cW cT).fuse ≤ 9223372036854775807 := by
  unfold changeF
  split
  · show (0 : Int) ≤ 0 ∧ (0 : Int) ≤ 9223372036854775807; omega
  · show 0 ≤ max (fl.fuse - 1) 0 ∧ max (fl.fuse - 1) 0 ≤ 9223372036854775807; omega
theorem progF_fu {fl : Fl} (h : 0 ≤ fl.fuse ∧ fl.fuse ≤ 9223372036854775807) (b p : Int) (l : List Int) : 0 ≤ (progF fl b p l).fuse ∧ (progF fl b p l).fuse ≤ 9223372036854775807 := by
  unfold progF; split
  · exact changeF_fu h _ _
  · exact h
theorem eraseF_fu {fl : Fl} (h : 0 ≤ fl.fuse ∧ fl.fuse ≤ 9223372036854775807) (b : Int) : 0 ≤ (eraseF fl b).fuse ∧ (eraseF fl b).fuse ≤ 9223372036854775807 := by
  unfold eraseF; split
  · exact changeF_fu h _ _
  · exact h
variable {fl : Fl} {M : Int × Int → Option (List Int)}
/-- A blank page is none of those that have bytes. -/
theorem HasP.not_blank {b p : Nat} {l : List Int} (h : HasP fl b p l) : fl.c (b * 4113 + p * 257) ≠ 0 := by
  obtain ⟨b', p', e1, e2, _, _, _, h4, _⟩ := h
  have : b = b' := by omega
  subst this
  have : p = p' := by omega
  subst this
  rw [h4]
  omega
theorem prog_no (h : SureI fl M) (b p : Int) (l : List Int) (hM : ∀ q, M (b, p) = some q → False) : SureI (backF (progF fl b p l)) M :=
  SureI.back (by rw [progF_n, h.n]) (progF_fu h.fu _ _ _) fun b2 p2 q hq => (h.has b2 p2 q hq).congr fun b' p' i e1 e2 hp hi => progF_far hp hi (by
    rintro ⟨e3, e4⟩
    subst e1; subst e2
    rw [e3, e4] at hq
    exact hM q hq)
/-- Program of a page that has bytes is refused, and changes nothing. -/
theorem prog_had (h : SureI fl M) {b p : Int} {l q : List Int} (hM : M (b, p) = some q) : progE fl b p l.length ≠ 0 ∧ progF fl b p l = fl := by
  have hp := h.has b p q hM
  obtain ⟨b', p', rfl, rfl, _⟩ := id hp
  have hn := hp.not_blank
  constructor
  · unfold progE
    rw [Int.toNat_natCast, Int.toNat_natCast, if_neg hn]
    split
    · omega
    · rename_i h1; exact h1
  · unfold progF
    rw [Int.toNat_natCast, Int.toNat_natCast, if_neg (fun e => hn e.2)]
theorem back_same (hd : fl.down = false) : backF fl = fl := by unfold backF; rw [if_neg (by rw [hd]; simp)]
theorem prog_ne (h : SureI fl M) (b p : Int) (l : List Int) : progE fl b p l.length ≠ 0 → SureI (backF (progF fl b p l)) M := fun _ => by
  cases hm : M (b, p) with
  | none => exact prog_no h b p l (fun q hq => by rw [hm] at hq; cases hq)
  | some q => rw [(prog_had (l := l) h hm).2, back_same h.down]; exact h
theorem prog_ok (h : SureI fl M) (b p : Int) (l : List Int) (h0 : progE fl b p l.length = 0) : (∀ q, M (b, p) = some q → False) ∧ l.length ≤ 256 ∧ SureI (backF (progF fl b p l)) (fun y => if y = (b, p) then some l else M y) := by
  have hno : ∀ q, M (b, p) = some q → False := fun q hq => (prog_had (l := l) h hq).1 h0
  unfold progE at h0
  split at h0
  · rename_i h1
    obtain ⟨b0, b1, p0, p1, hl⟩ := okP_of h1
    split at h0
    · rename_i h2
      refine ⟨hno, hl, SureI.back (by rw [progF_n, h.n]) (progF_fu h.fu _ _ _) fun b2 p2 q hq => ?_⟩
      have hpf : progF fl b p l = changeF fl (fullC fl.c (b.toNat * 4113 + p.toNat * 257) l) (updC fl.c (b.toNat * 4113 + p.toNat * 257) 1) := by unfold progF; rw [if_pos ⟨h1, h2⟩]
      have hfu : fl.fuse ≠ 1 := by
        intro e
        unfold changeE at h0
        rw [if_pos e] at h0
        omega
      have hcc : (progF fl b p l).c = fullC fl.c (b.toNat * 4113 + p.toNat * 257) l := by rw [hpf]; unfold changeF; rw [if_neg hfu]
      by_cases e : (b2, p2) = (b, p)
      · simp only [e, if_true, Option.some.injEq] at hq
        subst hq
        obtain ⟨rfl, rfl⟩ := Prod.mk.inj e
        obtain ⟨b, rfl⟩ := Int.eq_ofNat_of_zero_le b0
        obtain ⟨p, rfl⟩ := Int.eq_ofNat_of_zero_le p0
        rw [Int.toNat_natCast, Int.toNat_natCast] at hcc
        refine ⟨b, p, rfl, rfl, by have := h.n; omega, by omega, hl, ?_, fun i hi => ?_⟩
        · rw [hcc]
          unfold fullC
          rw [putL_far (by omega), putL_far (by omega), updC_same]
        · rw [hcc]
          unfold fullC
          rw [putL_far (by omega)]
          unfold putL
          rw [if_pos (by omega), show b * 4113 + p * 257 + 1 + i - (b * 4113 + p * 257 + 1) = i from by omega]
      · simp only [e, if_false] at hq
        exact (h.has b2 p2 q hq).congr fun b' p' i e1 e2 hp hi => progF_far hp hi (by
          rintro ⟨e3, e4⟩
          subst e1; subst e2
          exact e (by rw [e3, e4]))
    · omega
  · rename_i h1; exact absurd h0 h1
theorem erase_del (h : SureI fl M) (b : Int) : SureI (backF (eraseF fl b)) (fun y => if y.1 = b ∧ 0 ≤ y.2 ∧ y.2 < 16 then none else M y) :=
  SureI.back (by rw [eraseF_n, h.n]) (eraseF_fu h.fu _) fun b2 p2 q hq => by
    simp only at hq
    split at hq
    · cases hq
    · rename_i hne
      have hp := h.has b2 p2 q hq
      refine hp.congr fun b' p' i e1 e2 hp hi => eraseF_far hp hi (by
        intro e3
        subst e1; subst e2
        exact hne ⟨e3, by omega, by omega⟩)
theorem erase_no (h : SureI fl M) (b : Int) (h0 : eraseE fl b ≠ 0) (h1 : (eraseF fl b).down = false) : eraseF fl b = fl := by
  unfold eraseE at h0
  unfold eraseF at h1 ⊢
  split
  · rename_i h2
    rw [if_pos h2] at h0 h1
    unfold changeE at h0
    split at h0
    · rename_i h3
      unfold changeF at h1
      rw [if_pos h3] at h1
      cases h1
    · omega
  · rfl
theorem fuse_sure (h : SureI fl M) (n k : Int) (hn : n ≤ 9223372036854775807) : SureI (backF (setFuseF fl n k)) M := by
  unfold setFuseF
  split
  · rename_i h0
    have h1 : 1 ≤ n := by
      unfold setFuseE looksE at h0
      rw [if_neg (by rw [h.down]; simp)] at h0
      split at h0
      · rename_i h2; simpa using h2
      · omega
    exact SureI.back h.n (by show 0 ≤ n ∧ n ≤ 9223372036854775807; omega) fun b p l hm => (h.has b p l hm).congr (fun _ _ _ _ _ _ _ => rfl)
  · exact SureI.back h.n h.fu h.has
theorem crash_sure (h : SureI fl M) : SureI (backF (crashF fl)) M := by
  unfold crashF
  split
  · exact SureI.back h.n (by show (0 : Int) ≤ 0 ∧ (0 : Int) ≤ 9223372036854775807; omega) fun b p l hm => (h.has b p l hm).congr (fun _ _ _ _ _ _ _ => rfl)
  · exact SureI.back h.n h.fu h.has
theorem read_sure (h : SureI fl M) {b p : Int} {l : List Int} (hm : M (b, p) = some l) : readE fl b p = 0 ∧ (readL fl b p).length = 256 ∧ (readL fl b p).take l.length = l ∧ l.length ≤ 256 := by
  obtain ⟨b, p, rfl, rfl, h1, h2, h3, h4, h5⟩ := h.has b p l hm
  have hl : looksE fl (okAt fl b p) = 0 := by
    unfold looksE okAt
    rw [if_neg (by rw [h.down]; simp), if_pos (by simp [h.n]; omega)]
  have hr : readE fl (b : Int) (p : Int) = 0 := by
    unfold readE atE
    rw [if_pos hl, Int.toNat_natCast, Int.toNat_natCast, h4]
    rfl
  refine ⟨hr, ?_, ?_, h3⟩
  · unfold readL
    rw [if_pos hr]
    simp [pgL]
  · unfold readL
    rw [if_pos hr, Int.toNat_natCast, Int.toNat_natCast]
    refine List.ext_getElem? fun i => ?_
    rcases Nat.lt_or_ge i l.length with hi | hi
    · rw [List.getElem?_take_of_lt hi]
      unfold pgL
      rw [List.getElem?_map, List.getElem?_range (by omega), Option.map_some, h5 i hi, List.getD_eq_getElem?_getD, List.getElem?_eq_getElem hi]
      rfl
    · rw [List.getElem?_eq_none (by rw [List.length_take]; omega), List.getElem?_eq_none hi]
end Go.Proofs.Ytandhpnpodkemaa.M
