/- SkipSameSaid: contracts of the functions that the law goes through, put together in build order (part 1 of 3). -/
import Derived.Test.YtdolmkiiflhehaaWShare
import Derived.WalkKit
import Derived.Below
import Derived.Test.YtdolmkiiflhehaaProg
import Derived.WalkLawsBesides
import Derived.WalkSpells
import Derived.KernelRfl
import Derived.Lib.Hide
import Derived.Lib.SmallJoins
import Derived.StillTailTactics
import Derived.Laws.ResultCell
import Derived.Test.YtdolmkiiflhehaaWEqStruct
import Derived.Test.YtdolmkiiflhehaaRows
import Derived.Test.YtdolmkiiflhehaaWFoot
import Derived.ProofKit
import Derived.OpenShut
import Derived.ShutString
import Derived.ChangeOld
import Derived.SizedLaws
import Derived.Deep.CondSized
import Derived.Test.YtdolmkiiflhehaaWMore
import Derived.Test.YtdolmkiiflhehaaWWords
import Derived.Test.YtdolmkiiflhehaaWLast
import Derived.Test.YtdolmkiiflhehaaWN
import Derived.RangeFuncNested
import Derived.RangeFuncBound
import Derived.RangeFuncCalls
import Derived.RangeFuncLeaves
import Derived.RangeFuncBox
import Derived.Shelf.Abstract
import Derived.OwnWalkIn
import Derived.TacticsInMore
import Derived.LoopNIn
import Derived.LoopIn
import Derived.Maps.OwnIn
import Derived.RangeFuncFrom
import Derived.Deep.RegionHeld3
import Derived.Test.YtdolmkiiflhehaaWTab
import Derived.OrdersIn
import Derived.TacticsIn
section
/- A skip list, in plain Lean: nodes in order, each with a height; what a level's search comes to; a node put in, a node taken out. -/
set_option linter.unusedVariables false
set_option linter.unusedSimpArgs false
namespace Go.Proofs.Ytdolmkiiflhehaa.M
structure CellD where
  table : Int
  row : Int
  value : Int
  slot : Int
  deriving DecidableEq
def CellD.key (c : CellD) : Int × Int := (c.table, c.row)
structure Nd where
  b : Nat
  c : CellD
  hi : Nat
def kLt (x y : Int × Int) : Bool := decide (x.1 < y.1) || (decide (x.1 = y.1) && decide (x.2 < y.2))
theorem kLt_irrefl (x : Int × Int) : kLt x x = false := by unfold kLt; simp
theorem kLt_trans {x y z : Int × Int} (h : kLt x y = true) (k : kLt y z = true) : kLt x z = true := by
  unfold kLt at *
  simp only [Bool.or_eq_true, Bool.and_eq_true, decide_eq_true_eq] at *
  omega
theorem kLt_total {x y : Int × Int} (h : kLt x y = false) (k : kLt y x = false) : x = y := by
  unfold kLt at *
  simp only [Bool.or_eq_false_iff, Bool.and_eq_false_iff, decide_eq_false_iff_not] at *
  exact Prod.ext (by omega) (by omega)
def Sorted (L : List Nd) : Prop := L.Pairwise (fun a b => kLt a.c.key b.c.key = true)
def rank (L : List Nd) (k : Int × Int) : Nat := (L.takeWhile (fun e => kLt e.c.key k)).length
theorem rank_le (L : List Nd) (k : Int × Int) : rank L k ≤ L.length := by
  unfold rank
  induction L with
  | nil => simp
  | cons e L ih => rw [List.takeWhile_cons]; split <;> simp <;> omega
theorem rank_lt {L : List Nd} (hs : Sorted L) {k : Int × Int} {j : Nat} {e : Nd} (hj : L[j]? = some e) : kLt e.c.key k = decide (j < rank L k) := by
  induction L generalizing j with
  | nil => simp at hj
  | cons a L ih =>
    have hs' := List.pairwise_cons.1 hs
    unfold rank
    rw [List.takeWhile_cons]
    cases j with
    | zero =>
      simp only [List.getElem?_cons_zero, Option.some.injEq] at hj
      subst hj
      cases h : kLt a.c.key k <;> simp
    | succ j =>
      simp only [List.getElem?_cons_succ] at hj
      have := ih hs'.2 hj
      cases h : kLt a.c.key k with
      | true =>
        simp only [if_true, List.length_cons]
        rw [this]
        unfold rank
        simp
      | false =>
        simp only [Bool.false_eq_true, if_false, List.length_nil]
        have hae := hs'.1 e (List.mem_of_getElem? hj)
        cases h2 : kLt e.c.key k with
        | false => simp
        | true => have := kLt_trans hae h2; rw [h] at this; cases this
def nxPos (L : List Nd) (l : Nat) : Nat → Nat → Option Nat
  | _, 0 => none
  | a, fuel + 1 => match L[a]? with
    | none => none
    | some e => if l < e.hi then some a else nxPos L l (a + 1) fuel
def hiAt (L : List Nd) (i : Nat) : Nat := match L[i]? with | some e => e.hi | none => 0
def blkAt (L : List Nd) (i : Nat) : Nat := match L[i]? with | some e => e.b | none => 0
def adr (h : Nat) (L : List Nd) (a : Nat) : Nat := match a with | 0 => h | a + 1 => blkAt L a
def hiP (L : List Nd) (a : Nat) : Nat := match a with | 0 => 8 | a + 1 => hiAt L a
theorem nxPos_some {L : List Nd} {l : Nat} : ∀ {fuel a j : Nat}, nxPos L l a fuel = some j → a ≤ j ∧ j < L.length ∧ l < hiAt L j ∧ ∀ i, a ≤ i → i < j → hiAt L i ≤ l := by
  intro fuel
  induction fuel with
  | zero => intro a j h; simp [nxPos] at h
  | succ n ih =>
    intro a j h
    unfold nxPos at h
    cases he : L[a]? with
    | none => rw [he] at h; cases h
    | some e =>
      rw [he] at h
      simp only at h
      split at h
      · rename_i hl
        cases h
        have := (List.getElem?_eq_some_iff.1 he).1
        exact ⟨Nat.le_refl _, this, by unfold hiAt; rw [he]; exact hl, fun i h1 h2 => by omega⟩
      · rename_i hl
        obtain ⟨h1, h2, h3, h4⟩ := ih h
        refine ⟨by omega, h2, h3, fun i h5 h6 => ?_⟩
        rcases Nat.eq_or_lt_of_le h5 with h7 | h7
        · subst h7
          unfold hiAt; rw [he]; simp only; omega
        · exact h4 i h7 h6
theorem nxPos_none {L : List Nd} {l : Nat} : ∀ {fuel a : Nat}, nxPos L l a fuel = none → L.length ≤ a + fuel → ∀ i, a ≤ i → i < L.length → hiAt L i ≤ l := by
  intro fuel
  induction fuel with
  | zero => intro a h hf i h1 h2; omega
  | succ n ih =>
    intro a h hf i h1 h2
    unfold nxPos at h
    cases he : L[a]? with
    | none =>
      have := List.getElem?_eq_none_iff.1 he
      omega
    | some e =>
      rw [he] at h
      simp only at h
      split at h
      · cases h
      · rename_i hl
        rcases Nat.eq_or_lt_of_le h1 with h7 | h7
        · subst h7
          unfold hiAt; rw [he]; simp only; omega
        · exact ih h (by omega) i h7 h2
def nxt (L : List Nd) (l a : Nat) : Option Nat := (nxPos L l a L.length).map (blkAt L)
theorem nxPos_eq {L : List Nd} {l a j : Nat} (h1 : a ≤ j) (h2 : j < L.length) (h3 : l < hiAt L j) (h4 : ∀ i, a ≤ i → i < j → hiAt L i ≤ l) : nxPos L l a L.length = some j := by
  cases h : nxPos L l a L.length with
  | none => have := nxPos_none h (by omega) j h1 h2; omega
  | some j' =>
    obtain ⟨g1, g2, g3, g4⟩ := nxPos_some h
    rcases Nat.lt_trichotomy j j' with h5 | h5 | h5
    · have := g4 j h1 h5; omega
    · rw [h5]
    · have := h4 j' g1 h5; omega
theorem nxPos_nil {L : List Nd} {l a : Nat} (h : ∀ i, a ≤ i → i < L.length → hiAt L i ≤ l) : nxPos L l a L.length = none := by
  cases h' : nxPos L l a L.length with
  | none => rfl
  | some j => obtain ⟨g1, g2, g3, g4⟩ := nxPos_some h'; have := h j g1 g2; omega
def pre (L : List Nd) (l : Nat) : Nat → Nat
  | 0 => 0
  | m + 1 => if l < hiAt L m then m + 1 else pre L l m
theorem pre_le (L : List Nd) (l : Nat) : ∀ m, pre L l m ≤ m
  | 0 => Nat.le_refl _
  | m + 1 => by unfold pre; split; exact Nat.le_refl _; exact Nat.le_succ_of_le (pre_le L l m)
theorem pre_hi (L : List Nd) {l : Nat} (hl : l < 8) : ∀ m, l < hiP L (pre L l m)
  | 0 => hl
  | m + 1 => by
    unfold pre
    split
    · rename_i h; exact h
    · exact pre_hi L hl m
theorem pre_gap (L : List Nd) (l : Nat) : ∀ m i, pre L l m ≤ i → i < m → hiAt L i ≤ l
  | 0, i, _, h => by omega
  | m + 1, i, h1, h2 => by
    unfold pre at h1
    split at h1
    · omega
    · rename_i h
      rcases Nat.eq_or_lt_of_le (Nat.le_of_lt_succ h2) with h3 | h3
      · subst h3; omega
      · exact pre_gap L l m i h1 h3
theorem pre_eq {L : List Nd} {l a m : Nat} (h1 : a ≤ m) (h2 : a = 0 ∨ l < hiP L a) (h3 : ∀ i, a ≤ i → i < m → hiAt L i ≤ l) : pre L l m = a := by
  have g1 := pre_le L l m
  rcases Nat.lt_trichotomy (pre L l m) a with h | h | h
  · have : ∃ a', a = a' + 1 := ⟨a - 1, by omega⟩
    obtain ⟨a', rfl⟩ := this
    have h4 := pre_gap L l m a' (by omega) (by omega)
    rcases h2 with h2 | h2
    · omega
    · exact absurd h2 (by show ¬ l < hiAt L a'; omega)
  · exact h
  · have : ∃ q, pre L l m = q + 1 := ⟨pre L l m - 1, by omega⟩
    obtain ⟨q, hq⟩ := this
    have h4 := h3 q (by omega) (by omega)
    have h5 : l < hiAt L q := by
      have : ∀ m, pre L l m = q + 1 → l < hiAt L q := by
        intro m
        induction m with
        | zero => intro h; simp [pre] at h
        | succ m ih =>
          intro h
          unfold pre at h
          split at h
          · rename_i h6; have : m = q := by omega
            subst this; exact h6
          · exact ih h
      exact this m hq
    omega
def cntHi (L : List Nd) (l a0 a : Nat) : Nat := ((List.range a).filter (fun i => decide (a0 ≤ i) && decide (l < hiAt L i))).length
theorem cntHi_self (L : List Nd) (l a : Nat) : cntHi L l a a = 0 := by
  unfold cntHi
  rw [List.length_eq_zero_iff, List.filter_eq_nil_iff]
  intro i hi
  have := List.mem_range.1 hi
  simp; omega
theorem cntHi_succ (L : List Nd) (l a0 a : Nat) (h : a0 ≤ a) : cntHi L l a0 (a + 1) = cntHi L l a0 a + (if l < hiAt L a then 1 else 0) := by
  unfold cntHi
  rw [List.range_succ, List.filter_append, List.length_append]
  congr 1
  by_cases hl : l < hiAt L a <;> simp [h, hl]
theorem cntHi_skip (L : List Nd) (l a0 a : Nat) (h0 : a0 ≤ a) : ∀ n, (∀ i, a ≤ i → i < a + n → hiAt L i ≤ l) → cntHi L l a0 (a + n) = cntHi L l a0 a
  | 0, _ => rfl
  | n + 1, h => by
    rw [show a + (n + 1) = (a + n) + 1 from rfl, cntHi_succ L l a0 (a + n) (by omega), if_neg (by have := h (a + n) (by omega) (by omega); omega), cntHi_skip L l a0 a h0 n (fun i h1 h2 => h i h1 (by omega)), Nat.add_zero]
theorem cntHi_le (L : List Nd) (l a0 : Nat) : ∀ n, cntHi L l a0 (a0 + n) ≤ n
  | 0 => by rw [Nat.add_zero, cntHi_self]; exact Nat.le_refl _
  | n + 1 => by
    have := cntHi_le L l a0 n
    rw [show a0 + (n + 1) = (a0 + n) + 1 from rfl, cntHi_succ L l a0 (a0 + n) (by omega)]
    split <;> omega
theorem cntHi_step (L : List Nd) (l a0 a j : Nat) (h0 : a0 ≤ a) (h1 : a ≤ j) (h2 : ∀ i, a ≤ i → i < j → hiAt L i ≤ l) (h3 : l < hiAt L j) : cntHi L l a0 (j + 1) = cntHi L l a0 a + 1 := by
  rw [cntHi_succ L l a0 j (by omega), if_pos h3]
  congr 1
  obtain ⟨n, rfl⟩ : ∃ n, j = a + n := ⟨j - a, by omega⟩
  exact cntHi_skip L l a0 a h0 n h2
def stp (L : List Nd) (m : Nat) : Nat → Nat
  | 0 => 0
  | n + 1 => stp L m n + (cntHi L (7 - n) (pre L (8 - n) m) (pre L (7 - n) m) + (if (nxPos L (7 - n) (pre L (7 - n) m) L.length).isSome then 1 else 0))
theorem pre_mono (L : List Nd) {l l' : Nat} (h : l ≤ l') : ∀ m, pre L l' m ≤ pre L l m
  | 0 => Nat.le_refl _
  | m + 1 => by
    have h1 := pre_le L l' (m + 1)
    have h2 := pre_mono L h m
    have h3 := pre_le L l' m
    unfold pre
    split <;> split <;> omega
theorem stp_le (L : List Nd) (m : Nat) : ∀ n, n ≤ 8 → stp L m n ≤ pre L (8 - n) m + n
  | 0, _ => by simp [stp]
  | n + 1, h => by
    have h1 := stp_le L m n (by omega)
    have h2 := pre_mono L (show 7 - n ≤ 8 - n by omega) m
    have h3 := cntHi_le L (7 - n) (pre L (8 - n) m) (pre L (7 - n) m - pre L (8 - n) m)
    rw [show pre L (8 - n) m + (pre L (7 - n) m - pre L (8 - n) m) = pre L (7 - n) m by omega] at h3
    unfold stp
    rw [show 8 - (n + 1) = 7 - n by omega]
    split <;> omega
def Links (nx : Nat → Nat → Option Nat) (h : Nat) (L : List Nd) : Prop := ∀ a, a ≤ L.length → ∀ l, l < hiP L a → nx (adr h L a) l = nxt L l a
def Apart (h : Nat) (L : List Nd) : Prop := (h :: L.map (·.b)).Nodup
theorem blkAt_map (L : List Nd) (i : Nat) (hi : i < L.length) : (L.map (·.b))[i]? = some (blkAt L i) := by
  unfold blkAt
  rw [List.getElem?_map, List.getElem?_eq_getElem hi]
  rfl
theorem adr_get (h : Nat) (L : List Nd) {a : Nat} (ha : a ≤ L.length) : (h :: L.map (·.b))[a]? = some (adr h L a) := by
  cases a with
  | zero => rfl
  | succ a => rw [List.getElem?_cons_succ]; exact blkAt_map L a (by omega)
theorem adr_inj {h : Nat} {L : List Nd} (hn : Apart h L) {a a' : Nat} (ha : a ≤ L.length) (ha' : a' ≤ L.length) (e : adr h L a = adr h L a') : a = a' := by
  have h1 := adr_get h L ha
  have h2 := adr_get h L ha'
  rw [e] at h1
  have hl : a < (h :: L.map (·.b)).length := by simp; omega
  exact (List.getElem?_inj hl hn).1 (h1.trans h2.symm)
theorem adr_mem (h : Nat) (L : List Nd) {a : Nat} (ha : a ≤ L.length) : adr h L a ∈ h :: L.map (·.b) := List.mem_of_getElem? (adr_get h L ha)
def ins (L : List Nd) (m : Nat) (e : Nd) : List Nd := L.take m ++ e :: L.drop m
theorem ins_length {L : List Nd} {m : Nat} (hm : m ≤ L.length) (e : Nd) : (ins L m e).length = L.length + 1 := by unfold ins; simp; omega
theorem ins_get {L : List Nd} {m : Nat} (hm : m ≤ L.length) (e : Nd) (i : Nat) : (ins L m e)[i]? = if i < m then L[i]? else if i = m then some e else L[i - 1]? := by
  unfold ins
  have hl : (L.take m).length = m := by simp; omega
  by_cases h1 : i < m
  · rw [if_pos h1, List.getElem?_append_left (by omega), List.getElem?_take_of_lt h1]
  · rw [if_neg h1, List.getElem?_append_right (by omega), hl]
    by_cases h2 : i = m
    · subst h2; rw [if_pos rfl]; simp
    · rw [if_neg h2, show i - m = (i - 1 - m) + 1 by omega, List.getElem?_cons_succ, List.getElem?_drop, show m + (i - 1 - m) = i - 1 by omega]
theorem ins_hi {L : List Nd} {m : Nat} (hm : m ≤ L.length) (e : Nd) (i : Nat) : hiAt (ins L m e) i = if i < m then hiAt L i else if i = m then e.hi else hiAt L (i - 1) := by
  unfold hiAt
  rw [ins_get hm]
  by_cases h1 : i < m
  · simp [h1]
  · by_cases h2 : i = m <;> simp [h1, h2]
theorem ins_blk {L : List Nd} {m : Nat} (hm : m ≤ L.length) (e : Nd) (i : Nat) : blkAt (ins L m e) i = if i < m then blkAt L i else if i = m then e.b else blkAt L (i - 1) := by
  unfold blkAt
  rw [ins_get hm]
  by_cases h1 : i < m
  · simp [h1]
  · by_cases h2 : i = m <;> simp [h1, h2]
def insNx (nx : Nat → Nat → Option Nat) (h : Nat) (L : List Nd) (m : Nat) (e : Nd) (b l : Nat) : Option Nat :=
  if l < e.hi then (if b = e.b then nx (adr h L (pre L l m)) l else if b = adr h L (pre L l m) then some e.b else nx b l) else nx b l
theorem ins_links {nx : Nat → Nat → Option Nat} {h : Nat} {L : List Nd} {m : Nat} {e : Nd} (hl : Links nx h L) (hn : Apart h L) (hm : m ≤ L.length) (he : e.b ∉ h :: L.map (·.b)) (h8 : e.hi ≤ 8) : Links (insNx nx h L m e) h (ins L m e) := by
  intro a ha l hla
  have hlen := ins_length hm e
  have hpm := pre_le L l m
  have hne : ∀ a, a ≤ L.length → adr h L a ≠ e.b := fun a ha heq => he (heq ▸ adr_mem h L ha)
  rw [hlen] at ha
  by_cases h1 : a ≤ m
  · have hadr : adr h (ins L m e) a = adr h L a := by
      cases a with
      | zero => rfl
      | succ a => show blkAt _ a = blkAt _ a; rw [ins_blk hm, if_pos (by omega)]
    have hhi : hiP (ins L m e) a = hiP L a := by
      cases a with
      | zero => rfl
      | succ a => show hiAt _ a = hiAt _ a; rw [ins_hi hm, if_pos (by omega)]
    rw [hhi] at hla
    rw [hadr]
    have hold := hl a (by omega) l hla
    unfold insNx
    rw [if_neg (hne a (by omega))]
    by_cases hex : ∃ j, a ≤ j ∧ j < m ∧ l < hiAt L j ∧ ∀ i, a ≤ i → i < j → hiAt L i ≤ l
    · obtain ⟨j, j1, j2, j3, j4⟩ := hex
      have hp : adr h L a ≠ adr h L (pre L l m) := fun e' => by
        have := adr_inj hn (by omega) (by omega) e'
        have := pre_gap L l m j (by omega) j2
        omega
      rw [if_neg hp, ite_self, hold]
      unfold nxt
      rw [nxPos_eq j1 (by omega) j3 j4, nxPos_eq (L := ins L m e) (j := j) j1 (by omega) (by rw [ins_hi hm, if_pos j2]; exact j3) (fun i i1 i2 => by rw [ins_hi hm, if_pos (by omega)]; exact j4 i i1 i2)]
      simp only [Option.map_some]
      rw [ins_blk hm, if_pos j2]
    · have hgap : ∀ i, a ≤ i → i < m → hiAt L i ≤ l := by
        intro i
        induction i using Nat.strongRecOn with
        | ind i ih =>
          intro i1 i2
          rcases Nat.lt_or_ge l (hiAt L i) with h3 | h3
          · exact absurd ⟨i, i1, i2, h3, fun i' h5 h6 => ih i' h6 h5 (by omega)⟩ hex
          · exact h3
      have hpre : pre L l m = a := pre_eq h1 (.inr hla) hgap
      by_cases hle : l < e.hi
      · rw [if_pos hle, hpre, if_pos rfl]
        unfold nxt
        rw [nxPos_eq (L := ins L m e) (j := m) h1 (by omega) (by rw [ins_hi hm, if_neg (by omega), if_pos rfl]; exact hle) (fun i i1 i2 => by rw [ins_hi hm, if_pos i2]; exact hgap i i1 i2)]
        simp only [Option.map_some]
        rw [ins_blk hm, if_neg (by omega), if_pos rfl]
      · rw [if_neg hle, hold]
        unfold nxt
        cases hq : nxPos L l a L.length with
        | none =>
          have hq' := nxPos_none hq (by omega)
          rw [nxPos_nil (L := ins L m e) (fun i i1 i2 => by
            rw [ins_hi hm]
            split
            · exact hq' i i1 (by omega)
            · split
              · omega
              · exact hq' (i - 1) (by omega) (by omega))]
          rfl
        | some j =>
          obtain ⟨j1, j2, j3, j4⟩ := nxPos_some hq
          have hjm : m ≤ j := by
            rcases Nat.lt_or_ge j m with h5 | h5
            · have := hgap j j1 h5; omega
            · exact h5
          rw [nxPos_eq (L := ins L m e) (j := j + 1) (by omega) (by omega) (by rw [ins_hi hm, if_neg (by omega), if_neg (by omega)]; exact j3) (fun i i1 i2 => by
            rw [ins_hi hm]
            split
            · exact hgap i i1 (by omega)
            · split
              · omega
              · exact j4 (i - 1) (by omega) (by omega))]
          simp only [Option.map_some]
          rw [ins_blk hm, if_neg (by omega), if_neg (by omega)]
          rfl
  · by_cases h2 : a = m + 1
    · subst h2
      have hadr : adr h (ins L m e) (m + 1) = e.b := by show blkAt _ m = _; rw [ins_blk hm, if_neg (by omega), if_pos rfl]
      have hhi : hiP (ins L m e) (m + 1) = e.hi := by show hiAt _ m = _; rw [ins_hi hm, if_neg (by omega), if_pos rfl]
      rw [hhi] at hla
      rw [hadr]
      unfold insNx
      rw [if_pos hla, if_pos rfl, hl _ (by omega) l (pre_hi L (by omega) m)]
      unfold nxt
      cases hq : nxPos L l (pre L l m) L.length with
      | none =>
        have hq' := nxPos_none hq (by omega)
        rw [nxPos_nil (L := ins L m e) (fun i i1 i2 => by
          rw [ins_hi hm, if_neg (by omega), if_neg (by omega)]
          exact hq' (i - 1) (by omega) (by omega))]
        rfl
      | some j =>
        obtain ⟨j1, j2, j3, j4⟩ := nxPos_some hq
        have hjm : m ≤ j := by
          rcases Nat.lt_or_ge j m with h5 | h5
          · have := pre_gap L l m j j1 h5; omega
          · exact h5
        rw [nxPos_eq (L := ins L m e) (j := j + 1) (by omega) (by omega) (by rw [ins_hi hm, if_neg (by omega), if_neg (by omega)]; exact j3) (fun i i1 i2 => by
          rw [ins_hi hm, if_neg (by omega), if_neg (by omega)]
          exact j4 (i - 1) (by omega) (by omega))]
        simp only [Option.map_some]
        rw [ins_blk hm, if_neg (by omega), if_neg (by omega)]
        rfl
    · obtain ⟨a, rfl⟩ : ∃ a', a = a' + 2 := ⟨a - 2, by omega⟩
      have hadr : adr h (ins L m e) (a + 2) = adr h L (a + 1) := by show blkAt _ (a + 1) = blkAt L a; rw [ins_blk hm, if_neg (by omega), if_neg (by omega)]; rfl
      have hhi : hiP (ins L m e) (a + 2) = hiP L (a + 1) := by show hiAt _ (a + 1) = hiAt L a; rw [ins_hi hm, if_neg (by omega), if_neg (by omega)]; rfl
      rw [hhi] at hla
      rw [hadr]
      unfold insNx
      have hp : adr h L (a + 1) ≠ adr h L (pre L l m) := fun e' => by
        have := adr_inj hn (by omega) (by omega) e'
        omega
      rw [if_neg (hne (a + 1) (by omega)), if_neg hp, ite_self, hl _ (by omega) l hla]
      unfold nxt
      cases hq : nxPos L l (a + 1) L.length with
      | none =>
        have hq' := nxPos_none hq (by omega)
        rw [nxPos_nil (L := ins L m e) (fun i i1 i2 => by
          rw [ins_hi hm, if_neg (by omega), if_neg (by omega)]
          exact hq' (i - 1) (by omega) (by omega))]
        rfl
      | some j =>
        obtain ⟨j1, j2, j3, j4⟩ := nxPos_some hq
        rw [nxPos_eq (L := ins L m e) (j := j + 1) (by omega) (by omega) (by rw [ins_hi hm, if_neg (by omega), if_neg (by omega)]; exact j3) (fun i i1 i2 => by
          rw [ins_hi hm, if_neg (by omega), if_neg (by omega)]
          exact j4 (i - 1) (by omega) (by omega))]
        simp only [Option.map_some]
        rw [ins_blk hm, if_neg (by omega), if_neg (by omega)]
        rfl
def del (L : List Nd) (m : Nat) : List Nd := L.take m ++ L.drop (m + 1)
theorem del_length {L : List Nd} {m : Nat} (hm : m < L.length) : (del L m).length + 1 = L.length := by unfold del; simp; omega
theorem del_get {L : List Nd} {m : Nat} (hm : m < L.length) (i : Nat) : (del L m)[i]? = if i < m then L[i]? else L[i + 1]? := by
  unfold del
  have hl : (L.take m).length = m := by simp; omega
  by_cases h1 : i < m
  · rw [if_pos h1, List.getElem?_append_left (by omega), List.getElem?_take_of_lt h1]
  · rw [if_neg h1, List.getElem?_append_right (by omega), hl, List.getElem?_drop, show m + 1 + (i - m) = i + 1 by omega]
theorem del_hi {L : List Nd} {m : Nat} (hm : m < L.length) (i : Nat) : hiAt (del L m) i = if i < m then hiAt L i else hiAt L (i + 1) := by
  unfold hiAt
  rw [del_get hm]
  by_cases h1 : i < m <;> simp [h1]
theorem del_blk {L : List Nd} {m : Nat} (hm : m < L.length) (i : Nat) : blkAt (del L m) i = if i < m then blkAt L i else blkAt L (i + 1) := by
  unfold blkAt
  rw [del_get hm]
  by_cases h1 : i < m <;> simp [h1]
def delNx (nx : Nat → Nat → Option Nat) (h : Nat) (L : List Nd) (m : Nat) (b l : Nat) : Option Nat :=
  if l < hiAt L m ∧ b = adr h L (pre L l m) then nx (blkAt L m) l else nx b l
theorem del_links {nx : Nat → Nat → Option Nat} {h : Nat} {L : List Nd} {m : Nat} (hl : Links nx h L) (hn : Apart h L) (hm : m < L.length) : Links (delNx nx h L m) h (del L m) := by
  intro a ha l hla
  have hlen := del_length hm
  have hpm := pre_le L l m
  by_cases h1 : a ≤ m
  · have hadr : adr h (del L m) a = adr h L a := by
      cases a with
      | zero => rfl
      | succ a => show blkAt _ a = blkAt _ a; rw [del_blk hm, if_pos (by omega)]
    have hhi : hiP (del L m) a = hiP L a := by
      cases a with
      | zero => rfl
      | succ a => show hiAt _ a = hiAt _ a; rw [del_hi hm, if_pos (by omega)]
    rw [hhi] at hla
    rw [hadr]
    have hold := hl a (by omega) l hla
    unfold delNx
    by_cases hex : ∃ j, a ≤ j ∧ j < m ∧ l < hiAt L j ∧ ∀ i, a ≤ i → i < j → hiAt L i ≤ l
    · obtain ⟨j, j1, j2, j3, j4⟩ := hex
      have hp : ¬ (l < hiAt L m ∧ adr h L a = adr h L (pre L l m)) := fun e' => by
        have := adr_inj hn (by omega) (by omega) e'.2
        have := pre_gap L l m j (by omega) j2
        omega
      rw [if_neg hp, hold]
      unfold nxt
      rw [nxPos_eq j1 (by omega) j3 j4, nxPos_eq (L := del L m) (j := j) j1 (by omega) (by rw [del_hi hm, if_pos j2]; exact j3) (fun i i1 i2 => by rw [del_hi hm, if_pos (by omega)]; exact j4 i i1 i2)]
      simp only [Option.map_some]
      rw [del_blk hm, if_pos j2]
    · have hgap : ∀ i, a ≤ i → i < m → hiAt L i ≤ l := by
        intro i
        induction i using Nat.strongRecOn with
        | ind i ih =>
          intro i1 i2
          rcases Nat.lt_or_ge l (hiAt L i) with h3 | h3
          · exact absurd ⟨i, i1, i2, h3, fun i' h5 h6 => ih i' h6 h5 (by omega)⟩ hex
          · exact h3
      have hpre : pre L l m = a := pre_eq h1 (.inr hla) hgap
      have hval : (if l < hiAt L m ∧ adr h L a = adr h L (pre L l m) then nx (blkAt L m) l else nx (adr h L a) l) = nxt L l (m + 1) := by
        by_cases hle : l < hiAt L m
        · rw [if_pos ⟨hle, by rw [hpre]⟩]
          exact hl (m + 1) (by omega) l hle
        · rw [if_neg (fun e' => hle e'.1), hold]
          unfold nxt
          congr 1
          cases hq : nxPos L l (m + 1) L.length with
          | none =>
            have hq' := nxPos_none hq (by omega)
            exact nxPos_nil (fun i i1 i2 => by
              rcases Nat.lt_trichotomy i m with h5 | h5 | h5
              · exact hgap i i1 h5
              · subst h5; omega
              · exact hq' i (by omega) i2)
          | some j =>
            obtain ⟨j1, j2, j3, j4⟩ := nxPos_some hq
            exact nxPos_eq (by omega) j2 j3 (fun i i1 i2 => by
              rcases Nat.lt_trichotomy i m with h5 | h5 | h5
              · exact hgap i i1 h5
              · subst h5; omega
              · exact j4 i (by omega) i2)
      rw [hval]
      unfold nxt
      cases hq : nxPos L l (m + 1) L.length with
      | none =>
        have hq' := nxPos_none hq (by omega)
        rw [nxPos_nil (L := del L m) (fun i i1 i2 => by
          rw [del_hi hm]
          split
          · rename_i h5; exact hgap i i1 h5
          · exact hq' (i + 1) (by omega) (by omega))]
        rfl
      | some j =>
        obtain ⟨j1, j2, j3, j4⟩ := nxPos_some hq
        obtain ⟨j, rfl⟩ : ∃ j', j = j' + 1 := ⟨j - 1, by omega⟩
        rw [nxPos_eq (L := del L m) (j := j) (by omega) (by omega) (by rw [del_hi hm, if_neg (by omega)]; exact j3) (fun i i1 i2 => by
          rw [del_hi hm]
          split
          · rename_i h5; exact hgap i i1 h5
          · exact j4 (i + 1) (by omega) (by omega))]
        simp only [Option.map_some]
        rw [del_blk hm, if_neg (by omega)]
  · obtain ⟨a, rfl⟩ : ∃ a', a = a' + 1 := ⟨a - 1, by omega⟩
    have hadr : adr h (del L m) (a + 1) = adr h L (a + 2) := by show blkAt _ a = blkAt L (a + 1); rw [del_blk hm, if_neg (by omega)]
    have hhi : hiP (del L m) (a + 1) = hiP L (a + 2) := by show hiAt _ a = hiAt L (a + 1); rw [del_hi hm, if_neg (by omega)]
    rw [hhi] at hla
    rw [hadr]
    unfold delNx
    have hp : ¬ (l < hiAt L m ∧ adr h L (a + 2) = adr h L (pre L l m)) := fun e' => by
      have := adr_inj hn (by omega) (by omega) e'.2
      omega
    rw [if_neg hp, hl _ (by omega) l hla]
    unfold nxt
    cases hq : nxPos L l (a + 2) L.length with
    | none =>
      have hq' := nxPos_none hq (by omega)
      rw [nxPos_nil (L := del L m) (fun i i1 i2 => by
        rw [del_hi hm, if_neg (by omega)]
        exact hq' (i + 1) (by omega) (by omega))]
      rfl
    | some j =>
      obtain ⟨j1, j2, j3, j4⟩ := nxPos_some hq
      obtain ⟨j, rfl⟩ : ∃ j', j = j' + 1 := ⟨j - 1, by omega⟩
      rw [nxPos_eq (L := del L m) (j := j) (by omega) (by omega) (by rw [del_hi hm, if_neg (by omega)]; exact j3) (fun i i1 i2 => by
        rw [del_hi hm, if_neg (by omega)]
        exact j4 (i + 1) (by omega) (by omega))]
      simp only [Option.map_some]
      rw [del_blk hm, if_neg (by omega)]
end Go.Proofs.Ytdolmkiiflhehaa.M
end

section
/- A store as a map of keys, in plain Lean. -/
set_option linter.unusedVariables false
set_option linter.unusedSimpArgs false
namespace Go.Proofs.Ytdolmkiiflhehaa.M
structure Store (L : List Nd) : Prop where
  sorted : Sorted L
  hi : ∀ e, e ∈ L → 1 ≤ e.hi ∧ e.hi ≤ 8
def getL (L : List Nd) (k : Int × Int) : Option CellD := match L[rank L k]? with | some e => if e.c.key = k then some e.c else none | none => none
theorem sorted_lt {L : List Nd} (hs : Sorted L) {i j : Nat} {a b : Nd} (hi : L[i]? = some a) (hj : L[j]? = some b) (h : i < j) : kLt a.c.key b.c.key = true := by
  have hi' := List.getElem?_eq_some_iff.1 hi
  have hj' := List.getElem?_eq_some_iff.1 hj
  obtain ⟨h1, rfl⟩ := hi'
  obtain ⟨h2, rfl⟩ := hj'
  exact List.pairwise_iff_getElem.1 hs i j h1 h2 h
theorem at_rank {L : List Nd} (hs : Sorted L) {k : Int × Int} {j : Nat} {e : Nd} (hj : L[j]? = some e) (he : e.c.key = k) : j = rank L k := by
  have h1 := rank_lt hs (k := k) hj
  rw [he, kLt_irrefl] at h1
  have h2 : rank L k ≤ j := by simpa using h1.symm
  rcases Nat.eq_or_lt_of_le h2 with h3 | h3
  · exact h3.symm
  · exfalso
    have hlt := (List.getElem?_eq_some_iff.1 hj).1
    have h4 : L[rank L k]? = some L[rank L k] := List.getElem?_eq_getElem (by omega)
    have h5 := sorted_lt hs h4 hj h3
    have h6 := rank_lt hs (k := k) h4
    rw [he] at h5
    rw [h5] at h6
    simp at h6
theorem getL_iff {L : List Nd} (hs : Sorted L) (k : Int × Int) (c : CellD) : getL L k = some c ↔ ∃ e, e ∈ L ∧ e.c = c ∧ c.key = k := by
  constructor
  · intro h
    unfold getL at h
    split at h
    · rename_i e he
      split at h
      · rename_i hk
        cases h
        exact ⟨e, List.mem_of_getElem? he, rfl, hk⟩
      · cases h
    · cases h
  · rintro ⟨e, he, rfl, hk⟩
    obtain ⟨j, hj⟩ := List.getElem?_of_mem he
    have := at_rank hs hj hk
    subst this
    unfold getL
    rw [hj]
    simp [hk]
theorem getL_none {L : List Nd} (hs : Sorted L) (k : Int × Int) : getL L k = none ↔ ∀ e, e ∈ L → e.c.key ≠ k := by
  constructor
  · intro h e he hk
    have := (getL_iff hs k e.c).2 ⟨e, he, rfl, hk⟩
    rw [h] at this
    cases this
  · intro h
    cases hg : getL L k with
    | none => rfl
    | some c =>
      obtain ⟨e, he, rfl, hk⟩ := (getL_iff hs k c).1 hg
      exact absurd hk (h e he)
theorem getL_ext {L L' : List Nd} (hs : Sorted L) (hs' : Sorted L') (k : Int × Int) (h : ∀ c, (∃ e, e ∈ L ∧ e.c = c ∧ c.key = k) ↔ ∃ e, e ∈ L' ∧ e.c = c ∧ c.key = k) : getL L k = getL L' k := by
  cases hg : getL L k with
  | some c => exact ((getL_iff hs' k c).2 ((h c).1 ((getL_iff hs k c).1 hg))).symm
  | none =>
    cases hg' : getL L' k with
    | none => rfl
    | some c =>
      have := (getL_iff hs k c).2 ((h c).2 ((getL_iff hs' k c).1 hg'))
      rw [hg] at this
      cases this
def setC (L : List Nd) (m : Nat) (c : CellD) : List Nd := match L[m]? with | some e => L.set m { e with c := c } | none => L
theorem setC_eq {L : List Nd} {m : Nat} {e : Nd} (h : L[m]? = some e) (c : CellD) : setC L m c = L.set m { e with c := c } := by unfold setC; rw [h]
theorem setC_length (L : List Nd) (m : Nat) (c : CellD) : (setC L m c).length = L.length := by unfold setC; split <;> simp
theorem setC_get {L : List Nd} {m : Nat} {e : Nd} (h : L[m]? = some e) (c : CellD) (i : Nat) : (setC L m c)[i]? = if i = m then some { e with c := c } else L[i]? := by
  rw [setC_eq h]
  have hlt := (List.getElem?_eq_some_iff.1 h).1
  rw [List.getElem?_set]
  by_cases h1 : m = i
  · subst h1; simp [hlt]
  · rw [if_neg h1, if_neg (fun e => h1 e.symm)]
theorem setC_hi {L : List Nd} {m : Nat} {e : Nd} (h : L[m]? = some e) (c : CellD) (i : Nat) : hiAt (setC L m c) i = hiAt L i := by
  unfold hiAt
  rw [setC_get h]
  by_cases h1 : i = m
  · subst h1; simp [h]
  · simp [h1]
theorem setC_blk {L : List Nd} {m : Nat} {e : Nd} (h : L[m]? = some e) (c : CellD) (i : Nat) : blkAt (setC L m c) i = blkAt L i := by
  unfold blkAt
  rw [setC_get h]
  by_cases h1 : i = m
  · subst h1; simp [h]
  · simp [h1]
theorem setC_map {L : List Nd} {m : Nat} {e : Nd} (h : L[m]? = some e) (c : CellD) : (setC L m c).map (·.b) = L.map (·.b) := by
  apply List.ext_getElem?
  intro i
  rw [List.getElem?_map, List.getElem?_map, setC_get h]
  by_cases h1 : i = m
  · subst h1; simp [h]
  · simp [h1]
theorem nxPos_congr {L L' : List Nd} (hl : L'.length = L.length) (hh : ∀ i, hiAt L' i = hiAt L i) (l a : Nat) : nxPos L' l a L'.length = nxPos L l a L.length := by
  cases hq : nxPos L l a L.length with
  | none =>
    have hq' := nxPos_none hq (by omega)
    exact nxPos_nil (fun i i1 i2 => by rw [hh]; exact hq' i i1 (by omega))
  | some j =>
    obtain ⟨j1, j2, j3, j4⟩ := nxPos_some hq
    exact nxPos_eq j1 (by omega) (by rw [hh]; exact j3) (fun i i1 i2 => by rw [hh]; exact j4 i i1 i2)
theorem setC_links {nx : Nat → Nat → Option Nat} {h : Nat} {L : List Nd} {m : Nat} {e : Nd} (hl : Links nx h L) (hm : L[m]? = some e) (c : CellD) : Links nx h (setC L m c) := by
  intro a ha l hla
  have hadr : adr h (setC L m c) a = adr h L a := by cases a; rfl; exact setC_blk hm c _
  have hhi : hiP (setC L m c) a = hiP L a := by cases a; rfl; exact setC_hi hm c _
  rw [hhi] at hla
  rw [setC_length] at ha
  rw [hadr, hl a ha l hla]
  unfold nxt
  rw [nxPos_congr (setC_length L m c) (setC_hi hm c)]
  congr 1
  funext i
  exact (setC_blk hm c i).symm
theorem setC_apart {h : Nat} {L : List Nd} {m : Nat} {e : Nd} (hn : Apart h L) (hm : L[m]? = some e) (c : CellD) : Apart h (setC L m c) := by unfold Apart; rw [setC_map hm]; exact hn
theorem setC_sorted {L : List Nd} (hs : Sorted L) {m : Nat} {e : Nd} (hm : L[m]? = some e) {c : CellD} (hc : c.key = e.c.key) : Sorted (setC L m c) := by
  have h1 : (setC L m c).map (·.c.key) = L.map (·.c.key) := by
    apply List.ext_getElem?
    intro i
    rw [List.getElem?_map, List.getElem?_map, setC_get hm]
    by_cases h1 : i = m
    · subst h1; simp [hm, hc]
    · simp [h1]
  have h2 : (L.map (·.c.key)).Pairwise (fun a b => kLt a b = true) := List.pairwise_map.2 hs
  rw [← h1] at h2
  exact List.pairwise_map.1 h2
theorem setC_store {L : List Nd} (hs : Store L) {m : Nat} {e : Nd} (hm : L[m]? = some e) {c : CellD} (hc : c.key = e.c.key) : Store (setC L m c) :=
  ⟨setC_sorted hs.sorted hm hc, fun x hx => by
    obtain ⟨i, hi⟩ := List.getElem?_of_mem hx
    rw [setC_get hm] at hi
    split at hi
    · cases hi; exact hs.hi e (List.mem_of_getElem? hm)
    · exact hs.hi x (List.mem_of_getElem? hi)⟩
theorem setC_getL {L : List Nd} (hs : Sorted L) {m : Nat} {e : Nd} (hm : L[m]? = some e) {c : CellD} (hc : c.key = e.c.key) (k : Int × Int) : getL (setC L m c) k = if k = c.key then some c else getL L k := by
  have hs' := setC_sorted hs hm hc
  by_cases hk : k = c.key
  · rw [if_pos hk]
    refine (getL_iff hs' k c).2 ⟨{ e with c := c }, ?_, rfl, hk.symm⟩
    have := setC_get hm c m
    rw [if_pos rfl] at this
    exact List.mem_of_getElem? this
  · rw [if_neg hk]
    refine getL_ext hs' hs k fun d => ⟨?_, ?_⟩
    · rintro ⟨x, hx, rfl, hxk⟩
      obtain ⟨i, hi⟩ := List.getElem?_of_mem hx
      rw [setC_get hm] at hi
      split at hi
      · cases hi; exact absurd hxk.symm hk
      · exact ⟨x, List.mem_of_getElem? hi, rfl, hxk⟩
    · rintro ⟨x, hx, rfl, hxk⟩
      obtain ⟨i, hi⟩ := List.getElem?_of_mem hx
      have hne : i ≠ m := by
        rintro rfl
        rw [hi] at hm
        cases hm
        exact hk (by rw [hc, hxk])
      have := setC_get hm c i
      rw [if_neg hne, hi] at this
      exact ⟨x, List.mem_of_getElem? this, rfl, hxk⟩
theorem ins_mem {L : List Nd} {m : Nat} {e x : Nd} : x ∈ ins L m e ↔ x = e ∨ x ∈ L := by
  unfold ins
  rw [List.mem_append, List.mem_cons]
  constructor
  · rintro (h | h | h)
    · exact .inr (List.mem_of_mem_take h)
    · exact .inl h
    · exact .inr (List.mem_of_mem_drop h)
  · rintro (h | h)
    · exact .inr (.inl h)
    · rw [← List.take_append_drop m L, List.mem_append] at h
      rcases h with h | h
      · exact .inl h
      · exact .inr (.inr h)
theorem ins_sorted {L : List Nd} (hs : Sorted L) {e : Nd} (hno : getL L e.c.key = none) : Sorted (ins L (rank L e.c.key) e) := by
  have hne := (getL_none hs _).1 hno
  unfold ins
  refine List.pairwise_append.2 ⟨List.Pairwise.sublist (List.take_sublist _ _) hs, List.pairwise_cons.2 ⟨fun x hx => ?_, List.Pairwise.sublist (List.drop_sublist _ _) hs⟩, fun x hx y hy => ?_⟩
  · obtain ⟨i, hi⟩ := List.getElem?_of_mem hx
    rw [List.getElem?_drop] at hi
    have h1 := rank_lt hs (k := e.c.key) hi
    have h2 : kLt x.c.key e.c.key = false := by rw [h1]; simp
    cases h3 : kLt e.c.key x.c.key with
    | true => rfl
    | false => exact absurd (kLt_total h2 h3) (hne x (List.mem_of_getElem? hi))
  · obtain ⟨i, hi⟩ := List.getElem?_of_mem hx
    have hlt : i < rank L e.c.key := by
      have := (List.getElem?_eq_some_iff.1 hi).1
      simp at this
      omega
    rw [List.getElem?_take_of_lt hlt] at hi
    have h1 := rank_lt hs (k := e.c.key) hi
    have h2 : kLt x.c.key e.c.key = true := by rw [h1]; simpa using hlt
    rcases List.mem_cons.1 hy with rfl | hy
    · exact h2
    · obtain ⟨j, hj⟩ := List.getElem?_of_mem hy
      rw [List.getElem?_drop] at hj
      exact sorted_lt hs hi hj (by omega)
theorem ins_store {L : List Nd} (hs : Store L) {e : Nd} (hno : getL L e.c.key = none) (he : 1 ≤ e.hi ∧ e.hi ≤ 8) : Store (ins L (rank L e.c.key) e) :=
  ⟨ins_sorted hs.sorted hno, fun x hx => by rcases ins_mem.1 hx with rfl | h; exact he; exact hs.hi x h⟩
theorem ins_getL {L : List Nd} (hs : Sorted L) {e : Nd} (hno : getL L e.c.key = none) (k : Int × Int) : getL (ins L (rank L e.c.key) e) k = if k = e.c.key then some e.c else getL L k := by
  have hs' := ins_sorted hs hno
  by_cases hk : k = e.c.key
  · rw [if_pos hk]
    exact (getL_iff hs' k e.c).2 ⟨e, ins_mem.2 (.inl rfl), rfl, hk.symm⟩
  · rw [if_neg hk]
    refine getL_ext hs' hs k fun d => ⟨?_, ?_⟩
    · rintro ⟨x, hx, rfl, hxk⟩
      rcases ins_mem.1 hx with rfl | h
      · exact absurd hxk.symm hk
      · exact ⟨x, h, rfl, hxk⟩
    · rintro ⟨x, hx, rfl, hxk⟩
      exact ⟨x, ins_mem.2 (.inr hx), rfl, hxk⟩
theorem ins_apart {h : Nat} {L : List Nd} (hn : Apart h L) {e : Nd} (he : e.b ∉ h :: L.map (·.b)) (m : Nat) : Apart h (ins L m e) := by
  unfold Apart ins at *
  rw [List.map_append, List.map_cons]
  have hp : (h :: (List.map (·.b) (L.take m) ++ e.b :: List.map (·.b) (L.drop m))).Perm (e.b :: h :: L.map (·.b)) := by
    have h1 : (List.map (·.b) (L.take m) ++ e.b :: List.map (·.b) (L.drop m)).Perm (e.b :: (List.map (·.b) (L.take m) ++ List.map (·.b) (L.drop m))) := List.perm_middle
    rw [← List.map_append, List.take_append_drop] at h1
    exact (h1.cons h).trans (List.Perm.swap _ _ _)
  exact hp.nodup_iff.2 (List.nodup_cons.2 ⟨he, hn⟩)
theorem del_sublist (L : List Nd) (m : Nat) : (del L m).Sublist L := by
  unfold del
  have := List.Sublist.append (List.Sublist.refl (L.take m)) (List.Sublist.trans (List.drop_sublist 1 (L.drop m)) (List.Sublist.refl (L.drop m)))
  rw [List.drop_drop, List.take_append_drop] at this
  exact this
theorem del_sorted {L : List Nd} (hs : Sorted L) (m : Nat) : Sorted (del L m) := List.Pairwise.sublist (del_sublist L m) hs
theorem del_store {L : List Nd} (hs : Store L) (m : Nat) : Store (del L m) := ⟨del_sorted hs.sorted m, fun x hx => hs.hi x ((del_sublist L m).subset hx)⟩
theorem del_apart {h : Nat} {L : List Nd} (hn : Apart h L) (m : Nat) : Apart h (del L m) := List.Pairwise.sublist (List.Sublist.cons_cons h ((del_sublist L m).map _)) hn
theorem nxt_zero {L : List Nd} (hs : Store L) {a : Nat} (ha : a < L.length) : nxPos L 0 a L.length = some a :=
  nxPos_eq (Nat.le_refl _) ha (by
    unfold hiAt
    rw [List.getElem?_eq_getElem ha]
    exact (hs.hi _ (List.getElem_mem ha)).1) (fun i h1 h2 => by omega)
theorem nxt_end {L : List Nd} {l a : Nat} (ha : L.length ≤ a) : nxPos L l a L.length = none := nxPos_nil (fun i h1 h2 => by omega)
theorem pre_zero {L : List Nd} (hs : Store L) : ∀ {m : Nat}, m ≤ L.length → pre L 0 m = m
  | 0, _ => rfl
  | m + 1, hm => by
    unfold pre
    rw [if_pos]
    unfold hiAt
    rw [List.getElem?_eq_getElem (by omega)]
    exact (hs.hi _ (List.getElem_mem (by omega))).1
end Go.Proofs.Ytdolmkiiflhehaa.M
end

section
/- What has turned lies in the blocks of S, or is new. -/
set_option linter.unusedVariables false
set_option linter.unusedSimpArgs false
namespace Go.Proofs.Ytdolmkiiflhehaa.M
open Go.RowKit Go.Proofs.YtdolmkiiflhehaaW.PrintWords
structure KeepS (S : Nat → Prop) (w w' : World) : Prop where
  os : w'.os = w.os
  tape : w'.tape = w.tape
  output : w'.output = w.output
  size : w.heap.size ≤ w'.heap.size
  block : ∀ i, i < w.heap.size → ¬ S i → w'.heap[i]? = w.heap[i]?
namespace KeepS
variable {S S' : Nat → Prop} {x y z : World}
theorem refl (S : Nat → Prop) (w : World) : KeepS S w w := ⟨rfl, rfl, rfl, Nat.le_refl _, fun _ _ _ => rfl⟩
theorem trans (h : KeepS S x y) (k : KeepS S y z) : KeepS S x z :=
  ⟨k.os.trans h.os, k.tape.trans h.tape, k.output.trans h.output, Nat.le_trans h.size k.size, fun i hi hs => (k.block i (Nat.lt_of_lt_of_le hi h.size) hs).trans (h.block i hi hs)⟩
theorem mono (h : KeepS S x y) (hs : ∀ i, S i → S' i) : KeepS S' x y := ⟨h.os, h.tape, h.output, h.size, fun i hi hn => h.block i hi (fun e => hn (hs i e))⟩
theorem of_below (S : Nat → Prop) (h : Below x.heap.size x y) : KeepS S x y := ⟨h.os, h.tape, h.output, h.size, fun i hi _ => h.block i hi⟩
theorem of_grown {row : Option Nat} (h : x.grownBy y row) (hs : ∀ i, row = some i → S i) : KeepS S x y := ⟨h.os, h.tape, h.output, h.size, fun i hi hn => h.block i hi (fun e => hn (hs i e.symm))⟩
theorem then_below (h : KeepS S x y) (k : Below y.heap.size y z) : KeepS S x z := h.trans (of_below S k)
theorem then_base (h : KeepS S x y) (k : Below x.heap.size y z) : KeepS S x z :=
  ⟨k.os.trans h.os, k.tape.trans h.tape, k.output.trans h.output, Nat.le_trans h.size k.size, fun i hi hs => (k.block i hi).trans (h.block i hi hs)⟩
theorem set (h : KeepS S x y) {p : Addr} (hp : S p.block ∨ x.heap.size ≤ p.block) (v : Value) : KeepS S x (y.setCell p v) :=
  ⟨h.os, h.tape, h.output, by simpa [World.setCell] using h.size, fun i hi hn => (Below.heap_setCell y p v i (by rcases hp with hp | hp; exact fun e => hn (e ▸ hp); exact fun e => by omega)).trans (h.block i hi hn)⟩
theorem alloc (h : KeepS S x y) (o : Obj) : KeepS S x (y.alloc o) := h.then_below ((Below.refl _ y).alloc (Nat.le_refl _) o)
theorem drew (h : KeepS S x y) : KeepS S x y.drew := ⟨h.os, h.tape, h.output, h.size, h.block⟩
theorem drewN (h : KeepS S x y) (n : Nat) : KeepS S x (y.drewN n) := ⟨h.os, h.tape, h.output, h.size, h.block⟩
theorem cell (h : KeepS S x y) {p : Addr} (hp : p.block < x.heap.size) (hs : ¬ S p.block) : y.cell? p = x.cell? p := World.cell?_of_block (h.block p.block hp hs)
theorem frozen (h : KeepS S x y) {p : Addr} (hp : p.block < x.heap.size) (hs : ¬ S p.block) : y.frozen? p = x.frozen? p := World.frozen?_of_block (h.block p.block hp hs)
theorem below (h : KeepS S x y) {B : Nat} (hB : B ≤ x.heap.size) (hs : ∀ i, S i → B ≤ i) : Below B x y :=
  ⟨h.os, h.tape, h.output, h.size, fun i hi => h.block i (Nat.lt_of_lt_of_le hi hB) (fun e => by have := hs i e; omega)⟩
theorem foot (h : KeepS S x y) {α : Type} {d : Kd α} {ok : Nat → Prop} {A : Option Addr} {n : Nat} {xs : List α} (hf : Kd.F d x ok A n xs) (hok : ∀ i, ok i → ¬ S i) : Kd.F d y ok A n xs := Kd.F_step hf (fun i hi hlt => h.block i hlt (hok i hi))
end KeepS
end Go.Proofs.Ytdolmkiiflhehaa.M
end

section
/- A skip list in memory. -/
set_option linter.unusedVariables false
set_option linter.unusedSimpArgs false
namespace Go.Proofs.Ytdolmkiiflhehaa.M
open Go.RowKit
def np : Option Nat → Value
  | none => .pointer none
  | some b => .pointer (some ⟨b, 0, none⟩)
def upF {α : Type} (f : Nat → α) (i : Nat) (v : α) : Nat → α := fun j => if j = i then v else f j
def ndArr (c : CellD) (f : Nat → Option Nat) (hi : Int) : Array Value := #[.int .i32 c.table, .int .i64 c.row, .int .i64 c.value, .int .i64 c.slot, np (f 0), np (f 1), np (f 2), np (f 3), np (f 4), np (f 5), np (f 6), np (f 7), .int .i64 hi]
def ptrArr (f : Nat → Option Nat) : Array Value := #[np (f 0), np (f 1), np (f 2), np (f 3), np (f 4), np (f 5), np (f 6), np (f 7)]
theorem lt8 {l : Nat} (h : l < 8) : l = 0 ∨ l = 1 ∨ l = 2 ∨ l = 3 ∨ l = 4 ∨ l = 5 ∨ l = 6 ∨ l = 7 := by omega
theorem ptrArr_get (f : Nat → Option Nat) {l : Nat} (h : l < 8) : (ptrArr f)[l]? = some (np (f l)) := by
  rcases lt8 h with rfl | rfl | rfl | rfl | rfl | rfl | rfl | rfl <;> rfl
theorem ptrArr_set (f : Nat → Option Nat) {l : Nat} (h : l < 8) (v : Option Nat) : (ptrArr f).setIfInBounds l (np v) = ptrArr (upF f l v) := by
  rcases lt8 h with rfl | rfl | rfl | rfl | rfl | rfl | rfl | rfl <;> rfl
theorem ndArr_next (c : CellD) (f : Nat → Option Nat) (hi : Int) {l : Nat} (h : l < 8) : (ndArr c f hi)[4 + l]? = some (np (f l)) := by
  rcases lt8 h with rfl | rfl | rfl | rfl | rfl | rfl | rfl | rfl <;> rfl
theorem ndArr_set (c : CellD) (f : Nat → Option Nat) (hi : Int) {l : Nat} (h : l < 8) (v : Option Nat) : (ndArr c f hi).setIfInBounds (4 + l) (np v) = ndArr c (upF f l v) hi := by
  rcases lt8 h with rfl | rfl | rfl | rfl | rfl | rfl | rfl | rfl <;> rfl
theorem heap_same {W : World} {a : Addr} {v : Value} {cs : Array Value} {e : TypeId} {z : Nat × Nat} (h : W.heap[a.block]? = some (.cells cs e z)) (hs : a.spot = none) : (W.setCell a v).heap[a.block]? = some (.cells (cs.setIfInBounds a.off v) e z) := by
  simp only [World.setCell, Array.getElem?_modify, if_true, h, hs]
  rfl
structure NodeIs (w : World) (b : Nat) (c : CellD) (f : Nat → Option Nat) (hi : Int) : Prop where
  blk : w.heap[b]? = some (.cells (ndArr c f hi) 84)
namespace NodeIs
variable {w w' : World} {b : Nat} {c : CellD} {f : Nat → Option Nat} {hi : Int}
theorem lt (h : NodeIs w b c f hi) : b < w.heap.size := (Array.getElem?_eq_some_iff.1 h.blk).1
theorem move (h : NodeIs w b c f hi) (hb : w'.heap[b]? = w.heap[b]?) : NodeIs w' b c f hi := ⟨hb.trans h.blk⟩
theorem cell (h : NodeIs w b c f hi) (i : Nat) : w.cell? ⟨b, i, none⟩ = (ndArr c f hi)[i]? := by simp [World.cell?, h.blk]
theorem c0 (h : NodeIs w b c f hi) : w.cell? ⟨b, 0, none⟩ = some (.int .i32 c.table) := h.cell 0
theorem c1 (h : NodeIs w b c f hi) : w.cell? ⟨b, 1, none⟩ = some (.int .i64 c.row) := h.cell 1
theorem c2 (h : NodeIs w b c f hi) : w.cell? ⟨b, 2, none⟩ = some (.int .i64 c.value) := h.cell 2
theorem c3 (h : NodeIs w b c f hi) : w.cell? ⟨b, 3, none⟩ = some (.int .i64 c.slot) := h.cell 3
theorem c12 (h : NodeIs w b c f hi) : w.cell? ⟨b, 12, none⟩ = some (.int .i64 hi) := h.cell 12
theorem next (h : NodeIs w b c f hi) {l : Nat} (hl : l < 8) : w.cell? ⟨b, 4 + l, none⟩ = some (np (f l)) := (h.cell (4 + l)).trans (ndArr_next c f hi hl)
theorem z (h : NodeIs w b c f hi) (i : Nat) : w.frozen? ⟨b, i, none⟩ = false := by simp [World.frozen?, h.blk]
theorem setNext (h : NodeIs w b c f hi) {l : Nat} (hl : l < 8) (v : Option Nat) : NodeIs (w.setCell ⟨b, 4 + l, none⟩ (np v)) b c (upF f l v) hi := by
  refine ⟨?_⟩
  rw [heap_same (a := ⟨b, 4 + l, none⟩) h.blk rfl, ndArr_set c f hi hl]
theorem far (h : NodeIs w b c f hi) {p : Addr} (hp : p.block ≠ b) (v : Value) : NodeIs (w.setCell p v) b c f hi := h.move (Below.heap_setCell w p v b (fun e => hp e.symm))
end NodeIs
def celP (L : List Nd) (a : Nat) : CellD := match a with | 0 => ⟨0, 0, 0, 0⟩ | a + 1 => match L[a]? with | some e => e.c | none => ⟨0, 0, 0, 0⟩
structure IsSk (w : World) (s h : Nat) (L : List Nd) (x : Int) (nx : Nat → Nat → Option Nat) : Prop where
  sh : w.heap[s]? = some (.cells #[.pointer (some ⟨h, 0, none⟩), .int .i64 L.length, .int .u64 x] 52)
  nds : ∀ a, a ≤ L.length → NodeIs w (adr h L a) (celP L a) (nx (adr h L a)) (hiP L a)
  links : Links nx h L
  apart : Apart h L
  store : Store L
  sne : s ∉ h :: L.map (·.b)
namespace IsSk
variable {w w' : World} {s h : Nat} {L : List Nd} {x : Int} {nx : Nat → Nat → Option Nat}
theorem slt (H : IsSk w s h L x nx) : s < w.heap.size := (Array.getElem?_eq_some_iff.1 H.sh).1
theorem hlt (H : IsSk w s h L x nx) : h < w.heap.size := (H.nds 0 (Nat.zero_le _)).lt
theorem c0 (H : IsSk w s h L x nx) : w.cell? ⟨s, 0, none⟩ = some (.pointer (some ⟨h, 0, none⟩)) := by simp [World.cell?, H.sh]
theorem c1 (H : IsSk w s h L x nx) : w.cell? ⟨s, 1, none⟩ = some (.int .i64 L.length) := by simp [World.cell?, H.sh]
theorem c2 (H : IsSk w s h L x nx) : w.cell? ⟨s, 2, none⟩ = some (.int .u64 x) := by simp [World.cell?, H.sh]
theorem z (H : IsSk w s h L x nx) (i : Nat) : w.frozen? ⟨s, i, none⟩ = false := by simp [World.frozen?, H.sh]
def Own (s h : Nat) (L : List Nd) (i : Nat) : Prop := i = s ∨ i ∈ h :: L.map (·.b)
theorem own_adr (s h : Nat) (L : List Nd) {a : Nat} (ha : a ≤ L.length) : Own s h L (adr h L a) := .inr (adr_mem h L ha)
theorem own_lt (H : IsSk w s h L x nx) {i : Nat} (hi : Own s h L i) : i < w.heap.size := by
  rcases hi with rfl | hi
  · exact H.slt
  · obtain ⟨a, ha⟩ := List.mem_iff_getElem?.1 hi
    have hl := (List.getElem?_eq_some_iff.1 ha).1
    simp only [List.length_cons, List.length_map] at hl
    rw [adr_get h L (by omega)] at ha
    cases ha
    exact (H.nds a (by omega)).lt
theorem sadr (H : IsSk w s h L x nx) {a : Nat} (ha : a ≤ L.length) : adr h L a ≠ s := fun e => H.sne (e ▸ adr_mem h L ha)
theorem move (H : IsSk w s h L x nx) (hb : ∀ i, Own s h L i → w'.heap[i]? = w.heap[i]?) : IsSk w' s h L x nx :=
  ⟨(hb s (.inl rfl)).trans H.sh, fun a ha => (H.nds a ha).move (hb _ (own_adr s h L ha)), H.links, H.apart, H.store, H.sne⟩
theorem below (H : IsSk w s h L x nx) (hb : Below w.heap.size w w') : IsSk w' s h L x nx := H.move fun i hi => hb.block i (H.own_lt hi)
theorem drew (H : IsSk w s h L x nx) : IsSk w.drew s h L x nx := H.move fun _ _ => rfl
theorem alloc (H : IsSk w s h L x nx) (o : Obj) : IsSk (w.alloc o) s h L x nx := H.move fun i hi => Below.heap_alloc w o i (H.own_lt hi)
theorem keep {S : Nat → Prop} (H : IsSk w s h L x nx) (hk : KeepS S w w') (hS : ∀ i, Own s h L i → ¬ S i) : IsSk w' s h L x nx := H.move fun i hi => hk.block i (H.own_lt hi) (hS i hi)
theorem setX (H : IsSk w s h L x nx) (y : Int) : IsSk (w.setCell ⟨s, 2, none⟩ (.int .u64 y)) s h L y nx := by
  refine ⟨?_, fun a ha => (H.nds a ha).far (fun e => H.sadr ha e.symm) _, H.links, H.apart, H.store, H.sne⟩
  rw [heap_same (a := ⟨s, 2, none⟩) H.sh rfl]; rfl
theorem nd (H : IsSk w s h L x nx) {m : Nat} {e : Nd} (hm : L[m]? = some e) : NodeIs w e.b e.c (nx e.b) e.hi := by
  have hl := (List.getElem?_eq_some_iff.1 hm).1
  have h1 := H.nds (m + 1) (by omega)
  have e1 : adr h L (m + 1) = e.b := by show blkAt L m = _; unfold blkAt; rw [hm]
  have e2 : celP L (m + 1) = e.c := by unfold celP; simp only; rw [hm]
  have e3 : hiP L (m + 1) = e.hi := by show hiAt L m = _; unfold hiAt; rw [hm]
  rw [e1, e2, e3] at h1
  exact h1
end IsSk
end Go.Proofs.Ytdolmkiiflhehaa.M
end

section
/- cmp.Compare, cmp.Or, shard.Compare. -/
set_option linter.unusedVariables false
set_option linter.unusedSimpArgs false
set_option maxRecDepth 100000
namespace Go.Proofs.Ytdolmkiiflhehaa.M
open Go.RowKit Go.Proofs.YtdolmkiiflhehaaW.PrintWords
def cmpI (x y : Int) : Int := if x < y then -1 else if y < x then 1 else 0
def cmpK (x y : Int × Int) : Int := if cmpI x.1 y.1 = 0 then cmpI x.2 y.2 else cmpI x.1 y.1
theorem cmpK_neg (x y : Int × Int) : (cmpK x y < 0 ↔ kLt x y = true) := by
  unfold cmpK cmpI kLt
  simp only [Bool.or_eq_true, Bool.and_eq_true, decide_eq_true_eq]
  repeat' split
  all_goals omega
theorem nan32 (x : Int) (w : World) : Calls Try.prog 76 #[.int .i32 x] w fun e w' => e = .returned (.bool false) ∧ w' = w := by
  go_enter Try.func76, Try.ntmps76
  go_wp2
  go_ret
  exact ⟨rfl, rfl⟩
theorem nan64 (x : Int) (w : World) : Calls Try.prog 77 #[.int .i64 x] w fun e w' => e = .returned (.bool false) ∧ w' = w := by
  go_enter Try.func77, Try.ntmps77
  go_wp2
  go_ret
  exact ⟨rfl, rfl⟩
theorem cmp32 (x y : Int) (w : World) : Calls Try.prog 63 #[.int .i32 x, .int .i32 y] w fun e w' => e = .returned (.int .i64 (cmpI x y)) ∧ w' = w := by
  obtain ⟨r, hr⟩ : ∃ r, cmpI x y = r := ⟨_, rfl⟩
  have HR := Lib.hid hr
  rw [hr]
  clear hr
  rcases Int.lt_trichotomy x y with h | h | h
  · have h1 : decide (x < y) = true := decide_eq_true h
    have HV := Lib.hid (show r = -1 by rw [← HR.out]; unfold cmpI; rw [if_pos h])
    rw [HV.out]
    clear h
    go_enter Try.func63, Try.ntmps63
    go_wp2_with (go_at_call 76; refine (nan32 _ _).mono ?_; rintro e w' ⟨rfl, rfl⟩)
    go_ret
    exact ⟨rfl, rfl⟩
  · subst h
    have HV := Lib.hid (show r = 0 by rw [← HR.out]; unfold cmpI; simp)
    rw [HV.out]
    go_enter Try.func63, Try.ntmps63
    go_wp2_with (go_at_call 76; refine (nan32 _ _).mono ?_; rintro e w' ⟨rfl, rfl⟩)
    go_ret
    exact ⟨rfl, rfl⟩
  · have h1 : decide (x < y) = false := decide_eq_false (by omega)
    have h2 : decide (y < x) = true := decide_eq_true h
    have HV := Lib.hid (show r = 1 by rw [← HR.out]; unfold cmpI; rw [if_neg (by omega), if_pos h])
    rw [HV.out]
    clear h
    go_enter Try.func63, Try.ntmps63
    go_wp2_with (go_at_call 76; refine (nan32 _ _).mono ?_; rintro e w' ⟨rfl, rfl⟩)
    go_ret
    exact ⟨rfl, rfl⟩
theorem cmp64 (x y : Int) (w : World) : Calls Try.prog 64 #[.int .i64 x, .int .i64 y] w fun e w' => e = .returned (.int .i64 (cmpI x y)) ∧ w' = w := by
  obtain ⟨r, hr⟩ : ∃ r, cmpI x y = r := ⟨_, rfl⟩
  have HR := Lib.hid hr
  rw [hr]
  clear hr
  rcases Int.lt_trichotomy x y with h | h | h
  · have h1 : decide (x < y) = true := decide_eq_true h
    have HV := Lib.hid (show r = -1 by rw [← HR.out]; unfold cmpI; rw [if_pos h])
    rw [HV.out]
    clear h
    go_enter Try.func64, Try.ntmps64
    go_wp2_with (go_at_call 77; refine (nan64 _ _).mono ?_; rintro e w' ⟨rfl, rfl⟩)
    go_ret
    exact ⟨rfl, rfl⟩
  · subst h
    have HV := Lib.hid (show r = 0 by rw [← HR.out]; unfold cmpI; simp)
    rw [HV.out]
    go_enter Try.func64, Try.ntmps64
    go_wp2_with (go_at_call 77; refine (nan64 _ _).mono ?_; rintro e w' ⟨rfl, rfl⟩)
    go_ret
    exact ⟨rfl, rfl⟩
  · have h1 : decide (x < y) = false := decide_eq_false (by omega)
    have h2 : decide (y < x) = true := decide_eq_true h
    have HV := Lib.hid (show r = 1 by rw [← HR.out]; unfold cmpI; rw [if_neg (by omega), if_pos h])
    rw [HV.out]
    clear h
    go_enter Try.func64, Try.ntmps64
    go_wp2_with (go_at_call 77; refine (nan64 _ _).mono ?_; rintro e w' ⟨rfl, rfl⟩)
    go_ret
    exact ⟨rfl, rfl⟩
def OrL (x y : Int) (i : Value) : Prop := (i = .int .i64 0) ∨ (i = .int .i64 1 ∧ x = 0) ∨ (i = .int .i64 2 ∧ x = 0 ∧ y = 0)
theorem or2 (x y : Int) (g : Nat) (w : World) (h0 : w.cell? ⟨g, 0, none⟩ = some (.int .i64 x)) (h1 : w.cell? ⟨g, 1, none⟩ = some (.int .i64 y)) : Calls Try.prog 62 #[.slice (some ⟨g, 0, none⟩) 2 2] w fun e w' => e = .returned (.int .i64 (if x = 0 then y else x)) ∧ w' = w := by
  obtain ⟨r, hr⟩ : ∃ r, (if x = 0 then y else x) = r := ⟨_, rfl⟩
  have HR := Lib.hid hr
  rw [hr]
  clear hr
  go_enter Try.func62, Try.ntmps62
  go_wp2
  go_loopw [8] (fun i wr => Aside0 (wr = w) ∧ OrL x y i) (fun i _ => 2 - (intOf i).toNat)
  case atStart => exact ⟨⟨rfl⟩, .inl rfl⟩
  case round =>
    obtain ⟨⟨rfl⟩, hrel⟩ := hrel
    rcases hrel with rfl | ⟨rfl, hx⟩ | ⟨rfl, hx, hy⟩
    · by_cases hx : x = 0
      · subst hx
        go_wp2
        go_roundw
        case rel => exact ⟨⟨trivial⟩, .inr (.inl ⟨rfl, rfl⟩)⟩
        case measure => simp [intOf]
      · have hxb : (x != 0) = true := by simp [hx]
        have HV := Lib.hid (show r = x by rw [← HR.out, if_neg hx])
        clear hx
        go_wp2
        go_ret
        exact ⟨by rw [HV.out]; rfl, rfl⟩
    · subst hx
      by_cases hy : y = 0
      · subst hy
        go_wp2
        go_roundw
        case rel => exact ⟨⟨trivial⟩, .inr (.inr ⟨rfl, rfl, rfl⟩)⟩
        case measure => simp [intOf]
      · have hxb : (y != 0) = true := by simp [hy]
        have HV := Lib.hid (show r = y by rw [← HR.out, if_pos rfl])
        clear hy
        go_wp2
        go_ret
        exact ⟨by rw [HV.out]; rfl, rfl⟩
    · have HV := Lib.hid (show r = 0 by rw [← HR.out, if_pos hx, hy])
      clear hx hy
      go_wp2
      go_ret
      exact ⟨by rw [HV.out]; rfl, rfl⟩
theorem cellUp (W : World) {a : Addr} {v : Value} (o : Obj) (h : W.cell? a = some v) : (W.alloc o).cell? a = some v := Lib.cell?_alloc_some o h
set_option maxHeartbeats 1000000 in
theorem compare_is (a b : Int × Int) (w : World) : Calls Try.prog 45 #[.agg #[.int .i32 a.1, .int .i64 a.2], .agg #[.int .i32 b.1, .int .i64 b.2]] w fun e w' => e = .returned (.int .i64 (cmpK a b)) ∧ Below w.heap.size w w' := by
  obtain ⟨r, hr⟩ : ∃ r, cmpK a b = r := ⟨_, rfl⟩
  have HR := Lib.hid hr
  rw [hr]
  clear hr
  have HB := Lib.hid (show Below w.heap.size w ((w.alloc (.cells #[.int .i32 a.1, .int .i64 a.2] 29)).alloc (.cells #[.int .i32 b.1, .int .i64 b.2] 29)) from ((Below.refl _ _).alloc (Nat.le_refl _) _).alloc (by simp) _)
  go_enter Try.func45, Try.ntmps45
  go_wp2_with fail
  have c0 := cellUp (w.alloc (.cells #[.int .i32 a.1, .int .i64 a.2] 29)) (.cells #[.int .i32 b.1, .int .i64 b.2] 29) (Joins.cell_alloc_mark_at w #[.int .i32 a.1, .int .i64 a.2] 29 (0, 0) w.heap.size 0 rfl)
  have c1 := cellUp (w.alloc (.cells #[.int .i32 a.1, .int .i64 a.2] 29)) (.cells #[.int .i32 b.1, .int .i64 b.2] 29) (Joins.cell_alloc_mark_at w #[.int .i32 a.1, .int .i64 a.2] 29 (0, 0) w.heap.size 1 rfl)
  have d0 := Joins.cell_alloc_mark_at (w.alloc (.cells #[.int .i32 a.1, .int .i64 a.2] 29)) #[.int .i32 b.1, .int .i64 b.2] 29 (0, 0) (w.heap.size + 1) 0 (by simp)
  have d1 := Joins.cell_alloc_mark_at (w.alloc (.cells #[.int .i32 a.1, .int .i64 a.2] 29)) #[.int .i32 b.1, .int .i64 b.2] 29 (0, 0) (w.heap.size + 1) 1 (by simp)
  obtain ⟨w3, hW⟩ : ∃ w3, (w.alloc (.cells #[.int .i32 a.1, .int .i64 a.2] 29)).alloc (.cells #[.int .i32 b.1, .int .i64 b.2] 29) = w3 := ⟨_, rfl⟩
  rw [hW] at HB c0 c1 d0 d1
  rw [hW]
  clear hW
  refine wp_region_still_tail 10 (by kernel_rfl) (by kernel_rfl) ?_
  simp only [List.take_succ_cons, List.take_zero, List.drop_succ_cons, List.drop_zero]
  still_step
  still_step
  still_step
  still_step
  still_call (cmp32 _ _ _)
  still_step
  still_step
  still_step
  still_step
  still_call (cmp64 _ _ _)
  refine wpStill_nil ?_
  change wpList _ _ _ _ _ w3.drew
  go_wp2_with fail
  have e0 : (w3.alloc (.cells #[.int .i64 (cmpI a.1 b.1), .int .i64 (cmpI a.2 b.2)] 3)).drew.cell? ⟨w3.heap.size, 0, none⟩ = some (.int .i64 (cmpI a.1 b.1)) := Joins.cell_alloc_mark_at w3 #[.int .i64 (cmpI a.1 b.1), .int .i64 (cmpI a.2 b.2)] 3 (0, 0) w3.heap.size 0 rfl
  have e1 : (w3.alloc (.cells #[.int .i64 (cmpI a.1 b.1), .int .i64 (cmpI a.2 b.2)] 3)).drew.cell? ⟨w3.heap.size, 1, none⟩ = some (.int .i64 (cmpI a.2 b.2)) := Joins.cell_alloc_mark_at w3 #[.int .i64 (cmpI a.1 b.1), .int .i64 (cmpI a.2 b.2)] 3 (0, 0) w3.heap.size 1 rfl
  have hsz : w.heap.size ≤ w3.heap.size := HB.out.size
  have HB2 := Lib.hid (show Below w.heap.size w (w3.alloc (.cells #[.int .i64 (cmpI a.1 b.1), .int .i64 (cmpI a.2 b.2)] 3)).drew from (HB.out.alloc hsz _).drew)
  refine (or2 _ _ _ _ e0 e1).mono ?_
  rintro e w' ⟨rfl, rfl⟩
  have HV := Lib.hid (show (if cmpI a.1 b.1 = 0 then cmpI a.2 b.2 else cmpI a.1 b.1) = r by rw [← HR.out]; rfl)
  rw [HV.out]
  clear e0 e1 c0 c1 d0 d1
  go_wp2_with fail
  go_ret
  exact ⟨rfl, HB2.out⟩
end Go.Proofs.Ytdolmkiiflhehaa.M
end

section
/- The path to a key. -/
set_option linter.unusedVariables false
set_option linter.unusedSimpArgs false
set_option maxRecDepth 100000
namespace Go.Proofs.Ytdolmkiiflhehaa.M
open Go.RowKit Go.Proofs.YtdolmkiiflhehaaW.PrintWords
theorem none_is {w : World} {s h : Nat} {L : List Nd} {x : Int} {nx : Nat → Nat → Option Nat} (H : IsSk w s h L x nx) : Calls Try.prog 35 #[.pointer (some ⟨s, 0, none⟩)] w fun e w' => e = .returned (.bool false) ∧ w' = w := by
  have c0 := H.c0
  clear H
  go_enter Try.func35, Try.ntmps35
  go_wp2
  go_ret
  exact ⟨rfl, rfl⟩
theorem wrapE (x : Int) : IntKind.i64.wrap x = wrap64 x := by unfold wrap64; exact IntKind.wrap_i64 x
def outF (h : Nat) (L : List Nd) (m n : Nat) (l : Nat) : Option Nat := if 8 - n ≤ l then some (adr h L (pre L l m)) else none
theorem outF_step (h : Nat) (L : List Nd) (m : Nat) {n l : Nat} (hn : n < 8) (hl : l < 8) : upF (outF h L m n) (7 - n) (some (adr h L (pre L (7 - n) m))) l = outF h L m (n + 1) l := by
  unfold upF outF
  by_cases e : l = 7 - n
  · subst e; rw [if_pos rfl, if_pos (by omega)]
  · rw [if_neg e]
    by_cases h2 : 8 - n ≤ l
    · rw [if_pos h2, if_pos (by omega)]
    · rw [if_neg h2, if_neg (by omega)]
theorem ptrArr_congr {f g : Nat → Option Nat} (h : ∀ l, l < 8 → f l = g l) : ptrArr f = ptrArr g := by
  unfold ptrArr
  rw [h 0 (by omega), h 1 (by omega), h 2 (by omega), h 3 (by omega), h 4 (by omega), h 5 (by omega), h 6 (by omega), h 7 (by omega)]
def PathO (w : World) (h : Nat) (L : List Nd) (k : Int × Int) (a st lv : Value) (wr : World) : Prop :=
  ∃ n : Nat, n ≤ 8 ∧ a = .pointer (some ⟨adr h L (pre L (8 - n) (rank L k)), 0, none⟩) ∧ st = .int .i64 (stp L (rank L k) n : Nat) ∧ lv = .int .i64 (7 - (n : Int)) ∧ Below w.heap.size w wr
    ∧ wr.heap[w.heap.size]? = some (.cells #[.int .i32 k.1, .int .i64 k.2] 29) ∧ wr.heap[w.heap.size + 1]? = some (.cells (ptrArr fun _ => none) 82) ∧ wr.heap[w.heap.size + 2]? = some (.cells (ptrArr (outF h L (rank L k) n)) 82)
theorem pre_top {L : List Nd} (hs : Store L) {l : Nat} (hl : 8 ≤ l) : ∀ m, pre L l m = 0
  | 0 => rfl
  | m + 1 => by
    unfold pre
    have h8 : hiAt L m ≤ 8 := by
      unfold hiAt
      split
      · rename_i e he; exact (hs.hi _ (List.mem_of_getElem? he)).2
      · omega
    rw [if_neg (by omega), pre_top hs hl m]
theorem stp_succ {L : List Nd} {m n l : Nat} (hl : l + n = 7) : stp L m (n + 1) = stp L m n + (cntHi L l (pre L (l + 1) m) (pre L l m) + (if (nxPos L l (pre L l m) L.length).isSome then 1 else 0)) := by
  rw [stp, show 7 - n = l by omega, show 8 - n = l + 1 by omega]
theorem stp_none {L : List Nd} {m n l p : Nat} (hl : l + n = 7) (hm : m ≤ L.length) (h1 : pre L (l + 1) m ≤ p) (h2 : p ≤ m) (h3 : p = 0 ∨ l < hiP L p) (hx : nxPos L l p L.length = none) : pre L l m = p ∧ stp L m (n + 1) = stp L m n + cntHi L l (pre L (l + 1) m) p := by
  have e : pre L l m = p := pre_eq h2 h3 (fun i h5 h6 => nxPos_none hx (by omega) i h5 (by omega))
  rw [stp_succ hl, e, hx]
  exact ⟨rfl, rfl⟩
theorem stp_some {L : List Nd} {m n l p j : Nat} (hl : l + n = 7) (h1 : pre L (l + 1) m ≤ p) (h2 : p ≤ m) (h3 : p = 0 ∨ l < hiP L p) (hx : nxPos L l p L.length = some j) (hj : m ≤ j) : pre L l m = p ∧ stp L m (n + 1) = stp L m n + cntHi L l (pre L (l + 1) m) p + 1 := by
  have e : pre L l m = p := pre_eq h2 h3 (fun i h5 h6 => (nxPos_some hx).2.2.2 i h5 (by omega))
  rw [stp_succ hl, e, hx]
  exact ⟨rfl, rfl⟩
theorem stp_lt {L : List Nd} {m n l p : Nat} (hl : l + n = 7) (hm : m ≤ L.length) (h1 : pre L (l + 1) m ≤ p) (h2 : p ≤ m) : stp L m n + cntHi L l (pre L (l + 1) m) p ≤ p + n := by
  have h5 := stp_le L m n (by omega)
  rw [show 8 - n = l + 1 by omega] at h5
  have h6 := cntHi_le L l (pre L (l + 1) m) (p - pre L (l + 1) m)
  rw [show pre L (l + 1) m + (p - pre L (l + 1) m) = p by omega] at h6
  omega
def PathI (w : World) (h : Nat) (L : List Nd) (m n l : Nat) (w0 : World) (a st : Value) (wr : World) : Prop :=
  ∃ p : Nat, pre L (l + 1) m ≤ p ∧ p ≤ m ∧ (p = 0 ∨ l < hiP L p) ∧ a = .pointer (some ⟨adr h L p, 0, none⟩) ∧ st = .int .i64 (stp L m n + cntHi L l (pre L (l + 1) m) p : Nat) ∧ Below (w.heap.size + 3) w0 wr
def PathC (w : World) (h : Nat) (L : List Nd) (m n l : Nat) (w0 : World) (a st : Value) (wx : World) : Prop :=
  a = .pointer (some ⟨adr h L (pre L l m), 0, none⟩) ∧ st = .int .i64 (stp L m (n + 1) : Nat) ∧ Below (w.heap.size + 3) w0 wx
set_option maxHeartbeats 1000000 in
theorem path_is {w : World} {s h : Nat} {L : List Nd} {x : Int} {nx : Nat → Nat → Option Nat} (H : IsSk w s h L x nx) (hL : L.length ≤ 1048576) (k : Int × Int) :
    Calls Try.prog 36 #[.pointer (some ⟨s, 0, none⟩), .agg #[.int .i32 k.1, .int .i64 k.2]] w fun e w' =>
      e = .returned (.tuple #[.agg (ptrArr fun l => some (adr h L (pre L l (rank L k)))), .int .i64 (stp L (rank L k) 8 : Nat)]) ∧ Below w.heap.size w w' := by
  have HH := Lib.hid H
  have e0 := cellUp _ (.cells #[.pointer none, .pointer none, .pointer none, .pointer none, .pointer none, .pointer none, .pointer none, .pointer none] 82) (cellUp _ (.cells #[.pointer none, .pointer none, .pointer none, .pointer none, .pointer none, .pointer none, .pointer none, .pointer none] 82) (cellUp _ (.cells #[.int .i32 k.1, .int .i64 k.2] 29) H.c0))
  clear H
  go_enter Try.func36, Try.ntmps36
  go_wp2_with fail
  go_loopw [7, 8, 9] (fun a st lv wr => PathO w h L k a st lv wr) (fun _ _ lv _ => (intOf lv + 1).toNat)
  case atStart =>
    have hsk := HH.out
    refine ⟨0, by omega, ?_, rfl, rfl, (((Below.refl _ _).alloc (Nat.le_refl _) _).alloc (by simp) _).alloc (by simp; omega) _, ?_, ?_, ?_⟩
    · rw [pre_top hsk.store (by omega)]; rfl
    · rw [Below.heap_alloc _ _ _ (by simp; omega), Below.heap_alloc _ _ _ (by simp), heap_alloc_new]
    · rw [Below.heap_alloc _ _ _ (by simp)]
      have := heap_alloc_new (w.alloc (.cells #[.int .i32 k.1, .int .i64 k.2] 29)) (.cells (ptrArr fun _ => none) 82)
      rw [show (w.alloc (.cells #[.int .i32 k.1, .int .i64 k.2] 29)).heap.size = w.heap.size + 1 by simp] at this
      exact this
    · have := heap_alloc_new ((w.alloc (.cells #[.int .i32 k.1, .int .i64 k.2] 29)).alloc (.cells (ptrArr fun _ => none) 82)) (.cells (ptrArr fun _ => none) 82)
      rw [show ((w.alloc (.cells #[.int .i32 k.1, .int .i64 k.2] 29)).alloc (.cells (ptrArr fun _ => none) 82)).heap.size = w.heap.size + 2 by simp] at this
      exact this
  case round =>
    obtain ⟨n, hn, rfl, rfl, rfl, hB, hk, hZ, ho⟩ := hrel
    have HB := Lib.hid hB; have HKb := Lib.hid hk; have HZ := Lib.hid hZ; have HO := Lib.hid ho
    clear hB hk hZ ho e0
    obtain ⟨w1, rfl⟩ : ∃ w1, w1 = wr := ⟨_, rfl⟩
    by_cases h8 : n < 8
    · obtain ⟨l, hl⟩ : ∃ l, l + n = 7 := ⟨7 - n, by omega⟩
      have hlv : 7 - (n : Int) = (l : Int) := by omega
      have hl8 : l < 8 := by omega
      rw [hlv]
      clear hlv
      go_upto_block 2 with fail
      go_cut [7, 8] (fun a st wx => PathC w h L (rank L k) n l w1 a st wx)
      case first =>
        go_wp2_with fail
        go_loopw [7, 8] (fun a st wq => PathI w h L (rank L k) n l w1 a st wq) (fun _ st _ => stp L (rank L k) n + rank L k + 1 - (intOf st).toNat)
        case atStart =>
          have e8 : 8 - n = l + 1 := by omega
          refine ⟨pre L (l + 1) (rank L k), Nat.le_refl _, pre_le _ _ _, ?_, by rw [e8], by rw [cntHi_self]; rfl, Below.refl _ _⟩
          by_cases hl7 : l + 1 < 8
          · exact .inr (by have := pre_hi L hl7 (rank L k); omega)
          · exact .inl (pre_top HH.out.store (by omega) _)
        case round =>
          obtain ⟨p, hp1, hp2, hp3, rfl, rfl, hBq⟩ := hrel
          have hpl : p ≤ L.length := Nat.le_trans hp2 (rank_le _ _)
          have hpre : l < hiP L p := by rcases hp3 with rfl | h3; exact hl8; exact h3
          have HBq := Lib.hid hBq
          have HR := Lib.hid (show Below w.heap.size w wr from HB.out.trans (hBq.mono (by omega)))
          have HHr := HH.out.below HR.out
          have e4 := (HHr.nds p hpl).next hl8
          rw [HHr.links p hpl l hpre] at e4
          have HN := Lib.hid HHr
          have HP := Lib.hid (And.intro hp1 (And.intro hp2 (And.intro hp3 hpl)))
          clear hBq HHr hp1 hp2 hp3 hpl
          have g0 : (0 : Int) ≤ (l : Int) := by omega
          have g8 : (l : Int) < 8 := by omega
          have hq := HP.out
          obtain ⟨ap, hap⟩ : ∃ ap, adr h L p = ap := ⟨_, rfl⟩
          have HAP := Lib.hid hap
          rw [hap] at e4 ⊢
          clear hap
          cases hnx : nxPos L l p L.length with
          | none =>
            have HNX := Lib.hid hnx
            unfold nxt at e4
            rw [hnx] at e4
            simp only [Option.map_none, np] at e4
            clear hnx hq hpre
            go_wp2_with fail
            go_meet
            obtain ⟨h1, h2, h3, h4⟩ := HP.out
            obtain ⟨q1, q2⟩ := stp_none hl (rank_le _ _) h1 h2 h3 HNX.out
            exact ⟨by rw [q1, HAP.out], by rw [q2], HBq.out⟩
          | some j =>
            obtain ⟨j1, j2, j3, j4⟩ := nxPos_some hnx
            unfold nxt at e4
            rw [hnx] at e4
            simp only [Option.map_some, np] at e4
            obtain ⟨e, he⟩ : ∃ e, L[j]? = some e := ⟨_, List.getElem?_eq_getElem j2⟩
            have hbe : blkAt L j = e.b := by unfold blkAt; rw [he]
            rw [hbe] at e4
            have HNd := HN.out.nd he
            have n0 := HNd.c0
            have n1 := HNd.c1
            have k0 : wr.cell? ⟨w.heap.size, 0, none⟩ = some (.int .i32 k.1) := by have := (HBq.out.block w.heap.size (by omega)).trans HKb.out; simp [World.cell?, this]
            have k1 : wr.cell? ⟨w.heap.size, 1, none⟩ = some (.int .i64 k.2) := by have := (HBq.out.block w.heap.size (by omega)).trans HKb.out; simp [World.cell?, this]
            have hcnt := stp_lt hl (rank_le L k) HP.out.1 HP.out.2.1
            have HNX := Lib.hid hnx
            have HSZ := Lib.hid (show w.heap.size + 3 ≤ wr.heap.size from by have := (Array.getElem?_eq_some_iff.1 HO.out).1; have := HBq.out.size; omega)
            have HE := Lib.hid he
            have HJ := Lib.hid (And.intro j1 (And.intro j2 (And.intro j3 j4)))
            have HC0 := compare_is e.c.key k
            have HNG := Lib.hid (cmpK_neg e.c.key k)
            have HRK := Lib.hid (rank_lt (k := k) HH.out.store.sorted he)
            obtain ⟨r, hr⟩ : ∃ r, cmpK e.c.key k = r := ⟨_, rfl⟩
            rw [hr] at HC0 HNG
            have HC := Lib.hid HC0
            clear hnx hq hpre HNd he hbe j1 j2 j3 j4 HC0 hr
            have hple := HP.out.2.2.2
            have hst : (IntKind.i64.wrap (((stp L (rank L k) n + cntHi L l (pre L (l + 1) (rank L k)) p : Nat) : Int) + 1)) = ((stp L (rank L k) n + cntHi L l (pre L (l + 1) (rank L k)) p + 1 : Nat) : Int) := by rw [IntKind.wrap_i64]; omega
            obtain ⟨sv, hsv⟩ : ∃ sv, stp L (rank L k) n + cntHi L l (pre L (l + 1) (rank L k)) p = sv := ⟨_, rfl⟩
            have HSV := Lib.hid hsv
            rw [hsv] at hst hcnt ⊢
            have HST := Lib.hid hst
            clear hsv hst hple
            go_wp2_with fail
            refine wp_region_still_tail 11 (by kernel_rfl) (by kernel_rfl) ?_
            simp only [List.take_succ_cons, List.take_zero, List.drop_succ_cons, List.drop_zero]
            iterate 11 still_step
            refine wpStill_nil ?_
            change wpList _ _ _ _ _ wr.drew
            go_wp2_with fail
            refine (HC.out wr.drew).mono ?_
            rintro e' w5 ⟨rfl, hb⟩
            have HB5 := Lib.hid (show Below (w.heap.size + 3) w1 w5 from HBq.out.drew.trans (hb.mono HSZ.out))
            have HSW := Lib.hid (show wrap64 ((sv : Int) + 1) = ((sv + 1 : Nat) : Int) from (wrapE _).symm.trans HST.out)
            have e5 : w5.cell? ⟨ap, 4 + l, none⟩ = some (.pointer (some ⟨e.b, 0, none⟩)) := (hb.cell (p := ⟨ap, 4 + l, none⟩) (by have := (HN.out.nds p HP.out.2.2.2).lt; rw [HAP.out] at this; exact this)).trans e4
            clear hb e4 n0 n1 k0 k1
            by_cases hr0 : r < 0
            · have hrb : decide (0 ≤ r) = false := decide_eq_false (by omega)
              have HLT := Lib.hid (show j < rank L k from by have := (HNG.out.1 hr0); rw [HRK.out] at this; exact of_decide_eq_true this)
              clear hr0
              go_wp2_with fail
              go_roundw
              case rel =>
                refine ⟨j + 1, ?_, HLT.out, .inr HJ.out.2.2.1, ?_, ?_, HB5.out⟩
                · have := HP.out.1; have := HJ.out.1; omega
                · show _ = Value.pointer (some ⟨blkAt L j, 0, none⟩)
                  unfold blkAt
                  rw [HE.out]
                · rw [HSW.out, cntHi_step L l _ p j HP.out.1 HJ.out.1 HJ.out.2.2.2 HJ.out.2.2.1, ← Nat.add_assoc, HSV.out]
              case measure =>
                have h1 := HSV.out
                have h2 := cntHi_le L l (pre L (l + 1) (rank L k)) (p - pre L (l + 1) (rank L k))
                rw [show pre L (l + 1) (rank L k) + (p - pre L (l + 1) (rank L k)) = p from by have := HP.out.1; omega] at h2
                have h3 := HP.out.2.1
                rw [HSW.out]
                simp only [intOf]
                omega
            · have hrb : decide (0 ≤ r) = true := decide_eq_true (by omega)
              have HGE := Lib.hid (show rank L k ≤ j from by
                have h1 : ¬ kLt e.c.key k = true := fun e => hr0 (HNG.out.2 e)
                rw [HRK.out] at h1
                have : ¬ j < rank L k := fun e => h1 (decide_eq_true e)
                omega)
              clear hr0
              go_wp2_with fail
              go_meet
              obtain ⟨h1, h2, h3, h4⟩ := HP.out
              obtain ⟨q1, q2⟩ := stp_some hl h1 h2 h3 HNX.out HGE.out
              exact ⟨by rw [q1, HAP.out], by rw [q2, HSW.out, HSV.out], HB5.out⟩
      case rest =>
        obtain ⟨rfl, rfl, hBc⟩ := hcut
        have HBc := Lib.hid hBc
        have o0 := (HBc.out.block w.heap.size (by omega)).trans HKb.out
        have o2 := (HBc.out.block (w.heap.size + 1) (by omega)).trans HZ.out
        have o1 := (HBc.out.block (w.heap.size + 2) (by omega)).trans HO.out
        have c1 : wc.cell? ⟨w.heap.size + 1 + 1, l, none⟩ = some (np (outF h L (rank L k) n l)) := by simp [World.cell?, o1, ptrArr_get _ hl8]
        have z1 : wc.frozen? ⟨w.heap.size + 1 + 1, l, none⟩ = false := by simp [World.frozen?, o1]
        have g0 : (0 : Int) ≤ (l : Int) := by omega
        have g8 : (l : Int) < 8 := by omega
        have HO0 := Lib.hid o0; have HO1 := Lib.hid o1; have HO2 := Lib.hid o2
        have H7 := Lib.hid (show l = 7 - n by omega)
        clear hBc o1 o0 o2
        go_wp2_with fail
        go_roundw
        case rel =>
          refine ⟨n + 1, by omega, by rw [show 8 - (n + 1) = l by omega], rfl, ?_, ?_, ?_, ?_, ?_⟩
          · go_num
          · exact (HB.out.trans (HBc.out.mono (by omega))).setCell (by show _ ≤ w.heap.size + 1 + 1; omega) _
          · exact (Below.heap_setCell wc _ _ _ (by show w.heap.size ≠ w.heap.size + 1 + 1; omega)).trans HO0.out
          · exact (Below.heap_setCell wc _ _ _ (by show w.heap.size + 1 ≠ w.heap.size + 1 + 1; omega)).trans HO2.out
          · have := heap_same (a := ⟨w.heap.size + 2, l, none⟩) (v := np (some (adr h L (pre L l (rank L k))))) HO1.out rfl
            rw [ptrArr_set _ hl8] at this
            refine this.trans ?_
            rw [ptrArr_congr (g := outF h L (rank L k) (n + 1)) (fun l' hl' => by rw [H7.out]; exact outF_step h L (rank L k) h8 hl')]
        case measure => simp [intOf]
    · have hn8 : n = 8 := by omega
      subst hn8
      clear h8 hn
      have o1 := HO.out
      have hrd : ∀ i, i < 8 → w1.cell? ⟨w.heap.size + 1 + 1, i, none⟩ = some (.pointer (some ⟨adr h L (pre L i (rank L k)), 0, none⟩)) := fun i hi => by
        have := ptrArr_get (outF h L (rank L k) 8) hi
        rw [show outF h L (rank L k) 8 i = some (adr h L (pre L i (rank L k))) by unfold outF; simp] at this
        simp [World.cell?, o1, this, np]
      have r0 := hrd 0 (by omega); have r1 := hrd 1 (by omega); have r2 := hrd 2 (by omega); have r3 := hrd 3 (by omega); have r4 := hrd 4 (by omega); have r5 := hrd 5 (by omega); have r6 := hrd 6 (by omega); have r7 := hrd 7 (by omega)
      have o2 := HZ.out
      have hbd : ∀ i, i < 8 → w1.cell? ⟨w.heap.size + 1, i, none⟩ = some (.pointer none) := fun i hi => by
        have := ptrArr_get (fun _ => none) hi
        simp [World.cell?, o2, this, np]
      have hzd : ∀ i, w1.frozen? ⟨w.heap.size + 1, i, none⟩ = false := fun i => by simp [World.frozen?, o2]
      have b0 := hbd 0 (by omega); have b1 := hbd 1 (by omega); have b2 := hbd 2 (by omega); have b3 := hbd 3 (by omega); have b4 := hbd 4 (by omega); have b5 := hbd 5 (by omega); have b6 := hbd 6 (by omega); have b7 := hbd 7 (by omega)
      have z0 := hzd 0; have z1 := hzd 1; have z2 := hzd 2; have z3 := hzd 3; have z4 := hzd 4; have z5 := hzd 5; have z6 := hzd 6; have z7 := hzd 7
      clear hrd hbd hzd o1 o2
      go_wp2_with fail
      (try simp only [Exit.inBlock, Exit.then])
      refine bodyPost_ret (v := .tuple #[.agg (ptrArr fun l => some (adr h L (pre L l (rank L k)))), .int .i64 (stp L (rank L k) 8 : Nat)]) ?_ rfl ⟨rfl, ?_⟩
      · rw [results_cell_tmp rfl]
        go_simp
        rfl
      · exact ((((((((HB.out.setCell (by show _ ≤ w.heap.size + 1; omega) _).setCell (by show _ ≤ w.heap.size + 1; omega) _).setCell (by show _ ≤ w.heap.size + 1; omega) _).setCell (by show _ ≤ w.heap.size + 1; omega) _).setCell (by show _ ≤ w.heap.size + 1; omega) _).setCell (by show _ ≤ w.heap.size + 1; omega) _).setCell (by show _ ≤ w.heap.size + 1; omega) _).setCell (by show _ ≤ w.heap.size + 1; omega) _)
end Go.Proofs.Ytdolmkiiflhehaa.M
end

section
/- '==' of keys and of cells. -/
set_option linter.unusedVariables false
set_option linter.unusedSimpArgs false
set_option maxRecDepth 100000
namespace Go.Proofs.Ytdolmkiiflhehaa.M
open Go.RowKit Go.Proofs.YtdolmkiiflhehaaW.PrintWords
def keyV (k : Int × Int) : Value := .agg #[.int .i32 k.1, .int .i64 k.2]
def celV (c : CellD) : Value := .agg #[.int .i32 c.table, .int .i64 c.row, .int .i64 c.value, .int .i64 c.slot]
theorem eq_i32 (d : Nat) (a b : Int) (w : World) : (Op.equalIn (d + 1) 21 (.int .i32 a) (.int .i32 b)).run Try.prog w = .ok (a == b) w := by
  have hu := Try.underlying21
  simp [Op.equalIn, go_sem, hu]
theorem eq_i64 (d : Nat) (a b : Int) (w : World) : (Op.equalIn (d + 1) 2 (.int .i64 a) (.int .i64 b)).run Try.prog w = .ok (a == b) w := by
  have hu := Try.underlying2
  simp [Op.equalIn, go_sem, hu]
theorem eq_key (d : Nat) (a b : Int × Int) (w : World) : (Op.equalIn (d + 2) 29 (keyV a) (keyV b)).run Try.prog w = .ok (a.1 == b.1 && a.2 == b.2) w := by
  refine eqA_of Try.underlying29 (by kernel_rfl) ?_
  simp only
  refine eqf_cons (by rfl) ?_ ?_ (eq_i32 _ _ _ _) (eqf_end (by rfl) ?_ ?_ (eq_i64 _ _ _ _) eqf_nil)
  all_goals simp only [part]
  all_goals go_simp
theorem eq_cel (d : Nat) (a b : CellD) (w : World) : (Op.equalIn (d + 3) 31 (celV a) (celV b)).run Try.prog w = .ok ((a.table == b.table && a.row == b.row) && (a.value == b.value && a.slot == b.slot)) w := by
  refine eqA_of Try.underlying31 (by kernel_rfl) ?_
  simp only
  refine eqf_cons (by rfl) ?_ ?_ (eq_key _ a.key b.key _) (eqf_cons (by rfl) ?_ ?_ (eq_i64 _ _ _ _) (eqf_end (by rfl) ?_ ?_ (eq_i64 _ _ _ _) eqf_nil))
  all_goals simp only [part]
  all_goals go_simp
  all_goals first | rfl | trace_state
theorem eqk_self (k : Int × Int) (w : World) : (Op.equalIn 10000 29 (keyV k) (keyV k)).run Try.prog w = .ok true w := by
  have := eq_key 9998 k k w
  simpa using this
theorem eqk_ne {a b : Int × Int} (h : a ≠ b) (w : World) : (Op.equalIn 10000 29 (keyV a) (keyV b)).run Try.prog w = .ok false w := by
  have := eq_key 9998 a b w
  rw [this]
  congr 1
  simp only [Bool.and_eq_false_iff, beq_eq_false_iff_ne]
  by_cases e : a.1 = b.1
  · exact .inr (fun e2 => h (Prod.ext e e2))
  · exact .inl e
theorem eqc_self (c : CellD) (w : World) : (Op.equalIn 10000 31 (celV c) (celV c)).run Try.prog w = .ok true w := by
  have := eq_cel 9997 c c w
  simpa using this
theorem eqc_ne {a b : CellD} (h : a ≠ b) (w : World) : (Op.equalIn 10000 31 (celV a) (celV b)).run Try.prog w = .ok false w := by
  have := eq_cel 9997 a b w
  rw [this]
  congr 1
  rw [← Bool.not_eq_true]
  intro h2
  simp only [Bool.and_eq_true, beq_iff_eq] at h2
  apply h
  cases a; cases b
  simp only [CellD.mk.injEq]
  exact ⟨h2.1.1, h2.1.2, h2.2.1, h2.2.2⟩
end Go.Proofs.Ytdolmkiiflhehaa.M
end

section
/- at, Len, New, Get. -/
set_option linter.unusedVariables false
set_option linter.unusedSimpArgs false
set_option maxRecDepth 100000
attribute [local irreducible] Go.wpStill
namespace Go.Proofs.Ytdolmkiiflhehaa.M
open Go.RowKit Go.Proofs.YtdolmkiiflhehaaW.PrintWords
def atB (L : List Nd) (k : Int × Int) : Option Nat := (L[rank L k]?).map (·.b)
theorem nxt_at {L : List Nd} (hs : Store L) {m : Nat} (hm : m ≤ L.length) : nxt L 0 m = (L[m]?).map (·.b) := by
  unfold nxt
  by_cases h : m < L.length
  · rw [nxt_zero hs h, List.getElem?_eq_getElem h]
    show some (blkAt L m) = _
    unfold blkAt
    rw [List.getElem?_eq_getElem h]
    rfl
  · rw [nxt_end (by omega), List.getElem?_eq_none (by omega)]
    rfl
theorem len_is {w : World} {s h : Nat} {L : List Nd} {x : Int} {nx : Nat → Nat → Option Nat} (H : IsSk w s h L x nx) : Calls Try.prog 14 #[.pointer (some ⟨s, 0, none⟩)] w fun e w' => e = .returned (.int .i64 L.length) ∧ w' = w := by
  have c1 := H.c1
  have HN := Lib.hid (none_is H)
  clear H
  go_enter Try.func14, Try.ntmps14
  go_wp2_with fail
  refine HN.out.mono ?_
  rintro e w' ⟨rfl, rfl⟩
  go_wp2_with fail
  go_ret
  exact ⟨rfl, rfl⟩
theorem new_is (x : Int) (w : World) : Calls Try.prog 9 #[.int .u64 x] w fun e w' => e = .returned (.pointer (some ⟨w.heap.size + 1, 0, none⟩)) ∧ IsSk w' (w.heap.size + 1) w.heap.size [] x (fun _ _ => none) ∧ Below w.heap.size w w' := by
  go_enter Try.func9, Try.ntmps9
  go_wp2_with fail
  go_ret
  refine ⟨rfl, ⟨?_, ?_, ?_, ?_, ⟨List.Pairwise.nil, ?_⟩, ?_⟩, ?_⟩
  · have := heap_alloc_new (w.alloc (.cells (ndArr ⟨0, 0, 0, 0⟩ (fun _ => none) 8) 84)) (.cells #[.pointer (some ⟨w.heap.size, 0, none⟩), .int .i64 0, .int .u64 x] 52)
    rw [show (w.alloc (.cells (ndArr ⟨0, 0, 0, 0⟩ (fun _ => none) 8) 84)).heap.size = w.heap.size + 1 by simp] at this
    exact this
  · intro a ha
    have ha0 : a = 0 := by simpa using ha
    subst ha0
    exact ⟨(Below.heap_alloc _ _ _ (by show w.heap.size < _; simp)).trans (heap_alloc_new w _)⟩
  · intro a ha l hl
    have ha0 : a = 0 := by simpa using ha
    subst ha0
    rfl
  · unfold Apart; simp
  · intro e he; cases he
  · simp
  · exact ((Below.refl _ _).alloc (Nat.le_refl _) _).alloc (by simp) _
theorem at_is {w : World} {s h : Nat} {L : List Nd} {x : Int} {nx : Nat → Nat → Option Nat} (H : IsSk w s h L x nx) (hL : L.length ≤ 1048576) (k : Int × Int) :
    Calls Try.prog 38 #[.pointer (some ⟨s, 0, none⟩), .agg #[.int .i32 k.1, .int .i64 k.2]] w fun e w' => e = .returned (np (atB L k)) ∧ Below w.heap.size w w' := by
  have HH := Lib.hid H
  have HP := Lib.hid (path_is (H.alloc (.cells #[.int .i32 k.1, .int .i64 k.2] 29)) hL k)
  have HB := Lib.hid (show Below w.heap.size w (w.alloc (.cells #[.int .i32 k.1, .int .i64 k.2] 29)) from (Below.refl _ _).alloc (Nat.le_refl _) _)
  clear H
  go_enter Try.func38, Try.ntmps38
  go_wp2_with fail
  refine HP.out.mono ?_
  rintro e w1 ⟨rfl, hb⟩
  have HB1 := Lib.hid (HB.out.trans (hb.mono (by simp)))
  clear hb
  have h1 := HH.out.below HB1.out
  have hm := rank_le L k
  have hp := pre_zero h1.store hm
  have n1 := (h1.nds (rank L k) hm).next (l := 0) (by omega)
  rw [h1.links _ hm 0 (by rw [← hp]; exact pre_hi L (by omega) _), nxt_at h1.store hm] at n1
  have n2 := (h1.nds _ hm).lt
  clear h1 hm
  unfold ptrArr
  simp only [np]
  obtain ⟨pb, hpb⟩ : ∃ pb, adr h L (rank L k) = pb := ⟨_, rfl⟩
  rw [hpb] at n1 n2
  have hp2 : adr h L (pre L 0 (rank L k)) = pb := by rw [hp]; exact hpb
  simp only [hp2]
  clear hpb hp hp2
  have n3 : w1.cell? ⟨pb, 4, none⟩ = some (np (atB L k)) := n1
  obtain ⟨r, hr⟩ : ∃ r, np (atB L k) = r := ⟨_, rfl⟩
  rw [hr] at n3
  have HR := Lib.hid hr
  clear n1 hr
  go_wp2_with fail
  go_ret
  refine ⟨by rw [HR.out]; rfl, ?_⟩
  exact HB1.out.alloc HB1.out.size _
theorem getB {w : World} {s h : Nat} {L : List Nd} {x : Int} {nx : Nat → Nat → Option Nat} (H : IsSk w s h L x nx) (k : Int × Int) : (atB L k = none ∧ getL L k = none) ∨ ∃ e, atB L k = some e.b ∧ L[rank L k]? = some e ∧ NodeIs w e.b e.c (nx e.b) e.hi ∧ getL L k = if e.c.key = k then some e.c else none := by
  unfold atB getL
  cases hm : L[rank L k]? with
  | none => exact .inl ⟨rfl, rfl⟩
  | some e => exact .inr ⟨e, rfl, rfl, H.nd hm, rfl⟩
def getV : Option CellD → Value
  | none => .tuple #[celV ⟨0, 0, 0, 0⟩, .bool false]
  | some c => .tuple #[celV c, .bool true]
set_option maxHeartbeats 1000000 in
theorem get_is {w : World} {s h : Nat} {L : List Nd} {x : Int} {nx : Nat → Nat → Option Nat} (H : IsSk w s h L x nx) (hL : L.length ≤ 1048576) (k : Int × Int) :
    Calls Try.prog 13 #[.pointer (some ⟨s, 0, none⟩), .agg #[.int .i32 k.1, .int .i64 k.2]] w fun e w' => e = .returned (getV (getL L k)) ∧ Below w.heap.size w w' := by
  have HB := Lib.hid (show Below w.heap.size w ((w.alloc (.cells #[.int .i32 k.1, .int .i64 k.2] 29)).alloc (.cells #[.int .i32 0, .int .i64 0, .int .i64 0, .int .i64 0] 31)) from ((Below.refl _ _).alloc (Nat.le_refl _) _).alloc (by simp) _)
  have HA := H.below HB.out
  have e0 := cellUp _ (.cells #[.int .i32 0, .int .i64 0, .int .i64 0, .int .i64 0] 31) (Joins.cell_alloc_mark_at w #[.int .i32 k.1, .int .i64 k.2] 29 (0, 0) w.heap.size 0 rfl)
  have e1 := cellUp _ (.cells #[.int .i32 0, .int .i64 0, .int .i64 0, .int .i64 0] 31) (Joins.cell_alloc_mark_at w #[.int .i32 k.1, .int .i64 k.2] 29 (0, 0) w.heap.size 1 rfl)
  have d5 := (Below.refl (w.heap.size + 2) ((w.alloc (.cells #[.int .i32 k.1, .int .i64 k.2] 29)).alloc (.cells #[.int .i32 0, .int .i64 0, .int .i64 0, .int .i64 0] 31)))
  have HBLK := Lib.hid (show ((w.alloc (.cells #[.int .i32 k.1, .int .i64 k.2] 29)).alloc (.cells #[.int .i32 0, .int .i64 0, .int .i64 0, .int .i64 0] 31)).heap[w.heap.size + 1]? = some (.cells #[.int .i32 0, .int .i64 0, .int .i64 0, .int .i64 0] 31) from by
    have := heap_alloc_new (w.alloc (.cells #[.int .i32 k.1, .int .i64 k.2] 29)) (.cells #[.int .i32 0, .int .i64 0, .int .i64 0, .int .i64 0] 31)
    rw [show (w.alloc (.cells #[.int .i32 k.1, .int .i64 k.2] 29)).heap.size = w.heap.size + 1 by simp] at this
    exact this)
  have HSZ := Lib.hid (show ((w.alloc (.cells #[.int .i32 k.1, .int .i64 k.2] 29)).alloc (.cells #[.int .i32 0, .int .i64 0, .int .i64 0, .int .i64 0] 31)).heap.size = w.heap.size + 2 by simp)
  clear d5
  go_enter Try.func13, Try.ntmps13
  go_wp2_with fail
  obtain ⟨w2, hw2⟩ : ∃ w2, (w.alloc (.cells #[.int .i32 k.1, .int .i64 k.2] 29)).alloc (.cells #[.int .i32 0, .int .i64 0, .int .i64 0, .int .i64 0] 31) = w2 := ⟨_, rfl⟩
  rw [hw2] at HB HA e0 e1 HBLK HSZ ⊢
  clear hw2
  have HH := Lib.hid HA
  clear HA H
  refine (none_is HH.out).mono ?_
  rintro e w' ⟨rfl, rfl⟩
  go_wp2_with fail
  refine (at_is HH.out hL k).mono ?_
  rintro e w3 ⟨rfl, hb⟩
  have HB3 := Lib.hid hb
  have HH3 := Lib.hid (HH.out.below hb)
  have k0 := (hb.cell (p := ⟨w.heap.size, 0, none⟩) (by rw [HSZ.out]; show w.heap.size < _; omega)).trans e0
  have k1 := (hb.cell (p := ⟨w.heap.size, 1, none⟩) (by rw [HSZ.out]; show w.heap.size < _; omega)).trans e1
  have b1 := (hb.block (w.heap.size + 1) (by rw [HSZ.out]; omega)).trans HBLK.out
  have cb0 : w3.cell? ⟨w.heap.size + 1, 0, none⟩ = some (.int .i32 0) := by simp [World.cell?, b1]
  have cb1 : w3.cell? ⟨w.heap.size + 1, 1, none⟩ = some (.int .i64 0) := by simp [World.cell?, b1]
  have cb2 : w3.cell? ⟨w.heap.size + 1, 2, none⟩ = some (.int .i64 0) := by simp [World.cell?, b1]
  have cb3 : w3.cell? ⟨w.heap.size + 1, 3, none⟩ = some (.int .i64 0) := by simp [World.cell?, b1]
  have z0 : w3.frozen? ⟨w.heap.size + 1, 0, none⟩ = false := by simp [World.frozen?, b1]
  have z1 : w3.frozen? ⟨w.heap.size + 1, 1, none⟩ = false := by simp [World.frozen?, b1]
  have z2 : w3.frozen? ⟨w.heap.size + 1, 2, none⟩ = false := by simp [World.frozen?, b1]
  have z3 : w3.frozen? ⟨w.heap.size + 1, 3, none⟩ = false := by simp [World.frozen?, b1]
  clear hb b1 e0 e1
  rcases getB HH3.out k with ⟨h1, h2⟩ | ⟨e, h1, h2, h3, h4⟩
  · have HG := Lib.hid h2
    rw [h1]
    clear h1 h2
    simp only [np]
    go_wp2_with fail
    refine wp_region_still_tail 10 (by kernel_rfl) (by kernel_rfl) ?_
    simp only [List.take_succ_cons, List.take_zero, List.drop_succ_cons, List.drop_zero]
    iterate 10 still_step
    refine wpStill_nil ?_
    change wpList _ _ _ _ _ w3.drew
    go_wp2_with fail
    (try simp only [Exit.inBlock, Exit.then])
    refine bodyPost_ret (v := getV none) ?_ rfl ⟨by rw [HG.out], ?_⟩
    · rw [results_cell_tmp rfl]
      go_simp
      rfl
    · exact ((((HB.out.trans (HB3.out.mono (by rw [HSZ.out]; omega))).setCell (by show _ ≤ w.heap.size + 1; omega) _).setCell (by show _ ≤ w.heap.size + 1; omega) _).setCell (by show _ ≤ w.heap.size + 1; omega) _).setCell (by show _ ≤ w.heap.size + 1; omega) _ |>.drew
  · have HG := Lib.hid h4
    rw [h1]
    have n0 := h3.c0
    have n1 := h3.c1
    have n2 := h3.c2
    have n3 := h3.c3
    clear h1 h2 h3 h4
    simp only [np]
    by_cases hk : e.c.key = k
    · have hq : ∀ W : World, (Op.equalIn 10000 29 (.agg #[.int .i32 e.c.table, .int .i64 e.c.row]) (.agg #[.int .i32 k.1, .int .i64 k.2])).run Try.prog W = .ok true W := fun W => by
        rw [← hk]; exact eqk_self e.c.key W
      have HE := Lib.hid (show getL L k = some e.c by rw [HG.out, if_pos hk])
      clear hk
      go_wp2_with fail
      refine wp_region_still_tail 10 (by kernel_rfl) (by kernel_rfl) ?_
      simp only [List.take_succ_cons, List.take_zero, List.drop_succ_cons, List.drop_zero]
      iterate 10 still_step
      refine wpStill_nil ?_
      change wpList _ _ _ _ _ w3.drew
      go_wp2_with fail
      (try simp only [Exit.inBlock, Exit.then])
      refine bodyPost_ret (v := getV (some e.c)) ?_ rfl ⟨by rw [HE.out], ?_⟩
      · rw [results_cell_tmp rfl]
        go_simp
        rfl
      · exact ((((HB.out.trans (HB3.out.mono (by rw [HSZ.out]; omega))).setCell (by show _ ≤ w.heap.size + 1; omega) _).setCell (by show _ ≤ w.heap.size + 1; omega) _).setCell (by show _ ≤ w.heap.size + 1; omega) _).setCell (by show _ ≤ w.heap.size + 1; omega) _ |>.drew
    · have hq : ∀ W : World, (Op.equalIn 10000 29 (.agg #[.int .i32 e.c.table, .int .i64 e.c.row]) (.agg #[.int .i32 k.1, .int .i64 k.2])).run Try.prog W = .ok false W := fun W => eqk_ne hk W
      have HE := Lib.hid (show getL L k = none by rw [HG.out, if_neg hk])
      clear hk
      go_wp2_with fail
      refine wp_region_still_tail 10 (by kernel_rfl) (by kernel_rfl) ?_
      simp only [List.take_succ_cons, List.take_zero, List.drop_succ_cons, List.drop_zero]
      iterate 10 still_step
      refine wpStill_nil ?_
      change wpList _ _ _ _ _ w3.drew
      go_wp2_with fail
      (try simp only [Exit.inBlock, Exit.then])
      refine bodyPost_ret (v := getV none) ?_ rfl ⟨by rw [HE.out], ?_⟩
      · rw [results_cell_tmp rfl]
        go_simp
        rfl
      · exact ((((HB.out.trans (HB3.out.mono (by rw [HSZ.out]; omega))).setCell (by show _ ≤ w.heap.size + 1; omega) _).setCell (by show _ ≤ w.heap.size + 1; omega) _).setCell (by show _ ≤ w.heap.size + 1; omega) _).setCell (by show _ ≤ w.heap.size + 1; omega) _ |>.drew
end Go.Proofs.Ytdolmkiiflhehaa.M
end

section
/- What a law is handed: any type of numbers, bools, slices and structs, opened as Lean data (its kind 'Kd'), with its bounds; the row's frame. -/
set_option linter.unusedVariables false
set_option linter.unusedSimpArgs false
namespace Go.Proofs.Ytdolmkiiflhehaa.M
open Go.RowKit Go.ChangeShapes Go.WideShapes Go.ChangeAt Go.Proofs.YtdolmkiiflhehaaW.PrintWords
structure Opens {α : Type} (P : Program) (T : TypeId) (d : Kd α) (ok : α → Prop) (sz : α → Nat) : Prop where
  cells : P.cellsOf T = d.sz
  heap : Kd.Heap d
  open_ : ∀ {H : Type} {enc : TypeId × Value → H} {W : World} {base : Nat} {spare : Nat → Bool} {held : Bool} {fuel : Nat} {cs : List Value} {x : DataW H × List MemPlace},
    DataW.trod enc P W base spare held fuel T cs = some x → ∃ y, d.K W y cs ∧ ok y ∧ sz y ≤ Rows.uptoBulk x.1
theorem opens_int {P : Program} {T : TypeId} {k : IntKind} (ht : P.underlying T = some (.int k)) (hc : P.cellsOf T = 1) : Opens P T (Kd.int k) (fun x => (Lit.int k x).wf = true) (fun _ => 1) :=
  ⟨hc, Kd.heap_int k, fun h => by
    obtain ⟨n, rfl, rfl, hw⟩ := DataW.trod_int ht h
    exact ⟨n, rfl, hw, Nat.le_refl _⟩⟩
theorem exists_list {α : Type} (p : Nat → α → Prop) : ∀ n, (∀ i, i < n → ∃ y, p i y) → ∃ l : List α, l.length = n ∧ ∀ i y, l[i]? = some y → p i y
  | 0, _ => ⟨[], rfl, fun i y h => by simp at h⟩
  | n + 1, h => by
    obtain ⟨l, hl, hp⟩ := exists_list p n (fun i hi => h i (by omega))
    obtain ⟨y, hy⟩ := h n (by omega)
    refine ⟨l ++ [y], by simp [hl], fun i z hz => ?_⟩
    rcases Nat.lt_or_ge i l.length with hi | hi
    · rw [List.getElem?_append_left hi] at hz; exact hp i z hz
    · have : i = l.length := by have := (List.getElem?_eq_some_iff.1 hz).1; simp at this; omega
      subst this
      simp at hz
      subst hz
      rw [hl]; exact hy
def szL {α : Type} (sz : α → Nat) (l : List α) : Nat := (l.map sz).sum + 1
theorem sum_le {α H : Type} (sz : α → Nat) : ∀ (l : List α) (ds : List (DataW H)), l.length = ds.length → (∀ (i : Nat) y d, l[i]? = some y → ds[i]? = some d → sz y ≤ Rows.uptoBulk d) → (l.map sz).sum ≤ Rows.uptoBulkAll ds
  | [], _, _, _ => by simp
  | y :: l, [], h, _ => by simp at h
  | y :: l, d :: ds, h, hp => by
    have h1 := hp 0 y d rfl rfl
    have h2 := sum_le sz l ds (by simpa using h) (fun i y' d' h3 h4 => hp (i + 1) y' d' (by simpa using h3) (by simpa using h4))
    simp only [List.map_cons, List.sum_cons, Rows.uptoBulkAll]
    omega
theorem opens_slice {α : Type} {P : Program} {T e : TypeId} {d : Kd α} {ok : α → Prop} {sz : α → Nat} (ht : P.underlying T = some (.slice e)) (hc : P.cellsOf T = 1) (he : Opens P e d ok sz) :
    Opens P T (Kd.slice e d) (fun l => l.length ≤ 9223372036854775807 ∧ ∀ x ∈ l, ok x) (szL sz) :=
  ⟨hc, Kd.heap_slice e he.heap, fun {H enc W base spare held fuel cs x} h => by
    rcases DataW.trod_slice ht h with ⟨rfl, rfl⟩ | ⟨a, len, cap, elems, rest, n, rfl, rfl, rfl, hb, hl, hm, hlen, hel, hsp, hns⟩
    · exact ⟨[], ⟨none, 0, rfl, Nat.le_refl _, Kd.C_nil d W⟩, ⟨by simp, by simp⟩, by simp [szL, Rows.uptoBulk]⟩
    · have each : ∀ i, i < len → ∃ y, (∃ c, c.length = d.sz ∧ d.K W y c ∧ ∀ j u, c[j]? = some u → W.cell? (a.add (i * d.sz + j)) = some u) ∧ ok y ∧ ∀ z, elems[i]? = some z → sz y ≤ Rows.uptoBulk z.1 := by
        intro i hi
        have h1 := hel i hi
        have h2 : elems[i]? = some (elems[i]'(by omega)) := List.getElem?_eq_getElem _
        rw [h2, Option.bind_eq_some_iff] at h1
        obtain ⟨c, h3, h4⟩ := h1
        obtain ⟨_, h5, h6⟩ := World.cells?_some h3
        obtain ⟨y, h7, h8, h9⟩ := he.open_ h4
        refine ⟨y, ⟨c, by rw [h5, he.cells], h7, fun j u hj => ?_⟩, h8, fun z hz => by rw [h2] at hz; cases hz; exact h9⟩
        have hjl : j < c.length := (List.getElem?_eq_some_iff.1 hj).1
        have := h6 j (by omega)
        rw [add_add, he.cells] at this
        rw [this, hj]
      obtain ⟨l, h1, h2⟩ := exists_list _ len each
      have hm2 : len ≤ 9223372036854775807 := by simp only [maxLen] at hm; omega
      refine ⟨l, ⟨some a, cap, by rw [h1], by omega, h1 ▸ ⟨h1, by omega, fun _ => ⟨a, rfl, fun j p hj => (h2 j p hj).1⟩⟩⟩, ⟨by omega, fun y hy => ?_⟩, ?_⟩
      · obtain ⟨i, hi⟩ := List.getElem?_of_mem hy
        exact (h2 i y hi).2.1
      · have h3 := sum_le sz l (elems.map (·.1)) (by simp; omega) (fun i y z hy hz => by
          rw [List.getElem?_map, Option.map_eq_some_iff] at hz
          obtain ⟨q, hq, rfl⟩ := hz
          exact (h2 i y hy).2.2 q hq)
        simp only [szL, Rows.uptoBulk]
        omega⟩
structure OpensL {α : Type} (P : Program) (fs : List Field) (off : Nat) (d : Kd α) (ok : α → Prop) (sz : α → Nat) : Prop where
  heap : Kd.Heap d
  open_ : ∀ {H : Type} {enc : TypeId × Value → H} {W : World} {base : Nat} {spare : Nat → Bool} {held : Bool} {fuel : Nat} {cs : List Value} {xs : List (DataW H × List MemPlace)},
    cs.length = off + d.sz → xs.length = fs.length → (∀ (i : Nat) (f : Field), fs[i]? = some f → DataW.trod enc P W base spare held fuel f.type ((cs.drop f.offset).take (P.cellsOf f.type)) = xs[i]?) →
    ∃ y, d.K W y (cs.drop off) ∧ ok y ∧ sz y ≤ Rows.uptoBulkAll (xs.map (·.1))
theorem opensL_one {α : Type} {P : Program} {f : Field} {off : Nat} {d : Kd α} {ok : α → Prop} {sz : α → Nat} (hf : f.offset = off) (he : Opens P f.type d ok sz) : OpensL P [f] off d ok sz :=
  ⟨he.heap, fun {H enc W base spare held fuel cs xs} hcs hxs h => by
    match xs, hxs with
    | [x], _ =>
      have h1 := h 0 f rfl
      rw [he.cells, hf, List.take_of_length_le (by simp; omega)] at h1
      obtain ⟨y, h2, h3, h4⟩ := he.open_ h1
      exact ⟨y, h2, h3, by simp [Rows.uptoBulkAll]; exact h4⟩⟩
theorem opensL_cons {α β : Type} {P : Program} {f : Field} {fs : List Field} {off : Nat} {a : Kd α} {b : Kd β} {oka : α → Prop} {okb : β → Prop} {sza : α → Nat} {szb : β → Nat} (hf : f.offset = off) (he : Opens P f.type a oka sza) (hl : OpensL P fs (off + a.sz) b okb szb) :
    OpensL P (f :: fs) off (Kd.pair a b) (fun x => oka x.1 ∧ okb x.2) (fun x => sza x.1 + szb x.2) :=
  ⟨Kd.heap_pair he.heap hl.heap, fun {H enc W base spare held fuel cs xs} hcs hxs h => by
    have hcs' : cs.length = off + (a.sz + b.sz) := hcs
    match xs, hxs with
    | x :: xs, hxs =>
      have h1 := h 0 f rfl
      rw [he.cells, hf] at h1
      obtain ⟨y, h2, h3, h4⟩ := he.open_ h1
      obtain ⟨z, h5, h6, h7⟩ := hl.open_ (cs := cs) (xs := xs) (by omega) (by simpa using hxs) (fun i f hi => h (i + 1) f (by simpa using hi))
      refine ⟨(y, z), ⟨_, _, ?_, h2, h5⟩, ⟨h3, h6⟩, ?_⟩
      · rw [← List.drop_drop, List.take_append_drop]
      · simp only [List.map_cons, Rows.uptoBulkAll]
        omega⟩
theorem opens_struct {α β : Type} {P : Program} {T : TypeId} {fs : Array Field} {d : Kd α} {ok : α → Prop} {sz : α → Nat} (f : β → α) (g : α → β) (hfg : ∀ a, f (g a) = a) (ht : P.underlying T = some (.struct fs)) (hc : P.cellsOf T = d.sz) (hl : OpensL P fs.toList 0 d ok sz) :
    Opens P T (Kd.iso d f) (fun y => ok (f y)) (fun y => sz (f y) + 1) :=
  ⟨hc, Kd.heap_iso f hl.heap, fun {H enc W base spare held fuel cs x} h => by
    obtain ⟨xs, n, rfl, rfl, h1, h2, h3⟩ := DataW.trod_struct ht h
    obtain ⟨y, h4, h5, h6⟩ := hl.open_ (cs := cs) (xs := xs) (by omega) (by simpa using h2) (fun i f hi => h3 i f (by simpa using hi))
    rw [List.drop_zero] at h4
    exact ⟨g y, by show d.K W (f (g y)) cs; rw [hfg]; exact h4, by rw [hfg]; exact h5, by rw [hfg]; simp only [Rows.uptoBulk]; omega⟩⟩
theorem F_of_C {α : Type} {d : Kd α} (hd : Kd.Heap d) {W : World} {A : Option Addr} {n : Nat} {xs : List α} (h : d.C W A n xs) : Kd.F d W (fun k => k < W.heap.size) A n xs :=
  fun W' hW => hd.C (fun k hk => hW k hk hk) h
section
variable {H : Type} {enc : TypeId × Value → H} {P : Program} {W : World} {base b0 : Nat} {spare : Nat → Bool} {held : Bool} {r : Reach} {t : TypeId} {v : Value} {x : DataW H} {ps : List MemPlace}
theorem arg_slice {α : Type} {e : TypeId} {d : Kd α} {ok : α → Prop} {sz : List α → Nat} (he : Opens P t (Kd.slice e d) (fun l => l.length ≤ 9223372036854775807 ∧ ∀ x ∈ l, ok x) sz) (hd : Kd.Heap d) (ht : P.underlying t = some (.slice e)) (hv : Value.okWide P W r b0 t v) (h : DataW.Trod enc P W base spare held t v x ps) :
    ∃ (A : Option Addr) (c : Nat) (l : List α), v = .slice A l.length c ∧ l.length ≤ c ∧ Kd.F d W (fun k => k < W.heap.size) A l.length l ∧ (∀ y ∈ l, ok y) ∧ sz l ≤ Rows.uptoBulk x := by
  obtain ⟨a, len, cap, rfl⟩ := okWide_slice ht hv
  obtain ⟨fuel, hf⟩ := h
  obtain ⟨l, ⟨A, c, h1, h2, h3⟩, h4, h5⟩ := he.open_ hf
  simp only [Value.cells, Array.toList, List.cons.injEq, Value.slice.injEq, and_true] at h1
  obtain ⟨rfl, rfl, rfl⟩ := h1
  exact ⟨_, _, l, rfl, h2, F_of_C hd h3, h4.2, h5⟩
end
theorem own : ownKnob Try.prog.godebug = none := by kernel_rfl
theorem laidOut : laidOutB Try.prog = true := by kernel_rfl
end Go.Proofs.Ytdolmkiiflhehaa.M
end

section
/- all: the cells from a node on. -/
set_option linter.unusedVariables false
set_option linter.unusedSimpArgs false
set_option maxRecDepth 100000
namespace Go.Proofs.Ytdolmkiiflhehaa.M
open Go.RowKit Go.Proofs.YtdolmkiiflhehaaW.PrintWords
abbrev T4 := (Int × Int) × (Int × Int)
def cellK : Kd T4 := Kd.pair (Kd.pair (Kd.int .i32) (Kd.int .i64)) (Kd.pair (Kd.int .i64) (Kd.int .i64))
def t4 (c : CellD) : T4 := ((c.table, c.row), (c.value, c.slot))
def cellsL (L : List Nd) : List T4 := L.map (fun e => t4 e.c)
theorem info4 : (Try.prog.info? 31).map (fun i => (i.zero, i.size, i.bytes)) = some (some (.agg #[.int .i32 0, .int .i64 0, .int .i64 0, .int .i64 0]), 4, 32) := by kernel_rfl
def lenOf (v : Value) : Nat := match v with | .slice _ n _ => n | _ => 0
def ptrAt (L : List Nd) (p : Nat) : Value := np ((L[p]?).map (·.b))
def AllI (w : World) (L : List Nd) (a : Nat) (x l : Value) (wr : World) : Prop :=
  ∃ (q : Nat) (A : Option Addr) (cc : Nat), a + q ≤ L.length ∧ x = ptrAt L (a + q) ∧ l = .slice A (cellsL ((L.drop a).take q)).length cc ∧ Kd.R cellK 31 wr w.heap.size (fun _ => True) (.slice A (cellsL ((L.drop a).take q)).length cc) (cellsL ((L.drop a).take q)) ∧ Below w.heap.size w wr
set_option maxHeartbeats 1000000 in
theorem all_is {w : World} {s h : Nat} {L : List Nd} {x : Int} {nx : Nat → Nat → Option Nat} (H : IsSk w s h L x nx) (hL : L.length ≤ 1048576) (a : Nat) (ha : a ≤ L.length) :
    Calls Try.prog 43 #[ptrAt L a] w fun e w' => ∃ (A : Option Addr) (cc : Nat), e = .returned (.slice A (cellsL (L.drop a)).length cc) ∧ Kd.F cellK w' (fun i => w.heap.size ≤ i ∧ i < w'.heap.size) A (cellsL (L.drop a)).length (cellsL (L.drop a)) ∧ Below w.heap.size w w' := by
  have HH := Lib.hid H
  clear H
  go_enter Try.func43, Try.ntmps43
  go_wp2_with fail
  go_loopw [0, 3] (fun x l wr => AllI w L a x l wr) (fun _ l _ => L.length - lenOf l)
  case atStart => exact ⟨0, none, 0, by omega, by rw [Nat.add_zero], by simp [cellsL], by rw [List.take_zero]; exact Kd.R_nil _ _ _ _ _, Below.refl _ _⟩
  case round =>
    obtain ⟨q, A, cc, hq, rfl, rfl, hR, hB⟩ := hrel
    have HB := Lib.hid hB; have HR := Lib.hid hR
    have HHr := Lib.hid (HH.out.below hB)
    clear hR hB
    have hln : (cellsL ((L.drop a).take q)).length = q := by unfold cellsL; simp; omega
    rcases Nat.lt_or_ge (a + q) L.length with hlt | hge
    · obtain ⟨e, he⟩ : ∃ e, L[a + q]? = some e := ⟨_, List.getElem?_eq_getElem hlt⟩
      have hU : cellsL ((L.drop a).take (q + 1)) = cellsL ((L.drop a).take q) ++ [t4 e.c] := by
        unfold cellsL
        rw [List.take_add_one, List.getElem?_drop, he]
        simp
      have hnd := HHr.out.nd he
      have n0 := hnd.c0; have n1 := hnd.c1; have n2 := hnd.c2; have n3 := hnd.c3
      have n4 := hnd.next (l := 0) (by omega)
      have hx : nx e.b 0 = (L[a + q + 1]?).map (·.b) := by
        have eb : adr h L (a + q + 1) = e.b := by show blkAt L (a + q) = _; unfold blkAt; rw [he]
        rw [← eb, HHr.out.links (a + q + 1) (by omega) 0 (by show 0 < hiAt L (a + q); have := (HHr.out.store.hi e (List.mem_of_getElem? he)).1; simp only [hiAt, he]; omega), nxt_at HHr.out.store (by omega)]
      have n4' : wr.cell? ⟨e.b, 4, none⟩ = some (ptrAt L (a + q + 1)) := by rw [hx] at n4; exact n4
      have hlt2 := (HH.out.nd he).lt
      have hp0 : ptrAt L (a + q) = .pointer (some ⟨e.b, 0, none⟩) := by unfold ptrAt; rw [he]; rfl
      rw [hp0]
      obtain ⟨r, hr⟩ : ∃ r, ptrAt L (a + q + 1) = r := ⟨_, rfl⟩
      rw [hr] at n4'
      have HRr := Lib.hid hr
      obtain ⟨U, hUe⟩ : ∃ U, cellsL ((L.drop a).take q) = U := ⟨_, rfl⟩
      rw [hUe] at HR hln ⊢
      have HU := Lib.hid (hU.trans (by rw [hUe]))
      have HN4 := Lib.hid n4'
      have HLT := Lib.hid hlt2
      have HLN := Lib.hid hln
      have hub : U.length ≤ 1048576 := by omega
      clear hln hU n4 n4' hx hnd he hp0 hr hUe
      go_wp2_with ((with_reducible refine gate_builtin (b := .append) (xs := #[.tmp 11, .tmp 16]) rfl ?_); at_builtin; refine Kd.R_append cellK (w0 := wr) w.heap.size rfl (.tmp 11) (.tmp 16) 59 31 _ 32 rfl Try.underlying59 info4 rfl (by decide) (by omega) _ U (t4 e.c) [.int .i32 e.c.table, .int .i64 e.c.row, .int .i64 e.c.value, .int .i64 e.c.slot] (fun _ => True) (fun _ => False) rfl rfl ⟨[.int .i32 e.c.table, .int .i64 e.c.row], [.int .i64 e.c.value, .int .i64 e.c.slot], rfl, ⟨_, _, rfl, rfl, rfl⟩, ⟨_, _, rfl, rfl, rfl⟩⟩ (fun _ hk => hk.elim) (fun _ _ => trivial) HR.out (Below.refl _ _) HB.out.size (by omega) ?_; intro v1 w5 ho hb5 hg5 hat; obtain ⟨A5, c5, rfl⟩ := Kd.R_slice ho; have HO5 := Lib.hid ho; have HB5 := Lib.hid (show Below w.heap.size w w5 from HB.out.trans hb5); have n5 := (hb5.cell (p := ⟨e.b, 4, none⟩) HLT.out).trans HN4.out; clear ho hb5 hg5 hat)
      go_roundw
      case rel =>
        refine ⟨q + 1, A5, c5, by omega, HRr.out.symm, by rw [HU.out, List.length_append]; rfl, by rw [HU.out]; exact Kd.R_mono (Kd.R_bound HO5.out) (fun _ _ => trivial), HB5.out⟩
      case measure => simp [lenOf]; have := HLN.out; omega
    · have hp0 : ptrAt L (a + q) = .pointer none := by unfold ptrAt; rw [List.getElem?_eq_none hge]; rfl
      rw [hp0]
      have hall : (L.drop a).take q = L.drop a := by rw [List.take_of_length_le]; simp; omega
      rw [hall] at HR ⊢
      clear hp0 hln
      go_wp2_with fail
      go_ret
      have h1 := Kd.R_mono (Kd.R_bound HR.out) (fun k hk => (⟨hk.2.1, hk.2.2.1⟩ : w.heap.size ≤ k ∧ k < _))
      obtain ⟨A', c', e1, _, hF⟩ := Kd.R_V (base' := 0) h1
      simp only [Value.slice.injEq] at e1
      obtain ⟨rfl, _, rfl⟩ := e1
      exact ⟨_, _, rfl, hF, HB.out⟩
end Go.Proofs.Ytdolmkiiflhehaa.M
end

section
/- The iterator of a store's cells: its contract. -/
set_option linter.unusedVariables false
set_option linter.unusedSimpArgs false
set_option maxRecDepth 100000
namespace Go.Proofs.Ytdolmkiiflhehaa.M
open Go.RowKit Go.Shelf Go.Proofs.YtdolmkiiflhehaaW.PrintWords
attribute [local go_sem] Oper.semAt_some
def KeepT (T : Nat → Prop) (W W' : World) : Prop := ∀ i, T i → i < W.heap.size → W'.heap[i]? = W.heap[i]?
theorem KeepT.refl (T : Nat → Prop) (W : World) : KeepT T W W := fun _ _ _ => rfl
theorem KeepT.trans {T : Nat → Prop} {A B C : World} (h : KeepT T A B) (k : KeepT T B C) : KeepT T A C := fun i hi hl => (k i hi (heap_lt (h i hi hl) hl)).trans (h i hi hl)
theorem KeepT.of_below {T : Nat → Prop} {A B : World} (h : Below A.heap.size A B) : KeepT T A B := fun i _ hl => h.block i hl
theorem KeepT.foot {T : Nat → Prop} {W W' : World} (h : KeepT T W W') {α : Type} {d : Kd α} {A : Option Addr} {n : Nat} {xs : List α} (hf : Kd.F d W T A n xs) : Kd.F d W' T A n xs := Kd.F_step hf (fun i hi hlt => h i hi hlt)
theorem keepT_b {T : Nat → Prop} {w : World} (hT : ∀ i, T i → i < w.heap.size) (W : World) (l : Nat) (o o' : Obj) (hl : w.heap.size ≤ l) (h : W.heap[l]? = some o) (_ : o.isCells = false) (_ : o.isWalk = false) : KeepT T W (W.putObj l o') :=
  fun i hi _ => World.putObj_heap_other (fun e => by have := hT i hi; omega)
theorem cell_get {W : World} {A : Option Addr} {n : Nat} {l : List T4} (h : Kd.C cellK W A n l) {k : Nat} {x : T4} (hk : l[k]? = some x) :
    ∃ ad, A = some ad ∧ W.cell? (ad.add (k * 4)) = some (.int .i32 x.1.1) ∧ W.cell? ⟨(ad.add (k * 4)).block, (ad.add (k * 4)).off + 1, none⟩ = some (.int .i64 x.1.2) ∧ W.cell? ⟨(ad.add (k * 4)).block, (ad.add (k * 4)).off + 2, none⟩ = some (.int .i64 x.2.1) ∧ W.cell? ⟨(ad.add (k * 4)).block, (ad.add (k * 4)).off + 3, none⟩ = some (.int .i64 x.2.2) := by
  have hlt : k < n := by
    have := (List.getElem?_eq_some_iff.1 hk).1
    have := h.1
    omega
  obtain ⟨ad, c, rfl, hcl, hK, hcc⟩ := Kd.C_get h ((0, 0), (0, 0)) (k : Int) (by omega) (by omega)
  have e : l.getD (k : Int).toNat ((0, 0), (0, 0)) = x := by rw [Int.toNat_natCast, List.getD_eq_getElem?_getD, hk]; rfl
  rw [e] at hK
  rw [Int.toNat_natCast] at hcc
  obtain ⟨c0, c1, rfl, ⟨d0, d1, rfl, rfl, rfl⟩, ⟨d2, d3, rfl, rfl, rfl⟩⟩ := hK
  have hs : cellK.sz = 4 := rfl
  rw [hs] at hcc
  refine ⟨ad, rfl, by simpa using hcc 0 _ rfl, ?_, ?_, ?_⟩
  · rw [← add_field ad (k * 4) 1 (by omega)]; exact hcc 1 _ rfl
  · rw [← add_field ad (k * 4) 2 (by omega)]; exact hcc 2 _ rfl
  · rw [← add_field ad (k * 4) 3 (by omega)]; exact hcc 3 _ rfl
theorem take_snoc' {α : Type} {l : List α} {k : Nat} {x : α} (h : l[k]? = some x) : l.take k ++ [x] = l.take (k + 1) := by
  rw [List.take_add_one, h]; rfl
def t4V (x : T4) : Value := .agg #[.int .i32 x.1.1, .int .i64 x.1.2, .int .i64 x.2.1, .int .i64 x.2.2]
def encC (x : T4) : Array Value := #[.agg #[.int .i32 x.1.1, .int .i64 x.1.2, .int .i64 x.2.1, .int .i64 x.2.2]]
set_option maxHeartbeats 2000000 in
theorem from1_in (F : Fence) (n : Nat) (hf : F.fn 44) (hro : F.round = none) (hn : 1 ≤ n) (l Bs : Nat) (T : Nat → Prop) (hTB : T Bs) (A : Option Addr) (c : Nat) (xs : List T4) (J Jx : List T4 → World → Prop) (W : World) (hJ : AbidesFrom W.heap.size J)
    (hY : ∀ pre x W1, J pre W1 → pre.length < xs.length → YieldAt F (n - 1) Try.prog l (encC x) W1 fun e W' =>
      (e = .returned (.bool true) ∧ J (pre ++ [x]) W' ∧ KeepT T W1 W') ∨ (e = .returned (.bool false) ∧ Jx (pre ++ [x]) W'))
    (hBs : W.cell? ⟨Bs, 0, none⟩ = some (.slice A xs.length c)) (hF : Kd.F cellK W T A xs.length xs) (h0 : J [] W) :
    CallsIn F n Try.prog 44 #[.func (.yield l) #[] #[], .pointer (some ⟨Bs, 0, none⟩)] W fun e W' => (∃ v, e = .returned v) ∧ ((∃ ys, ys = xs ∧ J ys W') ∨ (∃ pre, pre <+: xs ∧ Jx pre W')) := by
  have hlm : xs.length ≤ 9223372036854775807 := Kd.F_max hF
  have HF := Lib.hid hF
  clear hF
  refine callsIn_of_wp Try.func44 rfl hf ?_ hro
  simp only [Try.ntmps44, List.size_toArray, List.length_cons, List.length_nil, Nat.reduceAdd, Nat.reduceSub, Array.replicate_succ, Array.replicate_zero, List.push_toArray, List.append_toArray, List.nil_append, List.cons_append]
  gi_wp2
  gi_loopw [7] (fun i wr => ∃ k : Nat, k ≤ xs.length ∧ i = .int .i64 k ∧ J (xs.take k) wr ∧ Aside0 (KeepT T W wr)) (fun i _ => xs.length - (intOf i).toNat)
  case atStart => exact ⟨0, Nat.zero_le _, rfl, by simpa using h0, ⟨KeepT.refl _ _⟩⟩
  case round =>
    obtain ⟨k, hk, rfl, hJs, HK⟩ := hrel
    by_cases hlt : k < xs.length
    · obtain ⟨x, hx⟩ : ∃ x, xs[k]? = some x := ⟨_, List.getElem?_eq_getElem hlt⟩
      obtain ⟨ad, rfl, hc0, hc1, hc2, hc3⟩ := cell_get (Kd.F_now (HK.out.foot HF.out)) hx
      have HX := Lib.hid hx
      clear hx
      have hJa : J (xs.take k) (wr.alloc (.cells #[.int .i32 x.1.1, .int .i64 x.1.2, .int .i64 x.2.1, .int .i64 x.2.2] 31)) := hJ _ _ _ none hJs (World.grownBy_alloc _ _ _) (by simp)
      obtain ⟨fn, tmps, assign, body, hy, hR⟩ := hY _ x _ hJa (by rw [List.length_take]; omega)
      simp only [encC] at hy
      gi_wp2
      refine hR.mono ?_
      rintro e W3 (⟨rfl, hJ3, hk3⟩ | ⟨rfl, hJx3⟩)
      · have HK3 := Lib.hid (HK.out.trans ((KeepT.of_below ((Below.refl _ _).alloc (Nat.le_refl _) _)).trans hk3))
        clear hk3
        gi_wp2
        go_roundw
        case rel => exact ⟨k + 1, by omega, by simp, by rw [← take_snoc' HX.out]; exact hJ3, ⟨HK3.out⟩⟩
        case measure => simp [intOf]; omega
      · gi_wp2
        refine bodyPost_ret (results_none rfl _ _ _) rfl ?_
        exact ⟨⟨_, rfl⟩, .inr ⟨_, by rw [take_snoc' HX.out]; exact List.take_prefix _ _, hJx3⟩⟩
    · obtain rfl : k = xs.length := by omega
      gi_wp2
      go_end0
      exact ⟨⟨_, rfl⟩, .inl ⟨_, rfl, by simpa using hJs⟩⟩
end Go.Proofs.Ytdolmkiiflhehaa.M
end

section
/- From, and its iterator's law. -/
set_option linter.unusedVariables false
set_option linter.unusedSimpArgs false
set_option maxRecDepth 100000
namespace Go.Proofs.Ytdolmkiiflhehaa.M
open Go.RowKit Go.Shelf Go.Proofs.YtdolmkiiflhehaaW.PrintWords
attribute [local go_sem] Oper.semAt_some
theorem from1_stops (F : Fence) (n : Nat) (hf : F.fn 44) (hro : F.round = none) (hn : 1 ≤ n) (Bs : Nat) (T : Nat → Prop) (hTB : T Bs) (A : Option Addr) (c : Nat) (xs : List T4) (w : World) (hT : ∀ i, T i → i < w.heap.size)
    (hBs : w.cell? ⟨Bs, 0, none⟩ = some (.slice A xs.length c)) (hF : Kd.F cellK w T A xs.length xs) :
    SeqStopsK F n Try.prog 44 #[.pointer (some ⟨Bs, 0, none⟩)] encC (KeepT T) (fun ys => ys = xs) (fun pre => pre <+: xs) xs.length w := fun l J Jx W hW hJ _ hY h0 =>
  from1_in F n hf hro hn l Bs T hTB A c xs J Jx W hJ hY ((hW.cell (p := ⟨Bs, 0, none⟩) (hT Bs hTB)).trans hBs) (Kd.F_below hF hW) h0
theorem ownFrom_keepS {β : Type} (S : Nat → Prop) (w3 : World) : OwnFrom w3.heap.size (fun (_ : β) W => KeepS S w3 W) := fun s A B row hs hg hr =>
  ⟨hg.os.trans hs.os, hg.tape.trans hs.tape, hg.output.trans hs.output, Nat.le_trans hs.size hg.size, fun i hi hn => (hg.block i (Nat.lt_of_lt_of_le hi hs.size) (fun e => by have := (hr i e.symm).1; omega)).trans (hs.block i hi hn)⟩
def IsSeqC (w' : World) (lo B : Nat) (xs : List T4) : Prop := ∃ (A : Option Addr) (cc : Nat), w'.cell? ⟨B, 0, none⟩ = some (.slice A xs.length cc) ∧ Kd.F cellK w' (fun i => lo ≤ i ∧ i < w'.heap.size) A xs.length xs
set_option maxHeartbeats 1000000 in
theorem from_is {w : World} {s h : Nat} {L : List Nd} {x : Int} {nx : Nat → Nat → Option Nat} (H : IsSk w s h L x nx) (hL : L.length ≤ 1048576) (k : Int × Int) :
    Calls Try.prog 22 #[.pointer (some ⟨s, 0, none⟩), keyV k] w fun e w' => e = .returned (.func (.func 44) #[] #[.pointer (some ⟨w.heap.size + 1, 0, none⟩)]) ∧ IsSeqC w' w.heap.size (w.heap.size + 1) (cellsL (L.drop (rank L k))) ∧ Below w.heap.size w w' := by
  have hmf : ∀ (fn : Fn) (first cap : Array Value) (w : World), (Instr.makeFunc fn first cap).run Try.prog w = .ok (.func fn first cap) w := fun _ _ _ _ => rfl
  have HB := Lib.hid (show Below w.heap.size w ((w.alloc (.cells #[.int .i32 k.1, .int .i64 k.2] 29)).alloc (.cells #[.slice none 0 0] 59)) from ((Below.refl _ _).alloc (Nat.le_refl _) _).alloc (by simp) _)
  have HA := H.below HB.out
  have e0 := cellUp _ (.cells #[.slice none 0 0] 59) (Joins.cell_alloc_mark_at w #[.int .i32 k.1, .int .i64 k.2] 29 (0, 0) w.heap.size 0 rfl)
  have e1 := cellUp _ (.cells #[.slice none 0 0] 59) (Joins.cell_alloc_mark_at w #[.int .i32 k.1, .int .i64 k.2] 29 (0, 0) w.heap.size 1 rfl)
  have HBX := Lib.hid (show ((w.alloc (.cells #[.int .i32 k.1, .int .i64 k.2] 29)).alloc (.cells #[.slice none 0 0] 59)).heap[w.heap.size + 1]? = some (.cells #[.slice none 0 0] 59) from by
    have := heap_alloc_new (w.alloc (.cells #[.int .i32 k.1, .int .i64 k.2] 29)) (.cells #[.slice none 0 0] 59)
    rw [show (w.alloc (.cells #[.int .i32 k.1, .int .i64 k.2] 29)).heap.size = w.heap.size + 1 by simp] at this
    exact this)
  have HSZ := Lib.hid (show ((w.alloc (.cells #[.int .i32 k.1, .int .i64 k.2] 29)).alloc (.cells #[.slice none 0 0] 59)).heap.size = w.heap.size + 2 by simp)
  unfold keyV
  go_enter Try.func22, Try.ntmps22
  go_wp2_with fail
  obtain ⟨w2, hw2⟩ : ∃ w2, (w.alloc (.cells #[.int .i32 k.1, .int .i64 k.2] 29)).alloc (.cells #[.slice none 0 0] 59) = w2 := ⟨_, rfl⟩
  rw [hw2] at HB HA e0 e1 HBX HSZ ⊢
  have HH := Lib.hid HA
  clear hw2 HA H
  refine (none_is HH.out).mono ?_
  rintro e w' ⟨rfl, rfl⟩
  go_wp2_with fail
  refine (at_is HH.out hL k).mono ?_
  rintro e w3 ⟨rfl, hb⟩
  have HB3 := Lib.hid hb
  clear hb e0 e1
  have hm := rank_le L k
  go_wp2_with fail
  refine (all_is (HH.out.below HB3.out) hL (rank L k) hm).mono ?_
  rintro e w4 ⟨A, cc, rfl, hF, hb⟩
  have HF := Lib.hid hF; have HB4 := Lib.hid hb
  have HX4 := Lib.hid ((hb.block (w.heap.size + 1) (by have := HB3.out.size; rw [HSZ.out] at this; omega)).trans ((HB3.out.block (w.heap.size + 1) (by rw [HSZ.out]; omega)).trans HBX.out))
  have x0 : w4.cell? ⟨w.heap.size + 1, 0, none⟩ = some (.slice none 0 0) := by simp [World.cell?, HX4.out]
  have x1 : w4.frozen? ⟨w.heap.size + 1, 0, none⟩ = false := by simp [World.frozen?, HX4.out]
  clear hF hb hm
  go_wp2_with fail
  go_ret
  have hz3 := HB3.out.size
  rw [HSZ.out] at hz3
  have hz4 := HB4.out.size
  have h4 : Below w.heap.size w w4 := HB.out.trans ((HB3.out.mono (by rw [HSZ.out]; omega)).trans (HB4.out.mono (by omega)))
  refine ⟨rfl, ⟨A, cc, World.cell?_setCell_same' _ _ _ (by rw [x0]; rfl), ?_⟩, h4.setCell (by show _ ≤ w.heap.size + 1; omega) _⟩
  have h5 := Kd.F_step HF.out (W1 := w4.setCell ⟨w.heap.size + 1, 0, none⟩ (.slice A (cellsL (L.drop (rank L k))).length cc)) (fun i hi hlt => Below.heap_setCell w4 ⟨w.heap.size + 1, 0, none⟩ _ i (by show i ≠ w.heap.size + 1; omega))
  exact Kd.F_mono h5 (fun i hi => ⟨by omega, by simpa [World.setCell] using hi.2⟩)
end Go.Proofs.Ytdolmkiiflhehaa.M
end

section
/- append of one element, in a fence (the body of a range over a function). -/
set_option linter.unusedVariables false
set_option linter.unusedSimpArgs false
namespace Go.Proofs.Ytdolmkiiflhehaa.M
open Go.RowKit Go.Proofs.YtdolmkiiflhehaaW.PrintWords
theorem append_cells_in {F : Fence} {nF : Nat} {P : Program} {ops : Array Oper} {rest : List Oper} {o : Oper} {a : Act} {Q : Exit → Act → World → Prop} {w0 W : World} (base : Nat) (hgd : o.guard = none) (s x : Operand) (t e : TypeId) (z : Value) (size bytes : Nat)
    (ho : o.op = .call { callee := .builtin .append, args := #[s, x], argTypes := #[t, t] })
    (ht : P.underlying t = some (.slice e)) (hinfo : (P.info? e).map (fun i => (i.zero, i.size, i.bytes)) = some (some z, size, bytes)) (hz : z.cells.size = size) (hs0 : 0 < size) (hb0 : 0 < bytes)
    (v : Value) (n : Nat) (xs ys : List Value) (hs : a.eval s = v) (hx : a.eval x = .slice (some ⟨W.heap.size, 0, none⟩) 1 1) (hys : ys.length = size) (h1 : ∀ u ∈ ys, u.oneCell' = true)
    (HO : W.ownsRow base e size v n xs) (HB : Below base w0 W) (hbase : base ≤ W.heap.size) (hl : (n + 1) * bytes ≤ 140737488355328)
    (h : ∀ v1 w1, w1.ownsRow base e size v1 (n + 1) (xs ++ ys) → Below base w0 w1 → W.grownBy w1 v.ownBlock → (v1.ownBlock = v.ownBlock ∨ ∃ b, v1.ownBlock = some b ∧ W.heap.size ≤ b) → wpListIn F nF P ops Q rest (a.put o.dst v1) w1) :
    wpListIn F nF P ops Q (o :: rest) a (W.alloc (.cells ys.toArray e)) := by
  obtain ⟨i0, hi, hzz⟩ := Option.map_eq_some_iff.1 hinfo
  simp only [Prod.mk.injEq] at hzz
  obtain ⟨hz0, hz1, hz2⟩ := hzz
  have hlen : n + 1 ≤ 140737488355328 := Nat.le_trans (Nat.le_mul_of_pos_right _ hb0) hl
  refine Go.wpListIn_append_own_at (w := W.alloc (.cells ys.toArray e)) hgd s x t ho base e i0 z size bytes ht hi hz0 hz1 hz2 hz hs0 v n xs hs (HO.alloc _) ⟨W.heap.size, 0, none⟩ 1 1 ys hx (by rw [hys]; simp)
    (by simpa using World.news_of_block (cs := ys.toArray) (t := e) (fr := (0, 0)) (heap_alloc_new W (.cells ys.toArray e))) h1 (by simp only [maxLen]; omega) hl (by simp; omega) ?_
  intro v1 w1 hown hg _ hat
  refine h v1 w1 hown ((HB.alloc hbase _).grown hg (by simp; omega) (own_base HO)) (World.grownBy.trans (World.grownBy_alloc W _ _) hg) ?_
  rcases hat with hat | hat
  · exact .inl hat
  · exact .inr ⟨_, hat, by simp⟩
theorem R_append_in {F : Fence} {nF : Nat} {P : Program} {ops : Array Oper} {rest : List Oper} {o : Oper} {a : Act} {Q : Exit → Act → World → Prop} {α : Type} (d : Kd α) {w0 W : World} (base : Nat) (hgd : o.guard = none) (s x : Operand) (t e : TypeId) (z : Value) (bytes : Nat)
    (ho : o.op = .call { callee := .builtin .append, args := #[s, x], argTypes := #[t, t] })
    (ht : P.underlying t = some (.slice e)) (hinfo : (P.info? e).map (fun i => (i.zero, i.size, i.bytes)) = some (some z, d.sz, bytes)) (hz : z.cells.size = d.sz) (hs0 : 0 < d.sz) (hb0 : 0 < bytes)
    (v : Value) (xs : List α) (p : α) (cs : List Value) (ok okp : Nat → Prop) (hs : a.eval s = v) (hx : a.eval x = .slice (some ⟨W.heap.size, 0, none⟩) 1 1) (hp : d.M W base okp p cs) (hokp : ∀ k, okp k → ok k ∧ some k ≠ v.ownBlock) (hfresh : ∀ k, W.heap.size ≤ k → ok k)
    (HO : d.R e W base ok v xs) (HB : Below base w0 W) (hbase : base ≤ W.heap.size) (hl : (xs.length + 1) * bytes ≤ 140737488355328)
    (h : ∀ v1 w1, d.R e w1 base ok v1 (xs ++ [p]) → Below base w0 w1 → W.grownBy w1 v.ownBlock → (v1.ownBlock = v.ownBlock ∨ ∃ b, v1.ownBlock = some b ∧ W.heap.size ≤ b) → wpListIn F nF P ops Q rest (a.put o.dst v1) w1) :
    wpListIn F nF P ops Q (o :: rest) a (W.alloc (.cells cs.toArray e)) := by
  obtain ⟨h0, inner, hown, hr⟩ := HO
  refine append_cells_in base hgd s x t e z d.sz bytes ho ht hinfo hz hs0 hb0 v xs.length inner cs hs hx (d.K_len (d.K_of_M hp)) (d.K_one (d.K_of_M hp)) hown HB hbase hl ?_
  intro v1 w1 hown1 hb1 hg1 hat1
  exact h v1 w1 (Kd.R_appended h0 hr hp hokp hfresh hown1 hg1 hat1) hb1 hg1 hat1
theorem R_kept_own {α : Type} {d : Kd α} {e base : Nat} {ok : Nat → Prop} {v : Value} {xs : List α} {A B : World} {row : Option Nat} (hs : Kd.R d e A base ok v xs) (hg : A.grownBy B row) (hr : ∀ r, row = some r → ∃ o, A.heap[r]? = some o ∧ o.isCells = false) : Kd.R d e B base ok v xs :=
  Kd.R_mono (Kd.R_grown (Kd.R_bound hs) hg (fun k hk e => by
    obtain ⟨_, _, _, q, _, cells, hc⟩ := hk
    obtain ⟨o, ho, hn⟩ := hr k e.symm
    rw [hc] at ho
    cases ho
    cases hn)) (fun k hk => hk.1)
end Go.Proofs.Ytdolmkiiflhehaa.M
end

section
/- Range. -/
set_option linter.unusedVariables false
set_option linter.unusedSimpArgs false
set_option maxRecDepth 100000
namespace Go.Proofs.Ytdolmkiiflhehaa.M
open Go.RowKit Go.Shelf Go.Proofs.YtdolmkiiflhehaaW.PrintWords
attribute [local go_sem] Oper.semAt_some
def inR (xs : List T4) (t : Int × Int) : List T4 := xs.takeWhile (fun x => kLt x.1 t)
theorem below_from {B : Nat} {W W' : World} (h : Below W.heap.size W W') : KeepsFrom B W W' := ⟨h.size, fun k o _ hk _ => (h.block k (Array.getElem?_eq_some_iff.1 hk).1).trans hk⟩
theorem R_belowA {α : Type} {d : Kd α} {e base : Nat} {ok : Nat → Prop} {v : Value} {xs : List α} {A B : World} (hs : Kd.R d e A base ok v xs) (h : Below A.heap.size A B) : Kd.R d e B base ok v xs := Kd.R_step hs (fun k _ hlt => h.block k hlt)
theorem inR_all {xs : List T4} {t : Int × Int} (h : ∀ x, x ∈ xs → kLt x.1 t = true) : inR xs t = xs := by
  unfold inR
  induction xs with
  | nil => rfl
  | cons a l ih => rw [List.takeWhile_cons, if_pos (h a List.mem_cons_self), ih (fun x hx => h x (List.mem_cons_of_mem _ hx))]
theorem inR_cut {xs q : List T4} {y : T4} {t : Int × Int} (hp : q ++ [y] <+: xs) (h : ∀ x, x ∈ q → kLt x.1 t = true) (hy : kLt y.1 t = false) : inR xs t = q := by
  obtain ⟨r, rfl⟩ := hp
  unfold inR
  induction q with
  | nil => simp [hy]
  | cons a l ih =>
    rw [List.cons_append, List.cons_append, List.takeWhile_cons, if_pos (h a List.mem_cons_self), ih (fun x hx => h x (List.mem_cons_of_mem _ hx))]
theorem app_others {α : Type} {d : Kd α} {e base n c : Nat} {ok : Nat → Prop} {A : Option Addr} {xs : List α} {W1 w5 : World} (hR : Kd.R d e W1 base ok (.slice A n c) xs) (hg : W1.grownBy w5 (Value.slice A n c).ownBlock) : KeepsOthers W1 w5 :=
  ⟨hg.size, fun k o hk ho => (hg.block k (Array.getElem?_eq_some_iff.1 hk).1 (fun e => by
    obtain ⟨_, _, _, q, _, cells, hc⟩ := (Kd.R_bound hR).1 k e.symm
    rw [hk] at hc
    cases hc
    cases ho)).trans hk⟩
structure RgI (b0 : Nat) (t : Int × Int) (w4 : World) (pre : List T4) (W : World) : Prop where
  l : ∃ (A : Option Addr) (c : Nat), W.heap[b0 + 2]? = some (.cells #[.slice A pre.length c] 59) ∧ Kd.R cellK 31 W w4.heap.size (fun _ => True) (.slice A pre.length c) pre
  t0 : W.cell? ⟨b0 + 1, 0, none⟩ = some (.int .i32 t.1)
  t1 : W.cell? ⟨b0 + 1, 1, none⟩ = some (.int .i64 t.2)
  lt : ∀ x, x ∈ pre → kLt x.1 t = true
theorem own_rgI (b0 : Nat) (t : Int × Int) (w4 : World) : OwnFrom w4.heap.size (RgI b0 t w4) := fun s A B row hs hg hr => by
  have hr' : ∀ r, row = some r → ∃ o : Obj, A.heap[r]? = some o ∧ o.isCells = false := fun r e => (hr r e).2
  obtain ⟨⟨A1, c, h1, h2⟩, h3, h4, h5⟩ := hs
  refine ⟨⟨A1, c, ?_, R_kept_own h2 hg hr'⟩, cell_kept h3 hg hr', cell_kept h4 hg hr', h5⟩
  refine (hg.block _ (Array.getElem?_eq_some_iff.1 h1).1 (fun e => ?_)).trans h1
  obtain ⟨o, ho, hn⟩ := hr' _ e.symm
  rw [h1] at ho
  cases ho
  cases hn
theorem RgI.below {b0 : Nat} {t : Int × Int} {w4 : World} {pre : List T4} {W W' : World} (h : RgI b0 t w4 pre W) (hb : Below W.heap.size W W') : RgI b0 t w4 pre W' := by
  obtain ⟨⟨A1, c, h1, h2⟩, h3, h4, h5⟩ := h
  exact ⟨⟨A1, c, (hb.block _ (Array.getElem?_eq_some_iff.1 h1).1).trans h1, R_belowA h2 hb⟩, (hb.cell (World.block_lt_of_cell? _ _ h3)).trans h3, (hb.cell (World.block_lt_of_cell? _ _ h4)).trans h4, h5⟩
set_option maxHeartbeats 2000000 in
theorem range_is {w : World} {s h : Nat} {L : List Nd} {x : Int} {nx : Nat → Nat → Option Nat} (H : IsSk w s h L x nx) (hL : L.length ≤ 1048576) (k t : Int × Int) :
    Calls Try.prog 23 #[.pointer (some ⟨s, 0, none⟩), keyV k, keyV t] w fun e w' => ∃ (A : Option Addr) (cc : Nat), e = .returned (.slice A (inR (cellsL (L.drop (rank L k))) t).length cc) ∧ Kd.F cellK w' (fun i => w.heap.size ≤ i ∧ i < w'.heap.size) A (inR (cellsL (L.drop (rank L k))) t).length (inR (cellsL (L.drop (rank L k))) t) ∧ Below w.heap.size w w' := by
  have HB := Lib.hid (show Below w.heap.size w ((w.alloc (.cells #[.int .i32 k.1, .int .i64 k.2] 29)).alloc (.cells #[.int .i32 t.1, .int .i64 t.2] 29)) from ((Below.refl _ _).alloc (Nat.le_refl _) _).alloc (by simp) _)
  have HA := H.below HB.out
  have hsz : ((w.alloc (.cells #[.int .i32 k.1, .int .i64 k.2] 29)).alloc (.cells #[.int .i32 t.1, .int .i64 t.2] 29)).heap.size = w.heap.size + 2 := by simp
  have bk := (Below.heap_alloc (w.alloc (.cells #[.int .i32 k.1, .int .i64 k.2] 29)) (.cells #[.int .i32 t.1, .int .i64 t.2] 29) w.heap.size (by simp)).trans (heap_alloc_new w _)
  have bt := heap_alloc_new (w.alloc (.cells #[.int .i32 k.1, .int .i64 k.2] 29)) (.cells #[.int .i32 t.1, .int .i64 t.2] 29)
  rw [show (w.alloc (.cells #[.int .i32 k.1, .int .i64 k.2] 29)).heap.size = w.heap.size + 1 by simp] at bt
  obtain ⟨xs, hxs⟩ : ∃ xs, cellsL (L.drop (rank L k)) = xs := ⟨_, rfl⟩
  rw [hxs]
  have hxl : xs.length ≤ 1048576 := by rw [← hxs]; unfold cellsL; simp; omega
  unfold keyV
  refine (callsIn_wide (n := 4)).1 ?_
  refine callsIn_of_wp_marks Try.func23 rfl trivial ?_ rfl
  simp only [Try.ntmps23, List.size_toArray, List.length_cons, List.length_nil, Nat.reduceAdd, Nat.reduceSub, Array.replicate_succ, Array.replicate_zero, List.push_toArray, List.append_toArray, List.nil_append, List.cons_append]
  gi_wp2_with fail
  obtain ⟨w2, hw2⟩ : ∃ w2, (w.alloc (.cells #[.int .i32 k.1, .int .i64 k.2] 29)).alloc (.cells #[.int .i32 t.1, .int .i64 t.2] 29) = w2 := ⟨_, rfl⟩
  rw [hw2] at HB HA hsz bk bt ⊢
  have HH := Lib.hid HA; have HSZ := Lib.hid hsz; have HXS := Lib.hid hxs; have HBT := Lib.hid bt
  refine ⟨trivial, (callsIn_wide.2 (none_is HH.out)).mono ?_⟩
  rintro e w' ⟨rfl, rfl⟩
  have HF0 := Lib.hid (from_is (HH.out.alloc (.cells #[.slice none 0 0] 59)) hL k)
  rw [hxs] at HF0
  have e0 := cellUp w' (a := ⟨w.heap.size, 0, none⟩) (v := .int .i32 k.1) (.cells #[.slice none 0 0] 59) (by simp [World.cell?, bk])
  have e1 := cellUp w' (a := ⟨w.heap.size, 1, none⟩) (v := .int .i64 k.2) (.cells #[.slice none 0 0] 59) (by simp [World.cell?, bk])
  have bl := heap_alloc_new w' (.cells #[.slice none 0 0] 59)
  have bt2 := (Below.heap_alloc w' (.cells #[.slice none 0 0] 59) (w.heap.size + 1) (by omega)).trans bt
  have HB3 := Lib.hid (HB.out.alloc HB.out.size (.cells #[.slice none 0 0] 59))
  have hsz3 : (w'.alloc (.cells #[.slice none 0 0] 59)).heap.size = w.heap.size + 3 := by rw [World.size_alloc, hsz]
  rw [hsz] at bl
  clear hw2 HA H bk bt hxs
  unfold keyV at HF0
  gi_wp2_with fail
  obtain ⟨w3, hw3⟩ : ∃ w3, w'.alloc (.cells #[.slice none 0 0] 59) = w3 := ⟨_, rfl⟩
  rw [hw3] at HF0 e0 e1 bl bt2 HB3 hsz3 ⊢
  have HBL := Lib.hid bl; have HBT2 := Lib.hid bt2; have HSZ3 := Lib.hid hsz3
  clear hw3 bl bt2 hsz hsz3 e0 e1 HBT HSZ
  refine ⟨trivial, (callsIn_wide.2 HF0.out).mono ?_⟩
  rintro e w4 ⟨rfl, ⟨A, cc, hcl, hF⟩, hb4⟩
  have HCL := Lib.hid hcl; have HF := Lib.hid hF; have HB4 := Lib.hid hb4
  have hz := HSZ3.out
  have bl4 := (hb4.block (w.heap.size + 2) (by omega)).trans HBL.out
  have bt4 := (hb4.block (w.heap.size + 1) (by omega)).trans HBT2.out
  have HBL4 := Lib.hid bl4; have HBT4 := Lib.hid bt4
  rw [hz] at HCL HF
  rw [hz]
  clear hcl hF hb4 bl4 bt4 HF0 HBL HBT2
  gi_wp2_with fail
  have hlt4 : w.heap.size + 3 + 1 < w4.heap.size := World.block_lt_of_cell? _ _ HCL.out
  refine wpIn_rangeFunc_ownH (w := w4) rfl (by omega) (gf := 44) (lb := #[.pointer (some ⟨w.heap.size + 3 + 1, 0, none⟩)]) rfl trivial (enters_of Try.func44 (by kernel_rfl) rfl)
    (from1_stops Fence.wide (4 - 1) trivial rfl (by omega) (w.heap.size + 3 + 1) (fun i => w.heap.size + 3 ≤ i ∧ i < w4.heap.size) ⟨by omega, hlt4⟩ A cc xs w4 (fun i hi => hi.2) HCL.out HF.out) (fun h k => h.trans k) (keepT_b (fun i hi => hi.2)) (Below.refl _ _) (fun _ => rfl)
    (fun pre W => RgI w.heap.size t w4 pre W ∧ KeepS (fun i => i = w.heap.size + 2) w4 W)
    (fun c pre W => (c = .exit 0 ∧ ∃ q y, pre = q ++ [y] ∧ kLt y.1 t = false ∧ RgI w.heap.size t w4 q W) ∧ KeepS (fun i => i = w.heap.size + 2) w4 W)
    (OwnFrom.and (own_rgI _ _ _) (ownFrom_keepS _ _))
    (fun c => OwnFrom.and (fun pre A B row hs hg hr => ⟨hs.1, by obtain ⟨q, y, h1, h2, h3⟩ := hs.2; exact ⟨q, y, h1, h2, own_rgI _ _ _ q A B row h3 hg hr⟩⟩) (ownFrom_keepS _ _))
    ⟨⟨⟨none, 0, HBL4.out, Kd.R_nil _ _ _ _ _⟩, by simp [World.cell?, HBT4.out], by simp [World.cell?, HBT4.out], fun _ h => by cases h⟩, KeepS.refl _ _⟩
    (fun x a' W => ∃ q, w4.heap.size ≤ q ∧ a' = { tmps := #[.pointer (some ⟨s, 0, none⟩), .agg #[.int .i32 k.1, .int .i64 k.2], .agg #[.int .i32 t.1, .int .i64 t.2], undef, .pointer (some ⟨w.heap.size, 0, none⟩), .pointer (some ⟨w.heap.size + 1, 0, none⟩), .slice none 0 0, .pointer (some ⟨w.heap.size + 2, 0, none⟩), .pointer (some ⟨q, 0, none⟩), .pointer (some ⟨s, 0, none⟩), .bool false, .pointer (some ⟨s, 0, none⟩), .agg #[.int .i32 k.1, .int .i64 k.2], .func (.func 44) #[] #[.pointer (some ⟨w.heap.size + 3 + 1, 0, none⟩)], t4V x, undef, undef, undef, undef, undef, undef, undef, undef, undef, undef], defers := [] } ∧ W.cell? ⟨q, 0, none⟩ = some (.int .i32 x.1.1) ∧ W.cell? ⟨q, 1, none⟩ = some (.int .i64 x.1.2) ∧ W.cell? ⟨q, 2, none⟩ = some (.int .i64 x.2.1) ∧ W.cell? ⟨q, 3, none⟩ = some (.int .i64 x.2.2))
    (fun x a' => Own.from (fun _ A B row hs hg hr => by obtain ⟨q, h0, h1, h2, h3, h4, h5⟩ := hs; exact ⟨q, h0, h1, cell_kept h2 hg hr, cell_kept h3 hg hr, cell_kept h4 hg hr, cell_kept h5 hg hr⟩) _) ?assign ?body ?done ?stop
  case assign =>
    rintro l pre x W K ⟨hi, hk⟩ hK
    dsimp only [encC]
    gi_wp2
    have hbW : Below W.heap.size W (W.alloc (.cells #[.int .i32 x.1.1, .int .i64 x.1.2, .int .i64 x.2.1, .int .i64 x.2.2] 31)) := (Below.refl _ W).alloc (Nat.le_refl _) _
    exact hK _ _ (below_from hbW) (KeepT.of_below hbW) ⟨hi.below hbW, hk.alloc _⟩ ⟨W.heap.size, hk.size, rfl, Joins.cell_alloc_mark_at W #[.int .i32 x.1.1, .int .i64 x.1.2, .int .i64 x.2.1, .int .i64 x.2.2] 31 (0, 0) W.heap.size 0 rfl, Joins.cell_alloc_mark_at W #[.int .i32 x.1.1, .int .i64 x.1.2, .int .i64 x.2.1, .int .i64 x.2.2] 31 (0, 0) W.heap.size 1 rfl, Joins.cell_alloc_mark_at W #[.int .i32 x.1.1, .int .i64 x.1.2, .int .i64 x.2.1, .int .i64 x.2.2] 31 (0, 0) W.heap.size 2 rfl, Joins.cell_alloc_mark_at W #[.int .i32 x.1.1, .int .i64 x.1.2, .int .i64 x.2.1, .int .i64 x.2.2] 31 (0, 0) W.heap.size 3 rfl⟩
  case body =>
    rintro l pre x a' W hl ⟨rr, hrr⟩ ⟨hI, hK⟩ ⟨q, hq, rfl, c0, c1, c2, c3⟩ hlen
    have HI := Lib.hid hI; have HK := Lib.hid hK; have HQ := Lib.hid hq
    have t0 := hI.t0; have t1 := hI.t1
    have HC := Lib.hid (show _ ∧ _ ∧ _ ∧ _ from ⟨c0, c1, c2, c3⟩)
    have HXL := Lib.hid hxl
    clear hI hK hq hrr hl
    unfold t4V
    gi_wp2_with fail
    refine ⟨trivial, ((callsIn_wide.2 (compare_is x.1 t W)).inRound l).mono ?_⟩
    rintro e W1 ⟨rfl, hb⟩
    have HB1 := Lib.hid hb
    have HI1 := Lib.hid (HI.out.below hb)
    have HK1 := Lib.hid (HK.out.then_below hb)
    have HNG := Lib.hid (cmpK_neg x.1 t)
    obtain ⟨r, hr⟩ : ∃ r, cmpK x.1 t = r := ⟨_, rfl⟩
    rw [hr] at HNG ⊢
    have d0 := (hb.cell (World.block_lt_of_cell? _ _ c0)).trans c0
    have d1 := (hb.cell (World.block_lt_of_cell? _ _ c1)).trans c1
    have d2 := (hb.cell (World.block_lt_of_cell? _ _ c2)).trans c2
    have d3 := (hb.cell (World.block_lt_of_cell? _ _ c3)).trans c3
    clear hb hr c0 c1 c2 c3 t0 t1
    by_cases hr0 : r < 0
    · have hrb : decide (0 ≤ r) = false := decide_eq_false (by omega)
      have HT := Lib.hid (HNG.out.1 hr0)
      obtain ⟨A1, c1, h1, h2⟩ := HI1.out.l
      have HR := Lib.hid h2; have HBX := Lib.hid h1
      have b0 : W1.cell? ⟨w.heap.size + 2, 0, none⟩ = some (.slice A1 pre.length c1) := by simp [World.cell?, h1]
      have z0 : W1.frozen? ⟨w.heap.size + 2, 0, none⟩ = false := by simp [World.frozen?, h1]
      have hsz1 : w4.heap.size ≤ W1.heap.size := HK1.out.size
      have hpl : pre.length ≤ 1048576 := by have := HXL.out; omega
      clear hr0 h1 h2 hlen
      gi_wp2_with (gi_at_builtin; refine R_append_in cellK (w0 := W1) w4.heap.size rfl (.tmp 20) (.tmp 22) 59 31 _ 32 rfl Try.underlying59 info4 rfl (by decide) (by omega) _ pre x [.int .i32 x.1.1, .int .i64 x.1.2, .int .i64 x.2.1, .int .i64 x.2.2] (fun _ => True) (fun _ => False) rfl rfl ⟨[.int .i32 x.1.1, .int .i64 x.1.2], [.int .i64 x.2.1, .int .i64 x.2.2], rfl, ⟨_, _, rfl, rfl, rfl⟩, ⟨_, _, rfl, rfl, rfl⟩⟩ (fun _ hk => hk.elim) (fun _ _ => trivial) HR.out (Below.refl _ _) hsz1 (by omega) ?_; intro v1 w5 ho hb5 hg5 hat; obtain ⟨A5, c5, rfl⟩ := Kd.R_slice ho; have HO5 := Lib.hid ho; have HB5 := Lib.hid hb5; have HG5 := Lib.hid hg5; have HX5 := Lib.hid ((hb5.block (w.heap.size + 2) (by omega)).trans HBX.out); have y0 : w5.cell? ⟨w.heap.size + 2, 0, none⟩ = some (.slice A1 pre.length c1) := (by simp [World.cell?, HX5.out]); have y1 : w5.frozen? ⟨w.heap.size + 2, 0, none⟩ = false := (by simp [World.frozen?, HX5.out]); clear ho hb5 hg5 hat b0 z0)
      have hset : ∀ i, i ≠ w.heap.size + 2 → (w5.setCell ⟨w.heap.size + 2, 0, none⟩ (.slice A5 (pre ++ [x]).length c5)).heap[i]? = w5.heap[i]? := fun i hi => Below.heap_setCell w5 ⟨w.heap.size + 2, 0, none⟩ _ i hi
      refine ⟨((below_from HB1.out).trans ((app_others HR.out HG5.out).from _)).trans ((KeepsOthers.setCell _ _ _).from _), fun i hi hl => ?_, ⟨⟨A5, c5, ?_, ?_⟩, ?_, ?_, ?_⟩, ?_⟩
      · exact (Below.heap_setCell w5 ⟨w.heap.size + 2, 0, none⟩ _ i (by show i ≠ w.heap.size + 2; omega)).trans ((HB5.out.block i hi.2).trans (HB1.out.block i hl))
      · have := heap_same (a := ⟨w.heap.size + 2, 0, none⟩) (v := .slice A5 (pre ++ [x]).length c5) HX5.out rfl
        simpa using this
      · have h1 := Kd.R_mono (Kd.R_bound HO5.out) (fun k hk => (hk.2.1 : w4.heap.size ≤ k))
        exact Kd.R_mono (Kd.R_far (p := ⟨w.heap.size + 2, 0, none⟩) h1 (fun k hk => by show k ≠ w.heap.size + 2; omega) _) (fun _ _ => trivial)
      · rw [World.cell?_setCell_other _ _ _ _ (by simp)]; exact (HB5.out.cell (p := ⟨w.heap.size + 1, 0, none⟩) (by show w.heap.size + 1 < _; omega)).trans HI1.out.t0
      · rw [World.cell?_setCell_other _ _ _ _ (by simp)]; exact (HB5.out.cell (p := ⟨w.heap.size + 1, 1, none⟩) (by show w.heap.size + 1 < _; omega)).trans HI1.out.t1
      · intro y hy
        rcases List.mem_append.1 hy with hy | hy
        · exact HI1.out.lt y hy
        · rw [List.mem_singleton.1 hy]; exact HT.out
      · exact (HK1.out.then_base HB5.out).set (.inl rfl) _
    · have hrb : decide (0 ≤ r) = true := decide_eq_true (by omega)
      have HT := Lib.hid (show kLt x.1 t = false by rw [← Bool.not_eq_true]; exact fun e => hr0 (HNG.out.2 e))
      clear hr0
      gi_wp2_with fail
      exact ⟨below_from HB1.out, ⟨rfl, pre, x, rfl, HT.out, HI1.out⟩, HK1.out⟩
  case done =>
    rintro D ys W hD rfl ⟨hI, hK⟩ hKD
    obtain ⟨A1, c1, h1, h2⟩ := hI.l
    have b0 : W.cell? ⟨w.heap.size + 2, 0, none⟩ = some (.slice A1 ys.length c1) := by simp [World.cell?, h1]
    gi_wp2
    refine ⟨by simp, .inl ⟨_, _, rfl, run_takeDeferred hKD, ?_⟩⟩
    refine ⟨_, results_tmp rfl _ _ _, ?_⟩
    have hb1 : Below w.heap.size w w4 := HB3.out.trans (HB4.out.mono (by omega))
    have hb2 := hb1.trans (hK.below (B := w.heap.size) hb1.size (by rintro i rfl; omega))
    have hb3 := hb2.trans (belowK_b (w := w) (Nat.le_refl _) W D _ (.deferred none) (by have := hb1.size; omega) hKD rfl rfl)
    have hR := R_kept_own h2 (grownBy_putObj' W D (.deferred none)) (fun r e => by cases e; exact ⟨_, hKD, rfl⟩)
    have hR1 := Kd.R_mono (Kd.R_bound hR) (fun k hk => (⟨by have := hk.2.1; have := hb1.size; omega, hk.2.2.1⟩ : w.heap.size ≤ k ∧ k < _))
    obtain ⟨A', c', e1, _, hF⟩ := Kd.R_V (base' := 0) hR1
    simp only [Value.slice.injEq] at e1
    obtain ⟨rfl, _, rfl⟩ := e1
    rw [inR_all hI.lt]
    exact ⟨_, _, rfl, hF, hb3⟩
  case stop =>
    rintro D c pre W hD hp ⟨⟨rfl, q, y, rfl, hy, hI⟩, hK⟩ hKD
    obtain ⟨A1, c1, h1, h2⟩ := hI.l
    have b0 : W.cell? ⟨w.heap.size + 2, 0, none⟩ = some (.slice A1 q.length c1) := by simp [World.cell?, h1]
    gi_wp2
    refine ⟨by simp, .inl ⟨_, _, rfl, run_takeDeferred hKD, ?_⟩⟩
    refine ⟨_, results_tmp rfl _ _ _, ?_⟩
    have hb1 : Below w.heap.size w w4 := HB3.out.trans (HB4.out.mono (by omega))
    have hb2 := hb1.trans (hK.below (B := w.heap.size) hb1.size (by rintro i rfl; omega))
    have hb3 := hb2.trans (belowK_b (w := w) (Nat.le_refl _) W D _ (.deferred none) (by have := hb1.size; omega) hKD rfl rfl)
    have hR := R_kept_own h2 (grownBy_putObj' W D (.deferred none)) (fun r e => by cases e; exact ⟨_, hKD, rfl⟩)
    have hR1 := Kd.R_mono (Kd.R_bound hR) (fun k hk => (⟨by have := hk.2.1; have := hb1.size; omega, hk.2.2.1⟩ : w.heap.size ≤ k ∧ k < _))
    obtain ⟨A', c', e1, _, hF⟩ := Kd.R_V (base' := 0) hR1
    simp only [Value.slice.injEq] at e1
    obtain ⟨rfl, _, rfl⟩ := e1
    rw [inR_cut hp hI.lt hy]
    exact ⟨_, _, rfl, hF, hb3⟩
end Go.Proofs.Ytdolmkiiflhehaa.M
end

section
/- Level: the keys of a level. -/
set_option linter.unusedVariables false
set_option linter.unusedSimpArgs false
set_option maxRecDepth 100000
namespace Go.Proofs.Ytdolmkiiflhehaa.M
open Go.RowKit Go.Shelf Go.Proofs.YtdolmkiiflhehaaW.PrintWords
attribute [local go_sem] Oper.semAt_some
def keyK : Kd (Int × Int) := Kd.pair (Kd.int .i32) (Kd.int .i64)
end Go.Proofs.Ytdolmkiiflhehaa.M
end

section
/- The reference's store in memory: the same abstract nodes as the program's. -/
set_option linter.unusedVariables false
set_option linter.unusedSimpArgs false
namespace Go.Proofs.Ytdolmkiiflhehaa.M
open Go.RowKit Go.Proofs.YtdolmkiiflhehaaW.PrintWords
def hisL (L : List Nd) : List Int := L.map (fun e => (e.hi : Int))
theorem cellsL_len (L : List Nd) : (cellsL L).length = L.length := by simp [cellsL]
theorem hisL_len (L : List Nd) : (hisL L).length = L.length := by simp [hisL]
theorem infoI : (Try.prog.info? 3).map (fun i => (i.zero, i.size, i.bytes)) = some (some (.int .i64 0), 1, 8) := by kernel_rfl
structure IsRk (w : World) (q : Nat) (S : Nat → Prop) (L : List Nd) (x : Int) : Prop where
  y : ∃ A a B b, w.heap[q]? = some (.cells #[.slice A L.length a, .slice B L.length b, .int .u64 x] 80 (0, 0)) ∧ Kd.R cellK 31 w 0 S (.slice A L.length a) (cellsL L) ∧ Kd.R (Kd.int .i64) 3 w 0 S (.slice B L.length b) (hisL L)
  s : S q
  store : Store L
namespace IsRk
variable {w w' : World} {q : Nat} {S S' : Nat → Prop} {L L' : List Nd} {x : Int}
theorem lt (h : IsRk w q S L x) : q < w.heap.size := by obtain ⟨A, a, B, b, hy, _⟩ := h.y; exact blk_lt hy
theorem move (h : IsRk w q S L x) (hb : ∀ k, S k → k < w.heap.size → w'.heap[k]? = w.heap[k]?) : IsRk w' q S L x := by
  obtain ⟨A, a, B, b, hy, h1, h2⟩ := h.y
  exact ⟨⟨A, a, B, b, (hb q h.s (blk_lt hy)).trans hy, Kd.R_step h1 hb, Kd.R_step h2 hb⟩, h.s, h.store⟩
theorem below (h : IsRk w q S L x) (hb : Below w.heap.size w w') : IsRk w' q S L x := h.move fun k _ hk => hb.block k hk
theorem keep {S1 : Nat → Prop} (h : IsRk w q S L x) (hk : KeepS S1 w w') (hs : ∀ i, S i → ¬ S1 i) : IsRk w' q S L x := h.move fun k hk1 hlt => hk.block k hlt (hs k hk1)
theorem drew (h : IsRk w q S L x) : IsRk w.drew q S L x := h.move fun _ _ _ => rfl
theorem mono (h : IsRk w q S L x) (hs : ∀ i, S i → S' i) : IsRk w q S' L x := by
  obtain ⟨A, a, B, b, hy, h1, h2⟩ := h.y
  exact ⟨⟨A, a, B, b, hy, Kd.R_mono h1 hs, Kd.R_mono h2 hs⟩, hs _ h.s, h.store⟩
theorem alike (h : IsRk w q S L x) (h1 : cellsL L' = cellsL L) (h2 : hisL L' = hisL L) (h3 : Store L') : IsRk w q S L' x := by
  have hl : L'.length = L.length := by rw [← cellsL_len, h1, cellsL_len]
  obtain ⟨A, a, B, b, hy, r1, r2⟩ := h.y
  exact ⟨⟨A, a, B, b, by rw [hl]; exact hy, by rw [hl, h1]; exact r1, by rw [hl, h2]; exact r2⟩, h.s, h3⟩
theorem cells (h : IsRk w q S L x) : ∃ A a B b, (w.cell? ⟨q, 0, none⟩ = some (.slice A L.length a) ∧ w.cell? ⟨q, 1, none⟩ = some (.slice B L.length b) ∧ w.cell? ⟨q, 2, none⟩ = some (.int .u64 x)) ∧ L.length ≤ a ∧ L.length ≤ b ∧ Kd.C cellK w A L.length (cellsL L) ∧ Kd.C (Kd.int .i64) w B L.length (hisL L) := by
  obtain ⟨A, a, B, b, hy, h1, h2⟩ := h.y
  obtain ⟨e1, l1, c1⟩ := Kd.R_reads' h1
  obtain ⟨e2, l2, c2⟩ := Kd.R_reads' h2
  rw [← e1] at c1
  rw [← e2] at c2
  exact ⟨A, a, B, b, ⟨(blk_cell hy 0).trans rfl, (blk_cell hy 1).trans rfl, (blk_cell hy 2).trans rfl⟩, l1, l2, c1, c2⟩
theorem fz (h : IsRk w q S L x) (i : Nat) : w.frozen? ⟨q, i, none⟩ = false := by obtain ⟨A, a, B, b, hy, _⟩ := h.y; exact blk_frozen hy i
theorem setX (h : IsRk w q S L x) (y : Int) : IsRk (w.setCell ⟨q, 2, none⟩ (.int .u64 y)) q S L y := by
  obtain ⟨A, a, B, b, hy, r1, r2⟩ := h.y
  have n1 : some q ≠ (Value.slice A L.length a).ownBlock := Kd.R_ne r1 hy (by decide)
  have n2 : some q ≠ (Value.slice B L.length b).ownBlock := Kd.R_ne r2 hy (by decide)
  refine ⟨⟨A, a, B, b, ?_, Kd.R_set r1 hy (by decide) 2 _, Kd.R_set r2 hy (by decide) 2 _⟩, h.s, h.store⟩
  rw [heap_same (a := ⟨q, 2, none⟩) hy rfl]; rfl
end IsRk
theorem cellsL_get {L : List Nd} {i : Nat} {e : Nd} (h : L[i]? = some e) : (cellsL L)[i]? = some (t4 e.c) := by unfold cellsL; rw [List.getElem?_map, h]; rfl
end Go.Proofs.Ytdolmkiiflhehaa.M
end

section
/- The height that is drawn. -/
set_option linter.unusedVariables false
set_option linter.unusedSimpArgs false
set_option maxRecDepth 100000
namespace Go.Proofs.Ytdolmkiiflhehaa.M
open Go.RowKit Go.Proofs.YtdolmkiiflhehaaW.PrintWords
theorem height_is {w : World} {s h : Nat} {L : List Nd} {x : Int} {nx : Nat → Nat → Option Nat} (H : IsSk w s h L x nx) :
    Calls Try.prog 37 #[.pointer (some ⟨s, 0, none⟩)] w fun e w' => ∃ (g : Nat) (y : Int), e = .returned (.int .i64 g) ∧ 1 ≤ g ∧ g ≤ 8 ∧ IsSk w' s h L y nx ∧ KeepS (fun i => i = s) w w' := by
  have HH := Lib.hid H
  have c2 := H.c2
  have z2 := H.z 2
  clear H
  go_enter Try.func37, Try.ntmps37
  go_upto_region 2 with fail
  go_cut [] (fun wx => ∃ y, IsSk wx s h L y nx ∧ KeepS (fun i => i = s) w wx)
  case first =>
    go_wp2_with fail
    refine wp_region_still_tail 12 (by kernel_rfl) (by kernel_rfl) ?_
    simp only [List.take_succ_cons, List.take_zero, List.drop_succ_cons, List.drop_zero]
    iterate 12 still_step
    refine wpStill_nil ?_
    change wpList _ _ _ _ _ w.drew
    go_wp2_with fail
    go_meet
    exact ⟨_, (HH.out.setX _).drew, ((KeepS.refl (fun i => i = s) _).set (p := ⟨s, 2, none⟩) (.inl rfl) _).drew⟩
  clear c2 z2
  obtain ⟨x1, H1, K1⟩ := hcut
  have HH1 := Lib.hid H1; have HK1 := Lib.hid K1
  obtain ⟨w1, rfl⟩ : ∃ w1, w1 = wc := ⟨_, rfl⟩
  have c2 := H1.c2
  have z2 := H1.z 2
  clear H1 K1
  go_upto_region 3 with fail
  go_cut [] (fun wx => ∃ y, IsSk wx s h L y nx ∧ KeepS (fun i => i = s) w wx)
  case first =>
    refine wp_region_still_tail 12 (by kernel_rfl) (by kernel_rfl) ?_
    simp only [List.take_succ_cons, List.take_zero, List.drop_succ_cons, List.drop_zero]
    iterate 12 still_step
    refine wpStill_nil ?_
    change wpList _ _ _ _ _ w1.drew
    go_wp2_with fail
    go_meet
    exact ⟨_, (HH1.out.setX _).drew, (HK1.out.set (p := ⟨s, 2, none⟩) (.inl rfl) _).drew⟩
  clear c2 z2
  obtain ⟨x2, H2, K2⟩ := hcut
  have HH2 := Lib.hid H2; have HK2 := Lib.hid K2
  obtain ⟨w2, rfl⟩ : ∃ w2, w2 = wc := ⟨_, rfl⟩
  have c2 := H2.c2
  have z2 := H2.z 2
  clear H2 K2
  go_upto_region 4 with fail
  go_cut [] (fun wx => ∃ y, IsSk wx s h L y nx ∧ KeepS (fun i => i = s) w wx)
  case first =>
    refine wp_region_still_tail 12 (by kernel_rfl) (by kernel_rfl) ?_
    simp only [List.take_succ_cons, List.take_zero, List.drop_succ_cons, List.drop_zero]
    iterate 12 still_step
    refine wpStill_nil ?_
    change wpList _ _ _ _ _ w2.drew
    go_wp2_with fail
    go_meet
    exact ⟨_, (HH2.out.setX _).drew, (HK2.out.set (p := ⟨s, 2, none⟩) (.inl rfl) _).drew⟩
  clear c2 z2
  obtain ⟨x3, H3, K3⟩ := hcut
  have HH3 := Lib.hid H3; have HK3 := Lib.hid K3
  obtain ⟨w3, rfl⟩ : ∃ w3, w3 = wc := ⟨_, rfl⟩
  have c2 := H3.c2
  have z2 := H3.z 2
  clear H3 K3
  go_wp2_with fail
  go_loopw [3, 4] (fun a b wr => wr = w3 ∧ ∃ (g : Nat) (y : Int), a = .int .i64 g ∧ b = .int .u64 y ∧ 1 ≤ g ∧ g ≤ 8) (fun a _ _ => 8 - (intOf a).toNat)
  case atStart => exact ⟨rfl, 1, _, rfl, rfl, by omega, by omega⟩
  case round =>
    obtain ⟨rfl, g, y, rfl, rfl, g1, g2⟩ := hrel
    by_cases hb : bits BinOp.and .u64 y 1 = 1
    · by_cases hg : g < 8
      · go_wp2_with fail
        refine ⟨⟨trivial, g + 1, _, ?_, rfl, by omega, by omega⟩, ?_⟩
        · congr 1
        · simp [intOf]; omega
      · have hgb : decide ((g : Int) < 8) = false := decide_eq_false (by omega)
        clear hg
        go_wp2_with fail
        go_ret
        exact ⟨g, _, rfl, g1, g2, HH3.out, HK3.out⟩
    · have hbb : decide (bits BinOp.and .u64 y 1 = 1) = false := decide_eq_false hb
      go_wp2_with fail
      go_ret
      exact ⟨g, _, rfl, g1, g2, HH3.out, HK3.out⟩
end Go.Proofs.Ytdolmkiiflhehaa.M
end

section
/- The links while a node is put in and while one is taken out; the stores behind it. -/
set_option linter.unusedVariables false
set_option linter.unusedSimpArgs false
namespace Go.Proofs.Ytdolmkiiflhehaa.M
open Go.RowKit
def insJ (nx : Nat → Nat → Option Nat) (h : Nat) (L : List Nd) (m : Nat) (e : Nd) (j b l : Nat) : Option Nat := if l < j then insNx nx h L m e b l else if b = e.b then none else nx b l
section
variable {nx : Nat → Nat → Option Nat} {h : Nat} {L : List Nd} {m : Nat} {e : Nd}
theorem insJ_zero {b : Nat} (hb : b ≠ e.b) : insJ nx h L m e 0 b = nx b := by
  funext l; unfold insJ; rw [if_neg (by omega), if_neg hb]
theorem insJ_zero_e : insJ nx h L m e 0 e.b = fun _ => none := by
  funext l; unfold insJ; rw [if_neg (by omega), if_pos rfl]
theorem insJ_at {j b : Nat} (hb : b ≠ e.b) : insJ nx h L m e j b j = nx b j := by
  unfold insJ; rw [if_neg (by omega), if_neg hb]
theorem insJ_step_e {j : Nat} (hj : j < e.hi) : upF (insJ nx h L m e j e.b) j (nx (adr h L (pre L j m)) j) = insJ nx h L m e (j + 1) e.b := by
  funext l
  unfold upF insJ insNx
  by_cases e1 : l = j
  · subst e1; rw [if_pos rfl, if_pos (by omega), if_pos hj, if_pos rfl]
  · rw [if_neg e1]
    by_cases e2 : l < j
    · rw [if_pos e2, if_pos (show l < j + 1 by omega)]
    · rw [if_neg e2, if_neg (show ¬ l < j + 1 by omega)]
theorem insJ_step_p {j : Nat} (hj : j < e.hi) (hp : adr h L (pre L j m) ≠ e.b) : upF (insJ nx h L m e j (adr h L (pre L j m))) j (some e.b) = insJ nx h L m e (j + 1) (adr h L (pre L j m)) := by
  funext l
  unfold upF insJ insNx
  by_cases e1 : l = j
  · subst e1; rw [if_pos rfl, if_pos (by omega), if_pos hj, if_neg hp, if_pos rfl]
  · rw [if_neg e1]
    by_cases e2 : l < j
    · rw [if_pos e2, if_pos (show l < j + 1 by omega)]
    · rw [if_neg e2, if_neg (show ¬ l < j + 1 by omega)]
theorem insJ_step_o {j b : Nat} (hb : b ≠ e.b) (hp : b ≠ adr h L (pre L j m)) : insJ nx h L m e j b = insJ nx h L m e (j + 1) b := by
  funext l
  unfold insJ
  by_cases e2 : l < j
  · rw [if_pos e2, if_pos (show l < j + 1 by omega)]
  · rw [if_neg e2, if_neg hb]
    by_cases e1 : l = j
    · subst e1
      rw [if_pos (by omega)]
      unfold insNx
      rw [if_neg hb, if_neg hp, ite_self]
    · rw [if_neg (by omega)]
theorem nodes_ins (hm : m ≤ L.length) {a : Nat} (ha : a ≤ (ins L m e).length) : (∃ a', a' ≤ L.length ∧ adr h (ins L m e) a = adr h L a' ∧ celP (ins L m e) a = celP L a' ∧ hiP (ins L m e) a = hiP L a') ∨ (adr h (ins L m e) a = e.b ∧ celP (ins L m e) a = e.c ∧ hiP (ins L m e) a = e.hi) := by
  rw [ins_length hm] at ha
  rcases a with _ | a
  · exact .inl ⟨0, by omega, rfl, rfl, rfl⟩
  · have hg := ins_get hm e a
    by_cases h1 : a < m
    · rw [if_pos h1] at hg
      exact .inl ⟨a + 1, by omega, by simp only [adr, blkAt, hg], by simp only [celP, hg], by simp only [hiP, hiAt, hg]⟩
    · rw [if_neg h1] at hg
      by_cases h2 : a = m
      · rw [if_pos h2] at hg
        exact .inr ⟨by simp only [adr, blkAt, hg], by simp only [celP, hg], by simp only [hiP, hiAt, hg]⟩
      · rw [if_neg h2] at hg
        obtain ⟨a, rfl⟩ : ∃ a', a = a' + 1 := ⟨a - 1, by omega⟩
        rw [Nat.add_sub_cancel] at hg
        exact .inl ⟨a + 1, by omega, by simp only [adr, blkAt, hg], by simp only [celP, hg], by simp only [hiP, hiAt, hg]⟩
theorem insJ_links (hl : Links nx h L) (hn : Apart h L) (hm : m ≤ L.length) (he : e.b ∉ h :: L.map (·.b)) (h8 : e.hi ≤ 8) : Links (insJ nx h L m e e.hi) h (ins L m e) := by
  intro a ha l hla
  rw [← ins_links hl hn hm he h8 a ha l hla]
  unfold insJ
  by_cases h1 : l < e.hi
  · rw [if_pos h1]
  · rw [if_neg h1]
    have hb : adr h (ins L m e) a ≠ e.b := by
      rcases nodes_ins (h := h) hm ha with ⟨a', h2, h3, h4, h5⟩ | ⟨h3, h4, h5⟩
      · rw [h3]; exact fun e' => he (e' ▸ adr_mem h L h2)
      · rw [h5] at hla; exact absurd hla h1
    rw [if_neg hb]
    unfold insNx
    rw [if_neg h1]
def delJ (nx : Nat → Nat → Option Nat) (h : Nat) (L : List Nd) (m j b l : Nat) : Option Nat := if l < j then delNx nx h L m b l else nx b l
theorem delJ_zero (b : Nat) : delJ nx h L m 0 b = nx b := by funext l; unfold delJ; rw [if_neg (by omega)]
theorem delJ_at (j b : Nat) : delJ nx h L m j b j = nx b j := by unfold delJ; rw [if_neg (by omega)]
theorem delJ_step_p {j : Nat} (hj : j < hiAt L m) : upF (delJ nx h L m j (adr h L (pre L j m))) j (nx (blkAt L m) j) = delJ nx h L m (j + 1) (adr h L (pre L j m)) := by
  funext l
  unfold upF delJ delNx
  by_cases e1 : l = j
  · subst e1; rw [if_pos rfl, if_pos (by omega), if_pos ⟨hj, rfl⟩]
  · rw [if_neg e1]
    by_cases e2 : l < j
    · rw [if_pos e2, if_pos (show l < j + 1 by omega)]
    · rw [if_neg e2, if_neg (show ¬ l < j + 1 by omega)]
theorem delJ_step_o {j b : Nat} (hp : b ≠ adr h L (pre L j m)) : delJ nx h L m j b = delJ nx h L m (j + 1) b := by
  funext l
  unfold delJ
  by_cases e2 : l < j
  · rw [if_pos e2, if_pos (show l < j + 1 by omega)]
  · rw [if_neg e2]
    by_cases e1 : l = j
    · subst e1
      rw [if_pos (by omega)]
      unfold delNx
      rw [if_neg (fun e' => hp e'.2)]
    · rw [if_neg (by omega)]
theorem nodes_del (hm : m < L.length) {a : Nat} (ha : a ≤ (del L m).length) : ∃ a', a' ≤ L.length ∧ adr h (del L m) a = adr h L a' ∧ celP (del L m) a = celP L a' ∧ hiP (del L m) a = hiP L a' := by
  have hlen := del_length hm
  rcases a with _ | a
  · exact ⟨0, by omega, rfl, rfl, rfl⟩
  · have hg := del_get hm a
    by_cases h1 : a < m
    · rw [if_pos h1] at hg
      exact ⟨a + 1, by omega, by simp only [adr, blkAt, hg], by simp only [celP, hg], by simp only [hiP, hiAt, hg]⟩
    · rw [if_neg h1] at hg
      exact ⟨a + 2, by omega, by simp only [adr, blkAt, hg], by simp only [celP, hg], by simp only [hiP, hiAt, hg]⟩
theorem delJ_links (hl : Links nx h L) (hn : Apart h L) (hm : m < L.length) : Links (delJ nx h L m (hiAt L m)) h (del L m) := by
  intro a ha l hla
  rw [← del_links hl hn hm a ha l hla]
  unfold delJ
  by_cases h1 : l < hiAt L m
  · rw [if_pos h1]
  · rw [if_neg h1]
    unfold delNx
    rw [if_neg (fun e' => h1 e'.1)]
theorem nodes_set {e' : Nd} (hm : L[m]? = some e') (c : CellD) {a : Nat} : adr h (setC L m c) a = adr h L a ∧ hiP (setC L m c) a = hiP L a ∧ celP (setC L m c) a = if a = m + 1 then c else celP L a := by
  rcases a with _ | a
  · exact ⟨rfl, rfl, by rw [if_neg (by omega)]; rfl⟩
  · have hg := setC_get hm c a
    refine ⟨setC_blk hm c a, setC_hi hm c a, ?_⟩
    by_cases h1 : a = m
    · rw [if_pos h1] at hg
      rw [if_pos (by omega)]
      simp only [celP, hg]
    · rw [if_neg h1] at hg
      rw [if_neg (by omega)]
      simp only [celP, hg]
end
def PutR (L : List Nd) (c : CellD) (E : Int) (L' : List Nd) : Prop :=
  (decide (0 ≤ c.slot) && decide (c.slot ≤ 1099511627776)) = true ∧ E = 0 ∧ (∀ k, getL L' k = if k = c.key then some c else getL L k) ∧ L'.length = L.length + (if (getL L c.key).isSome then 0 else 1)
    ∨ (decide (0 ≤ c.slot) && decide (c.slot ≤ 1099511627776)) = false ∧ E = 1 ∧ L' = L
end Go.Proofs.Ytdolmkiiflhehaa.M
end

section
/- The memory behind a key's new value, behind a node put in and one taken out. -/
set_option linter.unusedVariables false
set_option linter.unusedSimpArgs false
namespace Go.Proofs.Ytdolmkiiflhehaa.M
open Go.RowKit
def set4 (w : World) (b : Nat) (c : CellD) : World := (((w.setCell ⟨b, 0, none⟩ (.int .i32 c.table)).setCell ⟨b, 1, none⟩ (.int .i64 c.row)).setCell ⟨b, 2, none⟩ (.int .i64 c.value)).setCell ⟨b, 3, none⟩ (.int .i64 c.slot)
theorem NodeIs.set4 {w : World} {b : Nat} {c : CellD} {f : Nat → Option Nat} {hi : Int} (h : NodeIs w b c f hi) (c' : CellD) : NodeIs (set4 w b c') b c' f hi := by
  have h1 := heap_same (a := ⟨b, 0, none⟩) (v := .int .i32 c'.table) h.blk rfl
  have h2 := heap_same (a := ⟨b, 1, none⟩) (v := .int .i64 c'.row) h1 rfl
  have h3 := heap_same (a := ⟨b, 2, none⟩) (v := .int .i64 c'.value) h2 rfl
  have h4 := heap_same (a := ⟨b, 3, none⟩) (v := .int .i64 c'.slot) h3 rfl
  exact ⟨h4.trans rfl⟩
theorem keep_set4 (w : World) (b : Nat) (c : CellD) : KeepS (fun i => i = b) w (set4 w b c) :=
  ((((KeepS.refl (fun i => i = b) w).set (p := ⟨b, 0, none⟩) (.inl rfl) _).set (p := ⟨b, 1, none⟩) (.inl rfl) _).set (p := ⟨b, 2, none⟩) (.inl rfl) _).set (p := ⟨b, 3, none⟩) (.inl rfl) _
section
variable {w w' : World} {s h : Nat} {L : List Nd} {x : Int} {nx : Nat → Nat → Option Nat}
theorem IsSk.set4 (H : IsSk w s h L x nx) {m : Nat} {e : Nd} (hm : L[m]? = some e) {c : CellD} (hc : c.key = e.c.key) : IsSk (set4 w e.b c) s h (setC L m c) x nx := by
  have hl := (List.getElem?_eq_some_iff.1 hm).1
  have eb : adr h L (m + 1) = e.b := by show blkAt L m = _; unfold blkAt; rw [hm]
  have hk := keep_set4 w e.b c
  refine ⟨?_, fun a ha => ?_, setC_links H.links hm c, setC_apart H.apart hm c, setC_store H.store hm hc, by rw [setC_map hm]; exact H.sne⟩
  · rw [setC_length]
    exact (hk.block s H.slt (fun e' => H.sadr (a := m + 1) (by omega) (by rw [eb]; exact e'.symm))).trans H.sh
  · rw [setC_length] at ha
    obtain ⟨n1, n2, n3⟩ := nodes_set (h := h) hm c (a := a)
    rw [n1, n2, n3]
    by_cases he : a = m + 1
    · subst he
      rw [if_pos rfl]
      have h1 := (H.nds (m + 1) ha).set4 c
      rw [eb] at h1 ⊢
      exact h1
    · rw [if_neg he]
      exact (H.nds a ha).move (hk.block _ (H.nds a ha).lt (fun e' => he (adr_inj H.apart ha (by omega) (by rw [eb]; exact e'))))
structure InsI (w : World) (s h : Nat) (L : List Nd) (x : Int) (nx : Nat → Nat → Option Nat) (m : Nat) (e : Nd) (j : Nat) : Prop where
  sh : w.heap[s]? = some (.cells #[.pointer (some ⟨h, 0, none⟩), .int .i64 L.length, .int .u64 x] 52)
  nds : ∀ a, a ≤ L.length → NodeIs w (adr h L a) (celP L a) (insJ nx h L m e j (adr h L a)) (hiP L a)
  nd : NodeIs w e.b e.c (insJ nx h L m e j e.b) e.hi
namespace InsI
variable {m j : Nat} {e : Nd}
theorem move (H : InsI w s h L x nx m e j) (hb : ∀ i, IsSk.Own s h L i ∨ i = e.b → w'.heap[i]? = w.heap[i]?) : InsI w' s h L x nx m e j :=
  ⟨(hb s (.inl (.inl rfl))).trans H.sh, fun a ha => (H.nds a ha).move (hb _ (.inl (IsSk.own_adr s h L ha))), H.nd.move (hb _ (.inr rfl))⟩
theorem zero (H : IsSk w s h L x nx) {e : Nd} (he : e.b ∉ h :: L.map (·.b)) (hn : NodeIs w e.b e.c (fun _ => none) e.hi) (m : Nat) : InsI w s h L x nx m e 0 :=
  ⟨H.sh, fun a ha => by rw [insJ_zero (fun e' => he (e' ▸ adr_mem h L ha))]; exact H.nds a ha, by rw [insJ_zero_e]; exact hn⟩
theorem step (H : InsI w s h L x nx m e j) (ha : Apart h L) (hs : s ∉ h :: L.map (·.b)) (hm : m ≤ L.length) (he : e.b ∉ h :: L.map (·.b)) (hes : e.b ≠ s) (hj : j < e.hi) (h8 : e.hi ≤ 8) :
    InsI ((w.setCell ⟨e.b, 4 + j, none⟩ (np (nx (adr h L (pre L j m)) j))).setCell ⟨adr h L (pre L j m), 4 + j, none⟩ (np (some e.b))) s h L x nx m e (j + 1) := by
  have hp : pre L j m ≤ L.length := Nat.le_trans (pre_le L j m) hm
  have hne : ∀ a, a ≤ L.length → adr h L a ≠ e.b := fun a ha e' => he (e' ▸ adr_mem h L ha)
  have hns : ∀ a, a ≤ L.length → adr h L a ≠ s := fun a ha e' => hs (e' ▸ adr_mem h L ha)
  refine ⟨?_, fun a hal => ?_, ?_⟩
  · rw [Below.heap_setCell _ _ _ _ (hns _ hp).symm, Below.heap_setCell _ _ _ _ hes.symm]
    exact H.sh
  · by_cases hap : a = pre L j m
    · subst hap
      have h1 := ((H.nds _ hp).far (p := ⟨e.b, 4 + j, none⟩) (hne _ hp).symm (np (nx (adr h L (pre L j m)) j))).setNext (l := j) (by omega) (some e.b)
      rw [insJ_step_p hj (hne _ hp)] at h1
      exact h1
    · have hx : adr h L a ≠ adr h L (pre L j m) := fun e' => hap (adr_inj ha hal hp e')
      rw [← insJ_step_o (hne _ hal) hx]
      exact ((H.nds a hal).far (p := ⟨e.b, 4 + j, none⟩) (hne _ hal).symm _).far (p := ⟨adr h L (pre L j m), 4 + j, none⟩) hx.symm _
  · have h1 := (H.nd.setNext (l := j) (by omega) (nx (adr h L (pre L j m)) j)).far (p := ⟨adr h L (pre L j m), 4 + j, none⟩) (hne _ hp) (np (some e.b))
    rw [insJ_step_e hj] at h1
    exact h1
theorem done (H : InsI w s h L x nx m e e.hi) (hl : Links nx h L) (ha : Apart h L) (hs : Store L) (hsn : s ∉ h :: L.map (·.b)) (hr : m = rank L e.c.key) (hm : m ≤ L.length) (he : e.b ∉ h :: L.map (·.b)) (hes : e.b ≠ s) (h1 : 1 ≤ e.hi) (h8 : e.hi ≤ 8) (hno : getL L e.c.key = none) :
    IsSk (w.setCell ⟨s, 1, none⟩ (.int .i64 (L.length + 1 : Nat))) s h (ins L m e) x (insJ nx h L m e e.hi) := by
  subst hr
  have hsI : s ∉ h :: (ins L (rank L e.c.key) e).map (·.b) := by
    intro hx
    rcases List.mem_cons.1 hx with hx | hx
    · exact hsn (hx ▸ List.mem_cons_self)
    · obtain ⟨e', h1, h2⟩ := List.mem_map.1 hx
      rcases ins_mem.1 h1 with rfl | h3
      · exact hes h2
      · exact hsn (List.mem_cons_of_mem _ (List.mem_map.2 ⟨e', h3, h2⟩))
  refine ⟨?_, fun a hal => ?_, insJ_links hl ha hm he h8, ins_apart ha he _, ins_store hs hno ⟨h1, h8⟩, hsI⟩
  · rw [heap_same (a := ⟨s, 1, none⟩) H.sh rfl, ins_length hm]; rfl
  · rcases nodes_ins (h := h) hm hal with ⟨a', h2, h3, h4, h5⟩ | ⟨h3, h4, h5⟩
    · rw [h3, h4, h5]; exact (H.nds a' h2).far (p := ⟨s, 1, none⟩) (fun (e' : s = adr h L a') => hsn (e' ▸ adr_mem h L h2)) _
    · rw [h3, h4, h5]; exact H.nd.far (p := ⟨s, 1, none⟩) (fun e' => hes e'.symm) _
end InsI
structure DelI (w : World) (s h : Nat) (L : List Nd) (x : Int) (nx : Nat → Nat → Option Nat) (m j : Nat) : Prop where
  sh : w.heap[s]? = some (.cells #[.pointer (some ⟨h, 0, none⟩), .int .i64 L.length, .int .u64 x] 52)
  nds : ∀ a, a ≤ L.length → NodeIs w (adr h L a) (celP L a) (delJ nx h L m j (adr h L a)) (hiP L a)
namespace DelI
variable {m j : Nat}
theorem move (H : DelI w s h L x nx m j) (hb : ∀ i, IsSk.Own s h L i → w'.heap[i]? = w.heap[i]?) : DelI w' s h L x nx m j :=
  ⟨(hb s (.inl rfl)).trans H.sh, fun a ha => (H.nds a ha).move (hb _ (IsSk.own_adr s h L ha))⟩
theorem zero (H : IsSk w s h L x nx) (m : Nat) : DelI w s h L x nx m 0 := ⟨H.sh, fun a ha => by rw [delJ_zero]; exact H.nds a ha⟩
theorem step (H : DelI w s h L x nx m j) (ha : Apart h L) (hs : s ∉ h :: L.map (·.b)) (hm : m < L.length) (hj : j < hiAt L m) (h8 : hiAt L m ≤ 8) :
    DelI (w.setCell ⟨adr h L (pre L j m), 4 + j, none⟩ (np (nx (blkAt L m) j))) s h L x nx m (j + 1) := by
  have hp : pre L j m ≤ L.length := Nat.le_trans (pre_le L j m) (by omega)
  have hns : ∀ a, a ≤ L.length → adr h L a ≠ s := fun a ha e' => hs (e' ▸ adr_mem h L ha)
  refine ⟨(Below.heap_setCell _ _ _ _ (hns _ hp).symm).trans H.sh, fun a hal => ?_⟩
  by_cases hap : a = pre L j m
  · subst hap
    have h1 := (H.nds _ hp).setNext (l := j) (by omega) (nx (blkAt L m) j)
    rw [delJ_step_p hj] at h1
    exact h1
  · have hx : adr h L a ≠ adr h L (pre L j m) := fun e' => hap (adr_inj ha hal hp e')
    rw [← delJ_step_o hx]
    exact (H.nds a hal).far (p := ⟨adr h L (pre L j m), 4 + j, none⟩) hx.symm _
theorem done (H : DelI w s h L x nx m (hiAt L m)) (hl : Links nx h L) (ha : Apart h L) (hs : Store L) (hsn : s ∉ h :: L.map (·.b)) (hm : m < L.length) :
    IsSk (w.setCell ⟨s, 1, none⟩ (.int .i64 (L.length - 1 : Nat))) s h (del L m) x (delJ nx h L m (hiAt L m)) := by
  have hsI : s ∉ h :: (del L m).map (·.b) := by
    intro hx
    rcases List.mem_cons.1 hx with hx | hx
    · exact hsn (hx ▸ List.mem_cons_self)
    · exact hsn (List.mem_cons_of_mem _ (((del_sublist L m).map _).subset hx))
  have hlen := del_length hm
  refine ⟨?_, fun a hal => ?_, delJ_links hl ha hm, del_apart ha m, del_store hs m, hsI⟩
  · rw [heap_same (a := ⟨s, 1, none⟩) H.sh rfl, show (del L m).length = L.length - 1 by omega]; rfl
  · obtain ⟨a', h2, h3, h4, h5⟩ := nodes_del (h := h) hm hal
    rw [h3, h4, h5]
    exact (H.nds a' h2).far (p := ⟨s, 1, none⟩) (fun (e' : s = adr h L a') => hsn (e' ▸ adr_mem h L h2)) _
end DelI
end
end Go.Proofs.Ytdolmkiiflhehaa.M
end

section
/- Put. -/
set_option linter.unusedVariables false
set_option linter.unusedSimpArgs false
set_option maxRecDepth 100000
attribute [local irreducible] Go.wpStill
namespace Go.Proofs.Ytdolmkiiflhehaa.M
open Go.RowKit Go.Proofs.YtdolmkiiflhehaaW.PrintWords Go.Proofs.YtdolmkiiflhehaaW.PrintMore Go.Proofs.YtdolmkiiflhehaaW.PrintLast
theorem boxC {W : World} {b : Nat} {c : CellD} {t : TypeId} (h : W.heap[b]? = some (.cells #[.int .i32 c.table, .int .i64 c.row, .int .i64 c.value, .int .i64 c.slot] t)) : W.cell? ⟨b, 0, none⟩ = some (.int .i32 c.table) ∧ W.cell? ⟨b, 1, none⟩ = some (.int .i64 c.row) ∧ W.cell? ⟨b, 2, none⟩ = some (.int .i64 c.value) ∧ W.cell? ⟨b, 3, none⟩ = some (.int .i64 c.slot) := by simp [World.cell?, h]
def PutL (s h : Nat) (L : List Nd) (x : Int) (nx : Nat → Nat → Option Nat) (m : Nat) (e : Nd) (P : Nat) (w7 : World) (i : Value) (wr : World) : Prop :=
  ∃ j : Nat, i = .int .i64 j ∧ j ≤ e.hi ∧ InsI wr s h L x nx m e j ∧ wr.heap[P]? = some (.cells (ptrArr fun l => some (adr h L (pre L l m))) 82) ∧ KeepS (fun i => IsSk.Own s h L i ∨ i = e.b) w7 wr
theorem HPx {s h : Nat} {L : List Nd} {a b : Nat} (h1 : IsSk.Own s h L a) (e : a = b) : IsSk.Own s h L b := e ▸ h1
theorem np_ptr (o : Option Nat) : ∃ q, np o = .pointer q := by cases o <;> exact ⟨_, rfl⟩
def PutT (L : List Nd) (k : Int × Int) (a b : Value) : Prop := ∃ d : Bool, b = .bool d ∧ ((d = false ∧ getL L k = none) ∨ (d = true ∧ ∃ e, L[rank L k]? = some e ∧ e.c.key = k ∧ a = .pointer (some ⟨e.b, 0, none⟩)))
def PutP (w : World) (s h : Nat) (L : List Nd) (c : CellD) (e : Ending) (w' : World) : Prop :=
  ∃ (E : Int) (L' : List Nd) (x' : Int) (nx' : Nat → Nat → Option Nat), e = .returned (.int .i64 E) ∧ IsSk w' s h L' x' nx' ∧ KeepS (IsSk.Own s h L) w w' ∧ (∀ i, IsSk.Own s h L' i → IsSk.Own s h L i ∨ w.heap.size ≤ i) ∧ PutR L c E L'
set_option maxHeartbeats 1000000 in
theorem put_is {w : World} {s h : Nat} {L : List Nd} {x : Int} {nx : Nat → Nat → Option Nat} (H : IsSk w s h L x nx) (hL : L.length < 1048576) (c : CellD) :
    Calls Try.prog 12 #[.pointer (some ⟨s, 0, none⟩), celV c] w fun e w' => PutP w s h L c e w' := by
  have HB := Lib.hid (show Below w.heap.size w (w.alloc (.cells #[.int .i32 c.table, .int .i64 c.row, .int .i64 c.value, .int .i64 c.slot] 31)) from (Below.refl _ _).alloc (Nat.le_refl _) _)
  have HA := H.below HB.out
  have b0 := heap_alloc_new w (.cells #[.int .i32 c.table, .int .i64 c.row, .int .i64 c.value, .int .i64 c.slot] 31)
  have HSZ := Lib.hid (show (w.alloc (.cells #[.int .i32 c.table, .int .i64 c.row, .int .i64 c.value, .int .i64 c.slot] 31)).heap.size = w.heap.size + 1 by simp)
  unfold celV
  go_enter Try.func12, Try.ntmps12
  go_wp2_with fail
  obtain ⟨w2, hw2⟩ : ∃ w2, w.alloc (.cells #[.int .i32 c.table, .int .i64 c.row, .int .i64 c.value, .int .i64 c.slot] 31) = w2 := ⟨_, rfl⟩
  rw [hw2] at HB HA b0 HSZ ⊢
  clear hw2
  have HH := Lib.hid HA
  have HW := Lib.hid H
  have HX := Lib.hid b0
  have c0 : w2.cell? ⟨w.heap.size, 0, none⟩ = some (.int .i32 c.table) := by simp [World.cell?, b0]
  have c1 : w2.cell? ⟨w.heap.size, 1, none⟩ = some (.int .i64 c.row) := by simp [World.cell?, b0]
  have c2 : w2.cell? ⟨w.heap.size, 2, none⟩ = some (.int .i64 c.value) := by simp [World.cell?, b0]
  have c3 : w2.cell? ⟨w.heap.size, 3, none⟩ = some (.int .i64 c.slot) := by simp [World.cell?, b0]
  clear HA H b0
  by_cases s1 : c.slot < 0
  · have HS := Lib.hid s1
    have s1b : decide (c.slot < 0) = true := decide_eq_true s1
    clear s1
    refine (none_is HH.out).mono ?_
    rintro e w' ⟨rfl, rfl⟩
    go_wp2_with fail
    go_ret
    exact ⟨1, L, x, nx, rfl, HH.out, KeepS.of_below _ HB.out, fun i hi => .inl hi, .inr ⟨by rw [Bool.and_eq_false_iff]; left; have := HS.out; simp; omega, rfl, rfl⟩⟩
  have HS1 := Lib.hid s1
  have s1b : decide (c.slot < 0) = false := decide_eq_false s1
  by_cases s2 : c.slot > 1099511627776
  · have HS := Lib.hid s2
    have s2b : decide (1099511627776 < c.slot) = true := decide_eq_true s2
    clear s1 s2
    refine (none_is HH.out).mono ?_
    rintro e w' ⟨rfl, rfl⟩
    go_wp2_with fail
    go_ret
    exact ⟨1, L, x, nx, rfl, HH.out, KeepS.of_below _ HB.out, fun i hi => .inl hi, .inr ⟨by rw [Bool.and_eq_false_iff]; right; have := HS.out; simp; omega, rfl, rfl⟩⟩
  have HS2 := Lib.hid s2
  have s2b : decide (1099511627776 < c.slot) = false := decide_eq_false (by omega)
  clear s1 s2
  refine (none_is HH.out).mono ?_
  rintro e w' ⟨rfl, rfl⟩
  go_wp2_with fail
  refine (path_is HH.out (by omega) c.key).mono ?_
  rintro e w3 ⟨rfl, hb⟩
  have HB3 := Lib.hid hb
  have h1 := HH.out.below hb
  have hm := rank_le L c.key
  have hp := pre_zero h1.store hm
  have n1 := (h1.nds (rank L c.key) hm).next (l := 0) (by omega)
  rw [h1.links _ hm 0 (by rw [← hp]; exact pre_hi L (by omega) _), nxt_at h1.store hm] at n1
  have n2 := (h1.nds _ hm).lt
  have hcs : ∀ i, w3.cell? ⟨w.heap.size, i, none⟩ = w'.cell? ⟨w.heap.size, i, none⟩ := fun i => hb.cell (p := ⟨w.heap.size, i, none⟩) (by rw [HSZ.out]; show w.heap.size < _; omega)
  have d0 := (hcs 0).trans c0; have d1 := (hcs 1).trans c1; have d2 := (hcs 2).trans c2; have d3 := (hcs 3).trans c3
  clear h1 hm hb hcs c0 c1 c2 c3
  obtain ⟨pb, hpb⟩ : ∃ pb, adr h L (rank L c.key) = pb := ⟨_, rfl⟩
  rw [hpb] at n1 n2
  have hp2 : adr h L (pre L 0 (rank L c.key)) = pb := by rw [hp]; exact hpb
  have HP2 := Lib.hid hp2
  have HA8 := Lib.hid (heap_alloc_new w3 (.cells (ptrArr (fun l => some (adr h L (pre L l (rank L c.key))))) 82))
  unfold ptrArr
  simp only [np]
  simp only [hp2]
  clear hpb hp hp2
  have n3 : w3.cell? ⟨pb, 4, none⟩ = some (np (atB L c.key)) := n1
  obtain ⟨r, hr⟩ : ∃ r, np (atB L c.key) = r := ⟨_, rfl⟩
  rw [hr] at n3
  have HR := Lib.hid hr
  have hlt : w.heap.size < w3.heap.size := by have := HB3.out.size; rw [HSZ.out] at this; omega
  clear n1 hr
  go_wp2_with fail
  have HB4 := Lib.hid (HB3.out.alloc HB3.out.size (.cells (ptrArr (fun l => some (adr h L (pre L l (rank L c.key))))) 82))
  have hE : w3.alloc (.cells #[(.pointer (some ⟨pb, 0, none⟩)), (.pointer (some ⟨adr h L (pre L 1 (rank L c.key)), 0, none⟩)), (.pointer (some ⟨adr h L (pre L 2 (rank L c.key)), 0, none⟩)), (.pointer (some ⟨adr h L (pre L 3 (rank L c.key)), 0, none⟩)), (.pointer (some ⟨adr h L (pre L 4 (rank L c.key)), 0, none⟩)), (.pointer (some ⟨adr h L (pre L 5 (rank L c.key)), 0, none⟩)), (.pointer (some ⟨adr h L (pre L 6 (rank L c.key)), 0, none⟩)), (.pointer (some ⟨adr h L (pre L 7 (rank L c.key)), 0, none⟩))] 82) = w3.alloc (.cells (ptrArr (fun l => some (adr h L (pre L l (rank L c.key))))) 82) := by rw [← HP2.out]; rfl
  rw [hE]
  obtain ⟨w4, hw4⟩ : ∃ w4, w3.alloc (.cells (ptrArr (fun l => some (adr h L (pre L l (rank L c.key))))) 82) = w4 := ⟨_, rfl⟩
  rw [hw4] at HA8 HB4 ⊢
  clear hE hw4 n2 n3 d0 d1 d2 d3 hlt
  have HH4 := Lib.hid (HH.out.below HB4.out)
  have HX4 := Lib.hid ((HB4.out.block w.heap.size (by rw [HSZ.out]; omega)).trans HX.out)
  have HP4 := Lib.hid (show w'.heap.size ≤ w3.heap.size from HB3.out.size)
  obtain ⟨P, hP⟩ : ∃ P, w3.heap.size = P := ⟨_, rfl⟩
  rw [hP] at HA8 HP4 ⊢
  clear hP HB3
  go_cut [7, 44] (fun a b wx => Below w4.heap.size w4 wx ∧ PutT L c.key a b)
  case first =>
    have b0 := HX4.out
    have c0 : w4.cell? ⟨w.heap.size, 0, none⟩ = some (.int .i32 c.table) := by simp [World.cell?, b0]
    have c1 : w4.cell? ⟨w.heap.size, 1, none⟩ = some (.int .i64 c.row) := by simp [World.cell?, b0]
    clear b0
    rcases getB HH4.out c.key with ⟨h1, h2⟩ | ⟨e, h1, h2, h3, h4⟩
    · have HG := Lib.hid h2
      have hr : r = .pointer none := by rw [← HR.out, h1]; rfl
      rw [hr]
      clear h1 h2 hr HR
      refine wp_region_still_tail 11 (by kernel_rfl) (by kernel_rfl) ?_
      simp only [List.take_succ_cons, List.take_zero, List.drop_succ_cons, List.drop_zero]
      iterate 11 still_step
      refine wpStill_nil ?_
      change wpList _ _ _ _ _ w4.drew
      go_wp2_with fail
      go_meet
      exact ⟨(Below.refl _ _).drew, false, rfl, .inl ⟨rfl, HG.out⟩⟩
    · have n0 := h3.c0
      have n1 := h3.c1
      have HG := Lib.hid h4
      have HM := Lib.hid h2
      have hr : r = .pointer (some ⟨e.b, 0, none⟩) := by rw [← HR.out, h1]; rfl
      rw [hr]
      clear h1 h2 h3 h4 hr HR
      by_cases hk : e.c.key = c.key
      · have hq : ∀ W : World, (Op.equalIn 10000 29 (.agg #[.int .i32 e.c.table, .int .i64 e.c.row]) (.agg #[.int .i32 c.table, .int .i64 c.row])).run Try.prog W = .ok true W := fun W => by
          have := eqk_self e.c.key W
          rw [show keyV e.c.key = .agg #[.int .i32 c.table, .int .i64 c.row] by rw [hk]; rfl] at this
          have h2 : keyV e.c.key = .agg #[.int .i32 e.c.table, .int .i64 e.c.row] := rfl
          rw [show (Value.agg #[.int .i32 e.c.table, .int .i64 e.c.row]) = .agg #[.int .i32 c.table, .int .i64 c.row] by rw [← h2, hk]; rfl]
          exact this
        have HE := Lib.hid hk
        clear hk
        refine wp_region_still_tail 11 (by kernel_rfl) (by kernel_rfl) ?_
        simp only [List.take_succ_cons, List.take_zero, List.drop_succ_cons, List.drop_zero]
        iterate 11 still_step
        refine wpStill_nil ?_
        change wpList _ _ _ _ _ w4.drew
        go_wp2_with fail
        go_meet
        exact ⟨(Below.refl _ _).drew, true, rfl, .inr ⟨rfl, e, HM.out, HE.out, rfl⟩⟩
      · have hq : ∀ W : World, (Op.equalIn 10000 29 (.agg #[.int .i32 e.c.table, .int .i64 e.c.row]) (.agg #[.int .i32 c.table, .int .i64 c.row])).run Try.prog W = .ok false W := fun W => eqk_ne hk W
        have HE := Lib.hid (show getL L c.key = none by rw [HG.out, if_neg hk])
        clear hk
        refine wp_region_still_tail 11 (by kernel_rfl) (by kernel_rfl) ?_
        simp only [List.take_succ_cons, List.take_zero, List.drop_succ_cons, List.drop_zero]
        iterate 11 still_step
        refine wpStill_nil ?_
        change wpList _ _ _ _ _ w4.drew
        go_wp2_with fail
        go_meet
        exact ⟨(Below.refl _ _).drew, false, rfl, .inl ⟨rfl, HE.out⟩⟩
  case rest =>
    obtain ⟨hB5, d, rfl, hd⟩ := hcut
    have HB5 := Lib.hid hB5
    obtain ⟨w5, rfl⟩ : ∃ w5, w5 = wc := ⟨_, rfl⟩
    clear hB5
    rcases hd with ⟨rfl, hg⟩ | ⟨rfl, e, he, hk, rfl⟩
    · have HG := Lib.hid hg
      have HH5 := Lib.hid (HH4.out.below HB5.out)
      have f1 := HH5.out.c1
      have hfull : decide ((1048576 : Int) ≤ (L.length : Int)) = false := decide_eq_false (by omega)
      clear hg
      go_wp2_with fail
      have HX5 := Lib.hid ((HB5.out.block w.heap.size (by have := HB4.out.size; rw [HSZ.out] at this; omega)).trans HX4.out)
      have HL5 := Lib.hid (show w.heap.size < w5.drew.heap.size from by have h1 := HB4.out.size; have h2 := HB5.out.size; rw [HSZ.out] at h1; show w.heap.size < w5.heap.size; omega)
      have hws : w.heap.size ≠ s := by have := HW.out.slt; omega
      have HA5 := Lib.hid ((HB5.out.block P (Array.getElem?_eq_some_iff.1 HA8.out).1).trans HA8.out)
      clear f1 hfull HX HX4 HA8
      refine start_ (n := 6) (S := (fun W => W.cell? ⟨w.heap.size, 0, none⟩ = some (.int .i32 c.table) ∧ W.cell? ⟨w.heap.size, 1, none⟩ = some (.int .i64 c.row) ∧ W.cell? ⟨w.heap.size, 2, none⟩ = some (.int .i64 c.value) ∧ W.cell? ⟨w.heap.size, 3, none⟩ = some (.int .i64 c.slot))) (ds := []) #[false, false, false, false, false, false] (by kernel_rfl) rfl rfl (boxC (show w5.drew.heap[w.heap.size]? = _ from HX5.out)) (fun hHeld => ?_)
      refine take_ (i := 0) (N := some 54) (v := ?_) (a' := ?_) #[true, false, false, false, false, false] rfl rfl (by kernel_rfl) (fun _ _ _ h => h) (Or.inl ⟨by rfl, ?_⟩) hHeld ?_ ?_
      rotate_left
      · intro W hS
        go_simp
        try with_reducible rfl
      rotate_left
      · simp only [Act.put, List.setIfInBounds_toArray, List.set_cons_zero, List.set_cons_succ, i64_w, i32_w]
        rfl
      refine pure_ (i := 1) (N := some 55) (v := ?_) (a' := ?_) #[true, true, false, false, false, false] rfl rfl (by kernel_rfl) (fun _ _ _ h => h) (Or.inl ⟨by rfl, ?_⟩) ?_ ?_
      rotate_left
      · intro W
        go_simp
        try with_reducible rfl
      rotate_left
      · simp only [Act.put, List.setIfInBounds_toArray, List.set_cons_zero, List.set_cons_succ, i64_w, i32_w]
        rfl
      refine one_ (i := 2) (N := some 56) #[true, true, true, false, false, false] rfl rfl (by kernel_rfl) (by decide) (fun K hK => ?_)
      go_simp
      refine (height_is HH5.out.drew).mono ?_
      rintro e w6 ⟨g, y, rfl, g1, g2, h6, k6⟩
      have HH6 := Lib.hid h6; have HK6 := Lib.hid k6; have HG12 := Lib.hid (And.intro g1 g2)
      clear g1 g2 h6 k6
      have HX6 := Lib.hid ((HK6.out.block w.heap.size HL5.out hws).trans HX5.out)
      have HL6 := Lib.hid (show w.heap.size < w6.heap.size from Nat.lt_of_lt_of_le HL5.out HK6.out.size)
      refine hK.out _ _ (boxC HX6.out) (fun hHeld => ?_)
      refine pure_ (i := 3) (N := some 57) (v := ?_) (a' := ?_) #[true, true, true, true, false, false] rfl rfl (by kernel_rfl) (fun _ _ _ h => h) (Or.inl ⟨by rfl, ?_⟩) ?_ ?_
      rotate_left
      · intro W
        go_simp
        try with_reducible rfl
      rotate_left
      · simp only [Act.put, List.setIfInBounds_toArray, List.set_cons_zero, List.set_cons_succ, i64_w, i32_w]
        rfl
      refine one_ (i := 4) (N := some 58) #[true, true, true, true, true, false] rfl rfl (by kernel_rfl) (by decide) (fun K hK => ?_)
      go_simp
      refine hK.out _ _ (boxC ((Below.heap_alloc _ _ _ HL6.out).trans HX6.out)) (fun hHeld => ?_)
      refine pure_ (i := 5) (N := some 8) (v := ?_) (a' := ?_) #[true, true, true, true, true, true] rfl rfl (by kernel_rfl) (fun _ _ _ h => h) (Or.inl ⟨by rfl, ?_⟩) ?_ ?_
      rotate_left
      · intro W
        go_simp
        try with_reducible rfl
      rotate_left
      · simp only [Act.put, List.setIfInBounds_toArray, List.set_cons_zero, List.set_cons_succ, i64_w, i32_w]
        rfl
      refine done_ (by kernel_rfl) ?_
      have HN7 := Lib.hid (show NodeIs (w6.alloc (.cells (ndArr c (fun _ => none) g) 84)) w6.heap.size c (fun _ => none) g from ⟨heap_alloc_new w6 _⟩)
      have HH7 := Lib.hid (HH6.out.alloc (.cells (ndArr c (fun _ => none) g) 84))
      have HPL := Lib.hid (show P < w6.heap.size from Nat.lt_of_lt_of_le (Array.getElem?_eq_some_iff.1 HA5.out).1 HK6.out.size)
      have HPs := Lib.hid (show P ≠ s from by have := HH.out.slt; have := HP4.out; omega)
      have HA7 := Lib.hid ((Below.heap_alloc w6 (.cells (ndArr c (fun _ => none) g) 84) P HPL.out).trans ((HK6.out.block P (Array.getElem?_eq_some_iff.1 HA5.out).1 HPs.out).trans HA5.out))
      have HK7 := Lib.hid ((((KeepS.of_below (IsSk.Own s h L) HB.out).then_below HB4.out).then_below HB5.out).drew.trans ((HK6.out.mono (S' := IsSk.Own s h L) (fun i hi => .inl hi)).alloc (.cells (ndArr c (fun _ => none) g) 84)))
      have hE7 : w6.alloc (.cells #[.int .i32 c.table, .int .i64 c.row, .int .i64 c.value, .int .i64 c.slot, .pointer none, .pointer none, .pointer none, .pointer none, .pointer none, .pointer none, .pointer none, .pointer none, .int .i64 g] 84) = w6.alloc (.cells (ndArr c (fun _ => none) g) 84) := rfl
      rw [hE7]
      have HBX := Lib.hid (show ∀ i, IsSk.Own s h L i → i < w6.heap.size from fun i hi => HH6.out.own_lt hi)
      have HWB := Lib.hid (show w.heap.size ≤ w6.heap.size from Nat.le_of_lt HL6.out)
      obtain ⟨w7, hw7⟩ : ∃ w7, w6.alloc (.cells (ndArr c (fun _ => none) g) 84) = w7 := ⟨_, rfl⟩
      obtain ⟨bx, hbx⟩ : ∃ bx, w6.heap.size = bx := ⟨_, rfl⟩
      rw [hw7] at HN7 HH7 HA7 HK7 ⊢
      rw [hbx] at HN7 HPL HBX HWB ⊢
      clear hE7 hw7 hbx HX6 HL6 HH6 HK6 HA5 HX5 HL5 HH5 hHeld
      have n12 := HN7.out.c12
      go_wp2_with fail
      go_loopw [63] (fun i wr => PutL s h L y nx (rank L c.key) ⟨bx, c, g⟩ P w7 i wr) (fun i _ => g - (intOf i).toNat)
      case atStart =>
        exact ⟨0, rfl, Nat.zero_le _, InsI.zero HH7.out (e := ⟨bx, c, g⟩) (fun hx => absurd (HBX.out bx (.inr hx)) (Nat.lt_irrefl _)) HN7.out _, HA7.out, KeepS.refl _ _⟩
      case round =>
        obtain ⟨j, rfl, hj, hI, hA, hK⟩ := hrel
        have HI := Lib.hid hI; have HAj := Lib.hid hA; have HKj := Lib.hid hK
        clear hI hA hK n12
        by_cases hlt : j < g
        · have hm := rank_le L c.key
          have hp : pre L j (rank L c.key) ≤ L.length := Nat.le_trans (pre_le L j _) hm
          have hj8 : j < 8 := Nat.lt_of_lt_of_le hlt HG12.out.2
          have hpb : adr h L (pre L j (rank L c.key)) ≠ bx := fun e' => absurd (HBX.out bx (.inr (e' ▸ adr_mem h L hp))) (Nat.lt_irrefl _)
          have hPb : P ≠ bx := by have := HPL.out; omega
          have hat := (HI.out.nds _ hp).next hj8
          rw [insJ_at hpb] at hat
          have hzp := (HI.out.nds _ hp).z (4 + j)
          have a3 := HI.out.nd.next hj8
          have z3 := HI.out.nd.z (4 + j)
          have a1 : wr.cell? ⟨P, j, none⟩ = some (.pointer (some ⟨adr h L (pre L j (rank L c.key)), 0, none⟩)) := by
            have := ptrArr_get (fun l => some (adr h L (pre L l (rank L c.key)))) hj8
            simp [World.cell?, HAj.out, this, np]
          have HST := Lib.hid (show InsI ((wr.drew.setCell ⟨bx, 4 + j, none⟩ (np (nx (adr h L (pre L j (rank L c.key))) j))).setCell ⟨adr h L (pre L j (rank L c.key)), 4 + j, none⟩ (np (some bx))) s h L y nx (rank L c.key) ⟨bx, c, g⟩ (j + 1) from
            (HI.out.move (w' := wr.drew) (fun _ _ => rfl)).step HH7.out.apart HH7.out.sne hm (fun hx => absurd (HBX.out bx (.inr hx)) (Nat.lt_irrefl _)) (fun e' => absurd (HBX.out bx (.inl e')) (Nat.lt_irrefl _)) hlt HG12.out.2)
          have HOW := Lib.hid (IsSk.own_adr s h L hp)
          have HPO := Lib.hid (show P ≠ adr h L (pre L j (rank L c.key)) from fun e' => absurd (HH.out.own_lt (HPx HOW.out e'.symm)) (by have := HP4.out; omega))
          obtain ⟨pa, hpa⟩ : ∃ pa, adr h L (pre L j (rank L c.key)) = pa := ⟨_, rfl⟩
          rw [hpa] at hpb hat hzp a1 HST HOW HPO
          obtain ⟨nv, hnv⟩ : ∃ nv, np (nx pa j) = .pointer nv := np_ptr _
          rw [hnv] at hat HST
          obtain ⟨ov, hov⟩ : ∃ ov, np (insJ nx h L (rank L c.key) ⟨bx, c, g⟩ j bx j) = ov := ⟨_, rfl⟩
          have a3' : wr.cell? ⟨bx, 4 + j, none⟩ = some ov := by rw [← hov]; exact a3
          have z3' : wr.frozen? ⟨bx, 4 + j, none⟩ = false := z3
          have g0 : (0 : Int) ≤ (j : Int) := by omega
          have g8 : (j : Int) < 8 := by omega
          have gl : (j : Int) < (g : Int) := by omega
          clear hm hp hnv hov hpa a3 z3
          go_wp2_with fail
          go_cut [] (fun wx => wx = wr.drew.setCell ⟨bx, 4 + j, none⟩ (.pointer nv))
          case first =>
            refine wp_region_still_tail 13 (by kernel_rfl) (by kernel_rfl) ?_
            simp only [List.take_succ_cons, List.take_zero, List.drop_succ_cons, List.drop_zero]
            iterate 13 still_step
            refine wpStill_nil ?_
            change wpList _ _ _ _ _ wr.drew
            go_wp2_with fail
            go_meet
            rfl
          case rest =>
            have HWC := Lib.hid hcut
            have b1 : wc.cell? ⟨P, j, none⟩ = some (.pointer (some ⟨pa, 0, none⟩)) := by rw [hcut, World.cell?_setCell_other _ _ _ _ (by simp [hPb])]; exact a1
            have b2 : wc.cell? ⟨pa, 4 + j, none⟩ = some (.pointer nv) := by rw [hcut, World.cell?_setCell_other _ _ _ _ (by simp [hpb])]; exact hat
            have zb : wc.frozen? ⟨pa, 4 + j, none⟩ = false := by rw [hcut, World.frozen?_setCell]; exact hzp
            clear hcut a1 hat hzp a3' z3'
            go_wp2_with fail
            go_roundw
            case rel =>
              refine ⟨j + 1, by go_num, hlt, ?_, ?_, ?_⟩
              · rw [HWC.out]; exact HST.out
              · rw [HWC.out]
                exact (Below.heap_setCell _ _ _ P (by exact HPO.out)).trans ((Below.heap_setCell _ _ _ P (by exact hPb)).trans HAj.out)
              · rw [HWC.out]
                exact (HKj.out.drew.set (p := ⟨bx, 4 + j, none⟩) (.inl (.inr rfl)) _).set (p := ⟨pa, 4 + j, none⟩) (.inl (.inl HOW.out)) _
            case measure => simp [intOf]; omega
        · have hjg : j = g := by simp only at hj; omega
          subst hjg
          have hlt' : decide ((j : Int) < (j : Int)) = false := decide_eq_false (by omega)
          have s1 : wr.cell? ⟨s, 1, none⟩ = some (.int .i64 L.length) := by simp [World.cell?, HI.out.sh]
          have zs : wr.frozen? ⟨s, 1, none⟩ = false := by simp [World.frozen?, HI.out.sh]
          clear hlt hj
          go_wp2_with fail
          go_ret
          have hm := rank_le L c.key
          have hbx : bx ∉ h :: L.map (·.b) := fun hx => absurd (HBX.out bx (.inr hx)) (Nat.lt_irrefl _)
          have hbs : bx ≠ s := fun e' => absurd (HBX.out bx (.inl e')) (Nat.lt_irrefl _)
          have hsl : (decide (0 ≤ c.slot) && decide (c.slot ≤ 1099511627776)) = true := by rw [Bool.and_eq_true]; have := HS1.out; have := HS2.out; constructor <;> (apply decide_eq_true; omega)
          have hd := InsI.done (e := ⟨bx, c, j⟩) HI.out HH7.out.links HH7.out.apart HH7.out.store HH7.out.sne rfl hm hbx hbs HG12.out.1 HG12.out.2 HG.out
          refine ⟨0, ins L (rank L c.key) ⟨bx, c, j⟩, y, insJ nx h L (rank L c.key) ⟨bx, c, j⟩ j, rfl, ?_, ?_, ?_, .inl ⟨hsl, rfl, fun q => ins_getL (e := ⟨bx, c, j⟩) HH7.out.store.sorted HG.out q, by rw [ins_length hm, HG.out]; rfl⟩⟩
          · exact hd
          · refine KeepS.set ?_ (p := ⟨s, 1, none⟩) (.inl (.inl rfl)) _
            refine ⟨HKj.out.os.trans HK7.out.os, HKj.out.tape.trans HK7.out.tape, HKj.out.output.trans HK7.out.output, Nat.le_trans HK7.out.size HKj.out.size, fun i hi hn => ?_⟩
            exact (HKj.out.block i (Nat.lt_of_lt_of_le hi HK7.out.size) (by rintro (e' | e'); exact hn e'; have := HWB.out; have e2 : i = bx := e'; omega)).trans (HK7.out.block i hi hn)
          · intro i hi
            rcases hi with hi | hi
            · exact .inl (.inl hi)
            · rcases List.mem_cons.1 hi with hi | hi
              · exact .inl (.inr (hi ▸ List.mem_cons_self))
              · obtain ⟨e', h1, h2⟩ := List.mem_map.1 hi
                rcases ins_mem.1 h1 with rfl | h3
                · exact .inr (by rw [← h2]; exact HWB.out)
                · exact .inl (.inr (List.mem_cons_of_mem _ (List.mem_map.2 ⟨e', h3, h2⟩)))
    · have HE := Lib.hid he
      have HK := Lib.hid hk
      have HH5 := Lib.hid (HH4.out.below HB5.out)
      have HX5 := (HB5.out.block w.heap.size (by have := HB4.out.size; rw [HSZ.out] at this; omega)).trans HX4.out
      have c0 : w5.cell? ⟨w.heap.size, 0, none⟩ = some (.int .i32 c.table) := by simp [World.cell?, HX5]
      have c1 : w5.cell? ⟨w.heap.size, 1, none⟩ = some (.int .i64 c.row) := by simp [World.cell?, HX5]
      have c2 : w5.cell? ⟨w.heap.size, 2, none⟩ = some (.int .i64 c.value) := by simp [World.cell?, HX5]
      have c3 : w5.cell? ⟨w.heap.size, 3, none⟩ = some (.int .i64 c.slot) := by simp [World.cell?, HX5]
      have hn := HH5.out.nd he
      have m0 := hn.c0; have m1 := hn.c1; have m2 := hn.c2; have m3 := hn.c3
      have z0 := hn.z 0; have z1 := hn.z 1; have z2 := hn.z 2; have z3 := hn.z 3
      clear he hk HX5 hn
      go_wp2_with fail
      go_ret
      have hm := (List.getElem?_eq_some_iff.1 HE.out).1
      have hown : IsSk.Own s h L e.b := .inr (List.mem_cons_of_mem _ (List.mem_map.2 ⟨e, List.mem_of_getElem? HE.out, rfl⟩))
      have hsl : (decide (0 ≤ c.slot) && decide (c.slot ≤ 1099511627776)) = true := by rw [Bool.and_eq_true]; have := HS1.out; have := HS2.out; constructor <;> (apply decide_eq_true; omega)
      have hget : getL L c.key = some e.c := by unfold getL; rw [HE.out]; simp only; rw [if_pos HK.out]
      refine ⟨0, setC L (rank L c.key) c, x, nx, rfl, HH5.out.set4 HE.out HK.out.symm, ?_, ?_, .inl ⟨hsl, rfl, fun q => setC_getL HH5.out.store.sorted HE.out HK.out.symm q, by rw [setC_length, hget]; rfl⟩⟩
      · exact (((KeepS.of_below _ HB.out).then_below HB4.out).then_below HB5.out).trans ((keep_set4 w5 e.b c).mono (fun i hi => by rw [hi]; exact hown))
      · intro i hi
        unfold IsSk.Own at hi ⊢
        rw [setC_map HE.out] at hi
        exact .inl hi
end Go.Proofs.Ytdolmkiiflhehaa.M
end

section
/- Erase. -/
set_option linter.unusedVariables false
set_option linter.unusedSimpArgs false
set_option maxRecDepth 100000
attribute [local irreducible] Go.wpStill
namespace Go.Proofs.Ytdolmkiiflhehaa.M
open Go.RowKit Go.Proofs.YtdolmkiiflhehaaW.PrintWords Go.Proofs.YtdolmkiiflhehaaW.PrintMore Go.Proofs.YtdolmkiiflhehaaW.PrintLast
def EraT (L : List Nd) (k : Int × Int) (a b : Value) : Prop := ∃ d : Bool, b = .bool d ∧ ((d = true ∧ getL L k = none) ∨ (d = false ∧ ∃ e, L[rank L k]? = some e ∧ e.c.key = k ∧ a = .pointer (some ⟨e.b, 0, none⟩)))
def EraL (s h : Nat) (L : List Nd) (x : Int) (nx : Nat → Nat → Option Nat) (m P : Nat) (w7 : World) (i : Value) (wr : World) : Prop :=
  ∃ j : Nat, i = .int .i64 j ∧ j ≤ hiAt L m ∧ DelI wr s h L x nx m j ∧ wr.heap[P]? = some (.cells (ptrArr fun l => some (adr h L (pre L l m))) 82) ∧ KeepS (IsSk.Own s h L) w7 wr
end Go.Proofs.Ytdolmkiiflhehaa.M
end

section
/- begun. -/
set_option linter.unusedVariables false
set_option linter.unusedSimpArgs false
set_option maxRecDepth 100000
namespace Go.Proofs.Ytdolmkiiflhehaa.M
open Go.RowKit Go.Proofs.YtdolmkiiflhehaaW.PrintWords
theorem begun_pure {L : List Nd} (hs : Sorted L) (hl : L.length = 2) (h1 : getL L (0, 1) = some ⟨0, 1, 6, 2⟩) (h2 : getL L (0, 2) = some ⟨0, 2, 5, 1⟩) : inR (cellsL (L.drop (rank L (0, 0)))) (1, 0) = [t4 ⟨0, 1, 6, 2⟩, t4 ⟨0, 2, 5, 1⟩] := by
  obtain ⟨e, he, e1, _⟩ := (getL_iff hs _ _).1 h1
  obtain ⟨f, hf, f1, _⟩ := (getL_iff hs _ _).1 h2
  match L, hl with
  | [a, b], _ =>
    have hab : kLt a.c.key b.c.key = true := (List.pairwise_cons.1 hs).1 b (by simp)
    have hne : e.c ≠ f.c := by rw [e1, f1]; decide
    simp only [List.mem_cons, List.not_mem_nil, or_false] at he hf
    rcases he with rfl | rfl <;> rcases hf with rfl | rfl
    · exact absurd rfl hne
    · have hr : rank [e, f] (0, 0) = 0 := by
        unfold rank
        rw [List.takeWhile_cons, e1]
        rfl
      rw [hr]
      simp only [cellsL, List.drop_zero, List.map_cons, List.map_nil, e1, f1]
      rfl
    · rw [e1, f1] at hab
      exact absurd hab (by decide)
    · exact absurd rfl hne
theorem put_ok {L L' : List Nd} {c : CellD} {E : Int} (h : PutR L c E L') (hc : (decide (0 ≤ c.slot) && decide (c.slot ≤ 1099511627776)) = true) : E = 0 ∧ (∀ k, getL L' k = if k = c.key then some c else getL L k) ∧ L'.length = L.length + (if (getL L c.key).isSome then 0 else 1) := by
  rcases h with ⟨_, h2, h3, h4⟩ | ⟨h1, _⟩
  · exact ⟨h2, h3, h4⟩
  · rw [hc] at h1; cases h1
set_option maxHeartbeats 1000000 in
theorem begun_is (w : World) : Calls Try.prog 10 #[] w fun e w' => e = .returned (.bool true) ∧ Below w.heap.size w w' := by
  go_enter Try.func10, Try.ntmps10
  go_wp2_with fail
  refine (new_is 7 w).mono ?_
  rintro e w1 ⟨rfl, h1, b1⟩
  have H1 := Lib.hid h1; have HB1 := Lib.hid b1
  clear h1 b1
  go_wp2_with fail
  refine (put_is H1.out (by simp) ⟨0, 2, 5, 1⟩).mono ?_
  rintro e w2 ⟨E, L1, x1, nx1, rfl, h2, k2, o2, p2⟩
  obtain ⟨rfl, g2, l2⟩ := put_ok p2 (by decide)
  have hl1 : L1.length = 1 := by rw [l2]; rfl
  have hg1 : getL L1 (0, 2) = some ⟨0, 2, 5, 1⟩ := by rw [g2]; rfl
  have hg1' : getL L1 (0, 1) = none := by rw [g2]; rfl
  have ho1 : ∀ i, IsSk.Own (w.heap.size + 1) w.heap.size L1 i → w.heap.size ≤ i := fun i hi => by
    rcases o2 i hi with h | h
    · rcases h with rfl | h
      · omega
      · simp at h; omega
    · have := HB1.out.size; omega
  have hb2 : Below w.heap.size w w2 := HB1.out.trans (k2.below HB1.out.size (fun i hi => by
    rcases hi with rfl | h
    · omega
    · simp at h; omega))
  have H2 := Lib.hid h2; have HB2 := Lib.hid hb2; have HL1 := Lib.hid hl1; have HG1 := Lib.hid hg1; have HO1 := Lib.hid ho1; have HG1' := Lib.hid hg1'
  clear h2 k2 o2 p2 g2 l2 hl1 hg1 hg1' ho1 hb2
  go_wp2_with fail
  refine (put_is H2.out (by have := HL1.out; omega) ⟨0, 1, 6, 2⟩).mono ?_
  rintro e w3 ⟨E, L2, x2, nx2, rfl, h3, k3, o3, p3⟩
  obtain ⟨rfl, g3, l3⟩ := put_ok p3 (by decide)
  have hl2 : L2.length = 2 := by
    rw [l3, HL1.out]
    have : getL L1 (CellD.key ⟨0, 1, 6, 2⟩) = none := HG1'.out
    rw [this]; rfl
  have hgb : getL L2 (0, 1) = some ⟨0, 1, 6, 2⟩ := by rw [g3]; rfl
  have hga : getL L2 (0, 2) = some ⟨0, 2, 5, 1⟩ := by rw [g3, if_neg (by decide)]; exact HG1.out
  have hb3 : Below w.heap.size w w3 := HB2.out.trans (k3.below HB2.out.size HO1.out)
  have H3 := Lib.hid h3; have HB3 := Lib.hid hb3; have HL2 := Lib.hid hl2; have HGA := Lib.hid hga; have HP := Lib.hid (begun_pure h3.store.sorted hl2 hgb hga)
  clear h3 k3 o3 p3 g3 l3 hl2 hga hgb hb3 HO1 HG1 HG1' HL1 H2 HB2 HB1 H1
  go_wp2_with fail
  refine (get_is H3.out (by have := HL2.out; omega) (0, 2)).mono ?_
  rintro e w4 ⟨rfl, hb⟩
  have HB4 := Lib.hid (HB3.out.trans (hb.mono HB3.out.size))
  have H4 := Lib.hid (H3.out.below hb)
  rw [HGA.out]
  clear hb H3 HB3
  simp only [getV, celV]
  go_wp2_with fail
  have HBX := Lib.hid (heap_alloc_new w4 (.cells #[.int .i32 0, .int .i64 2, .int .i64 5, .int .i64 1] 31))
  have H5 := Lib.hid (H4.out.alloc (.cells #[.int .i32 0, .int .i64 2, .int .i64 5, .int .i64 1] 31))
  have HB5 := Lib.hid (HB4.out.alloc HB4.out.size (.cells #[.int .i32 0, .int .i64 2, .int .i64 5, .int .i64 1] 31))
  obtain ⟨w5, hw5⟩ : ∃ w5, w4.alloc (.cells #[.int .i32 0, .int .i64 2, .int .i64 5, .int .i64 1] 31) = w5 := ⟨_, rfl⟩
  obtain ⟨bc, hbc⟩ : ∃ bc, w4.heap.size = bc := ⟨_, rfl⟩
  rw [hw5] at HBX H5 HB5 ⊢
  rw [hbc] at HBX ⊢
  clear hw5 hbc H4 HB4
  refine (range_is H5.out (by have := HL2.out; omega) (0, 0) (1, 0)).mono ?_
  rintro e w6 ⟨A, cc, rfl, hF, hb⟩
  rw [HP.out] at hF ⊢
  have HB6 := Lib.hid (HB5.out.trans (hb.mono HB5.out.size))
  have H6 := Lib.hid (H5.out.below hb)
  have x0 := (hb.block bc (Array.getElem?_eq_some_iff.1 HBX.out).1).trans HBX.out
  have cv : w6.cell? ⟨bc, 1 + 1, none⟩ = some (.int .i64 5) := by simp [World.cell?, x0]
  have cv' : w6.cell? ⟨bc, 2, none⟩ = some (.int .i64 5) := by simp [World.cell?, x0]
  obtain ⟨ad, rfl, q0, q1, q2, q3⟩ := cell_get (Kd.F_now hF) (k := 0) (x := t4 ⟨0, 1, 6, 2⟩) rfl
  simp only [List.length_cons, List.length_nil, t4] at q2 ⊢
  have HL := Lib.hid (len_is H6.out)
  rw [HL2.out] at HL
  have q2' : w6.cell? ⟨ad.block, ad.off + 2, none⟩ = some (.int .i64 6) := by simpa [Addr.add] using q2
  clear hF hb x0 q0 q1 q3
  go_wp2_with fail
  refine HL.out.mono ?_
  rintro e w' ⟨rfl, rfl⟩
  go_wp2_with fail
  go_ret
  exact ⟨rfl, HB6.out⟩
end Go.Proofs.Ytdolmkiiflhehaa.M
end

section
/- Less. -/
set_option linter.unusedVariables false
set_option linter.unusedSimpArgs false
set_option maxRecDepth 100000
namespace Go.Proofs.Ytdolmkiiflhehaa.M
open Go.RowKit Go.Proofs.YtdolmkiiflhehaaW.PrintWords
theorem less_is (a b : Int × Int) (w : World) : Calls Try.prog 39 #[.agg #[.int .i32 a.1, .int .i64 a.2], .agg #[.int .i32 b.1, .int .i64 b.2]] w fun e w' => e = .returned (.bool (kLt a b)) ∧ Below w.heap.size w w' := by
  obtain ⟨r, hr⟩ : ∃ r, kLt a b = r := ⟨_, rfl⟩
  have HR := Lib.hid hr
  rw [hr]
  clear hr
  have HB := Lib.hid (show Below w.heap.size w ((w.alloc (.cells #[.int .i32 a.1, .int .i64 a.2] 29)).alloc (.cells #[.int .i32 b.1, .int .i64 b.2] 29)) from ((Below.refl _ _).alloc (Nat.le_refl _) _).alloc (by simp) _)
  have c0 := cellUp (w.alloc (.cells #[.int .i32 a.1, .int .i64 a.2] 29)) (.cells #[.int .i32 b.1, .int .i64 b.2] 29) (Joins.cell_alloc_mark_at w #[.int .i32 a.1, .int .i64 a.2] 29 (0, 0) w.heap.size 0 rfl)
  have c1 := cellUp (w.alloc (.cells #[.int .i32 a.1, .int .i64 a.2] 29)) (.cells #[.int .i32 b.1, .int .i64 b.2] 29) (Joins.cell_alloc_mark_at w #[.int .i32 a.1, .int .i64 a.2] 29 (0, 0) w.heap.size 1 rfl)
  have d0 := Joins.cell_alloc_mark_at (w.alloc (.cells #[.int .i32 a.1, .int .i64 a.2] 29)) #[.int .i32 b.1, .int .i64 b.2] 29 (0, 0) (w.heap.size + 1) 0 (by simp)
  have d1 := Joins.cell_alloc_mark_at (w.alloc (.cells #[.int .i32 a.1, .int .i64 a.2] 29)) #[.int .i32 b.1, .int .i64 b.2] 29 (0, 0) (w.heap.size + 1) 1 (by simp)
  by_cases h1 : a.1 < b.1
  · have g1 : decide (a.1 < b.1) = true := decide_eq_true h1
    have HV := Lib.hid (show r = true by rw [← HR.out]; unfold kLt; rw [g1]; rfl)
    rw [HV.out]
    clear h1
    go_enter Try.func39, Try.ntmps39
    go_wp2_with fail
    go_ret
    exact ⟨rfl, HB.out⟩
  · have g1 : decide (a.1 < b.1) = false := decide_eq_false h1
    by_cases h2 : a.1 = b.1
    · have g2 : (a.1 == b.1) = true := by simp [h2]
      have g2' : decide (a.1 = b.1) = true := decide_eq_true h2
      have HV := Lib.hid (show r = decide (a.2 < b.2) by rw [← HR.out]; unfold kLt; rw [g1, g2']; simp)
      rw [HV.out]
      clear h1 h2
      go_enter Try.func39, Try.ntmps39
      go_wp2_with fail
      go_ret
      exact ⟨rfl, HB.out⟩
    · have g2 : (a.1 == b.1) = false := beq_eq_false_iff_ne.2 h2
      have g2' : decide (a.1 = b.1) = false := decide_eq_false h2
      have HV := Lib.hid (show r = false by rw [← HR.out]; unfold kLt; rw [g1, g2']; simp)
      rw [HV.out]
      clear h1 h2
      go_enter Try.func39, Try.ntmps39
      go_wp2_with fail
      go_ret
      exact ⟨rfl, HB.out⟩
end Go.Proofs.Ytdolmkiiflhehaa.M
end

section
/- The reference's find. -/
set_option linter.unusedVariables false
set_option linter.unusedSimpArgs false
set_option maxRecDepth 100000
attribute [local irreducible] Go.wpStill
namespace Go.Proofs.Ytdolmkiiflhehaa.M
open Go.RowKit Go.Proofs.YtdolmkiiflhehaaW.PrintWords Go.Proofs.YtdolmkiiflhehaaW.PrintLast
set_option maxHeartbeats 2000000 in
theorem rfind_is {w : World} {q : Nat} {S : Nat → Prop} {L : List Nd} {x : Int} (H : IsRk w q S L x) (hL : L.length ≤ 1048576) (k : Int × Int) :
    Calls Try.prog 74 #[.pointer (some ⟨q, 0, none⟩), keyV k] w fun e w' => e = .returned (.tuple #[.int .i64 (rank L k), .bool (getL L k).isSome]) ∧ Below w.heap.size w w' := by
  have HB := Lib.hid (show Below w.heap.size w (w.alloc (.cells #[.int .i32 k.1, .int .i64 k.2] 29)) from (Below.refl _ _).alloc (Nat.le_refl _) _)
  have HA := Lib.hid (H.below HB.out)
  have HX := Lib.hid (heap_alloc_new w (.cells #[.int .i32 k.1, .int .i64 k.2] 29))
  have HS := Lib.hid H.store
  obtain ⟨w1, hw1⟩ : ∃ W, w.alloc (.cells #[.int .i32 k.1, .int .i64 k.2] 29) = W := ⟨_, rfl⟩
  rw [hw1] at HB HA HX
  obtain ⟨n, hn⟩ : ∃ n, L.length = n := ⟨_, rfl⟩
  have HN := Lib.hid hn; have HW := Lib.hid hw1
  obtain ⟨m, hm⟩ : ∃ m, rank L k = m := ⟨_, rfl⟩
  have HM := Lib.hid hm
  obtain ⟨gb, hgb⟩ : ∃ g, (getL L k).isSome = g := ⟨_, rfl⟩
  have HG := Lib.hid hgb
  rw [hm, hgb]
  have hmn : m ≤ n := by rw [← hm, ← hn]; exact rank_le L k
  rw [hn] at hL
  clear H hn hw1 hm hgb
  unfold keyV
  go_enter Try.func74, Try.ntmps74
  go_wp2_with fail
  rw [HW.out]
  go_loopw [6] (fun i W => ∃ j : Nat, i = .int .i64 (j : Int) ∧ j ≤ m ∧ Below w1.heap.size w1 W) (fun i _ => n - (intOf i).toNat)
  case atStart => exact ⟨0, rfl, Nat.zero_le _, Below.refl _ _⟩
  case round =>
    obtain ⟨j, rfl, hj, hB⟩ := hrel
    have HBr := Lib.hid hB
    have HJ := Lib.hid hj
    have HR := Lib.hid (HA.out.below hB)
    have HXr := Lib.hid ((hB.block w.heap.size (blk_lt HX.out)).trans HX.out)
    clear hB
    have k0 : wr.cell? ⟨w.heap.size, 0, none⟩ = some (.int .i32 k.1) := (blk_cell HXr.out 0).trans rfl
    have k1 : wr.cell? ⟨w.heap.size, 1, none⟩ = some (.int .i64 k.2) := (blk_cell HXr.out 1).trans rfl
    obtain ⟨A, a, B, b, ⟨c0, _, _⟩, la, lb, hC, _⟩ := HR.out.cells
    rw [HN.out] at c0 la hC
    by_cases hlt : j < n
    · obtain ⟨e, he⟩ : ∃ e, L[j]? = some e := ⟨_, List.getElem?_eq_getElem (by rw [HN.out]; exact hlt)⟩
      obtain ⟨ad, rfl, d0, d1, d2, d3⟩ := cell_get hC (cellsL_get he)
      have q1 : decide ((j : Int) < (n : Int)) = true := decide_eq_true (by omega)
      have i0 : (0 : Int) ≤ (j : Int) := by omega
      have i1 : (j : Int) < (n : Int) := by omega
      have HLT := Lib.hid hlt; have HE := Lib.hid he
      have HLE := Lib.hid ((rank_lt HS.out.sorted he (k := k)).trans (by rw [HM.out]))
      change wr.cell? _ = some (.int .i32 e.c.table) at d0
      change wr.cell? _ = some (.int .i64 e.c.row) at d1
      clear hC he d2 d3 hj
      by_cases hjm : j < m
      · have HV := Lib.hid (HLE.out.trans (decide_eq_true hjm))
        have HJM := Lib.hid hjm
        clear hlt hjm
        go_wp2_with fail
        go_region_held3 (fun w' => w'.cell? ⟨q, 0, none⟩ = some (.slice (some ad) n a) ∧ w'.cell? ⟨w.heap.size, 0, none⟩ = some (.int .i32 k.1) ∧ w'.cell? ⟨w.heap.size, 1, none⟩ = some (.int .i64 k.2) ∧ w'.cell? (ad.add (j * 4)) = some (.int .i32 e.c.table) ∧ w'.cell? ⟨(ad.add (j * 4)).block, (ad.add (j * 4)).off + 1, none⟩ = some (.int .i64 e.c.row)) (go_keep) ((go_at_call 39; refine (less_is e.c.key k _).mono ?_; rintro e' w2 ⟨rfl, hb⟩; rw [HV.out]; have HB2 := Lib.hid hb; have p0 := (hb.cell (World.block_lt_of_cell? _ _ c0)).trans c0; have p1 := (hb.cell (World.block_lt_of_cell? _ _ k0)).trans k0; have p2 := (hb.cell (World.block_lt_of_cell? _ _ k1)).trans k1; have p3 := (hb.cell (World.block_lt_of_cell? _ _ d0)).trans d0; have p4 := (hb.cell (World.block_lt_of_cell? _ _ d1)).trans d1; clear hb))
        go_wp2_with fail
        go_roundw
        case rel => exact ⟨j + 1, by go_num, HJM.out, HBr.out.trans ((Below.drew (Below.refl _ _)).trans (HB2.out.mono (Nat.le_refl _)) |>.mono HBr.out.size)⟩
        case measure => simp [intOf]; have := HLT.out; omega
      · have HV := Lib.hid (HLE.out.trans (decide_eq_false hjm))
        have HJM := Lib.hid (show j = m by have := HJ.out; omega)
        have HGE := Lib.hid (show gb = decide (e.c.key = k) by
          rw [← HG.out]; unfold getL; rw [HM.out, ← HJM.out, HE.out]; simp only; split <;> simp_all)
        clear hlt hjm
        go_wp2_with fail
        go_region_held3 (fun w' => w'.cell? ⟨q, 0, none⟩ = some (.slice (some ad) n a) ∧ w'.cell? ⟨w.heap.size, 0, none⟩ = some (.int .i32 k.1) ∧ w'.cell? ⟨w.heap.size, 1, none⟩ = some (.int .i64 k.2) ∧ w'.cell? (ad.add (j * 4)) = some (.int .i32 e.c.table) ∧ w'.cell? ⟨(ad.add (j * 4)).block, (ad.add (j * 4)).off + 1, none⟩ = some (.int .i64 e.c.row)) (go_keep) ((go_at_call 39; refine (less_is e.c.key k _).mono ?_; rintro e' w2 ⟨rfl, hb⟩; rw [HV.out]; have HB2 := Lib.hid hb; have p0 := (hb.cell (World.block_lt_of_cell? _ _ c0)).trans c0; have p1 := (hb.cell (World.block_lt_of_cell? _ _ k0)).trans k0; have p2 := (hb.cell (World.block_lt_of_cell? _ _ k1)).trans k1; have p3 := (hb.cell (World.block_lt_of_cell? _ _ d0)).trans d0; have p4 := (hb.cell (World.block_lt_of_cell? _ _ d1)).trans d1; clear hb))
        go_wp2_with fail
        have hw2 : w2.drew.cell? ⟨q, 0, none⟩ = some (.slice (some ad) n a) := p0
        by_cases hk : e.c.key = k
        · have hq : ∀ W : World, (Op.equalIn 10000 29 (.agg #[.int .i32 e.c.table, .int .i64 e.c.row]) (.agg #[.int .i32 k.1, .int .i64 k.2])).run Try.prog W = .ok true W := fun W => by
            have := eqk_self e.c.key W
            have h2 : keyV e.c.key = .agg #[.int .i32 e.c.table, .int .i64 e.c.row] := rfl
            have h3 : keyV k = .agg #[.int .i32 k.1, .int .i64 k.2] := rfl
            rw [← h2, ← h3, ← hk]
            exact this
          have HGT := Lib.hid (show gb = true by rw [HGE.out]; exact decide_eq_true hk)
          clear hk
          go_region_held3 (fun w' => w'.cell? ⟨q, 0, none⟩ = some (.slice (some ad) n a) ∧ w'.cell? ⟨w.heap.size, 0, none⟩ = some (.int .i32 k.1) ∧ w'.cell? ⟨w.heap.size, 1, none⟩ = some (.int .i64 k.2) ∧ w'.cell? (ad.add (j * 4)) = some (.int .i32 e.c.table) ∧ w'.cell? ⟨(ad.add (j * 4)).block, (ad.add (j * 4)).off + 1, none⟩ = some (.int .i64 e.c.row)) (go_keep) (fail)
          go_wp2_with fail
          go_ret2
          exact ⟨by rw [HJM.out, HGT.out]; rfl, HB.out.trans (((HBr.out.trans ((Below.drew (Below.refl _ _)).trans (HB2.out.mono (Nat.le_refl _)) |>.mono HBr.out.size)).mono HB.out.size)).drew⟩
        · have hq : ∀ W : World, (Op.equalIn 10000 29 (.agg #[.int .i32 e.c.table, .int .i64 e.c.row]) (.agg #[.int .i32 k.1, .int .i64 k.2])).run Try.prog W = .ok false W := fun W => eqk_ne hk W
          have HGT := Lib.hid (show gb = false by rw [HGE.out]; exact decide_eq_false hk)
          clear hk
          go_region_held3 (fun w' => w'.cell? ⟨q, 0, none⟩ = some (.slice (some ad) n a) ∧ w'.cell? ⟨w.heap.size, 0, none⟩ = some (.int .i32 k.1) ∧ w'.cell? ⟨w.heap.size, 1, none⟩ = some (.int .i64 k.2) ∧ w'.cell? (ad.add (j * 4)) = some (.int .i32 e.c.table) ∧ w'.cell? ⟨(ad.add (j * 4)).block, (ad.add (j * 4)).off + 1, none⟩ = some (.int .i64 e.c.row)) (go_keep) (fail)
          go_wp2_with fail
          go_ret2
          exact ⟨by rw [HJM.out, HGT.out]; rfl, HB.out.trans (((HBr.out.trans ((Below.drew (Below.refl _ _)).trans (HB2.out.mono (Nat.le_refl _)) |>.mono HBr.out.size)).mono HB.out.size)).drew⟩
    · have HJN := Lib.hid (show j = n by omega)
      have HJM := Lib.hid (show j = m by have := HJ.out; omega)
      have q1 : decide ((j : Int) < (n : Int)) = false := decide_eq_false (by omega)
      have HGT := Lib.hid (show gb = false by
          rw [← HG.out]; unfold getL; rw [HM.out, List.getElem?_eq_none (by rw [HN.out]; omega)]; rfl)
      clear hC hj
      go_wp2_with fail
      refine wp_region_still_tail 18 (by kernel_rfl) (by kernel_rfl) ?_
      simp only [List.take_succ_cons, List.take_zero, List.drop_succ_cons, List.drop_zero]
      iterate 18 still_step
      refine wpStill_nil ?_
      change wpList _ _ _ _ _ wr.drew
      go_wp2_with fail
      have c0' : wr.drew.cell? ⟨q, 0, none⟩ = some (.slice A n a) := c0
      have HBd := Lib.hid (HBr.out.drew)
      obtain ⟨w2, hw2⟩ : ∃ W, wr.drew = W := ⟨_, rfl⟩
      rw [hw2] at c0' HBd ⊢
      clear hw2
      refine wp_region_still_tail 21 (by kernel_rfl) (by kernel_rfl) ?_
      simp only [List.take_succ_cons, List.take_zero, List.drop_succ_cons, List.drop_zero]
      iterate 21 still_step
      refine wpStill_nil ?_
      change wpList _ _ _ _ _ w2.drew
      go_wp2_with fail
      go_ret2
      exact ⟨by rw [HJM.out, HGT.out]; rfl, HB.out.trans ((HBd.out.mono HB.out.size)).drew⟩
end Go.Proofs.Ytdolmkiiflhehaa.M
end

section
/- The reference's Get and From. -/
set_option linter.unusedVariables false
set_option linter.unusedSimpArgs false
set_option maxRecDepth 100000
attribute [local irreducible] Go.wpStill
namespace Go.Proofs.Ytdolmkiiflhehaa.M
open Go.RowKit Go.Proofs.YtdolmkiiflhehaaW.PrintWords Go.Proofs.YtdolmkiiflhehaaW.PrintLast
theorem getL_at {L : List Nd} {k : Int × Int} {c : CellD} (h : getL L k = some c) : ∃ e, L[rank L k]? = some e ∧ e.c = c ∧ rank L k < L.length := by
  unfold getL at h
  cases he : L[rank L k]? with
  | none => rw [he] at h; cases h
  | some e =>
    rw [he] at h
    simp only at h
    split at h
    · injection h with h; exact ⟨e, rfl, h, (List.getElem?_eq_some_iff.1 he).1⟩
    · cases h
set_option maxHeartbeats 1000000 in
theorem rget_is {w : World} {q : Nat} {S : Nat → Prop} {L : List Nd} {x : Int} (H : IsRk w q S L x) (hL : L.length ≤ 1048576) (k : Int × Int) :
    Calls Try.prog 59 #[.pointer (some ⟨q, 0, none⟩), keyV k] w fun e w' => e = .returned (getV (getL L k)) ∧ Below w.heap.size w w' := by
  have HB := Lib.hid (show Below w.heap.size w ((w.alloc (.cells #[.int .i32 k.1, .int .i64 k.2] 29)).alloc (.cells #[.int .i32 0, .int .i64 0, .int .i64 0, .int .i64 0] 31)) from ((Below.refl _ _).alloc (Nat.le_refl _) _).alloc (by simp) _)
  have HA := Lib.hid (H.below HB.out)
  have HX0 := Lib.hid ((Below.heap_alloc _ (.cells #[.int .i32 0, .int .i64 0, .int .i64 0, .int .i64 0] 31) w.heap.size (by simp)).trans (heap_alloc_new w (.cells #[.int .i32 k.1, .int .i64 k.2] 29)))
  have HX1 := Lib.hid (show ((w.alloc (.cells #[.int .i32 k.1, .int .i64 k.2] 29)).alloc (.cells #[.int .i32 0, .int .i64 0, .int .i64 0, .int .i64 0] 31)).heap[w.heap.size + 1]? = some (.cells #[.int .i32 0, .int .i64 0, .int .i64 0, .int .i64 0] 31) from by
    have := heap_alloc_new (w.alloc (.cells #[.int .i32 k.1, .int .i64 k.2] 29)) (.cells #[.int .i32 0, .int .i64 0, .int .i64 0, .int .i64 0] 31)
    rw [show (w.alloc (.cells #[.int .i32 k.1, .int .i64 k.2] 29)).heap.size = w.heap.size + 1 by simp] at this
    exact this)
  obtain ⟨gv, hgv⟩ : ∃ g, getL L k = g := ⟨_, rfl⟩
  have HG := Lib.hid hgv
  rw [hgv]
  clear H hgv
  unfold keyV
  go_enter Try.func59, Try.ntmps59
  go_wp2_with fail
  obtain ⟨w2, hw2⟩ : ∃ w2, (w.alloc (.cells #[.int .i32 k.1, .int .i64 k.2] 29)).alloc (.cells #[.int .i32 0, .int .i64 0, .int .i64 0, .int .i64 0] 31) = w2 := ⟨_, rfl⟩
  rw [hw2] at HB HA HX0 HX1 ⊢
  clear hw2
  have a0 : w2.cell? ⟨w.heap.size, 0, none⟩ = some (.int .i32 k.1) := (blk_cell HX0.out 0).trans rfl
  have a1 : w2.cell? ⟨w.heap.size, 1, none⟩ = some (.int .i64 k.2) := (blk_cell HX0.out 1).trans rfl
  go_wp2_with fail
  refine (rfind_is HA.out hL k).mono ?_
  rintro e w3 ⟨rfl, hb⟩
  rw [HG.out]
  have HB3 := Lib.hid (HB.out.trans (hb.mono HB.out.size))
  have HR := Lib.hid (HA.out.below hb)
  have HX := Lib.hid ((hb.block (w.heap.size + 1) (blk_lt HX1.out)).trans HX1.out)
  clear hb a0 a1
  have b0 : w3.cell? ⟨w.heap.size + 1, 0, none⟩ = some (.int .i32 0) := (blk_cell HX.out 0).trans rfl
  have b1 : w3.cell? ⟨w.heap.size + 1, 1, none⟩ = some (.int .i64 0) := (blk_cell HX.out 1).trans rfl
  have b2 : w3.cell? ⟨w.heap.size + 1, 2, none⟩ = some (.int .i64 0) := (blk_cell HX.out 2).trans rfl
  have b3 : w3.cell? ⟨w.heap.size + 1, 3, none⟩ = some (.int .i64 0) := (blk_cell HX.out 3).trans rfl
  have z0 : w3.frozen? ⟨w.heap.size + 1, 0, none⟩ = false := blk_frozen HX.out 0
  have z1 : w3.frozen? ⟨w.heap.size + 1, 1, none⟩ = false := blk_frozen HX.out 1
  have z2 : w3.frozen? ⟨w.heap.size + 1, 2, none⟩ = false := blk_frozen HX.out 2
  have z3 : w3.frozen? ⟨w.heap.size + 1, 3, none⟩ = false := blk_frozen HX.out 3
  cases gv with
  | none =>
    simp only [Option.isSome_none]
    go_wp2_with fail
    (try simp only [Exit.inBlock, Exit.then])
    refine bodyPost_ret (v := getV none) ?_ rfl ⟨rfl, ?_⟩
    · rw [results_cell_tmp rfl]
      go_simp
      rfl
    · exact (((HB3.out.setCell (by show _ ≤ w.heap.size + 1; omega) _).setCell (by show _ ≤ w.heap.size + 1; omega) _).setCell (by show _ ≤ w.heap.size + 1; omega) _).setCell (by show _ ≤ w.heap.size + 1; omega) _
  | some c =>
    obtain ⟨e, he, rfl, hlt⟩ := getL_at HG.out
    simp only [Option.isSome_some]
    obtain ⟨A, a, B, b, ⟨c0, _, _⟩, la, lb, hC, _⟩ := HR.out.cells
    obtain ⟨ad, rfl, d0, d1, d2, d3⟩ := cell_get hC (cellsL_get he)
    change w3.cell? _ = some (.int .i32 e.c.table) at d0
    change w3.cell? _ = some (.int .i64 e.c.row) at d1
    change w3.cell? _ = some (.int .i64 e.c.value) at d2
    change w3.cell? _ = some (.int .i64 e.c.slot) at d3
    obtain ⟨m, hm⟩ : ∃ m, rank L k = m := ⟨_, rfl⟩
    obtain ⟨n, hn⟩ : ∃ n, L.length = n := ⟨_, rfl⟩
    rw [hm] at hlt d0 d1 d2 d3
    rw [hn] at c0 hlt
    rw [hm]
    have i0 : (0 : Int) ≤ (m : Int) := by omega
    have i1 : (m : Int) < (n : Int) := by omega
    clear he hC hm hn la lb
    go_wp2_with fail
    (try simp only [Exit.inBlock, Exit.then])
    refine bodyPost_ret (v := getV (some e.c)) ?_ rfl ⟨rfl, ?_⟩
    · rw [results_cell_tmp rfl]
      go_simp
      rfl
    · exact (((HB3.out.setCell (by show _ ≤ w.heap.size + 1; omega) _).setCell (by show _ ≤ w.heap.size + 1; omega) _).setCell (by show _ ≤ w.heap.size + 1; omega) _).setCell (by show _ ≤ w.heap.size + 1; omega) _
end Go.Proofs.Ytdolmkiiflhehaa.M
end

section
/- The reference's Level. -/
set_option linter.unusedVariables false
set_option linter.unusedSimpArgs false
set_option maxRecDepth 100000
namespace Go.Proofs.Ytdolmkiiflhehaa.M
open Go.RowKit Go.Proofs.YtdolmkiiflhehaaW.PrintWords Go.Proofs.YtdolmkiiflhehaaW.PrintLast
end Go.Proofs.Ytdolmkiiflhehaa.M
end

section
/- The reference's Range. -/
set_option linter.unusedVariables false
set_option linter.unusedSimpArgs false
set_option maxRecDepth 100000
attribute [local irreducible] Go.wpStill
namespace Go.Proofs.Ytdolmkiiflhehaa.M
open Go.RowKit Go.Proofs.YtdolmkiiflhehaaW.PrintWords Go.Proofs.YtdolmkiiflhehaaW.PrintLast
end Go.Proofs.Ytdolmkiiflhehaa.M
end

section
/- The reference's object, its two rows apart. -/
set_option linter.unusedVariables false
set_option linter.unusedSimpArgs false
namespace Go.Proofs.Ytdolmkiiflhehaa.M
open Go.RowKit Go.Proofs.YtdolmkiiflhehaaW.PrintWords
structure IsRv (w : World) (q : Nat) (S : Nat → Prop) (vL : Value) (XL : List T4) (vH : Value) (XH : List Int) (x : Int) : Prop where
  y : w.heap[q]? = some (.cells #[vL, vH, .int .u64 x] 80 (0, 0))
  l : Kd.R cellK 31 w 0 S vL XL
  h : Kd.R (Kd.int .i64) 3 w 0 S vH XH
  s : S q
theorem IsRk.toV {w : World} {q : Nat} {S : Nat → Prop} {L : List Nd} {x : Int} (h : IsRk w q S L x) : ∃ A a B b, IsRv w q S (.slice A L.length a) (cellsL L) (.slice B L.length b) (hisL L) x := by
  obtain ⟨A, a, B, b, hy, h1, h2⟩ := h.y
  exact ⟨A, a, B, b, hy, h1, h2, h.s⟩
namespace IsRv
variable {w w' : World} {q : Nat} {S S' ok : Nat → Prop} {vL vH v : Value} {XL X : List T4} {XH Y : List Int} {x : Int}
theorem toK (h : IsRv w q S vL XL vH XH x) {L : List Nd} (h1 : XL = cellsL L) (h2 : XH = hisL L) (h3 : Store L) : IsRk w q S L x := by
  subst h1 h2
  obtain ⟨A, a, rfl⟩ := Kd.R_slice h.l
  obtain ⟨B, b, rfl⟩ := Kd.R_slice h.h
  have e1 := h.y; have e2 := h.l; have e3 := h.h
  rw [cellsL_len] at e1 e2
  rw [hisL_len] at e1 e3
  exact ⟨⟨A, a, B, b, e1, e2, e3⟩, h.s, h3⟩
theorem move (h : IsRv w q S vL XL vH XH x) (hb : ∀ k, S k → k < w.heap.size → w'.heap[k]? = w.heap[k]?) : IsRv w' q S vL XL vH XH x :=
  ⟨(hb q h.s (blk_lt h.y)).trans h.y, Kd.R_step h.l hb, Kd.R_step h.h hb, h.s⟩
theorem below (h : IsRv w q S vL XL vH XH x) (hb : Below w.heap.size w w') : IsRv w' q S vL XL vH XH x := h.move fun k _ hk => hb.block k hk
theorem drew (h : IsRv w q S vL XL vH XH x) : IsRv w.drew q S vL XL vH XH x := h.move fun _ _ _ => rfl
theorem mono (h : IsRv w q S vL XL vH XH x) (hs : ∀ i, S i → S' i) : IsRv w q S' vL XL vH XH x := ⟨h.y, Kd.R_mono h.l hs, Kd.R_mono h.h hs, hs _ h.s⟩
theorem lt (h : IsRv w q S vL XL vH XH x) : q < w.heap.size := blk_lt h.y
theorem bound (h : IsRv w q S vL XL vH XH x) : IsRv w q (fun i => S i ∧ i < w.heap.size) vL XL vH XH x := ⟨h.y, Kd.R_mono (Kd.R_bound h.l) (fun k hk => ⟨hk.1, hk.2.2.1⟩), Kd.R_mono (Kd.R_bound h.h) (fun k hk => ⟨hk.1, hk.2.2.1⟩), h.s, h.lt⟩
theorem setL (h : IsRv w q S vL XL vH XH x) {b : Nat} (hR : Kd.R cellK 31 w b ok v X) (hS : ∀ i, S i → S' i) (hok : ∀ i, ok i → S' i) : IsRv (w.setCell ⟨q, 0, none⟩ v) q S' v X vH XH x := by
  refine ⟨?_, Kd.R_lower (Kd.R_set (Kd.R_mono hR hok) h.y (by decide) 0 _) (Nat.zero_le _), Kd.R_set (Kd.R_mono h.h hS) h.y (by decide) 0 _, hS _ h.s⟩
  rw [heap_same (a := ⟨q, 0, none⟩) h.y rfl]; rfl
theorem setH (h : IsRv w q S vL XL vH XH x) {b : Nat} (hR : Kd.R (Kd.int .i64) 3 w b ok v Y) (hS : ∀ i, S i → S' i) (hok : ∀ i, ok i → S' i) : IsRv (w.setCell ⟨q, 1, none⟩ v) q S' vL XL v Y x := by
  refine ⟨?_, Kd.R_set (Kd.R_mono h.l hS) h.y (by decide) 1 _, Kd.R_lower (Kd.R_set (Kd.R_mono hR hok) h.y (by decide) 1 _) (Nat.zero_le _), hS _ h.s⟩
  rw [heap_same (a := ⟨q, 1, none⟩) h.y rfl]; rfl
theorem setX (h : IsRv w q S vL XL vH XH x) (y : Int) : IsRv (w.setCell ⟨q, 2, none⟩ (.int .u64 y)) q S vL XL vH XH y := by
  refine ⟨?_, Kd.R_set h.l h.y (by decide) 2 _, Kd.R_set h.h h.y (by decide) 2 _, h.s⟩
  rw [heap_same (a := ⟨q, 2, none⟩) h.y rfl]; rfl
theorem cells (h : IsRv w q S vL XL vH XH x) : w.cell? ⟨q, 0, none⟩ = some vL ∧ w.cell? ⟨q, 1, none⟩ = some vH ∧ w.cell? ⟨q, 2, none⟩ = some (.int .u64 x) := ⟨(blk_cell h.y 0).trans rfl, (blk_cell h.y 1).trans rfl, (blk_cell h.y 2).trans rfl⟩
theorem fz (h : IsRv w q S vL XL vH XH x) (i : Nat) : w.frozen? ⟨q, i, none⟩ = false := blk_frozen h.y i
end IsRv
theorem R_pre {α : Type} {d : Kd α} {e : Nat} {w : World} {b : Nat} {ok : Nat → Prop} {A : Option Addr} {n c m : Nat} {X : List α} (h : Kd.R d e w b ok (.slice A n c) X) (hm : m ≤ n) : n = X.length ∧ n ≤ c ∧ Kd.C d w A m (X.take m) ∧ (X.take m).length = m := by
  obtain ⟨h1, h2, h3⟩ := Kd.R_reads' h
  have e1 : (X.take m).length = m := by rw [List.length_take]; omega
  have := Kd.C_take h3 (m := m) (by omega)
  rw [e1] at this
  exact ⟨h1, h2, this, e1⟩
theorem R_suf {α : Type} {d : Kd α} {e : Nat} {w : World} {b : Nat} {ok : Nat → Prop} {A : Option Addr} {n c m : Nat} {X : List α} (h : Kd.R d e w b ok (.slice A n c) X) (hm : m ≤ n) : Kd.C d w (if c = m then A else A.map (·.add (m * d.sz))) (n - m) (X.drop m) := by
  obtain ⟨h1, h2, h3⟩ := Kd.R_reads' h
  have e1 : (X.drop m).length = n - m := by rw [List.length_drop]; omega
  have := Kd.C_drop h3 (m := m) (c := c) (by omega) (by omega)
  rw [e1] at this
  exact this
end Go.Proofs.Ytdolmkiiflhehaa.M
end

section
/- The iterator of keys; slices.Collect. -/
set_option linter.unusedVariables false
set_option linter.unusedSimpArgs false
set_option maxRecDepth 100000
namespace Go.Proofs.Ytdolmkiiflhehaa.M
open Go.RowKit Go.Shelf Go.Proofs.YtdolmkiiflhehaaW.PrintWords
attribute [local go_sem] Oper.semAt_some
structure ApI (b0 : Nat) (w4 : World) (pre : List (Int × Int)) (W : World) : Prop where
  l : ∃ (A : Option Addr) (c : Nat), W.heap[b0]? = some (.cells #[.slice A pre.length c] 42) ∧ Kd.R keyK 29 W w4.heap.size (fun _ => True) (.slice A pre.length c) pre
theorem ApI.below {b0 : Nat} {w4 : World} {pre : List (Int × Int)} {W W' : World} (h : ApI b0 w4 pre W) (hb : Below W.heap.size W W') : ApI b0 w4 pre W' := by
  obtain ⟨⟨A1, c, h1, h2⟩⟩ := h
  exact ⟨⟨A1, c, (hb.block _ (Array.getElem?_eq_some_iff.1 h1).1).trans h1, R_belowA h2 hb⟩⟩
end Go.Proofs.Ytdolmkiiflhehaa.M
end

section
/- A region that draws its order, and only reads, in the body of a range over a function. -/
set_option linter.unusedVariables false
set_option linter.unusedSimpArgs false
namespace Go.Proofs.Ytdolmkiiflhehaa.M
section
variable {P : Program} {ops : Array Oper} {md : Region.Mode} {w : World} {l n : Nat}
end
end Go.Proofs.Ytdolmkiiflhehaa.M
end

section
/- keys: are just these keys told? -/
set_option linter.unusedVariables false
set_option linter.unusedSimpArgs false
set_option maxRecDepth 100000
attribute [local irreducible] Go.wpStill
namespace Go.Proofs.Ytdolmkiiflhehaa.M
open Go.RowKit Go.Shelf Go.Proofs.YtdolmkiiflhehaaW.PrintWords
attribute [local go_sem] Oper.semAt_some
structure KyI {α : Type} (T I : TypeId) (b0 : Nat) (v : Value) (xs pre : List α) (W : World) : Prop where
  wb : W.heap[b0]? = some (.cells #[v] T)
  rb : W.heap[b0 + 1]? = some (.cells #[.bool false] 4)
  nb : W.heap[b0 + 2]? = some (.cells #[.int .i64 pre.length] I)
  pre : pre <+: xs
theorem KyI.below {α : Type} {T I : TypeId} {b0 : Nat} {v : Value} {xs pre : List α} {W W' : World} (h : KyI T I b0 v xs pre W) (hb : Below W.heap.size W W') : KyI T I b0 v xs pre W' :=
  ⟨(hb.block _ (Array.getElem?_eq_some_iff.1 h.wb).1).trans h.wb, (hb.block _ (Array.getElem?_eq_some_iff.1 h.rb).1).trans h.rb, (hb.block _ (Array.getElem?_eq_some_iff.1 h.nb).1).trans h.nb, h.pre⟩
theorem KyI.next {α : Type} {T I : TypeId} {b0 : Nat} {v : Value} {xs pre : List α} {x : α} {W : World} (h : KyI T I b0 v xs pre W) (hx : xs[pre.length]? = some x) {n : Int} (hn : n = (pre.length : Int) + 1) : KyI T I b0 v xs (pre ++ [x]) (W.drew.setCell ⟨b0 + 1 + 1, 0, none⟩ (.int .i64 n)) := by
  refine ⟨(Below.heap_setCell W.drew ⟨b0 + 1 + 1, 0, none⟩ _ b0 (by show b0 ≠ b0 + 1 + 1; omega)).trans h.wb, (Below.heap_setCell W.drew ⟨b0 + 1 + 1, 0, none⟩ _ (b0 + 1) (by show b0 + 1 ≠ b0 + 1 + 1; omega)).trans h.rb, ?_, ?_⟩
  · have h1 : W.drew.heap[b0 + 2]? = some (.cells #[.int .i64 pre.length] I) := h.nb
    have h2 := heap_same (a := ⟨b0 + 1 + 1, 0, none⟩) (v := .int .i64 n) h1 rfl
    have h3 : ((pre ++ [x]).length : Int) = n := by rw [List.length_append, hn]; rfl
    rw [h3]
    exact h2
  · rw [List.prefix_iff_eq_take.1 h.pre, take_snoc' hx]
    exact List.take_prefix _ _
end Go.Proofs.Ytdolmkiiflhehaa.M
end

section
/- told: are just these cells told, up to where it is left? -/
set_option linter.unusedVariables false
set_option linter.unusedSimpArgs false
set_option maxRecDepth 100000
attribute [local irreducible] Go.wpStill
namespace Go.Proofs.Ytdolmkiiflhehaa.M
open Go.RowKit Go.Shelf Go.Proofs.YtdolmkiiflhehaaW.PrintWords
attribute [local go_sem] Oper.semAt_some
structure TdI (b0 : Nat) (v : Value) (stop : Int) (xs pre : List T4) (W : World) : Prop where
  wb : W.heap[b0]? = some (.cells #[v] 59)
  sb : W.heap[b0 + 1]? = some (.cells #[.int .i64 stop] 3)
  rb : W.heap[b0 + 2]? = some (.cells #[.bool false] 4)
  nb : W.heap[b0 + 3]? = some (.cells #[.int .i64 pre.length] 3)
  pre : pre <+: xs
theorem TdI.below {b0 : Nat} {v : Value} {stop : Int} {xs pre : List T4} {W W' : World} (h : TdI b0 v stop xs pre W) (hb : Below W.heap.size W W') : TdI b0 v stop xs pre W' :=
  ⟨(hb.block _ (Array.getElem?_eq_some_iff.1 h.wb).1).trans h.wb, (hb.block _ (Array.getElem?_eq_some_iff.1 h.sb).1).trans h.sb, (hb.block _ (Array.getElem?_eq_some_iff.1 h.rb).1).trans h.rb, (hb.block _ (Array.getElem?_eq_some_iff.1 h.nb).1).trans h.nb, h.pre⟩
theorem TdI.next {b0 : Nat} {v : Value} {stop : Int} {xs pre : List T4} {x : T4} {W : World} (h : TdI b0 v stop xs pre W) (hx : xs[pre.length]? = some x) {n : Int} (hn : n = (pre.length : Int) + 1) : TdI b0 v stop xs (pre ++ [x]) (W.drew.setCell ⟨b0 + 1 + 1 + 1, 0, none⟩ (.int .i64 n)) := by
  have hk : ∀ i, i ≠ b0 + 3 → (W.drew.setCell ⟨b0 + 1 + 1 + 1, 0, none⟩ (.int .i64 n)).heap[i]? = W.heap[i]? := fun i hi => Below.heap_setCell W.drew ⟨b0 + 1 + 1 + 1, 0, none⟩ _ i hi
  refine ⟨(hk _ (by omega)).trans h.wb, (hk _ (by omega)).trans h.sb, (hk _ (by omega)).trans h.rb, ?_, ?_⟩
  · have h1 : W.drew.heap[b0 + 3]? = some (.cells #[.int .i64 pre.length] 3) := h.nb
    have h2 := heap_same (a := ⟨b0 + 1 + 1 + 1, 0, none⟩) (v := .int .i64 n) h1 rfl
    have h3 : ((pre ++ [x]).length : Int) = n := by rw [List.length_append, hn]; rfl
    rw [h3]
    exact h2
  · rw [List.prefix_iff_eq_take.1 h.pre, take_snoc' hx]
    exact List.take_prefix _ _
theorem eqt_self (x : T4) (w : World) : (Op.equalIn 10000 31 (.agg #[.int .i32 x.1.1, .int .i64 x.1.2, .int .i64 x.2.1, .int .i64 x.2.2]) (.agg #[.int .i32 x.1.1, .int .i64 x.1.2, .int .i64 x.2.1, .int .i64 x.2.2])).run Try.prog w = .ok true w := eqc_self ⟨x.1.1, x.1.2, x.2.1, x.2.2⟩ w
theorem eqt_ne {x y : T4} (h : x ≠ y) (w : World) : (Op.equalIn 10000 31 (.agg #[.int .i32 x.1.1, .int .i64 x.1.2, .int .i64 x.2.1, .int .i64 x.2.2]) (.agg #[.int .i32 y.1.1, .int .i64 y.1.2, .int .i64 y.2.1, .int .i64 y.2.2])).run Try.prog w = .ok false w :=
  eqc_ne (a := ⟨x.1.1, x.1.2, x.2.1, x.2.2⟩) (b := ⟨y.1.1, y.1.2, y.2.1, y.2.2⟩) (fun e => h (by
    obtain ⟨⟨a, b⟩, c, d⟩ := x
    obtain ⟨⟨a', b'⟩, c', d'⟩ := y
    simp only [CellD.mk.injEq] at e
    obtain ⟨rfl, rfl, rfl, rfl⟩ := e
    rfl)) w
end Go.Proofs.Ytdolmkiiflhehaa.M
end

section
/- Are two rows of cells the same? -/
set_option linter.unusedVariables false
set_option linter.unusedSimpArgs false
set_option maxRecDepth 100000
attribute [local irreducible] Go.wpStill
namespace Go.Proofs.Ytdolmkiiflhehaa.M
open Go.RowKit Go.Proofs.YtdolmkiiflhehaaW.PrintWords Go.Proofs.YtdolmkiiflhehaaW.PrintLast
theorem take_eq_step {α : Type} {X Y : List α} {j : Nat} {x : α} (h : X.take j = Y.take j) (h1 : X[j]? = some x) (h2 : Y[j]? = some x) : X.take (j + 1) = Y.take (j + 1) := by rw [List.take_add_one, List.take_add_one, h, h1, h2]
def EqI (w : World) (X Y : List T4) (n : Nat) (i : Value) (wr : World) : Prop := ∃ j : Nat, i = .int .i64 (j : Int) ∧ j ≤ n ∧ X.take j = Y.take j ∧ Below w.heap.size w wr
set_option maxHeartbeats 2000000 in
theorem eqcells_is {w : World} (A B : Option Addr) (n m c d : Nat) (X Y : List T4) (h1 : Kd.C cellK w A n X) (h2 : Kd.C cellK w B m Y) :
    Calls Try.prog 47 #[.slice A n c, .slice B m d] w fun e w' => e = .returned (.bool (decide (X = Y))) ∧ Below w.heap.size w w' := by
  have l1 := Kd.C_len h1
  have l2 := Kd.C_len h2
  have m1 := Kd.C_max h1
  have HX := Lib.hid h1; have HY := Lib.hid h2
  obtain ⟨r, hr⟩ : ∃ r, decide (X = Y) = r := ⟨_, rfl⟩
  have HR := Lib.hid hr
  rw [hr]
  clear h1 h2 hr
  by_cases hnm : n = m
  rotate_left
  · have HF := Lib.hid (show r = false by rw [← HR.out]; exact decide_eq_false (fun e => hnm (by rw [← l1, ← l2, e])))
    have q1 : ((n : Int) != (m : Int)) = true := by simp; omega
    have q2 : (n != m) = true := by simp; exact hnm
    have q3 : ¬ ((n : Int) = (m : Int)) := by omega
    rw [HF.out]
    clear l1 l2
    go_enter Try.func47, Try.ntmps47
    go_wp2_with fail
    go_ret
    exact ⟨rfl, Below.refl _ _⟩
  subst hnm
  have HL := Lib.hid (And.intro l1 l2)
  clear l1 l2
  go_enter Try.func47, Try.ntmps47
  go_wp2_with fail
  go_loopw [13] (fun i wr => EqI w X Y n i wr) (fun i _ => n - (intOf i).toNat)
  case atStart => exact ⟨0, rfl, Nat.zero_le _, rfl, Below.refl _ _⟩
  case round =>
    obtain ⟨j, rfl, hj, hT, hB⟩ := hrel
    have HT := Lib.hid hT; have HB := Lib.hid hB
    clear hT hB
    by_cases hlt : j < n
    · obtain ⟨x, hx⟩ : ∃ x, X[j]? = some x := ⟨_, List.getElem?_eq_getElem (by rw [HL.out.1]; exact hlt)⟩
      obtain ⟨y, hy⟩ : ∃ y, Y[j]? = some y := ⟨_, List.getElem?_eq_getElem (by rw [HL.out.2]; exact hlt)⟩
      have HXY := Lib.hid (And.intro hx hy)
      obtain ⟨ad, rfl, a0, a1, a2, a3⟩ := cell_get (Kd.C_below HX.out HB.out) hx
      obtain ⟨bd, rfl, b0, b1, b2, b3⟩ := cell_get (Kd.C_below HY.out HB.out) hy
      have q1 : decide ((j : Int) < (n : Int)) = true := decide_eq_true (by omega)
      have q2 : decide (j < n) = true := decide_eq_true hlt
      have i0 : (0 : Int) ≤ (j : Int) := by omega
      have i1 : (j : Int) < (n : Int) := by omega
      have HLT := Lib.hid hlt
      clear hx hy hlt
      by_cases hk : x = y
      · have HK := Lib.hid hk
        subst hk
        have hq : ∀ W : World, (Op.equalIn 10000 31 (.agg #[.int .i32 x.1.1, .int .i64 x.1.2, .int .i64 x.2.1, .int .i64 x.2.2]) (.agg #[.int .i32 x.1.1, .int .i64 x.1.2, .int .i64 x.2.1, .int .i64 x.2.2])).run Try.prog W = .ok true W := fun W => eqt_self x W
        go_upto_region 6 with fail
        refine wp_region_still_tail 8 (by kernel_rfl) (by kernel_rfl) ?_
        simp only [List.take_succ_cons, List.take_zero, List.drop_succ_cons, List.drop_zero]
        iterate 8 still_step
        refine wpStill_nil ?_
        change wpList _ _ _ _ _ wr.drew
        go_wp2_with fail
        go_roundw
        case rel => exact ⟨j + 1, by go_num, HLT.out, take_eq_step HT.out HXY.out.1 HXY.out.2, HB.out.drew⟩
        case measure => have := HLT.out; simp [intOf]; omega
      · have hq : ∀ W : World, (Op.equalIn 10000 31 (.agg #[.int .i32 x.1.1, .int .i64 x.1.2, .int .i64 x.2.1, .int .i64 x.2.2]) (.agg #[.int .i32 y.1.1, .int .i64 y.1.2, .int .i64 y.2.1, .int .i64 y.2.2])).run Try.prog W = .ok false W := fun W => eqt_ne hk W
        have HF := Lib.hid (show r = false by rw [← HR.out]; exact decide_eq_false (fun e => by
          have h1 := HXY.out.1; rw [e, HXY.out.2] at h1; exact hk (Option.some.inj h1).symm))
        clear hk
        go_upto_region 6 with fail
        refine wp_region_still_tail 8 (by kernel_rfl) (by kernel_rfl) ?_
        simp only [List.take_succ_cons, List.take_zero, List.drop_succ_cons, List.drop_zero]
        iterate 8 still_step
        refine wpStill_nil ?_
        change wpList _ _ _ _ _ wr.drew
        go_wp2_with fail
        go_ret
        exact ⟨by rw [HF.out]; rfl, HB.out.drew⟩
    · have HT2 := Lib.hid (show r = true by
        rw [← HR.out]
        have h := HT.out
        rw [List.take_of_length_le (by rw [HL.out.1]; omega), List.take_of_length_le (by rw [HL.out.2]; omega)] at h
        exact decide_eq_true h)
      have q1 : decide ((j : Int) < (n : Int)) = false := decide_eq_false (by omega)
      have q2 : decide (j < n) = false := decide_eq_false hlt
      clear hlt
      go_wp2_with fail
      go_ret
      exact ⟨by rw [HT2.out]; rfl, HB.out⟩
set_option maxHeartbeats 2000000 in
theorem same_cells {w : World} (A B : Option Addr) (n m c d : Nat) (X Y : List T4) (h1 : Kd.C cellK w A n X) (h2 : Kd.C cellK w B m Y) :
    Calls Try.prog 33 #[.slice A n c, .slice B m d] w fun e w' => e = .returned (.bool (decide (X = Y))) ∧ Below w.heap.size w w' := by
  have l1 := Kd.C_len h1
  have l2 := Kd.C_len h2
  have m1 := Kd.C_max h1
  have HX := Lib.hid h1; have HY := Lib.hid h2
  obtain ⟨r, hr⟩ : ∃ r, decide (X = Y) = r := ⟨_, rfl⟩
  have HR := Lib.hid hr
  rw [hr]
  clear h1 h2 hr
  by_cases hnm : n = m
  rotate_left
  · have HF := Lib.hid (show r = false by rw [← HR.out]; exact decide_eq_false (fun e => hnm (by rw [← l1, ← l2, e])))
    have q1 : ((n : Int) != (m : Int)) = true := by simp; omega
    have q2 : (n != m) = true := by simp; exact hnm
    have q3 : ¬ ((n : Int) = (m : Int)) := by omega
    rw [HF.out]
    clear l1 l2
    go_enter Try.func33, Try.ntmps33
    go_wp2_with fail
    go_ret
    exact ⟨rfl, Below.refl _ _⟩
  subst hnm
  have HL := Lib.hid (And.intro l1 l2)
  clear l1 l2
  go_enter Try.func33, Try.ntmps33
  go_wp2_with fail
  go_loopw [5] (fun i wr => EqI w X Y n i wr) (fun i _ => n - (intOf i).toNat)
  case atStart => exact ⟨0, rfl, Nat.zero_le _, rfl, Below.refl _ _⟩
  case round =>
    obtain ⟨j, rfl, hj, hT, hB⟩ := hrel
    have HT := Lib.hid hT; have HB := Lib.hid hB
    clear hT hB
    by_cases hlt : j < n
    · obtain ⟨x, hx⟩ : ∃ x, X[j]? = some x := ⟨_, List.getElem?_eq_getElem (by rw [HL.out.1]; exact hlt)⟩
      obtain ⟨y, hy⟩ : ∃ y, Y[j]? = some y := ⟨_, List.getElem?_eq_getElem (by rw [HL.out.2]; exact hlt)⟩
      have HXY := Lib.hid (And.intro hx hy)
      obtain ⟨ad, rfl, a0, a1, a2, a3⟩ := cell_get (Kd.C_below HX.out HB.out) hx
      obtain ⟨bd, rfl, b0, b1, b2, b3⟩ := cell_get (Kd.C_below HY.out HB.out) hy
      have q1 : decide ((j : Int) < (n : Int)) = true := decide_eq_true (by omega)
      have q2 : decide (j < n) = true := decide_eq_true hlt
      have i0 : (0 : Int) ≤ (j : Int) := by omega
      have i1 : (j : Int) < (n : Int) := by omega
      have HLT := Lib.hid hlt
      clear hx hy hlt
      by_cases hk : x = y
      · have HK := Lib.hid hk
        subst hk
        have hq : ∀ W : World, (Op.equalIn 10000 31 (.agg #[.int .i32 x.1.1, .int .i64 x.1.2, .int .i64 x.2.1, .int .i64 x.2.2]) (.agg #[.int .i32 x.1.1, .int .i64 x.1.2, .int .i64 x.2.1, .int .i64 x.2.2])).run Try.prog W = .ok true W := fun W => eqt_self x W
        go_upto_region 6 with fail
        refine wp_region_still_tail 8 (by kernel_rfl) (by kernel_rfl) ?_
        simp only [List.take_succ_cons, List.take_zero, List.drop_succ_cons, List.drop_zero]
        iterate 8 still_step
        refine wpStill_nil ?_
        change wpList _ _ _ _ _ wr.drew
        go_wp2_with fail
        go_roundw
        case rel => exact ⟨j + 1, by go_num, HLT.out, take_eq_step HT.out HXY.out.1 HXY.out.2, HB.out.drew⟩
        case measure => have := HLT.out; simp [intOf]; omega
      · have hq : ∀ W : World, (Op.equalIn 10000 31 (.agg #[.int .i32 x.1.1, .int .i64 x.1.2, .int .i64 x.2.1, .int .i64 x.2.2]) (.agg #[.int .i32 y.1.1, .int .i64 y.1.2, .int .i64 y.2.1, .int .i64 y.2.2])).run Try.prog W = .ok false W := fun W => eqt_ne hk W
        have HF := Lib.hid (show r = false by rw [← HR.out]; exact decide_eq_false (fun e => by
          have h1 := HXY.out.1; rw [e, HXY.out.2] at h1; exact hk (Option.some.inj h1).symm))
        clear hk
        go_upto_region 6 with fail
        refine wp_region_still_tail 8 (by kernel_rfl) (by kernel_rfl) ?_
        simp only [List.take_succ_cons, List.take_zero, List.drop_succ_cons, List.drop_zero]
        iterate 8 still_step
        refine wpStill_nil ?_
        change wpList _ _ _ _ _ wr.drew
        go_wp2_with fail
        go_ret
        exact ⟨by rw [HF.out]; rfl, HB.out.drew⟩
    · have HT2 := Lib.hid (show r = true by
        rw [← HR.out]
        have h := HT.out
        rw [List.take_of_length_le (by rw [HL.out.1]; omega), List.take_of_length_le (by rw [HL.out.2]; omega)] at h
        exact decide_eq_true h)
      have q1 : decide ((j : Int) < (n : Int)) = false := decide_eq_false (by omega)
      have q2 : decide (j < n) = false := decide_eq_false hlt
      clear hlt
      go_wp2_with fail
      go_ret
      exact ⟨by rw [HT2.out]; rfl, HB.out⟩
end Go.Proofs.Ytdolmkiiflhehaa.M
end

section
/- slices.Index and Contains of keys; Steps. -/
set_option linter.unusedVariables false
set_option linter.unusedSimpArgs false
set_option maxRecDepth 100000
attribute [local irreducible] Go.wpStill
namespace Go.Proofs.Ytdolmkiiflhehaa.M
open Go.RowKit Go.Shelf Go.Proofs.YtdolmkiiflhehaaW.PrintWords
end Go.Proofs.Ytdolmkiiflhehaa.M
end

section
/- What a store that no call made (nil, or its zero) answers: v is its pointer. -/
set_option linter.unusedVariables false
set_option linter.unusedSimpArgs false
set_option maxRecDepth 100000
namespace Go.Proofs.Ytdolmkiiflhehaa.M
open Go.RowKit Go.Shelf Go.Proofs.YtdolmkiiflhehaaW.PrintWords
theorem none_nil (w : World) : Calls Try.prog 35 #[.pointer none] w fun e w' => e = .returned (.bool true) ∧ w = w' := by
  go_enter Try.func35, Try.ntmps35
  go_wp2_with fail
  go_ret
  exact ⟨rfl, rfl⟩
def IsN (w : World) (v : Value) : Prop := ∀ w', Below w.heap.size w w' → Calls Try.prog 35 #[v] w' fun e w'' => e = .returned (.bool true) ∧ w' = w''
theorem isN_nil (w : World) : IsN w (.pointer none) := fun w' _ => none_nil w'
theorem IsN.below {w w' : World} {v : Value} (h : IsN w v) (hb : Below w.heap.size w w') : IsN w' v := fun w2 hb2 => h w2 (hb.trans (hb2.mono hb.size))
theorem same_none {w : World} {q : Option Addr} {v : Value} (h : IsN w (.pointer q)) : Calls Try.prog 26 #[.pointer q, v] w fun e w' => e = .returned (.bool false) ∧ w = w' := by
  have HN := Lib.hid (h w (Below.refl _ _))
  clear h
  go_enter Try.func26, Try.ntmps26
  go_wp2_with (go_at_call 35; refine HN.out.mono ?_; rintro e w' ⟨rfl, rfl⟩)
  go_ret
  exact ⟨rfl, rfl⟩
end Go.Proofs.Ytdolmkiiflhehaa.M
end
