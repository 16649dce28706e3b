/- Numbers' bytes as lists of whole numbers: what trivet/shape's functions come to. No program here. -/
import Derived.Test.YtandhpnpodkemaaWWords
import Derived.Test.YtandhpnpodkemaaWLast
import Derived.Test.YtandhpnpodkemaaWTab
import Derived.Test.YtandhpnpodkemaaWFour
import Derived.Test.YtandhpnpodkemaaWQPut
import Derived.Test.YtandhpnpodkemaaWApart
import Derived.Test.YtandhpnpodkemaaWArr
import Derived.Test.YtandhpnpodkemaaWZeros
import Derived.Test.YtandhpnpodkemaaWFoot
import Derived.Test.YtandhpnpodkemaaWKept
import Derived.Test.YtandhpnpodkemaaWShare
import Derived.Test.YtandhpnpodkemaaWN
import Derived.Test.YtandhpnpodkemaaWFootNe
import Derived.Test.YtandhpnpodkemaaWAt
import Derived.Test.YtandhpnpodkemaaWEqStruct
import Derived.Test.YtandhpnpodkemaaWRepsOne
import Derived.Test.YtandhpnpodkemaaWInv
import Derived.Test.YtandhpnpodkemaaWInvWords
import Derived.Test.YtandhpnpodkemaaWGuard
import Derived.Test.YtandhpnpodkemaaWNEv
import Derived.Test.YtandhpnpodkemaaWMore
import Derived.Laws.BitsAllLaws
import Derived.Laws.Bits64
set_option linter.unusedVariables false
set_option linter.unusedSimpArgs false
namespace Go.Proofs.Ytandhpnpodkemaa.M
open Go.RowKit Go.Proofs.YtandhpnpodkemaaW.PrintWords

def okB (l : List Int) : Bool := l.all fun x => decide (0 ≤ x) && decide (x ≤ 255)
theorem okB_rd {l : List Int} (h : okB l = true) (i : Int) : 0 ≤ rd l i ∧ rd l i ≤ 255 := by
  unfold rd
  by_cases hi : i.toNat < l.length
  · have := List.all_eq_true.1 h l[i.toNat] (List.getElem_mem hi)
    simp [List.getD_eq_getElem?_getD, List.getElem?_eq_getElem hi] at this ⊢
    exact this
  · simp [List.getD_eq_getElem?_getD, List.getElem?_eq_none (by omega : l.length ≤ i.toNat)]

/-- A number's bytes, the lowest one first. -/
def leNum : List Int → Int
  | [] => 0
  | b :: r => b + 256 * leNum r

/-- How many bytes stand behind the first one. -/
def tkK (l : List Int) : Nat := (rd l 0 / 2).toNat
def tkU (l : List Int) : Int := leNum ((l.drop 1).take (tkK l))
def big63 : Int := 9223372036854775808
/-- What is wrong with bytes that are to begin with a number (0: nothing). -/
def tkE (l : List Int) : Int :=
  if l = [] then 10 else if 17 < rd l 0 ∨ rd l 0 = 1 then 11 else if l.length ≤ tkK l then 10
  else if 0 < tkK l ∧ rd l (tkK l) = 0 then 11
  else if big63 < tkU l ∨ (tkU l = big63 ∧ rd l 0 % 2 = 0) then 11 else 0
def tkN (l : List Int) : Int := if rd l 0 % 2 = 1 then wrap64 (-tkU l) else tkU l
def tkS (l : List Int) : Int := (tkK l : Int) + 1

theorem okB_drop {l : List Int} (h : okB l = true) (k : Nat) : okB (l.drop k) = true := by
  unfold okB at h ⊢
  rw [List.all_eq_true] at h ⊢
  exact fun x hx => h x (List.mem_of_mem_drop hx)
theorem okB_take {l : List Int} (h : okB l = true) (k : Nat) : okB (l.take k) = true := by
  unfold okB at h ⊢
  rw [List.all_eq_true] at h ⊢
  exact fun x hx => h x (List.mem_of_mem_take hx)
theorem okB_append {l m : List Int} (h : okB l = true) (h' : okB m = true) : okB (l ++ m) = true := by
  unfold okB at *
  rw [List.all_append, h, h']; rfl
theorem okB_of_wf {l : List Int} (h : ∀ x ∈ l, (Lit.int .u8 x).wf = true) : okB l = true := by
  unfold okB
  rw [List.all_eq_true]
  intro x hx
  have := h x hx
  simp only [Lit.wf, Bool.and_eq_true, decide_eq_true_eq] at this
  have e1 : IntKind.u8.min = 0 := rfl
  have e2 : IntKind.u8.max = 255 := rfl
  simp only [Bool.and_eq_true, decide_eq_true_eq]
  omega

theorem leNum_nonneg {l : List Int} (h : okB l = true) : 0 ≤ leNum l := by
  induction l with
  | nil => simp [leNum]
  | cons b r ih =>
    have hb := okB_rd h 0
    have hr : okB r = true := okB_drop h 1
    have := ih hr
    simp [rd] at hb
    simp only [leNum]; omega
theorem leNum_lt {l : List Int} (h : okB l = true) (n : Nat) (hn : l.length ≤ n) : leNum l < 256 ^ n := by
  induction l generalizing n with
  | nil => simp [leNum]; exact Int.pow_pos (by omega)
  | cons b r ih =>
    have hb := okB_rd h 0
    have hr : okB r = true := okB_drop h 1
    simp [rd] at hb
    cases n with
    | zero => simp at hn
    | succ n =>
      have := ih hr n (by simpa using hn)
      simp only [leNum, Int.pow_succ]; omega
theorem or_byte (u b : Int) (h0 : 0 ≤ u) (hu : u < 72057594037927936) (hb0 : 0 ≤ b) (hb : b ≤ 255) :
    bits BinOp.or IntKind.u64 (u * 256) b = b + 256 * u := by
  rw [u64_or _ _ (by omega) (by omega) (by omega) (by omega)]
  have h := Nat.two_pow_add_eq_or_of_lt (i := 8) (a := u.toNat) (b := b.toNat) (by omega)
  rw [show (u * 256).toNat = 2 ^ 8 * u.toNat from by omega, ← h]
  omega

/-- The number's bytes from place j on. -/
def upFrom (l : List Int) (j k : Nat) : Int := leNum ((l.drop (j + 1)).take (k - j))
theorem upFrom_end (l : List Int) (k : Nat) : upFrom l k k = 0 := by simp [upFrom, leNum]
theorem upFrom_step {l : List Int} {j k : Nat} (hj : 0 < j) (hk : j ≤ k) (hl : k < l.length) : upFrom l (j - 1) k = rd l (j : Int) + 256 * upFrom l j k := by
  unfold upFrom
  rw [show j - 1 + 1 = j from by omega, show k - (j - 1) = (k - j) + 1 from by omega, List.drop_eq_getElem_cons (by omega), List.take_succ_cons]
  simp only [leNum, rd, Int.toNat_natCast]
  rw [List.getD_eq_getElem?_getD, List.getElem?_eq_getElem (by omega)]
  rfl
theorem upFrom_zero (l : List Int) : upFrom l 0 (tkK l) = tkU l := by simp [upFrom, tkU]
theorem upFrom_nonneg {l : List Int} (h : okB l = true) (j k : Nat) : 0 ≤ upFrom l j k := leNum_nonneg (okB_take (okB_drop h _) _)
theorem upFrom_lt {l : List Int} (h : okB l = true) {j k : Nat} (hj : 0 < j) (hk : k ≤ 8) : upFrom l j k < 72057594037927936 := by
  have := leNum_lt (okB_take (okB_drop h (j + 1)) (k - j)) 7 (by simp; omega)
  unfold upFrom
  omega
theorem upFrom_lt8 {l : List Int} (h : okB l = true) {j k : Nat} (hk : k ≤ 8) : upFrom l j k < 18446744073709551616 := by
  have := leNum_lt (okB_take (okB_drop h (j + 1)) (k - j)) 8 (by simp; omega)
  unfold upFrom
  omega
/-- As few bytes as will do, the lowest one first. -/
def lowB (n : Nat) : List Int := if h : n = 0 then [] else ((n % 256 : Nat) : Int) :: lowB (n / 256)
decreasing_by omega
theorem lowB_zero : lowB 0 = [] := by rw [lowB]; rfl
theorem lowB_pos {n : Nat} (h : n ≠ 0) : lowB n = ((n % 256 : Nat) : Int) :: lowB (n / 256) := by rw [lowB, dif_neg h]
theorem lowB_len (n j : Nat) (h : n < 256 ^ j) : (lowB n).length ≤ j := by
  induction j generalizing n with
  | zero => simp at h; subst h; simp [lowB_zero]
  | succ j ih =>
    by_cases h0 : n = 0
    · subst h0; simp [lowB_zero]
    · rw [lowB_pos h0, List.length_cons]
      have := ih (n / 256) (by rw [Nat.pow_succ] at h; omega)
      omega
theorem lowB_ok (n : Nat) : okB (lowB n) = true := by
  induction n using Nat.strongRecOn with
  | _ n ih =>
    by_cases h0 : n = 0
    · subst h0; simp [lowB_zero, okB]
    · rw [lowB_pos h0]
      have := ih (n / 256) (by omega)
      simp only [okB, List.all_cons, Bool.and_eq_true] at this ⊢
      refine ⟨⟨?_, ?_⟩, this⟩ <;> simp <;> omega
/-- A number's bytes. -/
def mag (n : Int) : Nat := n.natAbs
def numB (n : Int) : List Int := (2 * ((lowB (mag n)).length : Int) + if n < 0 then 1 else 0) :: lowB (mag n)
def numsB (l : List Int) : List Int := l.flatMap numB
def isI64 (n : Int) : Prop := -9223372036854775808 ≤ n ∧ n ≤ 9223372036854775807
instance (n : Int) : Decidable (isI64 n) := by unfold isI64; infer_instance
def okI (l : List Int) : Bool := l.all fun n => decide (isI64 n)
theorem okI_of_wf {l : List Int} (h : ∀ x ∈ l, (Lit.int .i64 x).wf = true) : okI l = true := by
  unfold okI
  rw [List.all_eq_true]
  intro x hx
  have := h x hx
  simp only [Lit.wf, Bool.and_eq_true, decide_eq_true_eq] at this
  have e1 : IntKind.i64.min = -9223372036854775808 := rfl
  have e2 : IntKind.i64.max = 9223372036854775807 := rfl
  exact decide_eq_true (by unfold isI64; omega)
theorem okI_mem {l : List Int} (h : okI l = true) {x : Int} (hx : x ∈ l) : isI64 x := by
  unfold okI at h
  rw [List.all_eq_true] at h
  simpa using h x hx
theorem mag_lt {n : Int} (h : isI64 n) : mag n < 256 ^ 8 := by unfold mag; unfold isI64 at h; omega
theorem numB_len {n : Int} (h : isI64 n) : 1 ≤ (numB n).length ∧ (numB n).length ≤ 9 := by
  have := lowB_len _ 8 (mag_lt h)
  unfold numB
  rw [List.length_cons]
  omega
theorem numB_ok {n : Int} (h : isI64 n) : okB (numB n) = true := by
  have h1 := lowB_len _ 8 (mag_lt h)
  have h2 := lowB_ok (mag n)
  unfold numB
  simp only [okB, List.all_cons, Bool.and_eq_true] at h2 ⊢
  refine ⟨⟨?_, ?_⟩, h2⟩ <;> simp <;> split <;> omega
theorem numsB_len {l : List Int} (h : okI l = true) : (numsB l).length ≤ 9 * l.length := by
  induction l with
  | nil => simp [numsB]
  | cons x r ih =>
    have hx := numB_len (okI_mem h (List.mem_cons_self ..))
    have hr : okI r = true := by unfold okI at h ⊢; rw [List.all_cons, Bool.and_eq_true] at h; exact h.2
    have := ih hr
    simp only [numsB, List.flatMap_cons, List.length_append, List.length_cons] at this ⊢
    omega
theorem numsB_ok {l : List Int} (h : okI l = true) : okB (numsB l) = true := by
  induction l with
  | nil => rfl
  | cons x r ih =>
    have hr : okI r = true := by unfold okI at h ⊢; rw [List.all_cons, Bool.and_eq_true] at h; exact h.2
    simp only [numsB, List.flatMap_cons]
    exact okB_append (numB_ok (okI_mem h (List.mem_cons_self ..))) (ih hr)
theorem numsB_snoc (l : List Int) (x : Int) : numsB (l ++ [x]) = numsB l ++ numB x := by simp [numsB]
theorem take_snoc_int (l : List Int) (i : Nat) (h : i < l.length) : l.take (i + 1) = l.take i ++ [rd l (i : Int)] := by
  rw [List.take_succ_eq_append_getElem h]
  simp [rd, List.getD_eq_getElem?_getD, List.getElem?_eq_getElem h]
/-- What is wrong with bytes that are to begin with a blob. -/
def blE (l : List Int) (most more : Int) : Int :=
  if ¬ tkE l = 0 then tkE l else if tkN l < 0 then 11 else if most < tkN l then 3 else if (l.length : Int) - tkS l - more < tkN l then 10 else 0
def blLo (l : List Int) : Int := tkS l
def blHi (l : List Int) : Int := tkS l + tkN l
def blD (l : List Int) : List Int := (l.take (blHi l).toNat).drop (blLo l).toNat
theorem tkS_pos (l : List Int) : 1 ≤ tkS l := by unfold tkS; omega
theorem tkE_size {l : List Int} (h : tkE l = 0) : tkS l ≤ (l.length : Int) := by
  unfold tkE at h
  unfold tkS
  split at h
  · omega
  · split at h
    · omega
    · split at h
      · omega
      · omega
theorem blE_good {l : List Int} {most more : Int} (h : blE l most more = 0) : tkE l = 0 ∧ 0 ≤ tkN l ∧ tkN l ≤ most ∧ blHi l + more ≤ (l.length : Int) ∧ blLo l ≤ blHi l ∧ 1 ≤ blLo l := by
  have h1 := tkS_pos l
  unfold blE at h
  unfold blHi blLo
  split at h
  · omega
  · split at h
    · omega
    · split at h
      · omega
      · split at h
        · omega
        · omega
end Go.Proofs.Ytandhpnpodkemaa.M
