/- RecordReadsSaid: contracts of the functions that the law goes through, put together in build order (part 3 of 8). -/
import Derived.Test.YtgiefblcckikeaaGreatPart1
import Derived.WalkKit
import Derived.Below
import Derived.Lib.SmallJoins
import Derived.Lib.Hide
set_option linter.unusedVariables false
set_option linter.unusedSimpArgs false
section
/- Transactions and entries that are the same: in plain Lean. -/
set_option maxRecDepth 100000
namespace Go.Proofs.YtgiefblcckikeaaGreat.M
open Go.RowKit Go.Proofs.YtgiefblcckikeaaGreatW.PrintWords Go.Proofs.YtgiefblcckikeaaGreat.G
abbrev KeyD := G.S101
abbrev TxD := G.S26
theorem keyD_ext {a b : KeyD} (h : a.f0 = b.f0) (h1 : a.f1 = b.f1) : a = b := by cases a; cases b; simp_all
instance : DecidableEq KeyD := fun a b => if h : a.f0 = b.f0 ∧ a.f1 = b.f1 then .isTrue (keyD_ext h.1 h.2) else .isFalse (fun e => h (by rw [e]; exact ⟨rfl, rfl⟩))
theorem drop_cons {α : Type} {a : List α} {i : Nat} {x : α} (h : a[i]? = some x) : a.drop i = x :: a.drop (i + 1) := by
 have hl := (List.getElem?_eq_some_iff.1 h).1
 rw [List.drop_eq_getElem_cons hl]
 congr 1
 exact (List.getElem?_eq_some_iff.1 h).2
def eqS (a b : List Int) : Bool := (strOfNums a).toList == (strOfNums b).toList
def eqTx (a b : TxD) : Bool := a.f0 == b.f0 && (a.f1 == b.f1 && (eqS a.f2 b.f2 && (decide (a.f3 = b.f3) && (decide (a.f4 = b.f4) && decide (a.f5 = b.f5)))))
def eqTs : List TxD → List TxD → Bool
 | a :: r, b :: s => eqTx a b && eqTs r s
 | [], [] => true
 | _, _ => false
def eqEn (k f n : Int) (l : List TxD) (k' f' n' : Int) (l' : List TxD) : Bool := k == k' && (f == f' && (n == n' && eqTs l l'))
theorem eqTs_len : ∀ {a b : List TxD}, a.length ≠ b.length → eqTs a b = false
 | a :: r, b :: s, h => by
  unfold eqTs
  rw [eqTs_len (by simpa using h), Bool.and_false]
 | [], [], h => absurd rfl h
 | a :: r, [], _ => rfl
 | [], b :: s, _ => rfl
theorem eq_pi : ∀ (k : Nat) (a b : List Int) (i : Nat), a.length < i + k → i ≤ a.length → a.length = b.length → a.length ≤ 9223372036854775807 → G.slices_Equal_int64_int64.l0 k a b (a.length : Int) (i : Int) = some (decide (a.drop i = b.drop i))
 | 0, a, b, i, hk, hi, _, _ => by omega
 | k + 1, a, b, i, hk, hi, hl, hm => by
  simp only [G.slices_Equal_int64_int64.l0]
  by_cases hlt : i < a.length
  ·obtain ⟨x, hx⟩ : ∃ x, a[i]? = some x := ⟨_, List.getElem?_eq_getElem hlt⟩
   obtain ⟨y, hy⟩ : ∃ y, b[i]? = some y := ⟨_, List.getElem?_eq_getElem (by omega)⟩
   have r1 : rd a (i : Int) = x := by unfold rd; rw [Int.toNat_natCast, List.getD_eq_getElem?_getD, hx]; rfl
   have r2 : rd b (i : Int) = y := by unfold rd; rw [Int.toNat_natCast, List.getD_eq_getElem?_getD, hy]; rfl
   have d1 := drop_cons hx
   have d2 := drop_cons hy
   have hw : wrap64 ((i : Int) + 1) = ((i + 1 : Nat) : Int) := by unfold wrap64; omega
   rw [if_pos (by omega : (i : Int) < (a.length : Int)), if_pos (by omega : (0 : Int) ≤ (i : Int)), if_pos (by omega : (i : Int) < (a.length : Int)), if_pos (by omega : (i : Int) < (b.length : Int))]
   rw [r1, r2]
   by_cases e : x = y
   ·rw [if_pos e, hw, eq_pi k a b (i + 1) (by omega) (by omega) hl hm]
    congr 1
    rw [d1, d2, e]
    simp
   ·rw [if_neg e, d1, d2]
    simp [e]
  ·rw [if_neg (by omega), List.drop_of_length_le (by omega), List.drop_of_length_le (by omega)]
   simp
theorem eq_pi_f (k : Nat) (a b : List Int) (hk : a.length < k) (hm : a.length ≤ 9223372036854775807) : G.slices_Equal_int64_int64.f k a b = some (decide (a = b)) := by
 unfold G.slices_Equal_int64_int64.f
 by_cases h : a.length = b.length
 ·rw [if_pos (by omega)]
  have := eq_pi k a b 0 (by omega) (by omega) h hm
  simpa using this
 ·rw [if_neg (by omega)]
  congr 1
  exact (decide_eq_false (fun e => h (by rw [e]))).symm
theorem eq_ri : ∀ (k : Nat) (a b : List Int) (i : Nat), a.length < i + k → i ≤ a.length → a.length = b.length → a.length ≤ 9223372036854775807 → G.trivetref04_SameInts.l0 k a b (i : Int) = some (decide (a.drop i = b.drop i))
 | 0, a, b, i, hk, hi, _, _ => by omega
 | k + 1, a, b, i, hk, hi, hl, hm => by
  simp only [G.trivetref04_SameInts.l0]
  by_cases hlt : i < a.length
  ·obtain ⟨x, hx⟩ : ∃ x, a[i]? = some x := ⟨_, List.getElem?_eq_getElem hlt⟩
   obtain ⟨y, hy⟩ : ∃ y, b[i]? = some y := ⟨_, List.getElem?_eq_getElem (by omega)⟩
   have r1 : rd a (i : Int) = x := by unfold rd; rw [Int.toNat_natCast, List.getD_eq_getElem?_getD, hx]; rfl
   have r2 : rd b (i : Int) = y := by unfold rd; rw [Int.toNat_natCast, List.getD_eq_getElem?_getD, hy]; rfl
   have d1 := drop_cons hx
   have d2 := drop_cons hy
   have hw : wrap64 ((i : Int) + 1) = ((i + 1 : Nat) : Int) := by unfold wrap64; omega
   rw [if_pos (by omega : (i : Int) < (a.length : Int)), if_pos (by omega : (0 : Int) ≤ (i : Int)), if_pos (by omega : (i : Int) < (b.length : Int))]
   rw [r1, r2]
   by_cases e : x = y
   ·rw [if_pos e, hw, eq_ri k a b (i + 1) (by omega) (by omega) hl hm]
    congr 1
    rw [d1, d2, e]
    simp
   ·rw [if_neg e, d1, d2]
    simp [e]
  ·rw [if_neg (by omega), List.drop_of_length_le (by omega), List.drop_of_length_le (by omega)]
   simp
theorem eq_ri_f (k : Nat) (a b : List Int) (hk : a.length < k) (hm : a.length ≤ 9223372036854775807) : G.trivetref04_SameInts.f k a b = some (decide (a = b)) := by
 unfold G.trivetref04_SameInts.f
 by_cases h : a.length = b.length
 ·rw [if_pos (by omega)]
  have := eq_ri k a b 0 (by omega) (by omega) h hm
  simpa using this
 ·rw [if_neg (by omega)]
  congr 1
  exact (decide_eq_false (fun e => h (by rw [e]))).symm
theorem eq_pk : ∀ (k : Nat) (a b : List KeyD) (i : Nat), a.length < i + k → i ≤ a.length → a.length = b.length → a.length ≤ 9223372036854775807 → G.api_Key_164.l0 k a b (a.length : Int) (i : Int) = some (decide (a.drop i = b.drop i))
 | 0, a, b, i, hk, hi, _, _ => by omega
 | k + 1, a, b, i, hk, hi, hl, hm => by
  simp only [G.api_Key_164.l0]
  by_cases hlt : i < a.length
  ·obtain ⟨x, hx⟩ : ∃ x, a[i]? = some x := ⟨_, List.getElem?_eq_getElem hlt⟩
   obtain ⟨y, hy⟩ : ∃ y, b[i]? = some y := ⟨_, List.getElem?_eq_getElem (by omega)⟩
   have r1 : G.rd_T101 a (i : Int) = x := by unfold G.rd_T101; rw [Int.toNat_natCast, List.getD_eq_getElem?_getD, hx]; rfl
   have r2 : G.rd_T101 b (i : Int) = y := by unfold G.rd_T101; rw [Int.toNat_natCast, List.getD_eq_getElem?_getD, hy]; rfl
   have d1 := drop_cons hx
   have d2 := drop_cons hy
   have hw : wrap64 ((i : Int) + 1) = ((i + 1 : Nat) : Int) := by unfold wrap64; omega
   rw [if_pos (by omega : (i : Int) < (a.length : Int)), if_pos (by omega : (0 : Int) ≤ (i : Int)), if_pos (by omega : (i : Int) < (a.length : Int)), if_pos (by omega : (i : Int) < (b.length : Int))]
   by_cases e : x = y
   ·have e1 : (!(((G.rd_T101 a (i : Int)).f0) == ((G.rd_T101 b (i : Int)).f0)) || (!(((G.rd_T101 a (i : Int)).f1) == ((G.rd_T101 b (i : Int)).f1)))) = false := by rw [r1, r2, e]; simp
    rw [e1]
    simp only [Bool.false_eq_true, if_false]
    rw [hw, eq_pk k a b (i + 1) (by omega) (by omega) hl hm]
    congr 1
    rw [d1, d2, e]
    simp
   ·have e1 : (!(((G.rd_T101 a (i : Int)).f0) == ((G.rd_T101 b (i : Int)).f0)) || (!(((G.rd_T101 a (i : Int)).f1) == ((G.rd_T101 b (i : Int)).f1)))) = true := by
     rw [r1, r2]
     rw [← Bool.not_eq_false]
     intro h
     simp only [Bool.or_eq_false_iff, Bool.not_eq_false', beq_iff_eq] at h
     exact e (keyD_ext h.1 h.2)
    rw [if_pos e1, d1, d2]
    simp [e]
  ·rw [if_neg (by omega), List.drop_of_length_le (by omega), List.drop_of_length_le (by omega)]
   simp
theorem eq_pk_f (k : Nat) (a b : List KeyD) (hk : a.length < k) (hm : a.length ≤ 9223372036854775807) : G.api_Key_164.f k a b = some (decide (a = b)) := by
 unfold G.api_Key_164.f
 by_cases h : a.length = b.length
 ·rw [if_pos (by omega)]
  have := eq_pk k a b 0 (by omega) (by omega) h hm
  simpa using this
 ·rw [if_neg (by omega)]
  congr 1
  exact (decide_eq_false (fun e => h (by rw [e]))).symm
theorem eq_rk : ∀ (k : Nat) (a b : List KeyD) (i : Nat), a.length < i + k → i ≤ a.length → a.length = b.length → a.length ≤ 9223372036854775807 → G.trivetref04_SameKeys.l0 k a b (i : Int) = some (decide (a.drop i = b.drop i))
 | 0, a, b, i, hk, hi, _, _ => by omega
 | k + 1, a, b, i, hk, hi, hl, hm => by
  simp only [G.trivetref04_SameKeys.l0]
  by_cases hlt : i < a.length
  ·obtain ⟨x, hx⟩ : ∃ x, a[i]? = some x := ⟨_, List.getElem?_eq_getElem hlt⟩
   obtain ⟨y, hy⟩ : ∃ y, b[i]? = some y := ⟨_, List.getElem?_eq_getElem (by omega)⟩
   have r1 : G.rd_T101 a (i : Int) = x := by unfold G.rd_T101; rw [Int.toNat_natCast, List.getD_eq_getElem?_getD, hx]; rfl
   have r2 : G.rd_T101 b (i : Int) = y := by unfold G.rd_T101; rw [Int.toNat_natCast, List.getD_eq_getElem?_getD, hy]; rfl
   have d1 := drop_cons hx
   have d2 := drop_cons hy
   have hw : wrap64 ((i : Int) + 1) = ((i + 1 : Nat) : Int) := by unfold wrap64; omega
   rw [if_pos (by omega : (i : Int) < (a.length : Int)), if_pos (by omega : (0 : Int) ≤ (i : Int)), if_pos (by omega : (i : Int) < (b.length : Int))]
   by_cases e : x = y
   ·have e1 : (!(((G.rd_T101 a (i : Int)).f0) == ((G.rd_T101 b (i : Int)).f0)) || (!(((G.rd_T101 a (i : Int)).f1) == ((G.rd_T101 b (i : Int)).f1)))) = false := by rw [r1, r2, e]; simp
    rw [e1]
    simp only [Bool.false_eq_true, if_false]
    rw [hw, eq_rk k a b (i + 1) (by omega) (by omega) hl hm]
    congr 1
    rw [d1, d2, e]
    simp
   ·have e1 : (!(((G.rd_T101 a (i : Int)).f0) == ((G.rd_T101 b (i : Int)).f0)) || (!(((G.rd_T101 a (i : Int)).f1) == ((G.rd_T101 b (i : Int)).f1)))) = true := by
     rw [r1, r2]
     rw [← Bool.not_eq_false]
     intro h
     simp only [Bool.or_eq_false_iff, Bool.not_eq_false', beq_iff_eq] at h
     exact e (keyD_ext h.1 h.2)
    rw [if_pos e1, d1, d2]
    simp [e]
  ·rw [if_neg (by omega), List.drop_of_length_le (by omega), List.drop_of_length_le (by omega)]
   simp
theorem eq_rk_f (k : Nat) (a b : List KeyD) (hk : a.length < k) (hm : a.length ≤ 9223372036854775807) : G.trivetref04_SameKeys.f k a b = some (decide (a = b)) := by
 unfold G.trivetref04_SameKeys.f
 by_cases h : a.length = b.length
 ·rw [if_pos (by omega)]
  have := eq_rk k a b 0 (by omega) (by omega) h hm
  simpa using this
 ·rw [if_neg (by omega)]
  congr 1
  exact (decide_eq_false (fun e => h (by rw [e]))).symm
def TxLe (t : TxD) (n : Nat) : Prop := t.f2.length ≤ n ∧ t.f3.length ≤ n ∧ t.f4.length ≤ n ∧ t.f5.length ≤ n
theorem sameTxn_p (k : Nat) (a b : TxD) (h : TxLe a 9223372036854775807) (hk : a.f3.length < k ∧ a.f4.length < k ∧ a.f5.length < k) : G.record_SameTxn.f k a.f0 a.f1 a.f2 a.f3 a.f4 a.f5 b.f0 b.f1 b.f2 b.f3 b.f4 b.f5 = some (eqTx a b) := by
 unfold G.record_SameTxn.f eqTx G.bytes_Equal.f
 rw [eq_pi_f k a.f3 b.f3 hk.1 h.2.1, eq_pk_f k a.f4 b.f4 hk.2.1 h.2.2.1, eq_pk_f k a.f5 b.f5 hk.2.2 h.2.2.2]
 simp only [Option.bind_some]
 by_cases h0 : a.f0 = b.f0
 ·by_cases h1 : a.f1 = b.f1
  ·rw [if_pos h0, if_pos h1]
   cases h2 : eqS a.f2 b.f2 <;> cases h3 : decide (a.f3 = b.f3) <;> cases h4 : decide (a.f4 = b.f4) <;> unfold eqS at h2 <;> simp [h0, h1, h2]
  ·rw [if_pos h0, if_neg h1]; simp [h1]
 ·rw [if_neg h0]; simp [h0]
theorem sameTxn_r (k : Nat) (a b : TxD) (h : TxLe a 9223372036854775807) (hk : a.f3.length < k ∧ a.f4.length < k ∧ a.f5.length < k) : G.trivetref04_SameTxn.f k a.f0 a.f1 a.f2 a.f3 a.f4 a.f5 b.f0 b.f1 b.f2 b.f3 b.f4 b.f5 = some (eqTx a b) := by
 unfold G.trivetref04_SameTxn.f eqTx
 rw [eq_ri_f k a.f3 b.f3 hk.1 h.2.1, eq_rk_f k a.f4 b.f4 hk.2.1 h.2.2.1, eq_rk_f k a.f5 b.f5 hk.2.2 h.2.2.2]
 simp only [Option.bind_some]
 by_cases h0 : a.f0 = b.f0
 ·by_cases h1 : a.f1 = b.f1
  ·rw [if_pos h0, if_pos h1]
   by_cases h2 : (strOfNums a.f2).toList = (strOfNums b.f2).toList
   ·rw [if_pos h2]
    cases h3 : decide (a.f3 = b.f3) <;> cases h4 : decide (a.f4 = b.f4) <;> simp [h0, h1, h2, eqS]
   ·rw [if_neg h2]; simp [h2, eqS]
  ·rw [if_pos h0, if_neg h1]; simp [h1]
 ·rw [if_neg h0]; simp [h0]
end Go.Proofs.YtgiefblcckikeaaGreat.M
end

section
/- slices.IsSortedFunc of keys. -/
set_option maxRecDepth 100000
attribute [local irreducible] Go.wpStill
namespace Go.Proofs.YtgiefblcckikeaaGreat.M
open Go.RowKit Go.Proofs.YtgiefblcckikeaaGreatW.PrintWords
def kv (x : KeyD) : Int × Int := (x.f0, x.f1)
theorem keyd_get {W : World} {A : Option Addr} {n : Nat} {l : List KeyD} (h : Kd.C G.k101 W A n l) {k : Nat} {x : KeyD} (hk : l[k]? = some x) :
  ∃ ad, A = some ad ∧ W.cell? (ad.add (k * 2)) = some (.int .i32 x.f0) ∧ W.cell? ⟨(ad.add (k * 2)).block, (ad.add (k * 2)).off + 1, none⟩ = some (.int .i64 x.f1) := by
 have hlt : k < n := by
  have := (List.getElem?_eq_some_iff.1 hk).1
  have := h.1
  omega
 obtain ⟨ad, c, rfl, hcl, hK, hcc⟩ := Kd.C_get h G.z101 (k : Int) (by omega) (by omega)
 have e : l.getD (k : Int).toNat G.z101 = x := by rw [Int.toNat_natCast, List.getD_eq_getElem?_getD, hk]; rfl
 rw [e] at hK
 rw [Int.toNat_natCast] at hcc
 have hc := G.k101_open hK
 have hs : G.k101.sz = 2 := rfl
 rw [hs] at hcc
 refine ⟨ad, rfl, by simpa using hcc 0 _ (by rw [hc]; rfl), ?_⟩
 rw [← add_field ad (k * 2) 1 (by omega)]; exact hcc 1 _ (by rw [hc]; rfl)
def ndFrom (l : List KeyD) (i : Nat) : Prop := ∀ (j : Nat) (x y : KeyD), i ≤ j → l[j]? = some x → l[j + 1]? = some y → kLt (kv y) (kv x) = false
def SoI (l : List KeyD) (w : World) (i : Value) (wr : World) : Prop := ∃ k : Int, i = .int .i64 k ∧ k < l.length ∧ -1 ≤ k ∧ ndFrom l k.toNat ∧ Below w.heap.size w wr
def SoV (l : List KeyD) (w : World) (e : Ending) (w' : World) : Prop := ∃ b : Bool, e = .returned (.bool b) ∧ (b = true ↔ ndFrom l 0) ∧ Below w.heap.size w w'
set_option maxHeartbeats 1000000 in
theorem sorted_is (A : Option Addr) (c : Nat) (l : List KeyD) (w : World) (hr : Kd.C G.k101 w A l.length l) :
  Calls Tryz.prog 73 #[.slice A l.length c, .func (.func 74) #[] #[]] w fun e w' => SoV l w e w' := by
 have hn : l.length ≤ 9223372036854775807 := hr.2.1
 have HR := Lib.hid hr
 clear hr
 go_enter Tryz.func73, Tryz.ntmps73
 go_wp2_with fail
 go_loopw [5] (fun i wr => SoI l w i wr) (fun i _ => (intOf i).toNat)
 case atStart =>
  refine ⟨(l.length : Int) - 1, rfl, by omega, by omega, fun j x y hj hx hy => ?_, Below.refl _ _⟩
  have := (List.getElem?_eq_some_iff.1 hy).1
  omega
 case round =>
  obtain ⟨k, rfl, hk, hk0, hnd, hb⟩ := hrel
  have HND := Lib.hid hnd; have HBr := Lib.hid hb
  clear hnd hb
  by_cases hlt : 0 < k
  ·obtain ⟨m, rfl⟩ : ∃ m : Nat, k = (m : Int) + 1 := ⟨(k - 1).toNat, by omega⟩
   obtain ⟨y, hy⟩ : ∃ y, l[m + 1]? = some y := ⟨_, List.getElem?_eq_getElem (by omega)⟩
   obtain ⟨x, hx⟩ : ∃ x, l[m]? = some x := ⟨_, List.getElem?_eq_getElem (by omega)⟩
   have hC := Kd.C_below HR.out HBr.out
   obtain ⟨ad, rfl, hy0, hy1⟩ := keyd_get hC hy
   obtain ⟨ad', e', hx0, hx1⟩ := keyd_get hC hx
   cases e'
   have HX := Lib.hid hx; have HY := Lib.hid hy
   have e1 : ((m : Int) + 1).toNat = m + 1 := by omega
   have e2 : IntKind.i64.wrap (m : Int) = (m : Int) := by rw [IntKind.wrap_i64]; omega
   have e3 : ((m : Int)).toNat = m := by omega
   have g0 : (0 : Int) ≤ (m : Int) + 1 := by omega
   have g1 : (m : Int) + 1 < (l.length : Int) := by omega
   have g2 : (m : Int) < (l.length : Int) := by omega
   have g3 : (0 : Int) ≤ (m : Int) := by omega
   clear hC hx hy
   go_wp2_with fail
   refine wp_region_still_tail 10 (by kernel_rfl) (by kernel_rfl) ?_
   simp only [List.take_succ_cons, List.take_zero, List.drop_succ_cons, List.drop_zero]
   iterate 10 still_step
   refine wpStill_nil ?_
   change wpList _ _ _ _ _ wr.drew
   go_wp2_with fail
   refine (compare_is (kv y) (kv x) _).mono ?_
   rintro e w' ⟨rfl, hb⟩
   have HB2 := Lib.hid (show Below w.heap.size w w' from (HBr.out.drew).trans (hb.mono (by simpa using HBr.out.size)))
   have HNG := Lib.hid (cmpK_neg (kv y) (kv x))
   obtain ⟨r, hr⟩ : ∃ r, cmpK (kv y) (kv x) = r := ⟨_, rfl⟩
   rw [hr] at HNG ⊢
   clear hr hb
   by_cases hr0 : r < 0
   ·have hrb : decide (r < 0) = true := decide_eq_true hr0
    have HN := Lib.hid (show ¬ ndFrom l 0 from fun h => by
     have := h m x y (Nat.zero_le _) HX.out HY.out
     rw [HNG.out.1 hr0] at this
     cases this)
    clear hr0
    go_wp2_with fail
    go_ret
    exact ⟨false, rfl, ⟨(fun h => by cases h), fun h => absurd h HN.out⟩, HB2.out⟩
   ·have hrb : decide (r < 0) = false := decide_eq_false hr0
    have HN := Lib.hid (show ndFrom l m from fun j a b hj ha hb => by
     rcases Nat.lt_or_ge m j with h | h
     ·exact HND.out j a b (by omega) ha hb
     ·obtain rfl : j = m := by omega
      rw [HX.out] at ha
      rw [HY.out] at hb
      cases ha
      cases hb
      rw [← Bool.not_eq_true]
      exact fun e => hr0 (HNG.out.2 e))
    clear hr0
    go_wp2_with fail
    go_roundw
    case rel => exact ⟨m, rfl, by omega, by omega, HN.out, HB2.out⟩
    case measure => simp [intOf]
  ·have hlt' : decide (0 < k) = false := decide_eq_false hlt
   have HN := Lib.hid (show ndFrom l 0 by have := HND.out; rwa [show k.toNat = 0 by omega] at this)
   clear hlt
   go_wp2_with fail
   go_ret
   exact ⟨true, rfl, ⟨fun _ => HN.out, fun _ => rfl⟩, HBr.out⟩
end Go.Proofs.YtgiefblcckikeaaGreat.M
end

section
/- slices.Clone of numbers and of keys. -/
set_option maxRecDepth 100000
namespace Go.Proofs.YtgiefblcckikeaaGreat.M
open Go.RowKit Go.Proofs.YtgiefblcckikeaaGreatW.PrintWords Go.Proofs.YtgiefblcckikeaaGreatW.PrintLast Go.Proofs.YtgiefblcckikeaaGreatW.PrintMore
theorem C_none' {α : Type} {d : Kd α} {w : World} {n : Nat} {xs : List α} (h : Kd.C d w none n xs) : n = 0 ∧ xs = [] := by
 have hn : n = 0 := by
  rcases Nat.eq_zero_or_pos n with h0 | h0
  ·exact h0
  ·obtain ⟨ad, e, _⟩ := h.2.2 h0
   cases e
 exact ⟨hn, List.eq_nil_of_length_eq_zero (h.1.trans hn)⟩
theorem R_empty {α : Type} (d : Kd α) (e : Nat) (w : World) : Kd.R d e (w.alloc (.cells #[] e)) w.heap.size (fun _ => True) (.slice (some ⟨w.heap.size, 0, none⟩) 0 0) [] := by
 refine ⟨fun _ _ => trivial, [], ?_, ?_⟩
 ·exact ⟨by simp, .inr ⟨w.heap.size, 0, #[], rfl, Nat.le_refl _, heap_alloc_new w _, Nat.le_refl _, Nat.zero_le _, by simp, by simp⟩⟩
 ·exact Reps.none _ _
theorem infoI64 : (Tryz.prog.info? 2).map (fun i => (i.zero, i.size, i.bytes)) = some (some (.int .i64 0), 1, 8) := by kernel_rfl
theorem infoKey : (Tryz.prog.info? 101).map (fun i => (i.zero, i.size, i.bytes)) = some (some (.agg #[.int .i32 0, .int .i64 0]), 2, 16) := by kernel_rfl
theorem clone_ints (A : Option Addr) (c : Nat) (l : List Int) (w : World) (hr : Kd.C (Kd.int .i64) w A l.length l) (hc : l.length ≤ c) (hl : l.length < 17592186044416) :
  Calls Tryz.prog 136 #[.slice A l.length c] w fun e w' => ∃ v0_ : Value, e = .returned v0_ ∧ Kd.R (Kd.int .i64) 2 w' w.heap.size (fun _ => True) v0_ l ∧ Below w.heap.size w w' := by
 have qT : ∀ (w : World) (a : Option Addr) (n c n' c' : Nat), (binOp .eql 24 (.slice a n c) (.slice none n' c')).run Tryz.prog w = .ok (.bool a.isNone) w := fun w a n c n' c' => Lib.run_eql_slice_nil w _ _ a n c n' c' Tryz.underlying24
 have HR := Aside0.mk hr
 have HL := Aside0.mk hl
 clear hr hl
 rcases A with _ | ad
 ·obtain ⟨_, rfl⟩ := C_none' HR.out
  go_enter Tryz.func136, Tryz.ntmps136
  go_wp2
  go_ret
  exact ⟨_, rfl, Kd.R_nil _ _ _ _ _, Below.refl _ _⟩
 ·go_enter Tryz.func136, Tryz.ntmps136
  have HE := Aside0.mk (R_empty (Kd.int .i64) 2 w)
  go_wp2_with ((with_reducible refine gate_builtin (b := .append) (xs := #[.tmp 5, .tmp 6]) rfl ?_); at_builtin; refine Kd.R_append_rows (Kd.int .i64) (w0 := w) w.heap.size rfl (.tmp 5) (.tmp 6) 24 2 (.int .i64 0) 8 rfl Tryz.underlying24 infoI64 rfl (by decide) (by omega) _ ([] : List Int) l _ _ _ (fun _ => True) (fun _ => False) rfl rfl HE.out (Kd.C_alloc HR.out _) (fun _ _ h => h) (fun _ h => h.elim) (fun _ _ => trivial) ((Below.refl _ _).alloc (Nat.le_refl _) _) (by simp) (by have := HL.out; simp; omega) ?_; intro v1 w1 ho hb _ _)
  go_ret
  exact ⟨_, rfl, ho, hb⟩
theorem clone_keys (A : Option Addr) (c : Nat) (l : List (G.S101)) (w : World) (hr : Kd.C G.k101 w A l.length l) (hc : l.length ≤ c) (hl : l.length < 8796093022208) :
  Calls Tryz.prog 79 #[.slice A l.length c] w fun e w' => ∃ v0_ : Value, e = .returned v0_ ∧ Kd.R G.k101 101 w' w.heap.size (fun _ => True) v0_ l ∧ Below w.heap.size w w' := by
 have qT : ∀ (w : World) (a : Option Addr) (n c n' c' : Nat), (binOp .eql 22 (.slice a n c) (.slice none n' c')).run Tryz.prog w = .ok (.bool a.isNone) w := fun w a n c n' c' => Lib.run_eql_slice_nil w _ _ a n c n' c' Tryz.underlying22
 have HR := Aside0.mk hr
 have HL := Aside0.mk hl
 clear hr hl
 rcases A with _ | ad
 ·obtain ⟨_, rfl⟩ := C_none' HR.out
  go_enter Tryz.func79, Tryz.ntmps79
  go_wp2
  go_ret
  exact ⟨_, rfl, Kd.R_nil _ _ _ _ _, Below.refl _ _⟩
 ·go_enter Tryz.func79, Tryz.ntmps79
  have HE := Aside0.mk (R_empty G.k101 101 w)
  go_wp2_with ((with_reducible refine gate_builtin (b := .append) (xs := #[.tmp 5, .tmp 6]) rfl ?_); at_builtin; refine Kd.R_append_rows G.k101 (w0 := w) w.heap.size rfl (.tmp 5) (.tmp 6) 22 101 (.agg #[.int .i32 0, .int .i64 0]) 16 rfl Tryz.underlying22 infoKey rfl (by decide) (by omega) _ ([] : List (G.S101)) l _ _ _ (fun _ => True) (fun _ => False) rfl rfl HE.out (Kd.C_alloc HR.out _) (fun x cs h => (by rw [G.k101_open h]; exact G.k101_mkM _ _ _ _)) (fun _ h => h.elim) (fun _ _ => trivial) ((Below.refl _ _).alloc (Nat.le_refl _) _) (by simp) (by have := HL.out; simp; omega) ?_; intro v1 w1 ho hb _ _)
  go_ret
  exact ⟨_, rfl, ho, hb⟩
end Go.Proofs.YtgiefblcckikeaaGreat.M
namespace Go.Proofs.YtgiefblcckikeaaGreat.G
open Go.RowKit Go.Proofs.YtgiefblcckikeaaGreatW.PrintWords Go.Proofs.YtgiefblcckikeaaGreat.M
def slices_Clone_int64_int64.f (l0 : List Int) : Option (List Int) := if l0.length < 17592186044416 then some l0 else none
theorem slices_Clone_int64_int64.calls (A0 : Option Addr) (c0 : Nat) (l0 : List Int) (r : List Int) (w : World) (hr0 : Kd.C (Kd.int .i64) w A0 l0.length l0) (hc0 : l0.length ≤ c0) (h : slices_Clone_int64_int64.f l0 = some r) :
  Calls Tryz.prog 136 #[.slice A0 l0.length c0] w fun e w' => ∃ v0_ : Value, e = .returned v0_ ∧ Kd.R (Kd.int .i64) 2 w' w.heap.size (fun _ => True) v0_ r ∧ Below w.heap.size w w' := by
 unfold slices_Clone_int64_int64.f at h
 split at h
 ·obtain rfl := Option.some.inj h
  exact clone_ints A0 c0 l0 w hr0 hc0 (by assumption)
 ·cases h
def api_Key_79.f (l0 : List S101) : Option (List S101) := if l0.length < 8796093022208 then some l0 else none
theorem api_Key_79.calls (A0 : Option Addr) (c0 : Nat) (l0 : List S101) (r : List S101) (w : World) (hr0 : Kd.C k101 w A0 l0.length l0) (hc0 : l0.length ≤ c0) (h : api_Key_79.f l0 = some r) :
  Calls Tryz.prog 79 #[.slice A0 l0.length c0] w fun e w' => ∃ v0_ : Value, e = .returned v0_ ∧ Kd.R k101 101 w' w.heap.size (fun _ => True) v0_ r ∧ Below w.heap.size w w' := by
 unfold api_Key_79.f at h
 split at h
 ·obtain rfl := Option.some.inj h
  exact clone_keys A0 c0 l0 w hr0 hc0 (by assumption)
 ·cases h
end Go.Proofs.YtgiefblcckikeaaGreat.G
end

section
/- What has turned lies in the blocks of S, or is new. -/
namespace Go.Proofs.YtgiefblcckikeaaGreat.M
open Go.RowKit Go.Proofs.YtgiefblcckikeaaGreatW.PrintWords
structure KeepS (S : Nat → Prop) (w w' : World) : Prop where
 os : w'.os = w.os
 tape : w'.tape = w.tape
 output : w'.output = w.output
 size : w.heap.size ≤ w'.heap.size
 block : ∀ i, i < w.heap.size → ¬ S i → w'.heap[i]? = w.heap[i]?
namespace KeepS
variable {S S' : Nat → Prop} {x y z : World}
theorem refl (S : Nat → Prop) (w : World) : KeepS S w w := ⟨rfl, rfl, rfl, Nat.le_refl _, fun _ _ _ => rfl⟩
theorem trans (h : KeepS S x y) (k : KeepS S y z) : KeepS S x z :=
 ⟨k.os.trans h.os, k.tape.trans h.tape, k.output.trans h.output, Nat.le_trans h.size k.size, fun i hi hs => (k.block i (Nat.lt_of_lt_of_le hi h.size) hs).trans (h.block i hi hs)⟩
theorem mono (h : KeepS S x y) (hs : ∀ i, S i → S' i) : KeepS S' x y := ⟨h.os, h.tape, h.output, h.size, fun i hi hn => h.block i hi (fun e => hn (hs i e))⟩
theorem of_below (S : Nat → Prop) (h : Below x.heap.size x y) : KeepS S x y := ⟨h.os, h.tape, h.output, h.size, fun i hi _ => h.block i hi⟩
theorem of_grown {row : Option Nat} (h : x.grownBy y row) (hs : ∀ i, row = some i → S i) : KeepS S x y := ⟨h.os, h.tape, h.output, h.size, fun i hi hn => h.block i hi (fun e => hn (hs i e.symm))⟩
theorem then_below (h : KeepS S x y) (k : Below y.heap.size y z) : KeepS S x z := h.trans (of_below S k)
theorem then_base (h : KeepS S x y) (k : Below x.heap.size y z) : KeepS S x z :=
 ⟨k.os.trans h.os, k.tape.trans h.tape, k.output.trans h.output, Nat.le_trans h.size k.size, fun i hi hs => (k.block i hi).trans (h.block i hi hs)⟩
theorem set (h : KeepS S x y) {p : Addr} (hp : S p.block ∨ x.heap.size ≤ p.block) (v : Value) : KeepS S x (y.setCell p v) :=
 ⟨h.os, h.tape, h.output, by simpa [World.setCell] using h.size, fun i hi hn => (Below.heap_setCell y p v i (by rcases hp with hp | hp; exact fun e => hn (e ▸ hp); exact fun e => by omega)).trans (h.block i hi hn)⟩
theorem alloc (h : KeepS S x y) (o : Obj) : KeepS S x (y.alloc o) := h.then_below ((Below.refl _ y).alloc (Nat.le_refl _) o)
theorem drew (h : KeepS S x y) : KeepS S x y.drew := ⟨h.os, h.tape, h.output, h.size, h.block⟩
theorem drewN (h : KeepS S x y) (n : Nat) : KeepS S x (y.drewN n) := ⟨h.os, h.tape, h.output, h.size, h.block⟩
theorem cell (h : KeepS S x y) {p : Addr} (hp : p.block < x.heap.size) (hs : ¬ S p.block) : y.cell? p = x.cell? p := World.cell?_of_block (h.block p.block hp hs)
theorem frozen (h : KeepS S x y) {p : Addr} (hp : p.block < x.heap.size) (hs : ¬ S p.block) : y.frozen? p = x.frozen? p := World.frozen?_of_block (h.block p.block hp hs)
theorem below (h : KeepS S x y) {B : Nat} (hB : B ≤ x.heap.size) (hs : ∀ i, S i → B ≤ i) : Below B x y :=
 ⟨h.os, h.tape, h.output, h.size, fun i hi => h.block i (Nat.lt_of_lt_of_le hi hB) (fun e => by have := hs i e; omega)⟩
end KeepS
end Go.Proofs.YtgiefblcckikeaaGreat.M
end

section
/- slices.Compact of keys in memory of their own; record.keys. -/
set_option maxRecDepth 100000
attribute [local irreducible] Go.wpStill
namespace Go.Proofs.YtgiefblcckikeaaGreat.M
open Go.RowKit Go.Proofs.YtgiefblcckikeaaGreatW.PrintWords
theorem eq_i32 (d : Nat) (a b : Int) (w : World) : (Op.equalIn (d + 1) 21 (.int .i32 a) (.int .i32 b)).run Tryz.prog w = .ok (a == b) w := by
 have hu := Tryz.underlying21
 simp [Op.equalIn, go_sem, hu]
theorem eq_i64 (d : Nat) (a b : Int) (w : World) : (Op.equalIn (d + 1) 2 (.int .i64 a) (.int .i64 b)).run Tryz.prog w = .ok (a == b) w := by
 have hu := Tryz.underlying2
 simp [Op.equalIn, go_sem, hu]
theorem eq_key (d : Nat) (a b : Int × Int) (w : World) : (Op.equalIn (d + 2) 101 (.agg #[.int .i32 a.1, .int .i64 a.2]) (.agg #[.int .i32 b.1, .int .i64 b.2])).run Tryz.prog w = .ok (a.1 == b.1 && a.2 == b.2) w := by
 refine eqA_of Tryz.underlying101 (by kernel_rfl) ?_
 simp only
 refine eqf_cons (by rfl) ?_ ?_ (eq_i32 _ _ _ _) (eqf_end (by rfl) ?_ ?_ (eq_i64 _ _ _ _) eqf_nil)
 all_goals simp only [part]
 all_goals go_simp
theorem eqk_self (k : KeyD) (w : World) : (Op.equalIn 10000 101 (.agg #[.int .i32 k.f0, .int .i64 k.f1]) (.agg #[.int .i32 k.f0, .int .i64 k.f1])).run Tryz.prog w = .ok true w := by
 have := eq_key 9998 (kv k) (kv k) w
 simpa [kv] using this
theorem eqk_ne {a b : KeyD} (h : a ≠ b) (w : World) : (Op.equalIn 10000 101 (.agg #[.int .i32 a.f0, .int .i64 a.f1]) (.agg #[.int .i32 b.f0, .int .i64 b.f1])).run Tryz.prog w = .ok false w := by
 have := eq_key 9998 (kv a) (kv b) w
 simp only [kv] at this
 rw [this]
 congr 1
 simp only [Bool.and_eq_false_iff, beq_eq_false_iff_ne]
 by_cases e : a.f0 = b.f0
 ·refine .inr (fun e2 => h ?_)
  cases a; cases b
  simp only at e e2
  rw [e, e2]
 ·exact .inl e
def KRow (W : World) (b : Nat) (l : List KeyD) : Prop := ∃ cells : Array Value, W.heap[b]? = some (.cells cells 101 (0, 0)) ∧ l.length * 2 ≤ cells.size ∧ ∀ (j : Nat) (x : KeyD), l[j]? = some x → cells[j * 2]? = some (.int .i32 x.f0) ∧ cells[j * 2 + 1]? = some (.int .i64 x.f1)
theorem KRow.move {W W' : World} {b : Nat} {l : List KeyD} (h : KRow W b l) (hb : W'.heap[b]? = W.heap[b]?) : KRow W' b l := by
 obtain ⟨c, h1, h2, h3⟩ := h
 exact ⟨c, hb.trans h1, h2, h3⟩
theorem KRow.lt {W : World} {b : Nat} {l : List KeyD} (h : KRow W b l) : b < W.heap.size := by
 obtain ⟨c, h1, _⟩ := h
 exact (Array.getElem?_eq_some_iff.1 h1).1
theorem KRow.get {W : World} {b : Nat} {l : List KeyD} (h : KRow W b l) {j : Nat} {x : KeyD} (hj : l[j]? = some x) {o : Nat} (ho : o = j * 2) : W.cell? ⟨b, o, none⟩ = some (.int .i32 x.f0) ∧ W.cell? ⟨b, o + 1, none⟩ = some (.int .i64 x.f1) ∧ W.frozen? ⟨b, o, none⟩ = false ∧ W.frozen? ⟨b, o + 1, none⟩ = false := by
 obtain ⟨c, h1, h2, h3⟩ := h
 obtain ⟨h4, h5⟩ := h3 j x hj
 subst ho
 simp [World.cell?, World.frozen?, h1, h4, h5]
theorem heap_same (W : World) (a : Addr) (v : Value) {cs : Array Value} {e : TypeId} {z : Nat × Nat} (h : W.heap[a.block]? = some (.cells cs e z)) (hs : a.spot = none) : (W.setCell a v).heap[a.block]? = some (.cells (cs.setIfInBounds a.off v) e z) := by
 simp only [World.setCell, Array.getElem?_modify, if_true, h, hs]
 rfl
theorem KRow.set {W : World} {b : Nat} {l : List KeyD} (h : KRow W b l) {k : Nat} (hk : k < l.length) (x : KeyD) : KRow ((W.setCell ⟨b, k * 2, none⟩ (.int .i32 x.f0)).setCell ⟨b, k * 2 + 1, none⟩ (.int .i64 x.f1)) b (l.set k x) := by
 obtain ⟨c, h1, h2, h3⟩ := h
 have e1 := heap_same W ⟨b, k * 2, none⟩ (.int .i32 x.f0) h1 rfl
 have e2 := heap_same _ ⟨b, k * 2 + 1, none⟩ (.int .i64 x.f1) e1 rfl
 refine ⟨_, e2, by simpa using h2, fun j y hy => ?_⟩
 simp only [Array.getElem?_setIfInBounds]
 rw [List.getElem?_set] at hy
 by_cases e : k = j
 ·subst e
  rw [if_pos rfl, if_pos hk] at hy
  obtain rfl := Option.some.inj hy
  have s1 : k * 2 < c.size := by omega
  have s2 : k * 2 + 1 < c.size := by omega
  constructor
  ·rw [if_neg (by omega), if_pos rfl, if_pos s1]
  ·rw [if_pos rfl, if_pos (by simpa using s2)]
 ·rw [if_neg e] at hy
  obtain ⟨h4, h5⟩ := h3 j y hy
  constructor
  ·rw [if_neg (by omega), if_neg (by omega)]; exact h4
  ·rw [if_neg (by omega), if_neg (by omega)]; exact h5
theorem keep_setCells (b : Nat) : ∀ (vs : List Value) (o : Nat) (w : World), KeepS (fun i => i = b) w (w.setCells b o vs)
 | [], _, _ => KeepS.refl _ _
 | v :: vs, o, w => ((KeepS.refl (fun i => i = b) w).set (p := ⟨b, o, none⟩) (.inl rfl) v).trans (keep_setCells b vs (o + 1) _)
theorem zeroKey (u : World) : (zeroValue 101).run Tryz.prog u = .ok (.agg #[.int .i32 0, .int .i64 0]) u := by kernel_rfl
theorem clear_is {W : World} {b : Nat} {l : List KeyD} (h : KRow W b l) {k n c : Nat} (hk : k + n ≤ l.length) (hn : 0 < n) :
  ∃ W', (Builtin.clear_ #[22] 0 #[.slice (some ⟨b, k * 2, none⟩) n c]).run Tryz.prog W = .ok (.tuple #[]) W' ∧ KeepS (fun i => i = b) W W' := by
 obtain ⟨cells, h1, h2, h3⟩ := h
 obtain ⟨m, rfl⟩ : ∃ m, n = m + 1 := ⟨n - 1, by omega⟩
 have hmem : ∀ v ∈ (Builtin.zeroCells #[.int .i32 0, .int .i64 0] (m + 1)).toList, v.oneCell' = true := by
  intro v hv
  unfold Builtin.zeroCells at hv
  simp only [Array.toList_map, List.mem_map] at hv
  obtain ⟨i, _, rfl⟩ := hv
  rcases Nat.mod_two_eq_zero_or_one i with e | e <;> simp [e] <;> rfl
 have hlen : (Builtin.zeroCells #[.int .i32 0, .int .i64 0] (m + 1)).toList.length = (m + 1) * 2 := by
  unfold Builtin.zeroCells
  simp
 have hrun := run_storeCells_cells (P := Tryz.prog) b (k * 2) (Builtin.zeroCells #[.int .i32 0, .int .i64 0] (m + 1)).toList 0 W
  (fun j hj => by
   rw [hlen] at hj
   have hc : k * 2 + 0 + j < cells.size := by omega
   have hc' : k * 2 + j < cells.size := by omega
   simp [World.cell?, h1, hc'])
  (fun j hj => by simp [World.frozen?, h1]) hmem
 have hu : ∀ u : World, (underlying 22).run Tryz.prog u = .ok (.slice 101) u := fun u => by
  unfold underlying
  simp [go_sem, Tryz.underlying22]
 have hr2 : (Builtin.clear_ #[22] 0 #[.slice (some ⟨b, k * 2, none⟩) (m + 1) c]).run Tryz.prog W = .ok (.tuple #[]) (W.setCells b (k * 2 + 0) (Builtin.zeroCells #[.int .i32 0, .int .i64 0] (m + 1)).toList) := by
  unfold Builtin.clear_
  simp [go_sem, hu, zeroKey, hrun, Value.cells]
 exact ⟨_, hr2, keep_setCells b _ _ W⟩
def distUpto (l : List KeyD) (k : Nat) : Prop := ∀ (j : Nat) (x y : KeyD), j + 1 < k → l[j]? = some x → l[j + 1]? = some y → x ≠ y
def CoV (b n : Nat) (l : List KeyD) (w : World) (e : Ending) (w' : World) : Prop := ∃ (A : Option Addr) (m c : Nat), e = .returned (.slice A m c) ∧ (m = n ↔ distUpto l n) ∧ KeepS (fun i => i = b) w w'
def CoI (b : Nat) (l : List KeyD) (w : World) (i : Value) (wr : World) : Prop := ∃ k : Nat, i = .int .i64 k ∧ 1 ≤ k ∧ k ≤ l.length ∧ distUpto l k ∧ Below w.heap.size w wr
def CoJ (b k0 : Nat) (l : List KeyD) (w : World) (k i : Value) (wr : World) : Prop := ∃ (k1 k2 : Nat) (ys : List KeyD), k = .int .i64 k1 ∧ i = .int .i64 k2 ∧ 1 ≤ k2 ∧ k0 + k2 ≤ l.length ∧ k0 ≤ k1 ∧ k1 + 1 ≤ k0 + k2 ∧ KRow wr b ys ∧ ys.length = l.length ∧ KeepS (fun i => i = b) w wr
theorem compact_small (A : Option Addr) (n c : Nat) (w : World) (h2 : n < 2) :
  Calls Tryz.prog 78 #[.slice A n c] w fun e w' => e = .returned (.slice A n c) ∧ w' = w := by
 have h2b : decide ((n : Int) < 2) = true := decide_eq_true (by omega)
 clear h2
 go_enter Tryz.func78, Tryz.ntmps78
 go_wp2_with fail
 go_ret
 exact ⟨rfl, rfl⟩
set_option maxHeartbeats 1000000 in
theorem compact_is (b c : Nat) (l : List KeyD) (w : World) (hr : KRow w b l) (hc : l.length ≤ c) (hn : l.length ≤ 16) :
  Calls Tryz.prog 78 #[.slice (some ⟨b, 0, none⟩) l.length c] w fun e w' => CoV b l.length l w e w' := by
 have HR := Lib.hid hr; have HC := Lib.hid hc
 clear hr
 by_cases h2 : l.length < 2
 ·have h2b : decide ((l.length : Int) < 2) = true := decide_eq_true (by omega)
  have HD := Lib.hid (show distUpto l l.length from fun j x y hj _ _ => by omega)
  clear h2
  go_enter Tryz.func78, Tryz.ntmps78
  go_wp2_with fail
  go_ret
  exact ⟨_, _, _, rfl, ⟨fun _ => HD.out, fun _ => rfl⟩, KeepS.refl _ _⟩
 ·have h2b : decide ((l.length : Int) < 2) = false := decide_eq_false (by omega)
  have H2 := Lib.hid (show 2 ≤ l.length by omega)
  clear h2
  go_enter Tryz.func78, Tryz.ntmps78
  go_wp2_with fail
  go_loopw [3] (fun i wr => CoI b l w i wr) (fun i _ => l.length - (intOf i).toNat)
  case atStart => exact ⟨1, rfl, Nat.le_refl _, by have := H2.out; omega, fun j x y hj _ _ => by omega, Below.refl _ _⟩
  case round =>
   obtain ⟨k, rfl, hk1, hkn, hd, hb⟩ := hrel
   have HD := Lib.hid hd; have HBr := Lib.hid hb
   have HRr := Lib.hid (HR.out.move (hb.block b HR.out.lt))
   clear hd hb
   by_cases hlt : k < l.length
   ·obtain ⟨m, rfl⟩ : ∃ m, k = m + 1 := ⟨k - 1, by omega⟩
    obtain ⟨y, hy⟩ : ∃ y, l[m + 1]? = some y := ⟨_, List.getElem?_eq_getElem hlt⟩
    obtain ⟨x, hx⟩ : ∃ x, l[m]? = some x := ⟨_, List.getElem?_eq_getElem (by omega)⟩
    obtain ⟨y0, y1, _, _⟩ := HRr.out.get hy rfl
    obtain ⟨x0, x1, _, _⟩ := HRr.out.get hx rfl
    have HX := Lib.hid hx; have HY := Lib.hid hy
    clear hx hy
    have e2 : IntKind.i64.wrap (m : Int) = (m : Int) := by rw [IntKind.wrap_i64]; omega
    have e3 : ((m : Int) + 1).toNat = m + 1 := by omega
    have g0 : (0 : Int) ≤ (m : Int) + 1 := by omega
    have g1 : (m : Int) + 1 < (l.length : Int) := by omega
    have g2 : (m : Int) < (l.length : Int) := by omega
    by_cases hk : y = x
    ·have hq : ∀ W : World, (Op.equalIn 10000 101 (.agg #[.int .i32 y.f0, .int .i64 y.f1]) (.agg #[.int .i32 x.f0, .int .i64 x.f1])).run Tryz.prog W = .ok true W := fun W => by rw [hk]; exact eqk_self x W
     have HK := Lib.hid hk
     clear hk
     go_wp2_with fail
     refine wp_region_still_tail 9 (by kernel_rfl) (by kernel_rfl) ?_
     simp only [List.take_succ_cons, List.take_zero, List.drop_succ_cons, List.drop_zero]
     iterate 9 still_step
     refine wpStill_nil ?_
     change wpList _ _ _ _ _ wr.drew
     have hcm : ¬ c = m + 1 := by have := HC.out; omega
     have HRd := Lib.hid (HRr.out.move (W' := wr.drew) rfl)
     have HBd := Lib.hid (HBr.out.drew)
     obtain ⟨w5, hw5⟩ : ∃ w5, wr.drew = w5 := ⟨_, rfl⟩
     rw [hw5] at HRd HBd ⊢
     clear hw5 y0 y1 x0 x1
     go_wp2_with fail
     obtain ⟨n2, hn2⟩ : ∃ n2, l.length - (m + 1) = n2 := ⟨_, rfl⟩
     have HN2 := Lib.hid hn2
     rw [hn2]
     have hnm : n2 ≤ 16 := by omega
     clear hn2
     go_loopw [3, 5] (fun k i wq => CoJ b (m + 1) l w k i wq) (fun _ i _ => l.length - (intOf i).toNat)
     case atStart => exact ⟨m + 1, 1, l, by go_num, rfl, by omega, by omega, by omega, by omega, HRd.out, rfl, KeepS.of_below _ HBd.out⟩
     case round =>
      obtain ⟨k1, k2, ys, rfl, rfl, hk2, hkl, hk01, hk12, hys, hyl, hks⟩ := hrel
      have HYS := Lib.hid hys; have HKS := Lib.hid hks; have HYL := Lib.hid hyl
      clear hys hks hyl
      by_cases hl2 : k2 < n2
      ·obtain ⟨q, rfl⟩ : ∃ q, k2 = q + 1 := ⟨k2 - 1, by omega⟩
       obtain ⟨u, hu⟩ : ∃ u, ys[m + 1 + (q + 1)]? = some u := ⟨_, List.getElem?_eq_getElem (by have := HYL.out; have := HN2.out; omega)⟩
       obtain ⟨v, hv⟩ : ∃ v, ys[m + 1 + q]? = some v := ⟨_, List.getElem?_eq_getElem (by have := HYL.out; omega)⟩
       obtain ⟨u0, u1, _, _⟩ := HYS.out.get hu (o := (m + 1) * 2 + (q + 1) * 2) (by omega)
       obtain ⟨v0, v1, _, _⟩ := HYS.out.get hv (o := (m + 1) * 2 + q * 2) (by omega)
       have HU := Lib.hid hu
       have e4 : IntKind.i64.wrap (q : Int) = (q : Int) := by rw [IntKind.wrap_i64]; omega
       have e5 : ((q : Int) + 1).toNat = q + 1 := by omega
       have g3 : (0 : Int) ≤ (q : Int) + 1 := by omega
       have g4 : (q : Int) + 1 < (n2 : Int) := by omega
       have g5 : (q : Int) < (n2 : Int) := by omega
       have g6 : (0 : Int) ≤ (k1 : Int) := by omega
       have hk1l : k1 < l.length := by have := HN2.out; omega
       have g7 : (k1 : Int) < (l.length : Int) := by omega
       clear hu hv
       by_cases huv : u = v
       ·have hq2 : ∀ W : World, (Op.equalIn 10000 101 (.agg #[.int .i32 u.f0, .int .i64 u.f1]) (.agg #[.int .i32 v.f0, .int .i64 v.f1])).run Tryz.prog W = .ok true W := fun W => by rw [huv]; exact eqk_self v W
        clear huv
        go_wp2_with fail
        refine wp_region_still_tail 9 (by kernel_rfl) (by kernel_rfl) ?_
        simp only [List.take_succ_cons, List.take_zero, List.drop_succ_cons, List.drop_zero]
        iterate 9 still_step
        refine wpStill_nil ?_
        change wpList _ _ _ _ _ wr.drew
        go_wp2_with fail
        go_roundw
        case rel => exact ⟨k1, q + 1 + 1, ys, rfl, by go_num, by omega, by have := HN2.out; omega, hk01, by omega, HYS.out.move rfl, HYL.out, HKS.out.drew⟩
        case measure => simp [intOf]; have := HN2.out; omega
       ·have hq2 : ∀ W : World, (Op.equalIn 10000 101 (.agg #[.int .i32 u.f0, .int .i64 u.f1]) (.agg #[.int .i32 v.f0, .int .i64 v.f1])).run Tryz.prog W = .ok false W := fun W => eqk_ne huv W
        clear huv
        obtain ⟨t, ht⟩ : ∃ t, ys[k1]? = some t := ⟨_, List.getElem?_eq_getElem (by have := HYL.out; omega)⟩
        obtain ⟨s0, s1, z0, z1⟩ := HYS.out.get ht (o := k1 * 2) rfl
        clear ht
        go_wp2_with fail
        refine wp_region_still_tail 9 (by kernel_rfl) (by kernel_rfl) ?_
        simp only [List.take_succ_cons, List.take_zero, List.drop_succ_cons, List.drop_zero]
        iterate 9 still_step
        refine wpStill_nil ?_
        change wpList _ _ _ _ _ wr.drew
        go_wp2_with fail
        go_roundw
        case rel =>
         refine ⟨k1 + 1, q + 1 + 1, ys.set k1 u, by go_num, by go_num, by omega, by have := HN2.out; omega, by omega, by omega, ?_, by rw [List.length_set]; exact HYL.out, ?_⟩
         ·exact (HYS.out.move (W' := wr.drew) rfl).set (by have := HYL.out; omega) u
         ·exact (HKS.out.drew.set (p := ⟨b, k1 * 2, none⟩) (.inl rfl) _).set (p := ⟨b, k1 * 2 + 1, none⟩) (.inl rfl) _
        case measure => simp [intOf]; have := HN2.out; omega
      ·have hk1n : k1 < l.length := by have := HN2.out; omega
       have hk1c : ¬ c = k1 := by have := HC.out; omega
       have g6 : (0 : Int) ≤ (k1 : Int) := by omega
       have g7 : (k1 : Int) ≤ (l.length : Int) := by omega
       have g8 : (k1 : Int) ≤ (c : Int) := by have := HC.out; omega
       obtain ⟨W', hcl, hkp⟩ := clear_is HYS.out (k := k1) (n := l.length - k1) (c := c - k1) (by have := HYL.out; omega) (by omega)
       have HKP := Lib.hid hkp
       clear hkp
       go_wp2_with fail
       go_ret
       refine ⟨_, _, _, rfl, ⟨fun e => by omega, fun h => absurd HK.out.symm (h m x y (by omega) HX.out HY.out)⟩, ?_⟩
       exact HKS.out.trans HKP.out
    ·have hq : ∀ W : World, (Op.equalIn 10000 101 (.agg #[.int .i32 y.f0, .int .i64 y.f1]) (.agg #[.int .i32 x.f0, .int .i64 x.f1])).run Tryz.prog W = .ok false W := fun W => eqk_ne hk W
     have HN := Lib.hid (show distUpto l (m + 1 + 1) from fun j u v hj hu hv => by
      rcases Nat.lt_or_ge j m with h | h
      ·exact HD.out j u v (by omega) hu hv
      ·obtain rfl : j = m := by omega
       rw [HX.out] at hu
       rw [HY.out] at hv
       cases hu
       cases hv
       exact fun e => hk e.symm)
     clear hk
     go_wp2_with fail
     refine wp_region_still_tail 9 (by kernel_rfl) (by kernel_rfl) ?_
     simp only [List.take_succ_cons, List.take_zero, List.drop_succ_cons, List.drop_zero]
     iterate 9 still_step
     refine wpStill_nil ?_
     change wpList _ _ _ _ _ wr.drew
     go_wp2_with fail
     go_roundw
     case rel => exact ⟨m + 1 + 1, by go_num, by omega, by omega, HN.out, HBr.out.drew⟩
     case measure => simp [intOf]; omega
   ·have hkn' : k = l.length := by omega
    have HN := Lib.hid (show distUpto l l.length by have := HD.out; rwa [hkn'] at this)
    clear hkn'
    go_wp2_with fail
    go_ret
    exact ⟨_, _, _, rfl, ⟨fun _ => HN.out, fun _ => rfl⟩, KeepS.of_below _ HBr.out⟩
def risB : List KeyD → Bool
 | a :: b :: r => kLt (kv a) (kv b) && risB (b :: r)
 | _ => true
def mayK (l : List KeyD) : Bool := decide (l.length ≤ 16) && risB l
theorem ris_iff : ∀ l : List KeyD, risB l = true ↔ ∀ (j : Nat) (x y : KeyD), l[j]? = some x → l[j + 1]? = some y → kLt (kv x) (kv y) = true
 | [] => by simp [risB]
 | [a] => by
  simp only [risB, true_iff]
  intro j x y hx hy
  simp at hy
 | a :: b :: r => by
  unfold risB
  rw [Bool.and_eq_true, ris_iff (b :: r)]
  constructor
  ·rintro ⟨h1, h2⟩ j x y hx hy
   cases j with
   | zero =>
    simp only [List.getElem?_cons_zero, Option.some.injEq] at hx
    simp only [Nat.zero_add, List.getElem?_cons_succ, List.getElem?_cons_zero, Option.some.injEq] at hy
    rw [← hx, ← hy]
    exact h1
   | succ j => exact h2 j x y (by simpa using hx) (by simpa using hy)
  ·exact fun h => ⟨h 0 a b rfl rfl, fun j x y hx hy => h (j + 1) x y (by simpa using hx) (by simpa using hy)⟩
theorem kLt_total {x y : Int × Int} (h : kLt x y = false) (k : kLt y x = false) : x = y := by
 unfold kLt at h k
 simp only [Bool.or_eq_false_iff, Bool.and_eq_false_iff, decide_eq_false_iff_not] at h k
 apply Prod.ext <;> omega
theorem kLt_asymm {x y : Int × Int} (h : kLt x y = true) : kLt y x = false := by
 unfold kLt at h ⊢
 simp only [Bool.or_eq_true, Bool.and_eq_true, decide_eq_true_eq] at h
 simp only [Bool.or_eq_false_iff, Bool.and_eq_false_iff, decide_eq_false_iff_not]
 omega
theorem kv_inj {x y : KeyD} (h : kv x = kv y) : x = y := by
 cases x; cases y
 simp only [kv, Prod.mk.injEq] at h
 rw [h.1, h.2]
theorem ris_nd (l : List KeyD) : risB l = true ↔ ndFrom l 0 ∧ distUpto l l.length := by
 rw [ris_iff]
 constructor
 ·exact fun h => ⟨fun j x y _ hx hy => kLt_asymm (h j x y hx hy), fun j x y _ hx hy e => by
   have := h j x y hx hy
   rw [e] at this
   unfold kLt at this
   simp at this⟩
 ·rintro ⟨h1, h2⟩ j x y hx hy
  have hl := (List.getElem?_eq_some_iff.1 hy).1
  rw [← Bool.not_eq_false]
  exact fun h3 => h2 j x y hl hx hy (kv_inj (kLt_total h3 (h1 j x y (Nat.zero_le _) hx hy)))
theorem krow_of {W : World} {base : Nat} {ok : Nat → Prop} {v : Value} {l : List KeyD} (h : Kd.R G.k101 101 W base ok v l) (hl : 0 < l.length) : ∃ (b c : Nat), v = .slice (some ⟨b, 0, none⟩) l.length c ∧ l.length ≤ c ∧ base ≤ b ∧ KRow W b l := by
 obtain ⟨_, inner, ⟨hil, ho⟩, hrep⟩ := h
 rcases ho with ⟨rfl, h0⟩ | ⟨g, cap, cur, rfl, hb, hg, hnc, _, hcs, htk⟩
 ·omega
 ·refine ⟨g, cap, rfl, hnc, hb, cur, hg, ?_, fun j x hj => ?_⟩
  ·have hs : G.k101.sz = 2 := rfl
   rw [hcs, hs]
   omega
  ·have h1 := G.k101_openM (hrep.2 j x hj)
   have hs : G.k101.sz = 2 := rfl
   have hjl := (List.getElem?_eq_some_iff.1 hj).1
   rw [hs] at h1
   have h2 : inner[j * 2]? = some (.int .i32 x.f0) := by
    have := congrArg (fun q => q[0]?) h1
    simpa [List.getElem?_take, List.getElem?_drop] using this
   have h3 : inner[j * 2 + 1]? = some (.int .i64 x.f1) := by
    have := congrArg (fun q => q[1]?) h1
    simpa [List.getElem?_take, List.getElem?_drop] using this
   rw [← htk, hs, List.getElem?_take] at h2 h3
   rw [if_pos (by omega)] at h2 h3
   exact ⟨by simpa using h2, by simpa using h3⟩
set_option maxHeartbeats 1000000 in
theorem keys_is (A : Option Addr) (c : Nat) (l : List KeyD) (w : World) (hr : Kd.C G.k101 w A l.length l) (hc : l.length ≤ c) :
  Calls Tryz.prog 39 #[.slice A l.length c] w fun e w' => e = .returned (.bool (mayK l)) ∧ Below w.heap.size w w' := by
 have HR := Lib.hid hr; have HC := Lib.hid hc
 have HS := Lib.hid (sorted_is A c l w hr)
 clear hr hc
 go_enter Tryz.func39, Tryz.ntmps39
 go_wp2_with fail
 refine HS.out.mono ?_
 rintro e w1 ⟨b, rfl, hb, hb1⟩
 have HB := Lib.hid hb; have HB1 := Lib.hid hb1
 clear hb hb1 HS
 by_cases h16 : l.length ≤ 16
 ·have hq : decide ((l.length : Int) ≤ 16) = true := decide_eq_true (by omega)
  have H16 := Lib.hid h16
  clear h16
  cases b with
  | false =>
   have HM := Lib.hid (show mayK l = false by
    unfold mayK
    have : risB l = false := by
     rw [← Bool.not_eq_true]
     exact fun h => by have := HB.out.2 ((ris_nd l).1 h).1; cases this
    rw [this, Bool.and_false])
   go_wp2_with fail
   go_ret
   exact ⟨by rw [HM.out]; rfl, HB1.out⟩
  | true =>
   have HND := Lib.hid (HB.out.1 rfl)
   go_wp2_with fail
   refine (clone_keys A c l w1 (Kd.C_below HR.out HB1.out) HC.out (by have := H16.out; omega)).mono ?_
   rintro e w2 ⟨v, rfl, hv, hb2⟩
   have HB2 := Lib.hid (HB1.out.trans (hb2.mono HB1.out.size))
   rcases Nat.eq_zero_or_pos l.length with h0 | h0
   ·obtain ⟨A2, c2, rfl⟩ := Kd.R_slice hv
    have HM := Lib.hid (show mayK l = true by
     obtain rfl := List.eq_nil_of_length_eq_zero h0
     rfl)
    have HE := Lib.hid h0
    rw [h0]
    clear hv hb2 h0
    go_wp2_with fail
    refine (compact_small A2 0 c2 w2 (by omega)).mono ?_
    rintro e w3 ⟨rfl, rfl⟩
    go_wp2_with fail
    go_ret
    exact ⟨by rw [HM.out]; rfl, HB2.out⟩
   ·obtain ⟨g, cc, rfl, hcc, hg, hK⟩ := krow_of hv h0
    have HG := Lib.hid hg; have HK := Lib.hid hK; have HCC := Lib.hid hcc
    have HZ := Lib.hid hb2.size
    clear hv hb2 hg hK hcc
    go_wp2_with fail
    refine (compact_is g cc l w2 HK.out HCC.out H16.out).mono ?_
    rintro e w3 ⟨A3, m, c3, rfl, hm, hk⟩
    have HM := Lib.hid (show mayK l = (decide (m = l.length)) by
     unfold mayK
     rw [decide_eq_true H16.out, Bool.true_and, Bool.eq_iff_iff, decide_eq_true_eq, ris_nd, hm]
     exact ⟨fun h => h.2, fun h => ⟨HND.out, h⟩⟩)
    have HBE := Lib.hid (HB2.out.trans (hk.below (B := w.heap.size) HB2.out.size (by have := HG.out; have := HB1.out.size; rintro i rfl; omega)))
    clear hm hk
    go_wp2_with fail
    go_ret
    refine ⟨?_, HBE.out⟩
    rw [HM.out]
    show Ending.returned (.bool ((m : Int) == (l.length : Int))) = _
    congr 2
    rw [Bool.eq_iff_iff, beq_iff_eq, decide_eq_true_eq]
    omega
 ·have hq : decide ((l.length : Int) ≤ 16) = false := decide_eq_false (by omega)
  have HM := Lib.hid (show mayK l = false by unfold mayK; rw [decide_eq_false h16, Bool.false_and])
  clear h16
  go_wp2_with fail
  go_ret
  exact ⟨by rw [HM.out]; rfl, HB1.out⟩
end Go.Proofs.YtgiefblcckikeaaGreat.M
namespace Go.Proofs.YtgiefblcckikeaaGreat.G
open Go.RowKit Go.Proofs.YtgiefblcckikeaaGreatW.PrintWords Go.Proofs.YtgiefblcckikeaaGreat.M
def record_keys.f (l0 : List S101) : Option Bool := some (mayK l0)
theorem record_keys.calls (A0 : Option Addr) (c0 : Nat) (l0 : List S101) (r : Bool) (w : World) (hr0 : Kd.C k101 w A0 l0.length l0) (hc0 : l0.length ≤ c0) (h : record_keys.f l0 = some r) :
  Calls Tryz.prog 39 #[.slice A0 l0.length c0] w fun e w' => e = .returned (.bool r) ∧ Below w.heap.size w w' := by
 obtain rfl := Option.some.inj h
 exact keys_is A0 c0 l0 w hr0 hc0
end Go.Proofs.YtgiefblcckikeaaGreat.G
end

section
-- Written by a program of this session's (wip/gprint.py over the kit's printer).
namespace Go.Proofs.YtgiefblcckikeaaGreat.G
open Go.RowKit Go.Proofs.YtgiefblcckikeaaGreatW.PrintWords Go.Proofs.YtgiefblcckikeaaGreatW.PrintLast Go.Proofs.YtgiefblcckikeaaGreatW.PrintMore
attribute [local go_sem] max2_int min2_int max_two min_two max_three min_three max_four min_four   -- for this text's walks alone
def trivetref04_Less.f (a0_0 : Int) (a0_1 : Int) (a1_0 : Int) (a1_1 : Int) : Option (Bool) := if a0_0 < a1_0 then (some true) else (if a0_0 = a1_0 then (some (decide (a0_1 < a1_1))) else (some false))
set_option maxHeartbeats 8000000 in
set_option maxRecDepth 100000 in
theorem trivetref04_Less.calls (a0_0 : Int) (a0_1 : Int) (a1_0 : Int) (a1_1 : Int) (r : Bool) (w : World) (h : trivetref04_Less.f a0_0 a0_1 a1_0 a1_1 = some r) :
  Calls Tryz.prog 80 #[.agg #[.int .i32 a0_0, .int .i64 a0_1], .agg #[.int .i32 a1_0, .int .i64 a1_1]] w fun e w' => e = .returned (.bool r) ∧ Below w.heap.size w w' := by
 have hu101 := Tryz.underlying101
 have HB := Aside0.mk (Below.refl w.heap.size w)
 have H : (if a0_0 < a1_0 then (some true) else (if a0_0 = a1_0 then (some (decide (a0_1 < a1_1))) else (some false))) = some r := h
 clear h
 by_cases c3 : a0_0 < a1_0
 ·rw [if_pos c3] at H
  have c3b0 : decide (a0_0 < a1_0) = true := decide_eq_true c3
  clear c3
  obtain rfl := Option.some.inj H
  go_enter Tryz.func80, Tryz.ntmps80
  go_wp2_with (first | ((with_reducible refine gate_dst (N := 2) rfl ?_); refine box_event ?hg (N := 2) ?hd (cs := #[.int .i32 a0_0, .int .i64 a0_1]) (t := 101) ?hr ?_; (case hd => rfl); (case hg => rfl); (case hr => first | (go_simp; done) | (go_simp; rfl)); intro gb175 hg w4 hbox hb; have n0_ := Aside0.mk (below_step (stB HB.out) hb); have n1_ := Aside0.mk (hbox); have n2_ := Aside0.mk ((by rw [hg]; exact (below_size (stB HB.out)) : w.heap.size ≤ gb175)); have n3_ := Aside0.mk ((by rw [hg]; exact (below_size (stB HB.out)) : w.heap.size ≤ gb175)); clear HB; have HB := n0_; have BK175 := n1_; have GW175 := n2_; have GE175 := n3_; clear n0_ n1_ n2_ n3_; clear hb hbox hg) | ((with_reducible refine gate_dst (N := 3) rfl ?_); refine box_event ?hg (N := 3) ?hd (cs := #[.int .i32 a1_0, .int .i64 a1_1]) (t := 101) ?hr ?_; (case hd => rfl); (case hg => rfl); (case hr => first | (go_simp; done) | (go_simp; rfl)); intro gb176 hg w5 hbox hb; have n0_ := Aside0.mk (blk_below (g := gb175) (o := .cells #[.int .i32 a0_0, .int .i64 a0_1] 101 (0, 0)) (stK BK175.out) hb); have n1_ := Aside0.mk (below_step (by repeat (first | (with_reducible first | exact HB.out | apply below_alloc | apply pw_below_drewN | apply below_drew1 | refine below_set ?_ GE175.out) | exact HB.out)) hb); have n2_ := Aside0.mk (hbox); have n3_ := Aside0.mk ((by rw [hg]; exact (below_size (by repeat (first | (with_reducible first | exact HB.out | apply below_alloc | apply pw_below_drewN | apply below_drew1 | refine below_set ?_ GE175.out) | exact HB.out))) : w.heap.size ≤ gb176)); have n4_ := Aside0.mk ((by rw [hg]; exact (below_size (by repeat (first | (with_reducible first | exact HB.out | apply below_alloc | apply pw_below_drewN | apply below_drew1 | refine below_set ?_ GE175.out) | exact HB.out))) : w.heap.size ≤ gb176)); have n5_ := Aside0.mk ((by rw [hg]; exact Nat.ne_of_lt (blk_lt (g := gb175) (o := .cells #[.int .i32 a0_0, .int .i64 a0_1] 101 (0, 0)) (stK BK175.out)) : gb175 ≠ gb176)); have n6_ := Aside0.mk ((by rw [hg]; exact Nat.ne_of_gt (blk_lt (g := gb175) (o := .cells #[.int .i32 a0_0, .int .i64 a0_1] 101 (0, 0)) (stK BK175.out)) : gb176 ≠ gb175)); clear BK175; clear HB; have BK175 := n0_; have HB := n1_; have BK176 := n2_; have GW176 := n3_; have GE176 := n4_; have NB175_176 := n5_; have NB176_175 := n6_; clear n0_ n1_ n2_ n3_ n4_ n5_ n6_; clear hb hbox hg; have hnb6 := NB175_176.out; have hnc6 := NB176_175.out; obtain ⟨hcz7_0, hcz7_1⟩ := bc2 BK175.out; obtain ⟨hfz7_0, hfz7_1⟩ := bf2 BK175.out; obtain ⟨hcz8_0, hcz8_1⟩ := bc2 BK176.out; obtain ⟨hfz8_0, hfz8_1⟩ := bf2 BK176.out))
  go_ret
  exact ⟨by first | rfl | (simp [errW_none, errW_some] <;> rfl) | (simp [*, errW_none, errW_some] <;> rfl), by repeat (first | (with_reducible first | exact HB.out | apply below_alloc | apply pw_below_drewN | apply below_drew1 | refine below_set ?_ GE175.out | refine below_set ?_ GE176.out) | exact HB.out)⟩
 ·rw [if_neg c3] at H
  have c3b0 : decide (a0_0 < a1_0) = false := decide_eq_false c3
  clear c3
  by_cases c9 : a0_0 = a1_0
  ·rw [if_pos c9] at H
   have c9b0 : (a0_0 == a1_0) = true := beq_iff_eq.mpr c9
   have c9b1 : (a0_0 != a1_0) = false := bne_eq_false_iff_eq.mpr c9
   clear c9
   obtain rfl := Option.some.inj H
   go_enter Tryz.func80, Tryz.ntmps80
   go_wp2_with (first | ((with_reducible refine gate_dst (N := 2) rfl ?_); refine box_event ?hg (N := 2) ?hd (cs := #[.int .i32 a0_0, .int .i64 a0_1]) (t := 101) ?hr ?_; (case hd => rfl); (case hg => rfl); (case hr => first | (go_simp; done) | (go_simp; rfl)); intro gb175 hg w10 hbox hb; have n0_ := Aside0.mk (below_step (stB HB.out) hb); have n1_ := Aside0.mk (hbox); have n2_ := Aside0.mk ((by rw [hg]; exact (below_size (stB HB.out)) : w.heap.size ≤ gb175)); have n3_ := Aside0.mk ((by rw [hg]; exact (below_size (stB HB.out)) : w.heap.size ≤ gb175)); clear HB; have HB := n0_; have BK175 := n1_; have GW175 := n2_; have GE175 := n3_; clear n0_ n1_ n2_ n3_; clear hb hbox hg) | ((with_reducible refine gate_dst (N := 3) rfl ?_); refine box_event ?hg (N := 3) ?hd (cs := #[.int .i32 a1_0, .int .i64 a1_1]) (t := 101) ?hr ?_; (case hd => rfl); (case hg => rfl); (case hr => first | (go_simp; done) | (go_simp; rfl)); intro gb176 hg w11 hbox hb; have n0_ := Aside0.mk (blk_below (g := gb175) (o := .cells #[.int .i32 a0_0, .int .i64 a0_1] 101 (0, 0)) (stK BK175.out) hb); have n1_ := Aside0.mk (below_step (by repeat (first | (with_reducible first | exact HB.out | apply below_alloc | apply pw_below_drewN | apply below_drew1 | refine below_set ?_ GE175.out) | exact HB.out)) hb); have n2_ := Aside0.mk (hbox); have n3_ := Aside0.mk ((by rw [hg]; exact (below_size (by repeat (first | (with_reducible first | exact HB.out | apply below_alloc | apply pw_below_drewN | apply below_drew1 | refine below_set ?_ GE175.out) | exact HB.out))) : w.heap.size ≤ gb176)); have n4_ := Aside0.mk ((by rw [hg]; exact (below_size (by repeat (first | (with_reducible first | exact HB.out | apply below_alloc | apply pw_below_drewN | apply below_drew1 | refine below_set ?_ GE175.out) | exact HB.out))) : w.heap.size ≤ gb176)); have n5_ := Aside0.mk ((by rw [hg]; exact Nat.ne_of_lt (blk_lt (g := gb175) (o := .cells #[.int .i32 a0_0, .int .i64 a0_1] 101 (0, 0)) (stK BK175.out)) : gb175 ≠ gb176)); have n6_ := Aside0.mk ((by rw [hg]; exact Nat.ne_of_gt (blk_lt (g := gb175) (o := .cells #[.int .i32 a0_0, .int .i64 a0_1] 101 (0, 0)) (stK BK175.out)) : gb176 ≠ gb175)); clear BK175; clear HB; have BK175 := n0_; have HB := n1_; have BK176 := n2_; have GW176 := n3_; have GE176 := n4_; have NB175_176 := n5_; have NB176_175 := n6_; clear n0_ n1_ n2_ n3_ n4_ n5_ n6_; clear hb hbox hg; have hnb12 := NB175_176.out; have hnc12 := NB176_175.out; obtain ⟨hcz13_0, hcz13_1⟩ := bc2 BK175.out; obtain ⟨hfz13_0, hfz13_1⟩ := bf2 BK175.out; obtain ⟨hcz14_0, hcz14_1⟩ := bc2 BK176.out; obtain ⟨hfz14_0, hfz14_1⟩ := bf2 BK176.out))
   go_ret
   exact ⟨by first | rfl | (simp [errW_none, errW_some] <;> rfl) | (simp [*, errW_none, errW_some] <;> rfl), by repeat (first | (with_reducible first | exact HB.out | apply below_alloc | apply pw_below_drewN | apply below_drew1 | refine below_set ?_ GE175.out | refine below_set ?_ GE176.out) | exact HB.out)⟩
  ·rw [if_neg c9] at H
   have c9b0 : (a0_0 == a1_0) = false := beq_eq_false_iff_ne.mpr c9
   have c9b1 : (a0_0 != a1_0) = true := bne_iff_ne.mpr c9
   obtain rfl := Option.some.inj H
   go_enter Tryz.func80, Tryz.ntmps80
   go_wp2_with (first | ((with_reducible refine gate_dst (N := 2) rfl ?_); refine box_event ?hg (N := 2) ?hd (cs := #[.int .i32 a0_0, .int .i64 a0_1]) (t := 101) ?hr ?_; (case hd => rfl); (case hg => rfl); (case hr => first | (go_simp; done) | (go_simp; rfl)); intro gb175 hg w15 hbox hb; have n0_ := Aside0.mk (below_step (stB HB.out) hb); have n1_ := Aside0.mk (hbox); have n2_ := Aside0.mk ((by rw [hg]; exact (below_size (stB HB.out)) : w.heap.size ≤ gb175)); have n3_ := Aside0.mk ((by rw [hg]; exact (below_size (stB HB.out)) : w.heap.size ≤ gb175)); clear HB; have HB := n0_; have BK175 := n1_; have GW175 := n2_; have GE175 := n3_; clear n0_ n1_ n2_ n3_; clear hb hbox hg) | ((with_reducible refine gate_dst (N := 3) rfl ?_); refine box_event ?hg (N := 3) ?hd (cs := #[.int .i32 a1_0, .int .i64 a1_1]) (t := 101) ?hr ?_; (case hd => rfl); (case hg => rfl); (case hr => first | (go_simp; done) | (go_simp; rfl)); intro gb176 hg w16 hbox hb; have n0_ := Aside0.mk (blk_below (g := gb175) (o := .cells #[.int .i32 a0_0, .int .i64 a0_1] 101 (0, 0)) (stK BK175.out) hb); have n1_ := Aside0.mk (below_step (by repeat (first | (with_reducible first | exact HB.out | apply below_alloc | apply pw_below_drewN | apply below_drew1 | refine below_set ?_ GE175.out) | exact HB.out)) hb); have n2_ := Aside0.mk (hbox); have n3_ := Aside0.mk ((by rw [hg]; exact (below_size (by repeat (first | (with_reducible first | exact HB.out | apply below_alloc | apply pw_below_drewN | apply below_drew1 | refine below_set ?_ GE175.out) | exact HB.out))) : w.heap.size ≤ gb176)); have n4_ := Aside0.mk ((by rw [hg]; exact (below_size (by repeat (first | (with_reducible first | exact HB.out | apply below_alloc | apply pw_below_drewN | apply below_drew1 | refine below_set ?_ GE175.out) | exact HB.out))) : w.heap.size ≤ gb176)); have n5_ := Aside0.mk ((by rw [hg]; exact Nat.ne_of_lt (blk_lt (g := gb175) (o := .cells #[.int .i32 a0_0, .int .i64 a0_1] 101 (0, 0)) (stK BK175.out)) : gb175 ≠ gb176)); have n6_ := Aside0.mk ((by rw [hg]; exact Nat.ne_of_gt (blk_lt (g := gb175) (o := .cells #[.int .i32 a0_0, .int .i64 a0_1] 101 (0, 0)) (stK BK175.out)) : gb176 ≠ gb175)); clear BK175; clear HB; have BK175 := n0_; have HB := n1_; have BK176 := n2_; have GW176 := n3_; have GE176 := n4_; have NB175_176 := n5_; have NB176_175 := n6_; clear n0_ n1_ n2_ n3_ n4_ n5_ n6_; clear hb hbox hg; have hnb17 := NB175_176.out; have hnc17 := NB176_175.out; obtain ⟨hcz18_0, hcz18_1⟩ := bc2 BK175.out; obtain ⟨hfz18_0, hfz18_1⟩ := bf2 BK175.out; obtain ⟨hcz19_0, hcz19_1⟩ := bc2 BK176.out; obtain ⟨hfz19_0, hfz19_1⟩ := bf2 BK176.out))
   go_ret
   exact ⟨by first | rfl | (simp [errW_none, errW_some] <;> rfl) | (simp [*, errW_none, errW_some] <;> rfl), by repeat (first | (with_reducible first | exact HB.out | apply below_alloc | apply pw_below_drewN | apply below_drew1 | refine below_set ?_ GE175.out | refine below_set ?_ GE176.out) | exact HB.out)⟩
def trivetref04_MayKeys.l0 : Nat → List (S101) → Int → Option (Bool)
 | 0, _, _ => none
 | k + 1, x0, x3 => if x3 < (x0.length : Int) then (if 0 ≤ (wrap64 (x3 - 1)) then (if (wrap64 (x3 - 1)) < (x0.length : Int) then (if 0 ≤ x3 then ((trivetref04_Less.f ((rd_T101 x0 (wrap64 (x3 - 1))).f0) ((rd_T101 x0 (wrap64 (x3 - 1))).f1) ((rd_T101 x0 x3).f0) ((rd_T101 x0 x3).f1)).bind fun t179 => (if t179 = true then (trivetref04_MayKeys.l0 k x0 (wrap64 (x3 + 1))) else (some false))) else (none)) else (none)) else (none)) else (some (decide ((x0.length : Int) ≤ 16)))
def trivetref04_MayKeys.f (k : Nat) (l0 : List (S101)) : Option (Bool) := trivetref04_MayKeys.l0 k l0 1
theorem trivetref04_MayKeys.mono_l : ∀ k, (∀ y0 y1, LeO (trivetref04_MayKeys.l0 k y0 y1) (trivetref04_MayKeys.l0 (k + 1) y0 y1))
 | 0 => fun _ _ r h => by simp [trivetref04_MayKeys.l0] at h
 | k + 1 => by
  have ih0 := trivetref04_MayKeys.mono_l k
  ·intro y0 y1
   unfold trivetref04_MayKeys.l0
   repeat' first
   | (with_reducible exact ih0 _ _)
   | (with_reducible exact LeO.refl _)
   | (with_reducible exact LeO.none _)
   | (with_reducible refine LeO.ite ?_ ?_)
   | (with_reducible refine LeO.bind ?_ (fun _ => ?_))
   | exact ih0 _ _
   | exact LeO.none _
   | refine LeO.ite ?_ ?_
   | refine LeO.bind ?_ (fun _ => ?_)
theorem trivetref04_MayKeys.mono : ∀ a0 k, LeO (trivetref04_MayKeys.f k a0) (trivetref04_MayKeys.f (k + 1) a0) := by
 intro a0 k
 have ih0 := trivetref04_MayKeys.mono_l k
 unfold trivetref04_MayKeys.f
 repeat' first
   | (with_reducible exact ih0 _ _)
   | (with_reducible exact LeO.refl _)
   | (with_reducible exact LeO.none _)
   | (with_reducible refine LeO.ite ?_ ?_)
   | (with_reducible refine LeO.bind ?_ (fun _ => ?_))
   | exact ih0 _ _
   | exact LeO.none _
   | refine LeO.ite ?_ ?_
   | refine LeO.bind ?_ (fun _ => ?_)
def trivetref04_MayKeys.T4 : Bool × List (List Nat × List Nat) := (true, [([], []), ([], []), ([1], [1]), ([0, 2], [0, 2]), ([3], [3]), ([], []), ([], []), ([5, 6], [5, 6]), ([7], [7]), ([4, 8], [4, 8]), ([9], [9])])
def trivetref04_MayKeys.B4 : List Nat := [0, 0, 2, 7, 15, 0, 0, 96, 224, 511, 1023]
theorem trivetref04_MayKeys.tab4 : rtab .any (opsOf Tryz.f41 4) = trivetref04_MayKeys.T4 := by kernel_rfl
theorem trivetref04_MayKeys.bits4 : waitsOk trivetref04_MayKeys.T4.2 trivetref04_MayKeys.B4 = true := by kernel_rfl
set_option maxHeartbeats 8000000 in
set_option maxRecDepth 100000 in
theorem trivetref04_MayKeys.calls (k : Nat) (A0 : Option Addr) (c0 : Nat) (l0 : List (S101)) (r : Bool) (w : World) (hr0 : Kd.C k101 w A0 l0.length l0) (hc0 : l0.length ≤ c0) (h : trivetref04_MayKeys.f k l0 = some r) :
  Calls Tryz.prog 41 #[.slice A0 l0.length c0] w fun e w' => e = .returned (.bool r) ∧ Below w.heap.size w w' := by
 have hu101 := Tryz.underlying101
 have HR0 := Aside0.mk hr0
 have HC0 := Aside0.mk hc0
 clear hr0 hc0
 have HB := Aside0.mk (Below.refl w.heap.size w)
 have H : (trivetref04_MayKeys.l0 k l0 1) = some r := h
 clear h
 have H' := Aside0.mk H
 clear H
 go_enter Tryz.func41, Tryz.ntmps41
 go_wp2
 go_loopg [3] k (fun kq v3 w' => ∃ (x3_1 : Int), v3 = .int .i64 x3_1 ∧ Aside0 (trivetref04_MayKeys.l0 kq l0 x3_1 = some r) ∧ Aside0 (kq ≤ k) ∧ Aside0 (Below w.heap.size w w'))
 case atStart => exact ⟨(1), (by first | rfl | (simp; done) | (simp [*]; done)), H', ⟨Nat.le_refl _⟩, ⟨stB HB.out⟩⟩
 case round =>
  clear H'
  obtain ⟨x3_1, rfl, HA, HK1, HB⟩ := hrel
  cases gk with
  | zero => exact absurd HA.out (by simp [trivetref04_MayKeys.l0])
  | succ k1 =>
   have H := HA.out
   clear HA
   simp only [trivetref04_MayKeys.l0] at H
   by_cases c2 : x3_1 < (l0.length : Int)
   ·rw [if_pos c2] at H
    have c2b0 : decide (x3_1 < (l0.length : Int)) = true := decide_eq_true c2
    clear c2
    obtain ⟨ji3, hji3⟩ : ∃ j_ : Int, (wrap64 (x3_1 - 1)) = j_ := ⟨_, rfl⟩
    replace H : (if 0 ≤ (ji3) then (if (ji3) < (l0.length : Int) then (if 0 ≤ x3_1 then ((trivetref04_Less.f ((rd_T101 l0 (ji3)).f0) ((rd_T101 l0 (ji3)).f1) ((rd_T101 l0 x3_1).f0) ((rd_T101 l0 x3_1).f1)).bind fun t179 => (if t179 = true then (trivetref04_MayKeys.l0 k1 l0 (wrap64 (x3_1 + 1))) else (some false))) else (none)) else (none)) else (none)) = some r := by first | (rw [hji3] at H; exact H) | (simp only [hji3] at H ⊢; exact H)
    have hji3w : (IntKind.i64.wrap (x3_1 - 1)) = ji3 := (i64_w _).trans hji3
    by_cases c4 : 0 ≤ (ji3)
    ·rw [if_pos c4] at H
     have c4b0 : decide (0 ≤ (ji3)) = true := decide_eq_true c4
     clear c4
     by_cases c5 : (ji3) < (l0.length : Int)
     ·rw [if_pos c5] at H
      have c5b0 : decide ((ji3) < (l0.length : Int)) = true := decide_eq_true c5
      clear c5
      by_cases c6 : 0 ≤ x3_1
      ·rw [if_pos c6] at H
       have c6b0 : decide (0 ≤ x3_1) = true := decide_eq_true c6
       clear c6
       replace H := Option.bind_eq_some_iff.mp H
       obtain ⟨t179, A70, H⟩ := H
       replace H : (if t179 = true then (trivetref04_MayKeys.l0 k1 l0 (wrap64 (x3_1 + 1))) else (some false)) = some r := H
       have A7 := Aside0.mk A70
       clear A70
       by_cases c8 : t179 = true
       ·subst c8
        have H1 : (trivetref04_MayKeys.l0 k1 l0 (wrap64 (x3_1 + 1))) = some r := by rw [if_pos rfl] at H; exact H
        clear H
        have H := H1
        clear H1
        have H' := Aside0.mk H
        clear H
        try go_wp2
        have n0_ := Aside0.mk (below_drew1 HB.out)
        clear HB
        have HB := n0_
        clear n0_
        have p177 : 0 ≤ ((ji3) : Int) := of_decide_eq_true (by first | (with_reducible assumption) | assumption)
        have q177 : (ji3) < (l0.length : Int) := of_decide_eq_true (by first | (with_reducible assumption) | assumption)
        obtain ⟨ad177, e177, hx177_0, hx177_1⟩ := at_T101 HR0.out (ji3) p177 q177
        have hw177_1 := hx177_1
        have hw177_0 := hx177_0
        cases e177
        replace hx177_0 := (HB.out.cell (World.block_lt_of_cell? w _ hx177_0)).trans hx177_0
        replace hx177_1 := (HB.out.cell (World.block_lt_of_cell? w _ hx177_1)).trans hx177_1
        replace p177 := eq_true p177
        replace q177 := eq_true q177
        have p178 : 0 ≤ (x3_1 : Int) := of_decide_eq_true (by first | (with_reducible assumption) | assumption)
        have q178 : x3_1 < (l0.length : Int) := of_decide_eq_true (by first | (with_reducible assumption) | assumption)
        obtain ⟨ad178, e178, hx178_0, hx178_1⟩ := at_T101 HR0.out x3_1 p178 q178
        have hw178_1 := hx178_1
        have hw178_0 := hx178_0
        obtain rfl : ad177 = ad178 := (by injection e178)
        replace hx178_0 := (HB.out.cell (World.block_lt_of_cell? w _ hx178_0)).trans hx178_0
        replace hx178_1 := (HB.out.cell (World.block_lt_of_cell? w _ hx178_1)).trans hx178_1
        replace p178 := eq_true p178
        replace q178 := eq_true q178
        refine start_ (n := 11) (S := fun w' => w'.cell? (ad177.add (((ji3)).toNat * 2)) = some (.int .i32 ((rd_T101 l0 (ji3)).f0)) ∧ w'.cell? ⟨(ad177.add (((ji3)).toNat * 2)).block, (ad177.add (((ji3)).toNat * 2)).off + 1, none⟩ = some (.int .i64 ((rd_T101 l0 (ji3)).f1)) ∧ w'.cell? (ad177.add ((x3_1).toNat * 2)) = some (.int .i32 ((rd_T101 l0 x3_1).f0)) ∧ w'.cell? ⟨(ad177.add ((x3_1).toNat * 2)).block, (ad177.add ((x3_1).toNat * 2)).off + 1, none⟩ = some (.int .i64 ((rd_T101 l0 x3_1).f1))) (ds := []) #[false, false, false, false, false, false, false, false, false, false, false] (by kernel_rfl) rfl rfl ⟨((HB.out.cell (World.block_lt_of_cell? w _ hw177_0)).trans hw177_0), ((HB.out.cell (World.block_lt_of_cell? w _ hw177_1)).trans hw177_1), ((HB.out.cell (World.block_lt_of_cell? w _ hw178_0)).trans hw178_0), ((HB.out.cell (World.block_lt_of_cell? w _ hw178_1)).trans hw178_1)⟩ (fun hHeld => ?_); refine with_tabW trivetref04_MayKeys.tab4 trivetref04_MayKeys.bits4 (fun HT_ HW_ => ?_)
        generalize wr.drew = w9 at HB hx177_0 hx177_1 hx178_0 hx178_1 hHeld ⊢
        refine pure_ (i := 0) (N := some 10) (v := ?_) (a' := ?_) #[true, false, false, false, false, false, false, false, false, false, false] rfl rfl (any_of HT_.out (by kernel_rfl)) (fun _ _ _ h => h) (Or.inl ⟨by rfl, ?_⟩) ?_ ?_
        rotate_left
        ·intro w'
         go_simp
         with_reducible rfl
        rotate_left
        ·simp only [Act.put, List.setIfInBounds_toArray, List.set_cons_zero, List.set_cons_succ, i64_w, i32_w]
         rfl
        refine pure_ (i := 1) (N := some 11) (v := ?_) (a' := ?_) #[true, true, false, false, false, false, false, false, false, false, false] rfl rfl (any_of HT_.out (by kernel_rfl)) (fun _ _ _ h => h) (Or.inl ⟨by rfl, ?_⟩) ?_ ?_
        rotate_left
        ·intro w'
         go_simp
         with_reducible rfl
        rotate_left
        ·simp only [Act.put, List.setIfInBounds_toArray, List.set_cons_zero, List.set_cons_succ, i64_w, i32_w]
         rfl
        refine pure_ (i := 2) (N := some 12) (v := ?_) (a' := ?_) #[true, true, true, false, false, false, false, false, false, false, false] rfl rfl (any_of HT_.out (by kernel_rfl)) (fun _ _ _ h => h) (Or.inl ⟨by rfl, ?_⟩) ?_ ?_
        rotate_left
        ·intro w'
         go_simp
         with_reducible rfl
        rotate_left
        ·simp only [Act.put, List.setIfInBounds_toArray, List.set_cons_zero, List.set_cons_succ, i64_w, i32_w]
         rfl
        refine pure_ (i := 3) (N := some 13) (v := ?_) (a' := ?_) #[true, true, true, true, false, false, false, false, false, false, false] rfl rfl (any_of HT_.out (by kernel_rfl)) (fun _ _ _ h => h) (Or.inl ⟨by rfl, ?_⟩) ?_ ?_
        rotate_left
        ·intro w'
         go_simp
         with_reducible rfl
        rotate_left
        ·simp only [Act.put, List.setIfInBounds_toArray, List.set_cons_zero, List.set_cons_succ, i64_w, i32_w]
         rfl
        refine pure_ (i := 5) (N := some 15) (v := ?_) (a' := ?_) #[true, true, true, true, false, true, false, false, false, false, false] rfl rfl (any_of HT_.out (by kernel_rfl)) (fun _ _ _ h => h) (Or.inl ⟨by rfl, ?_⟩) ?_ ?_
        rotate_left
        ·intro w'
         go_simp
         with_reducible rfl
        rotate_left
        ·simp only [Act.put, List.setIfInBounds_toArray, List.set_cons_zero, List.set_cons_succ, i64_w, i32_w]
         rfl
        refine pure_ (i := 6) (N := some 16) (v := ?_) (a' := ?_) #[true, true, true, true, false, true, true, false, false, false, false] rfl rfl (any_of HT_.out (by kernel_rfl)) (fun _ _ _ h => h) (Or.inl ⟨by rfl, ?_⟩) ?_ ?_
        rotate_left
        ·intro w'
         go_simp
         with_reducible rfl
        rotate_left
        ·simp only [Act.put, List.setIfInBounds_toArray, List.set_cons_zero, List.set_cons_succ, i64_w, i32_w]
         rfl
        refine pure_ (i := 7) (N := some 17) (v := ?_) (a' := ?_) #[true, true, true, true, false, true, true, true, false, false, false] rfl rfl (any_of HT_.out (by kernel_rfl)) (fun _ _ _ h => h) (Or.inl ⟨by rfl, ?_⟩) ?_ ?_
        rotate_left
        ·intro w'
         go_simp
         with_reducible rfl
        rotate_left
        ·simp only [Act.put, List.setIfInBounds_toArray, List.set_cons_zero, List.set_cons_succ, i64_w, i32_w]
         rfl
        refine take_ (i := 4) (N := some 14) (v := ?_) (a' := ?_) #[true, true, true, true, true, true, true, true, false, false, false] rfl rfl (take_ofW HT_.out HW_.out (by kernel_rfl)) (fun _ _ _ h => h) (Or.inl ⟨by rfl, ?_⟩) hHeld ?_ ?_
        rotate_left
        ·rintro w' ⟨s0, s1, s2, s3⟩
         go_simp
         with_reducible rfl
        rotate_left
        ·simp only [Act.put, List.setIfInBounds_toArray, List.set_cons_zero, List.set_cons_succ, i64_w, i32_w]
         rfl
        refine take_ (i := 8) (N := some 18) (v := ?_) (a' := ?_) #[true, true, true, true, true, true, true, true, true, false, false] rfl rfl (take_ofW HT_.out HW_.out (by kernel_rfl)) (fun _ _ _ h => h) (Or.inl ⟨by rfl, ?_⟩) hHeld ?_ ?_
        rotate_left
        ·rintro w' ⟨s0, s1, s2, s3⟩
         go_simp
         with_reducible rfl
        rotate_left
        ·simp only [Act.put, List.setIfInBounds_toArray, List.set_cons_zero, List.set_cons_succ, i64_w, i32_w]
         rfl
        refine one_ (i := 9) (N := some 19) #[true, true, true, true, true, true, true, true, true, true, false] rfl rfl (one_of HT_.out (by kernel_rfl)) (by decide) (fun K hK => ?_)
        refine goes_ Tryz.func80 (by kernel_rfl) rfl #[.agg #[.int .i32 ((rd_T101 l0 (ji3)).f0), .int .i64 ((rd_T101 l0 (ji3)).f1)], .agg #[.int .i32 ((rd_T101 l0 x3_1).f0), .int .i64 ((rd_T101 l0 x3_1).f1)]] (by rfl) rfl rfl (by (try simp only [List.map_toArray, List.map_cons, List.map_nil]); first | done | (simp only [hji3]; rfl) | rfl | (simp only [List.length_drop, List.length_take]; rfl)) ?_
        with_reducible refine (trivetref04_Less.calls ((rd_T101 l0 (ji3)).f0) ((rd_T101 l0 (ji3)).f1) ((rd_T101 l0 x3_1).f0) ((rd_T101 l0 x3_1).f1) true _ A7.out).mono ?_
        rintro e w10 ⟨rfl, hb⟩
        refine ⟨_, rfl, ?_⟩
        have n0_ := Aside0.mk (below_step (stB HB.out) hb)
        clear HB
        have HB := n0_
        clear n0_
        (try clear hb)
        (try clear hb2)
        (try clear hk)
        (try clear hi)
        refine hK.out _ _ ⟨((HB.out.cell (World.block_lt_of_cell? w _ hw177_0)).trans hw177_0), ((HB.out.cell (World.block_lt_of_cell? w _ hw177_1)).trans hw177_1), ((HB.out.cell (World.block_lt_of_cell? w _ hw178_0)).trans hw178_0), ((HB.out.cell (World.block_lt_of_cell? w _ hw178_1)).trans hw178_1)⟩ (fun hHeld => ?_)
        clear hK K
        refine norm_ (a' := ?_) ?_ ?_
        rotate_left
        ·show Act.put _ (some 19) _ = _
         simp only [Act.put, List.setIfInBounds_toArray, List.set_cons_zero, List.set_cons_succ, i64_w, i32_w]
         rfl
        refine pure_ (i := 10) (N := some 20) (v := ?_) (a' := ?_) #[true, true, true, true, true, true, true, true, true, true, true] rfl rfl (any_of HT_.out (by kernel_rfl)) (fun _ _ _ h => h) (Or.inl ⟨by rfl, ?_⟩) ?_ ?_
        rotate_left
        ·intro w'
         go_simp
         with_reducible rfl
        rotate_left
        ·simp only [Act.put, List.setIfInBounds_toArray, List.set_cons_zero, List.set_cons_succ, i64_w, i32_w]
         rfl
        refine done_ (done_of HT_.out (by kernel_rfl)) ?_
        try go_wp2
        go_roundg k1
        case measure => have := HK1.out; omega
        case rel => exact ⟨(wrap64 (x3_1 + 1)), (by first | rfl | (simp; done) | (simp [*]; done)), H', ⟨by have := HK1.out; omega⟩, ⟨stB HB.out⟩⟩
       ·replace c8 := Bool.eq_false_iff.mpr c8
        subst c8
        have H1 : (some false) = some r := by rw [if_neg (show ¬ (false = true) by decide)] at H; exact H
        clear H
        have H := H1
        clear H1
        obtain rfl := Option.some.inj H
        try go_wp2
        have n0_ := Aside0.mk (below_drew1 HB.out)
        clear HB
        have HB := n0_
        clear n0_
        have p177 : 0 ≤ ((ji3) : Int) := of_decide_eq_true (by first | (with_reducible assumption) | assumption)
        have q177 : (ji3) < (l0.length : Int) := of_decide_eq_true (by first | (with_reducible assumption) | assumption)
        obtain ⟨ad177, e177, hx177_0, hx177_1⟩ := at_T101 HR0.out (ji3) p177 q177
        have hw177_1 := hx177_1
        have hw177_0 := hx177_0
        cases e177
        replace hx177_0 := (HB.out.cell (World.block_lt_of_cell? w _ hx177_0)).trans hx177_0
        replace hx177_1 := (HB.out.cell (World.block_lt_of_cell? w _ hx177_1)).trans hx177_1
        replace p177 := eq_true p177
        replace q177 := eq_true q177
        have p178 : 0 ≤ (x3_1 : Int) := of_decide_eq_true (by first | (with_reducible assumption) | assumption)
        have q178 : x3_1 < (l0.length : Int) := of_decide_eq_true (by first | (with_reducible assumption) | assumption)
        obtain ⟨ad178, e178, hx178_0, hx178_1⟩ := at_T101 HR0.out x3_1 p178 q178
        have hw178_1 := hx178_1
        have hw178_0 := hx178_0
        obtain rfl : ad177 = ad178 := (by injection e178)
        replace hx178_0 := (HB.out.cell (World.block_lt_of_cell? w _ hx178_0)).trans hx178_0
        replace hx178_1 := (HB.out.cell (World.block_lt_of_cell? w _ hx178_1)).trans hx178_1
        replace p178 := eq_true p178
        replace q178 := eq_true q178
        refine start_ (n := 11) (S := fun w' => w'.cell? (ad177.add (((ji3)).toNat * 2)) = some (.int .i32 ((rd_T101 l0 (ji3)).f0)) ∧ w'.cell? ⟨(ad177.add (((ji3)).toNat * 2)).block, (ad177.add (((ji3)).toNat * 2)).off + 1, none⟩ = some (.int .i64 ((rd_T101 l0 (ji3)).f1)) ∧ w'.cell? (ad177.add ((x3_1).toNat * 2)) = some (.int .i32 ((rd_T101 l0 x3_1).f0)) ∧ w'.cell? ⟨(ad177.add ((x3_1).toNat * 2)).block, (ad177.add ((x3_1).toNat * 2)).off + 1, none⟩ = some (.int .i64 ((rd_T101 l0 x3_1).f1))) (ds := []) #[false, false, false, false, false, false, false, false, false, false, false] (by kernel_rfl) rfl rfl ⟨((HB.out.cell (World.block_lt_of_cell? w _ hw177_0)).trans hw177_0), ((HB.out.cell (World.block_lt_of_cell? w _ hw177_1)).trans hw177_1), ((HB.out.cell (World.block_lt_of_cell? w _ hw178_0)).trans hw178_0), ((HB.out.cell (World.block_lt_of_cell? w _ hw178_1)).trans hw178_1)⟩ (fun hHeld => ?_); refine with_tabW trivetref04_MayKeys.tab4 trivetref04_MayKeys.bits4 (fun HT_ HW_ => ?_)
        generalize wr.drew = w11 at HB hx177_0 hx177_1 hx178_0 hx178_1 hHeld ⊢
        refine pure_ (i := 0) (N := some 10) (v := ?_) (a' := ?_) #[true, false, false, false, false, false, false, false, false, false, false] rfl rfl (any_of HT_.out (by kernel_rfl)) (fun _ _ _ h => h) (Or.inl ⟨by rfl, ?_⟩) ?_ ?_
        rotate_left
        ·intro w'
         go_simp
         with_reducible rfl
        rotate_left
        ·simp only [Act.put, List.setIfInBounds_toArray, List.set_cons_zero, List.set_cons_succ, i64_w, i32_w]
         rfl
        refine pure_ (i := 1) (N := some 11) (v := ?_) (a' := ?_) #[true, true, false, false, false, false, false, false, false, false, false] rfl rfl (any_of HT_.out (by kernel_rfl)) (fun _ _ _ h => h) (Or.inl ⟨by rfl, ?_⟩) ?_ ?_
        rotate_left
        ·intro w'
         go_simp
         with_reducible rfl
        rotate_left
        ·simp only [Act.put, List.setIfInBounds_toArray, List.set_cons_zero, List.set_cons_succ, i64_w, i32_w]
         rfl
        refine pure_ (i := 2) (N := some 12) (v := ?_) (a' := ?_) #[true, true, true, false, false, false, false, false, false, false, false] rfl rfl (any_of HT_.out (by kernel_rfl)) (fun _ _ _ h => h) (Or.inl ⟨by rfl, ?_⟩) ?_ ?_
        rotate_left
        ·intro w'
         go_simp
         with_reducible rfl
        rotate_left
        ·simp only [Act.put, List.setIfInBounds_toArray, List.set_cons_zero, List.set_cons_succ, i64_w, i32_w]
         rfl
        refine pure_ (i := 3) (N := some 13) (v := ?_) (a' := ?_) #[true, true, true, true, false, false, false, false, false, false, false] rfl rfl (any_of HT_.out (by kernel_rfl)) (fun _ _ _ h => h) (Or.inl ⟨by rfl, ?_⟩) ?_ ?_
        rotate_left
        ·intro w'
         go_simp
         with_reducible rfl
        rotate_left
        ·simp only [Act.put, List.setIfInBounds_toArray, List.set_cons_zero, List.set_cons_succ, i64_w, i32_w]
         rfl
        refine pure_ (i := 5) (N := some 15) (v := ?_) (a' := ?_) #[true, true, true, true, false, true, false, false, false, false, false] rfl rfl (any_of HT_.out (by kernel_rfl)) (fun _ _ _ h => h) (Or.inl ⟨by rfl, ?_⟩) ?_ ?_
        rotate_left
        ·intro w'
         go_simp
         with_reducible rfl
        rotate_left
        ·simp only [Act.put, List.setIfInBounds_toArray, List.set_cons_zero, List.set_cons_succ, i64_w, i32_w]
         rfl
        refine pure_ (i := 6) (N := some 16) (v := ?_) (a' := ?_) #[true, true, true, true, false, true, true, false, false, false, false] rfl rfl (any_of HT_.out (by kernel_rfl)) (fun _ _ _ h => h) (Or.inl ⟨by rfl, ?_⟩) ?_ ?_
        rotate_left
        ·intro w'
         go_simp
         with_reducible rfl
        rotate_left
        ·simp only [Act.put, List.setIfInBounds_toArray, List.set_cons_zero, List.set_cons_succ, i64_w, i32_w]
         rfl
        refine pure_ (i := 7) (N := some 17) (v := ?_) (a' := ?_) #[true, true, true, true, false, true, true, true, false, false, false] rfl rfl (any_of HT_.out (by kernel_rfl)) (fun _ _ _ h => h) (Or.inl ⟨by rfl, ?_⟩) ?_ ?_
        rotate_left
        ·intro w'
         go_simp
         with_reducible rfl
        rotate_left
        ·simp only [Act.put, List.setIfInBounds_toArray, List.set_cons_zero, List.set_cons_succ, i64_w, i32_w]
         rfl
        refine take_ (i := 4) (N := some 14) (v := ?_) (a' := ?_) #[true, true, true, true, true, true, true, true, false, false, false] rfl rfl (take_ofW HT_.out HW_.out (by kernel_rfl)) (fun _ _ _ h => h) (Or.inl ⟨by rfl, ?_⟩) hHeld ?_ ?_
        rotate_left
        ·rintro w' ⟨s0, s1, s2, s3⟩
         go_simp
         with_reducible rfl
        rotate_left
        ·simp only [Act.put, List.setIfInBounds_toArray, List.set_cons_zero, List.set_cons_succ, i64_w, i32_w]
         rfl
        refine take_ (i := 8) (N := some 18) (v := ?_) (a' := ?_) #[true, true, true, true, true, true, true, true, true, false, false] rfl rfl (take_ofW HT_.out HW_.out (by kernel_rfl)) (fun _ _ _ h => h) (Or.inl ⟨by rfl, ?_⟩) hHeld ?_ ?_
        rotate_left
        ·rintro w' ⟨s0, s1, s2, s3⟩
         go_simp
         with_reducible rfl
        rotate_left
        ·simp only [Act.put, List.setIfInBounds_toArray, List.set_cons_zero, List.set_cons_succ, i64_w, i32_w]
         rfl
        refine one_ (i := 9) (N := some 19) #[true, true, true, true, true, true, true, true, true, true, false] rfl rfl (one_of HT_.out (by kernel_rfl)) (by decide) (fun K hK => ?_)
        refine goes_ Tryz.func80 (by kernel_rfl) rfl #[.agg #[.int .i32 ((rd_T101 l0 (ji3)).f0), .int .i64 ((rd_T101 l0 (ji3)).f1)], .agg #[.int .i32 ((rd_T101 l0 x3_1).f0), .int .i64 ((rd_T101 l0 x3_1).f1)]] (by rfl) rfl rfl (by (try simp only [List.map_toArray, List.map_cons, List.map_nil]); first | done | (simp only [hji3]; rfl) | rfl | (simp only [List.length_drop, List.length_take]; rfl)) ?_
        with_reducible refine (trivetref04_Less.calls ((rd_T101 l0 (ji3)).f0) ((rd_T101 l0 (ji3)).f1) ((rd_T101 l0 x3_1).f0) ((rd_T101 l0 x3_1).f1) false _ A7.out).mono ?_
        rintro e w12 ⟨rfl, hb⟩
        refine ⟨_, rfl, ?_⟩
        have n0_ := Aside0.mk (below_step (stB HB.out) hb)
        clear HB
        have HB := n0_
        clear n0_
        (try clear hb)
        (try clear hb2)
        (try clear hk)
        (try clear hi)
        refine hK.out _ _ ⟨((HB.out.cell (World.block_lt_of_cell? w _ hw177_0)).trans hw177_0), ((HB.out.cell (World.block_lt_of_cell? w _ hw177_1)).trans hw177_1), ((HB.out.cell (World.block_lt_of_cell? w _ hw178_0)).trans hw178_0), ((HB.out.cell (World.block_lt_of_cell? w _ hw178_1)).trans hw178_1)⟩ (fun hHeld => ?_)
        clear hK K
        refine norm_ (a' := ?_) ?_ ?_
        rotate_left
        ·show Act.put _ (some 19) _ = _
         simp only [Act.put, List.setIfInBounds_toArray, List.set_cons_zero, List.set_cons_succ, i64_w, i32_w]
         rfl
        refine pure_ (i := 10) (N := some 20) (v := ?_) (a' := ?_) #[true, true, true, true, true, true, true, true, true, true, true] rfl rfl (any_of HT_.out (by kernel_rfl)) (fun _ _ _ h => h) (Or.inl ⟨by rfl, ?_⟩) ?_ ?_
        rotate_left
        ·intro w'
         go_simp
         with_reducible rfl
        rotate_left
        ·simp only [Act.put, List.setIfInBounds_toArray, List.set_cons_zero, List.set_cons_succ, i64_w, i32_w]
         rfl
        refine done_ (done_of HT_.out (by kernel_rfl)) ?_
        try go_wp2
        go_ret
        exact ⟨by first | rfl | (simp [errW_none, errW_some] <;> rfl) | (simp only [← hji3]; first | rfl | (simp [errW_none, errW_some] <;> rfl)) | (simp [*, errW_none, errW_some] <;> rfl), stB HB.out⟩
      ·rw [if_neg c6] at H
       exact absurd H (by simp)
     ·rw [if_neg c5] at H
      exact absurd H (by simp)
    ·rw [if_neg c4] at H
     exact absurd H (by simp)
   ·rw [if_neg c2] at H
    have c2b0 : decide (x3_1 < (l0.length : Int)) = false := decide_eq_false c2
    clear c2
    obtain rfl := Option.some.inj H
    go_wp2
    go_ret
    exact ⟨by first | rfl | (simp [errW_none, errW_some] <;> rfl) | (simp [*, errW_none, errW_some] <;> rfl), stB HB.out⟩
def record_txn.f (a0_0 : Int) (a0_1 : Int) (l0_2 : List Int) (l0_3 : List Int) (l0_4 : List (S101)) (l0_5 : List (S101)) : Option (Bool) := (record_between.f 1 1099511627776 (([a0_0, a0_1] : List Int))).bind fun t186 => (if t186 = true then (if (l0_2.length : Int) ≤ 512 then (if (l0_3.length : Int) ≤ 8 then ((record_keys.f l0_4).bind fun t187 => (if t187 = true then ((record_keys.f l0_5).bind fun t188 => (some t188)) else (some false))) else (some false)) else (some false)) else (some false))
set_option maxHeartbeats 8000000 in
set_option maxRecDepth 100000 in
theorem record_txn.calls (a0_0 : Int) (a0_1 : Int) (A0_2 : Option Addr) (c0_2 : Nat) (l0_2 : List Int) (A0_3 : Option Addr) (c0_3 : Nat) (l0_3 : List Int) (A0_4 : Option Addr) (c0_4 : Nat) (l0_4 : List (S101)) (A0_5 : Option Addr) (c0_5 : Nat) (l0_5 : List (S101)) (r : Bool) (w : World) (hr0_2 : Kd.C (Kd.int .u8) w A0_2 l0_2.length l0_2) (hc0_2 : l0_2.length ≤ c0_2) (hr0_3 : Kd.C (Kd.int .i64) w A0_3 l0_3.length l0_3) (hc0_3 : l0_3.length ≤ c0_3) (hr0_4 : Kd.C k101 w A0_4 l0_4.length l0_4) (hc0_4 : l0_4.length ≤ c0_4) (hr0_5 : Kd.C k101 w A0_5 l0_5.length l0_5) (hc0_5 : l0_5.length ≤ c0_5) (h : record_txn.f a0_0 a0_1 l0_2 l0_3 l0_4 l0_5 = some r) :
  Calls Tryz.prog 42 #[.agg #[.int .i64 a0_0, .int .i64 a0_1, .slice A0_2 l0_2.length c0_2, .slice A0_3 l0_3.length c0_3, .slice A0_4 l0_4.length c0_4, .slice A0_5 l0_5.length c0_5]] w fun e w' => e = .returned (.bool r) ∧ Below w.heap.size w w' := by
 have hu26 := Tryz.underlying26
 have HR0_2 := Aside0.mk hr0_2
 have HC0_2 := Aside0.mk hc0_2
 clear hr0_2 hc0_2
 have HR0_3 := Aside0.mk hr0_3
 have HC0_3 := Aside0.mk hc0_3
 clear hr0_3 hc0_3
 have HR0_4 := Aside0.mk hr0_4
 have HC0_4 := Aside0.mk hc0_4
 clear hr0_4 hc0_4
 have HR0_5 := Aside0.mk hr0_5
 have HC0_5 := Aside0.mk hc0_5
 clear hr0_5 hc0_5
 have HB := Aside0.mk (Below.refl w.heap.size w)
 have H : ((record_between.f 1 1099511627776 (([a0_0, a0_1] : List Int))).bind fun t186 => (if t186 = true then (if (l0_2.length : Int) ≤ 512 then (if (l0_3.length : Int) ≤ 8 then ((record_keys.f l0_4).bind fun t187 => (if t187 = true then ((record_keys.f l0_5).bind fun t188 => (some t188)) else (some false))) else (some false)) else (some false)) else (some false))) = some r := h
 clear h
 obtain ⟨y183, hy183⟩ : ∃ y_ : List Int, y_ = (([a0_0, a0_1] : List Int)) := ⟨_, rfl⟩
 replace H : ((record_between.f 1 1099511627776 y183).bind fun t186 => (if t186 = true then (if (l0_2.length : Int) ≤ 512 then (if (l0_3.length : Int) ≤ 8 then ((record_keys.f l0_4).bind fun t187 => (if t187 = true then ((record_keys.f l0_5).bind fun t188 => (some t188)) else (some false))) else (some false)) else (some false)) else (some false))) = some r := by first | (rw [hy183]; with_reducible exact H) | (have H2_ := (Option.bind_some _ _).symm.trans H; rw [hy183]; with_reducible exact H2_) | (have H2_ := (Option.bind_some _ _).symm.trans H; with_reducible exact H2_) | with_reducible exact H | (rw [hy183]; exact H) | exact H
 have Ny183 := Aside0.mk hy183
 clear hy183
 replace H := Option.bind_eq_some_iff.mp H
 obtain ⟨t186, A20, H⟩ := H
 replace H : (if t186 = true then (if (l0_2.length : Int) ≤ 512 then (if (l0_3.length : Int) ≤ 8 then ((record_keys.f l0_4).bind fun t187 => (if t187 = true then ((record_keys.f l0_5).bind fun t188 => (some t188)) else (some false))) else (some false)) else (some false)) else (some false)) = some r := H
 have A2 := Aside0.mk A20
 clear A20
 by_cases c3 : t186 = true
 ·subst c3
  have H1 : (if (l0_2.length : Int) ≤ 512 then (if (l0_3.length : Int) ≤ 8 then ((record_keys.f l0_4).bind fun t187 => (if t187 = true then ((record_keys.f l0_5).bind fun t188 => (some t188)) else (some false))) else (some false)) else (some false)) = some r := by rw [if_pos rfl] at H; exact H
  clear H
  have H := H1
  clear H1
  by_cases c4 : (l0_2.length : Int) ≤ 512
  ·rw [if_pos c4] at H
   have c4b0 : decide ((l0_2.length : Int) ≤ 512) = true := decide_eq_true c4
   have c4b1 : decide (l0_2.length ≤ 512) = true := decide_eq_true (by omega)
   clear c4
   by_cases c5 : (l0_3.length : Int) ≤ 8
   ·rw [if_pos c5] at H
    have c5b0 : decide ((l0_3.length : Int) ≤ 8) = true := decide_eq_true c5
    have c5b1 : decide (l0_3.length ≤ 8) = true := decide_eq_true (by omega)
    clear c5
    replace H := Option.bind_eq_some_iff.mp H
    obtain ⟨t187, A60, H⟩ := H
    replace H : (if t187 = true then ((record_keys.f l0_5).bind fun t188 => (some t188)) else (some false)) = some r := H
    have A6 := Aside0.mk A60
    clear A60
    by_cases c7 : t187 = true
    ·subst c7
     have H1 : ((record_keys.f l0_5).bind fun t188 => (some t188)) = some r := by rw [if_pos rfl] at H; exact H
     clear H
     have H := H1
     clear H1
     replace H := Option.bind_eq_some_iff.mp H
     obtain ⟨t188, A80, H⟩ := H
     replace H : (some t188) = some r := H
     have A8 := Aside0.mk A80
     clear A80
     obtain rfl := Option.some.inj H
     go_enter Tryz.func42, Tryz.ntmps42
     go_wp2_with (first | ((with_reducible refine gate_dst (N := 1) rfl ?_); (try (refine gate_guard (by rfl) ?_; dsimp only)); refine box_event ?hg (N := 1) ?hd (cs := #[.int .i64 a0_0, .int .i64 a0_1, .slice A0_2 l0_2.length c0_2, .slice A0_3 l0_3.length c0_3, .slice A0_4 l0_4.length c0_4, .slice A0_5 l0_5.length c0_5]) (t := 26) ?hr ?_; (case hd => rfl); (case hg => rfl); (case hr => first | (go_simp; done) | (go_simp; rfl)); intro gb182 hg w9 hbox hb; have n0_ := Aside0.mk (below_step (stB HB.out) hb); have n1_ := Aside0.mk (hbox); have n2_ := Aside0.mk ((by rw [hg]; exact (below_size (stB HB.out)) : w.heap.size ≤ gb182)); have n3_ := Aside0.mk ((by rw [hg]; exact (below_size (stB HB.out)) : w.heap.size ≤ gb182)); clear HB; have HB := n0_; have BK182 := n1_; have GW182 := n2_; have GE182 := n3_; clear n0_ n1_ n2_ n3_; clear hb hbox hg; obtain ⟨hcz10_0, hcz10_1, hcz10_2, hcz10_3, hcz10_4, hcz10_5⟩ := bc6 BK182.out; obtain ⟨hfz10_0, hfz10_1, hfz10_2, hfz10_3, hfz10_4, hfz10_5⟩ := bf6 BK182.out) | ((with_reducible refine gate_dst (N := 7) rfl ?_); (try (refine gate_guard (by rfl) ?_; dsimp only)); refine Kd.R_lit (Kd.int .i64) _ 2 ?hg (N := 7) ?hd (xs := ([a0_0, a0_1] : List Int)) (inner := [.int .i64 a0_0, .int .i64 a0_1]) (ok := fun _ => True) (okp := fun _ => True) ?hr ?hp (fun _ hk => hk) trivial (Below.refl _ _) (Nat.le_refl _) (by simp) ?_; (case hd => rfl); (case hg => rfl); (case hr => first | (go_simp; done) | (go_simp; rfl)); (case hp => exact (Reps.one (show Kd.M (Kd.int .i64) _ _ _ a0_0 [.int .i64 a0_0] from rfl) (Reps.one (show Kd.M (Kd.int .i64) _ _ _ a0_1 [.int .i64 a0_1] from rfl) (Reps.none _ _)))); intro v184 w11 ho12 hb hg_ hnew_; clear hg_ hnew_; (first | rw [← Ny183.out] at ho12 | (simp only [Int.reduceToNat] at ho12; rw [← Ny183.out] at ho12)); have n0_ := Aside0.mk (Kd.R_lower ho12 (below_size (by repeat (first | (with_reducible first | exact HB.out | apply below_alloc | apply pw_below_drewN | apply below_drew1 | refine below_set ?_ GE182.out) | exact HB.out)))); have n1_ := Aside0.mk (blk_below (g := gb182) (o := .cells #[.int .i64 a0_0, .int .i64 a0_1, .slice A0_2 l0_2.length c0_2, .slice A0_3 l0_3.length c0_3, .slice A0_4 l0_4.length c0_4, .slice A0_5 l0_5.length c0_5] 26 (0, 0)) (stK BK182.out) hb); have n2_ := Aside0.mk (below_step (by repeat (first | (with_reducible first | exact HB.out | apply below_alloc | apply pw_below_drewN | apply below_drew1 | refine below_set ?_ GE182.out) | exact HB.out)) hb); clear BK182; clear HB; have HO185 := n0_; have BK182 := n1_; have HB := n2_; clear n0_ n1_ n2_; clear hb ho12; obtain ⟨Ao13, co13, eo13⟩ := Kd.R_slice HO185.out; subst eo13) | ((with_reducible refine gate_callee (f := 81) rfl ?_); refine goesL_ (some 8) rfl rfl Tryz.func81 (by kernel_rfl) rfl #[.int .i64 1, .int .i64 1099511627776, .slice Ao13 y183.length co13] rfl (by (try simp only [List.map_toArray, List.map_cons, List.map_nil]); first | done | rfl | (simp only [List.length_drop, List.length_take]; rfl)) ?_; (with_reducible refine (record_between.calls 1 1099511627776 _ _ y183 true _ ?side1 ?side2 A2.out).mono ?_); (case side1 => exact stC ((Kd.R_reads' HO185.out).2.2)); (case side2 => exact (Kd.R_reads' HO185.out).2.1); rintro e w14 ⟨rfl, hb⟩; refine ⟨_, rfl, ?_⟩; have n0_ := Aside0.mk (Kd.R_below (stR HO185.out) hb); have n1_ := Aside0.mk (blk_below (g := gb182) (o := .cells #[.int .i64 a0_0, .int .i64 a0_1, .slice A0_2 l0_2.length c0_2, .slice A0_3 l0_3.length c0_3, .slice A0_4 l0_4.length c0_4, .slice A0_5 l0_5.length c0_5] 26 (0, 0)) (stK BK182.out) hb); have n2_ := Aside0.mk (below_step (by repeat (first | (with_reducible first | exact HB.out | apply below_alloc | apply pw_below_drewN | apply below_drew1 | refine below_set ?_ GE182.out) | exact HB.out)) hb); clear HO185; clear BK182; clear HB; have HO185 := n0_; have BK182 := n1_; have HB := n2_; clear n0_ n1_ n2_; (try clear hb); (try clear hb2); (try clear hk); (try clear hi); obtain ⟨hcz15_0, hcz15_1, hcz15_2, hcz15_3, hcz15_4, hcz15_5⟩ := bc6 BK182.out; obtain ⟨hfz15_0, hfz15_1, hfz15_2, hfz15_3, hfz15_4, hfz15_5⟩ := bf6 BK182.out) | (go_at_call 39; (with_reducible refine (record_keys.calls _ _ l0_4 true _ ?side1 ?side2 A6.out).mono ?_); (case side1 => exact stC (Kd.C_below HR0_4.out HB.out)); (case side2 => exact HC0_4.out); rintro e w16 ⟨rfl, hb⟩; have n0_ := Aside0.mk (Kd.R_below (stR HO185.out) hb); have n1_ := Aside0.mk (blk_below (g := gb182) (o := .cells #[.int .i64 a0_0, .int .i64 a0_1, .slice A0_2 l0_2.length c0_2, .slice A0_3 l0_3.length c0_3, .slice A0_4 l0_4.length c0_4, .slice A0_5 l0_5.length c0_5] 26 (0, 0)) (stK BK182.out) hb); have n2_ := Aside0.mk (below_step (by repeat (first | (with_reducible first | exact HB.out | apply below_alloc | apply pw_below_drewN | apply below_drew1 | refine below_set ?_ GE182.out) | exact HB.out)) hb); clear HO185; clear BK182; clear HB; have HO185 := n0_; have BK182 := n1_; have HB := n2_; clear n0_ n1_ n2_; (try clear hb); (try clear hb2); (try clear hk); (try clear hi); obtain ⟨hcz17_0, hcz17_1, hcz17_2, hcz17_3, hcz17_4, hcz17_5⟩ := bc6 BK182.out; obtain ⟨hfz17_0, hfz17_1, hfz17_2, hfz17_3, hfz17_4, hfz17_5⟩ := bf6 BK182.out) | (go_at_call 39; (with_reducible refine (record_keys.calls _ _ l0_5 t188 _ ?side1 ?side2 A8.out).mono ?_); (case side1 => exact stC (Kd.C_below HR0_5.out HB.out)); (case side2 => exact HC0_5.out); rintro e w18 ⟨rfl, hb⟩; have n0_ := Aside0.mk (Kd.R_below (stR HO185.out) hb); have n1_ := Aside0.mk (blk_below (g := gb182) (o := .cells #[.int .i64 a0_0, .int .i64 a0_1, .slice A0_2 l0_2.length c0_2, .slice A0_3 l0_3.length c0_3, .slice A0_4 l0_4.length c0_4, .slice A0_5 l0_5.length c0_5] 26 (0, 0)) (stK BK182.out) hb); have n2_ := Aside0.mk (below_step (by repeat (first | (with_reducible first | exact HB.out | apply below_alloc | apply pw_below_drewN | apply below_drew1 | refine below_set ?_ GE182.out) | exact HB.out)) hb); clear HO185; clear BK182; clear HB; have HO185 := n0_; have BK182 := n1_; have HB := n2_; clear n0_ n1_ n2_; (try clear hb); (try clear hb2); (try clear hk); (try clear hi)))
     go_ret
     exact ⟨by first | rfl | (simp [errW_none, errW_some] <;> rfl) | (simp [*, errW_none, errW_some] <;> rfl), by repeat (first | (with_reducible first | exact HB.out | apply below_alloc | apply pw_below_drewN | apply below_drew1 | refine below_set ?_ GE182.out) | exact HB.out)⟩
    ·replace c7 := Bool.eq_false_iff.mpr c7
     subst c7
     have H1 : (some false) = some r := by rw [if_neg (show ¬ (false = true) by decide)] at H; exact H
     clear H
     have H := H1
     clear H1
     obtain rfl := Option.some.inj H
     go_enter Tryz.func42, Tryz.ntmps42
     go_wp2_with (first | ((with_reducible refine gate_dst (N := 1) rfl ?_); (try (refine gate_guard (by rfl) ?_; dsimp only)); refine box_event ?hg (N := 1) ?hd (cs := #[.int .i64 a0_0, .int .i64 a0_1, .slice A0_2 l0_2.length c0_2, .slice A0_3 l0_3.length c0_3, .slice A0_4 l0_4.length c0_4, .slice A0_5 l0_5.length c0_5]) (t := 26) ?hr ?_; (case hd => rfl); (case hg => rfl); (case hr => first | (go_simp; done) | (go_simp; rfl)); intro gb182 hg w19 hbox hb; have n0_ := Aside0.mk (below_step (stB HB.out) hb); have n1_ := Aside0.mk (hbox); have n2_ := Aside0.mk ((by rw [hg]; exact (below_size (stB HB.out)) : w.heap.size ≤ gb182)); have n3_ := Aside0.mk ((by rw [hg]; exact (below_size (stB HB.out)) : w.heap.size ≤ gb182)); clear HB; have HB := n0_; have BK182 := n1_; have GW182 := n2_; have GE182 := n3_; clear n0_ n1_ n2_ n3_; clear hb hbox hg; obtain ⟨hcz20_0, hcz20_1, hcz20_2, hcz20_3, hcz20_4, hcz20_5⟩ := bc6 BK182.out; obtain ⟨hfz20_0, hfz20_1, hfz20_2, hfz20_3, hfz20_4, hfz20_5⟩ := bf6 BK182.out) | ((with_reducible refine gate_dst (N := 7) rfl ?_); (try (refine gate_guard (by rfl) ?_; dsimp only)); refine Kd.R_lit (Kd.int .i64) _ 2 ?hg (N := 7) ?hd (xs := ([a0_0, a0_1] : List Int)) (inner := [.int .i64 a0_0, .int .i64 a0_1]) (ok := fun _ => True) (okp := fun _ => True) ?hr ?hp (fun _ hk => hk) trivial (Below.refl _ _) (Nat.le_refl _) (by simp) ?_; (case hd => rfl); (case hg => rfl); (case hr => first | (go_simp; done) | (go_simp; rfl)); (case hp => exact (Reps.one (show Kd.M (Kd.int .i64) _ _ _ a0_0 [.int .i64 a0_0] from rfl) (Reps.one (show Kd.M (Kd.int .i64) _ _ _ a0_1 [.int .i64 a0_1] from rfl) (Reps.none _ _)))); intro v184 w21 ho22 hb hg_ hnew_; clear hg_ hnew_; (first | rw [← Ny183.out] at ho22 | (simp only [Int.reduceToNat] at ho22; rw [← Ny183.out] at ho22)); have n0_ := Aside0.mk (Kd.R_lower ho22 (below_size (by repeat (first | (with_reducible first | exact HB.out | apply below_alloc | apply pw_below_drewN | apply below_drew1 | refine below_set ?_ GE182.out) | exact HB.out)))); have n1_ := Aside0.mk (blk_below (g := gb182) (o := .cells #[.int .i64 a0_0, .int .i64 a0_1, .slice A0_2 l0_2.length c0_2, .slice A0_3 l0_3.length c0_3, .slice A0_4 l0_4.length c0_4, .slice A0_5 l0_5.length c0_5] 26 (0, 0)) (stK BK182.out) hb); have n2_ := Aside0.mk (below_step (by repeat (first | (with_reducible first | exact HB.out | apply below_alloc | apply pw_below_drewN | apply below_drew1 | refine below_set ?_ GE182.out) | exact HB.out)) hb); clear BK182; clear HB; have HO185 := n0_; have BK182 := n1_; have HB := n2_; clear n0_ n1_ n2_; clear hb ho22; obtain ⟨Ao23, co23, eo23⟩ := Kd.R_slice HO185.out; subst eo23) | ((with_reducible refine gate_callee (f := 81) rfl ?_); refine goesL_ (some 8) rfl rfl Tryz.func81 (by kernel_rfl) rfl #[.int .i64 1, .int .i64 1099511627776, .slice Ao23 y183.length co23] rfl (by (try simp only [List.map_toArray, List.map_cons, List.map_nil]); first | done | rfl | (simp only [List.length_drop, List.length_take]; rfl)) ?_; (with_reducible refine (record_between.calls 1 1099511627776 _ _ y183 true _ ?side1 ?side2 A2.out).mono ?_); (case side1 => exact stC ((Kd.R_reads' HO185.out).2.2)); (case side2 => exact (Kd.R_reads' HO185.out).2.1); rintro e w24 ⟨rfl, hb⟩; refine ⟨_, rfl, ?_⟩; have n0_ := Aside0.mk (Kd.R_below (stR HO185.out) hb); have n1_ := Aside0.mk (blk_below (g := gb182) (o := .cells #[.int .i64 a0_0, .int .i64 a0_1, .slice A0_2 l0_2.length c0_2, .slice A0_3 l0_3.length c0_3, .slice A0_4 l0_4.length c0_4, .slice A0_5 l0_5.length c0_5] 26 (0, 0)) (stK BK182.out) hb); have n2_ := Aside0.mk (below_step (by repeat (first | (with_reducible first | exact HB.out | apply below_alloc | apply pw_below_drewN | apply below_drew1 | refine below_set ?_ GE182.out) | exact HB.out)) hb); clear HO185; clear BK182; clear HB; have HO185 := n0_; have BK182 := n1_; have HB := n2_; clear n0_ n1_ n2_; (try clear hb); (try clear hb2); (try clear hk); (try clear hi); obtain ⟨hcz25_0, hcz25_1, hcz25_2, hcz25_3, hcz25_4, hcz25_5⟩ := bc6 BK182.out; obtain ⟨hfz25_0, hfz25_1, hfz25_2, hfz25_3, hfz25_4, hfz25_5⟩ := bf6 BK182.out) | (go_at_call 39; (with_reducible refine (record_keys.calls _ _ l0_4 false _ ?side1 ?side2 A6.out).mono ?_); (case side1 => exact stC (Kd.C_below HR0_4.out HB.out)); (case side2 => exact HC0_4.out); rintro e w26 ⟨rfl, hb⟩; have n0_ := Aside0.mk (Kd.R_below (stR HO185.out) hb); have n1_ := Aside0.mk (blk_below (g := gb182) (o := .cells #[.int .i64 a0_0, .int .i64 a0_1, .slice A0_2 l0_2.length c0_2, .slice A0_3 l0_3.length c0_3, .slice A0_4 l0_4.length c0_4, .slice A0_5 l0_5.length c0_5] 26 (0, 0)) (stK BK182.out) hb); have n2_ := Aside0.mk (below_step (by repeat (first | (with_reducible first | exact HB.out | apply below_alloc | apply pw_below_drewN | apply below_drew1 | refine below_set ?_ GE182.out) | exact HB.out)) hb); clear HO185; clear BK182; clear HB; have HO185 := n0_; have BK182 := n1_; have HB := n2_; clear n0_ n1_ n2_; (try clear hb); (try clear hb2); (try clear hk); (try clear hi)))
     go_ret
     exact ⟨by first | rfl | (simp [errW_none, errW_some] <;> rfl) | (simp [*, errW_none, errW_some] <;> rfl), by repeat (first | (with_reducible first | exact HB.out | apply below_alloc | apply pw_below_drewN | apply below_drew1 | refine below_set ?_ GE182.out) | exact HB.out)⟩
   ·rw [if_neg c5] at H
    have c5b0 : decide ((l0_3.length : Int) ≤ 8) = false := decide_eq_false c5
    have c5b1 : decide (l0_3.length ≤ 8) = false := decide_eq_false (by omega)
    clear c5
    obtain rfl := Option.some.inj H
    go_enter Tryz.func42, Tryz.ntmps42
    go_wp2_with (first | ((with_reducible refine gate_dst (N := 1) rfl ?_); (try (refine gate_guard (by rfl) ?_; dsimp only)); refine box_event ?hg (N := 1) ?hd (cs := #[.int .i64 a0_0, .int .i64 a0_1, .slice A0_2 l0_2.length c0_2, .slice A0_3 l0_3.length c0_3, .slice A0_4 l0_4.length c0_4, .slice A0_5 l0_5.length c0_5]) (t := 26) ?hr ?_; (case hd => rfl); (case hg => rfl); (case hr => first | (go_simp; done) | (go_simp; rfl)); intro gb182 hg w27 hbox hb; have n0_ := Aside0.mk (below_step (stB HB.out) hb); have n1_ := Aside0.mk (hbox); have n2_ := Aside0.mk ((by rw [hg]; exact (below_size (stB HB.out)) : w.heap.size ≤ gb182)); have n3_ := Aside0.mk ((by rw [hg]; exact (below_size (stB HB.out)) : w.heap.size ≤ gb182)); clear HB; have HB := n0_; have BK182 := n1_; have GW182 := n2_; have GE182 := n3_; clear n0_ n1_ n2_ n3_; clear hb hbox hg; obtain ⟨hcz28_0, hcz28_1, hcz28_2, hcz28_3, hcz28_4, hcz28_5⟩ := bc6 BK182.out; obtain ⟨hfz28_0, hfz28_1, hfz28_2, hfz28_3, hfz28_4, hfz28_5⟩ := bf6 BK182.out) | ((with_reducible refine gate_dst (N := 7) rfl ?_); (try (refine gate_guard (by rfl) ?_; dsimp only)); refine Kd.R_lit (Kd.int .i64) _ 2 ?hg (N := 7) ?hd (xs := ([a0_0, a0_1] : List Int)) (inner := [.int .i64 a0_0, .int .i64 a0_1]) (ok := fun _ => True) (okp := fun _ => True) ?hr ?hp (fun _ hk => hk) trivial (Below.refl _ _) (Nat.le_refl _) (by simp) ?_; (case hd => rfl); (case hg => rfl); (case hr => first | (go_simp; done) | (go_simp; rfl)); (case hp => exact (Reps.one (show Kd.M (Kd.int .i64) _ _ _ a0_0 [.int .i64 a0_0] from rfl) (Reps.one (show Kd.M (Kd.int .i64) _ _ _ a0_1 [.int .i64 a0_1] from rfl) (Reps.none _ _)))); intro v184 w29 ho30 hb hg_ hnew_; clear hg_ hnew_; (first | rw [← Ny183.out] at ho30 | (simp only [Int.reduceToNat] at ho30; rw [← Ny183.out] at ho30)); have n0_ := Aside0.mk (Kd.R_lower ho30 (below_size (by repeat (first | (with_reducible first | exact HB.out | apply below_alloc | apply pw_below_drewN | apply below_drew1 | refine below_set ?_ GE182.out) | exact HB.out)))); have n1_ := Aside0.mk (blk_below (g := gb182) (o := .cells #[.int .i64 a0_0, .int .i64 a0_1, .slice A0_2 l0_2.length c0_2, .slice A0_3 l0_3.length c0_3, .slice A0_4 l0_4.length c0_4, .slice A0_5 l0_5.length c0_5] 26 (0, 0)) (stK BK182.out) hb); have n2_ := Aside0.mk (below_step (by repeat (first | (with_reducible first | exact HB.out | apply below_alloc | apply pw_below_drewN | apply below_drew1 | refine below_set ?_ GE182.out) | exact HB.out)) hb); clear BK182; clear HB; have HO185 := n0_; have BK182 := n1_; have HB := n2_; clear n0_ n1_ n2_; clear hb ho30; obtain ⟨Ao31, co31, eo31⟩ := Kd.R_slice HO185.out; subst eo31) | ((with_reducible refine gate_callee (f := 81) rfl ?_); refine goesL_ (some 8) rfl rfl Tryz.func81 (by kernel_rfl) rfl #[.int .i64 1, .int .i64 1099511627776, .slice Ao31 y183.length co31] rfl (by (try simp only [List.map_toArray, List.map_cons, List.map_nil]); first | done | rfl | (simp only [List.length_drop, List.length_take]; rfl)) ?_; (with_reducible refine (record_between.calls 1 1099511627776 _ _ y183 true _ ?side1 ?side2 A2.out).mono ?_); (case side1 => exact stC ((Kd.R_reads' HO185.out).2.2)); (case side2 => exact (Kd.R_reads' HO185.out).2.1); rintro e w32 ⟨rfl, hb⟩; refine ⟨_, rfl, ?_⟩; have n0_ := Aside0.mk (Kd.R_below (stR HO185.out) hb); have n1_ := Aside0.mk (blk_below (g := gb182) (o := .cells #[.int .i64 a0_0, .int .i64 a0_1, .slice A0_2 l0_2.length c0_2, .slice A0_3 l0_3.length c0_3, .slice A0_4 l0_4.length c0_4, .slice A0_5 l0_5.length c0_5] 26 (0, 0)) (stK BK182.out) hb); have n2_ := Aside0.mk (below_step (by repeat (first | (with_reducible first | exact HB.out | apply below_alloc | apply pw_below_drewN | apply below_drew1 | refine below_set ?_ GE182.out) | exact HB.out)) hb); clear HO185; clear BK182; clear HB; have HO185 := n0_; have BK182 := n1_; have HB := n2_; clear n0_ n1_ n2_; (try clear hb); (try clear hb2); (try clear hk); (try clear hi); obtain ⟨hcz33_0, hcz33_1, hcz33_2, hcz33_3, hcz33_4, hcz33_5⟩ := bc6 BK182.out; obtain ⟨hfz33_0, hfz33_1, hfz33_2, hfz33_3, hfz33_4, hfz33_5⟩ := bf6 BK182.out))
    go_ret
    exact ⟨by first | rfl | (simp [errW_none, errW_some] <;> rfl) | (simp [*, errW_none, errW_some] <;> rfl), by repeat (first | (with_reducible first | exact HB.out | apply below_alloc | apply pw_below_drewN | apply below_drew1 | refine below_set ?_ GE182.out) | exact HB.out)⟩
  ·rw [if_neg c4] at H
   have c4b0 : decide ((l0_2.length : Int) ≤ 512) = false := decide_eq_false c4
   have c4b1 : decide (l0_2.length ≤ 512) = false := decide_eq_false (by omega)
   clear c4
   obtain rfl := Option.some.inj H
   go_enter Tryz.func42, Tryz.ntmps42
   go_wp2_with (first | ((with_reducible refine gate_dst (N := 1) rfl ?_); (try (refine gate_guard (by rfl) ?_; dsimp only)); refine box_event ?hg (N := 1) ?hd (cs := #[.int .i64 a0_0, .int .i64 a0_1, .slice A0_2 l0_2.length c0_2, .slice A0_3 l0_3.length c0_3, .slice A0_4 l0_4.length c0_4, .slice A0_5 l0_5.length c0_5]) (t := 26) ?hr ?_; (case hd => rfl); (case hg => rfl); (case hr => first | (go_simp; done) | (go_simp; rfl)); intro gb182 hg w34 hbox hb; have n0_ := Aside0.mk (below_step (stB HB.out) hb); have n1_ := Aside0.mk (hbox); have n2_ := Aside0.mk ((by rw [hg]; exact (below_size (stB HB.out)) : w.heap.size ≤ gb182)); have n3_ := Aside0.mk ((by rw [hg]; exact (below_size (stB HB.out)) : w.heap.size ≤ gb182)); clear HB; have HB := n0_; have BK182 := n1_; have GW182 := n2_; have GE182 := n3_; clear n0_ n1_ n2_ n3_; clear hb hbox hg; obtain ⟨hcz35_0, hcz35_1, hcz35_2, hcz35_3, hcz35_4, hcz35_5⟩ := bc6 BK182.out; obtain ⟨hfz35_0, hfz35_1, hfz35_2, hfz35_3, hfz35_4, hfz35_5⟩ := bf6 BK182.out) | ((with_reducible refine gate_dst (N := 7) rfl ?_); (try (refine gate_guard (by rfl) ?_; dsimp only)); refine Kd.R_lit (Kd.int .i64) _ 2 ?hg (N := 7) ?hd (xs := ([a0_0, a0_1] : List Int)) (inner := [.int .i64 a0_0, .int .i64 a0_1]) (ok := fun _ => True) (okp := fun _ => True) ?hr ?hp (fun _ hk => hk) trivial (Below.refl _ _) (Nat.le_refl _) (by simp) ?_; (case hd => rfl); (case hg => rfl); (case hr => first | (go_simp; done) | (go_simp; rfl)); (case hp => exact (Reps.one (show Kd.M (Kd.int .i64) _ _ _ a0_0 [.int .i64 a0_0] from rfl) (Reps.one (show Kd.M (Kd.int .i64) _ _ _ a0_1 [.int .i64 a0_1] from rfl) (Reps.none _ _)))); intro v184 w36 ho37 hb hg_ hnew_; clear hg_ hnew_; (first | rw [← Ny183.out] at ho37 | (simp only [Int.reduceToNat] at ho37; rw [← Ny183.out] at ho37)); have n0_ := Aside0.mk (Kd.R_lower ho37 (below_size (by repeat (first | (with_reducible first | exact HB.out | apply below_alloc | apply pw_below_drewN | apply below_drew1 | refine below_set ?_ GE182.out) | exact HB.out)))); have n1_ := Aside0.mk (blk_below (g := gb182) (o := .cells #[.int .i64 a0_0, .int .i64 a0_1, .slice A0_2 l0_2.length c0_2, .slice A0_3 l0_3.length c0_3, .slice A0_4 l0_4.length c0_4, .slice A0_5 l0_5.length c0_5] 26 (0, 0)) (stK BK182.out) hb); have n2_ := Aside0.mk (below_step (by repeat (first | (with_reducible first | exact HB.out | apply below_alloc | apply pw_below_drewN | apply below_drew1 | refine below_set ?_ GE182.out) | exact HB.out)) hb); clear BK182; clear HB; have HO185 := n0_; have BK182 := n1_; have HB := n2_; clear n0_ n1_ n2_; clear hb ho37; obtain ⟨Ao38, co38, eo38⟩ := Kd.R_slice HO185.out; subst eo38) | ((with_reducible refine gate_callee (f := 81) rfl ?_); refine goesL_ (some 8) rfl rfl Tryz.func81 (by kernel_rfl) rfl #[.int .i64 1, .int .i64 1099511627776, .slice Ao38 y183.length co38] rfl (by (try simp only [List.map_toArray, List.map_cons, List.map_nil]); first | done | rfl | (simp only [List.length_drop, List.length_take]; rfl)) ?_; (with_reducible refine (record_between.calls 1 1099511627776 _ _ y183 true _ ?side1 ?side2 A2.out).mono ?_); (case side1 => exact stC ((Kd.R_reads' HO185.out).2.2)); (case side2 => exact (Kd.R_reads' HO185.out).2.1); rintro e w39 ⟨rfl, hb⟩; refine ⟨_, rfl, ?_⟩; have n0_ := Aside0.mk (Kd.R_below (stR HO185.out) hb); have n1_ := Aside0.mk (blk_below (g := gb182) (o := .cells #[.int .i64 a0_0, .int .i64 a0_1, .slice A0_2 l0_2.length c0_2, .slice A0_3 l0_3.length c0_3, .slice A0_4 l0_4.length c0_4, .slice A0_5 l0_5.length c0_5] 26 (0, 0)) (stK BK182.out) hb); have n2_ := Aside0.mk (below_step (by repeat (first | (with_reducible first | exact HB.out | apply below_alloc | apply pw_below_drewN | apply below_drew1 | refine below_set ?_ GE182.out) | exact HB.out)) hb); clear HO185; clear BK182; clear HB; have HO185 := n0_; have BK182 := n1_; have HB := n2_; clear n0_ n1_ n2_; (try clear hb); (try clear hb2); (try clear hk); (try clear hi); obtain ⟨hcz40_0, hcz40_1, hcz40_2, hcz40_3, hcz40_4, hcz40_5⟩ := bc6 BK182.out; obtain ⟨hfz40_0, hfz40_1, hfz40_2, hfz40_3, hfz40_4, hfz40_5⟩ := bf6 BK182.out))
   go_ret
   exact ⟨by first | rfl | (simp [errW_none, errW_some] <;> rfl) | (simp [*, errW_none, errW_some] <;> rfl), by repeat (first | (with_reducible first | exact HB.out | apply below_alloc | apply pw_below_drewN | apply below_drew1 | refine below_set ?_ GE182.out) | exact HB.out)⟩
 ·replace c3 := Bool.eq_false_iff.mpr c3
  subst c3
  have H1 : (some false) = some r := by rw [if_neg (show ¬ (false = true) by decide)] at H; exact H
  clear H
  have H := H1
  clear H1
  obtain rfl := Option.some.inj H
  go_enter Tryz.func42, Tryz.ntmps42
  go_wp2_with (first | ((with_reducible refine gate_dst (N := 1) rfl ?_); (try (refine gate_guard (by rfl) ?_; dsimp only)); refine box_event ?hg (N := 1) ?hd (cs := #[.int .i64 a0_0, .int .i64 a0_1, .slice A0_2 l0_2.length c0_2, .slice A0_3 l0_3.length c0_3, .slice A0_4 l0_4.length c0_4, .slice A0_5 l0_5.length c0_5]) (t := 26) ?hr ?_; (case hd => rfl); (case hg => rfl); (case hr => first | (go_simp; done) | (go_simp; rfl)); intro gb182 hg w41 hbox hb; have n0_ := Aside0.mk (below_step (stB HB.out) hb); have n1_ := Aside0.mk (hbox); have n2_ := Aside0.mk ((by rw [hg]; exact (below_size (stB HB.out)) : w.heap.size ≤ gb182)); have n3_ := Aside0.mk ((by rw [hg]; exact (below_size (stB HB.out)) : w.heap.size ≤ gb182)); clear HB; have HB := n0_; have BK182 := n1_; have GW182 := n2_; have GE182 := n3_; clear n0_ n1_ n2_ n3_; clear hb hbox hg; obtain ⟨hcz42_0, hcz42_1, hcz42_2, hcz42_3, hcz42_4, hcz42_5⟩ := bc6 BK182.out; obtain ⟨hfz42_0, hfz42_1, hfz42_2, hfz42_3, hfz42_4, hfz42_5⟩ := bf6 BK182.out) | ((with_reducible refine gate_dst (N := 7) rfl ?_); (try (refine gate_guard (by rfl) ?_; dsimp only)); refine Kd.R_lit (Kd.int .i64) _ 2 ?hg (N := 7) ?hd (xs := ([a0_0, a0_1] : List Int)) (inner := [.int .i64 a0_0, .int .i64 a0_1]) (ok := fun _ => True) (okp := fun _ => True) ?hr ?hp (fun _ hk => hk) trivial (Below.refl _ _) (Nat.le_refl _) (by simp) ?_; (case hd => rfl); (case hg => rfl); (case hr => first | (go_simp; done) | (go_simp; rfl)); (case hp => exact (Reps.one (show Kd.M (Kd.int .i64) _ _ _ a0_0 [.int .i64 a0_0] from rfl) (Reps.one (show Kd.M (Kd.int .i64) _ _ _ a0_1 [.int .i64 a0_1] from rfl) (Reps.none _ _)))); intro v184 w43 ho44 hb hg_ hnew_; clear hg_ hnew_; (first | rw [← Ny183.out] at ho44 | (simp only [Int.reduceToNat] at ho44; rw [← Ny183.out] at ho44)); have n0_ := Aside0.mk (Kd.R_lower ho44 (below_size (by repeat (first | (with_reducible first | exact HB.out | apply below_alloc | apply pw_below_drewN | apply below_drew1 | refine below_set ?_ GE182.out) | exact HB.out)))); have n1_ := Aside0.mk (blk_below (g := gb182) (o := .cells #[.int .i64 a0_0, .int .i64 a0_1, .slice A0_2 l0_2.length c0_2, .slice A0_3 l0_3.length c0_3, .slice A0_4 l0_4.length c0_4, .slice A0_5 l0_5.length c0_5] 26 (0, 0)) (stK BK182.out) hb); have n2_ := Aside0.mk (below_step (by repeat (first | (with_reducible first | exact HB.out | apply below_alloc | apply pw_below_drewN | apply below_drew1 | refine below_set ?_ GE182.out) | exact HB.out)) hb); clear BK182; clear HB; have HO185 := n0_; have BK182 := n1_; have HB := n2_; clear n0_ n1_ n2_; clear hb ho44; obtain ⟨Ao45, co45, eo45⟩ := Kd.R_slice HO185.out; subst eo45) | ((with_reducible refine gate_callee (f := 81) rfl ?_); refine goesL_ (some 8) rfl rfl Tryz.func81 (by kernel_rfl) rfl #[.int .i64 1, .int .i64 1099511627776, .slice Ao45 y183.length co45] rfl (by (try simp only [List.map_toArray, List.map_cons, List.map_nil]); first | done | rfl | (simp only [List.length_drop, List.length_take]; rfl)) ?_; (with_reducible refine (record_between.calls 1 1099511627776 _ _ y183 false _ ?side1 ?side2 A2.out).mono ?_); (case side1 => exact stC ((Kd.R_reads' HO185.out).2.2)); (case side2 => exact (Kd.R_reads' HO185.out).2.1); rintro e w46 ⟨rfl, hb⟩; refine ⟨_, rfl, ?_⟩; have n0_ := Aside0.mk (Kd.R_below (stR HO185.out) hb); have n1_ := Aside0.mk (blk_below (g := gb182) (o := .cells #[.int .i64 a0_0, .int .i64 a0_1, .slice A0_2 l0_2.length c0_2, .slice A0_3 l0_3.length c0_3, .slice A0_4 l0_4.length c0_4, .slice A0_5 l0_5.length c0_5] 26 (0, 0)) (stK BK182.out) hb); have n2_ := Aside0.mk (below_step (by repeat (first | (with_reducible first | exact HB.out | apply below_alloc | apply pw_below_drewN | apply below_drew1 | refine below_set ?_ GE182.out) | exact HB.out)) hb); clear HO185; clear BK182; clear HB; have HO185 := n0_; have BK182 := n1_; have HB := n2_; clear n0_ n1_ n2_; (try clear hb); (try clear hb2); (try clear hk); (try clear hi)))
  go_ret
  exact ⟨by first | rfl | (simp [errW_none, errW_some] <;> rfl) | (simp [*, errW_none, errW_some] <;> rfl), by repeat (first | (with_reducible first | exact HB.out | apply below_alloc | apply pw_below_drewN | apply below_drew1 | refine below_set ?_ GE182.out) | exact HB.out)⟩
def trivetref04_count.f (a0 : Int) : Option (Bool) := if a0 ≥ 0 then (some (decide (a0 ≤ 1099511627776))) else (some false)
set_option maxHeartbeats 8000000 in
set_option maxRecDepth 100000 in
theorem trivetref04_count.calls (a0 : Int) (r : Bool) (w : World) (h : trivetref04_count.f a0 = some r) :
  Calls Tryz.prog 67 #[.int .i64 a0] w fun e w' => e = .returned (.bool r) ∧ Drawn0 w w' := by
 have H : (if a0 ≥ 0 then (some (decide (a0 ≤ 1099511627776))) else (some false)) = some r := h
 clear h
 by_cases c2 : a0 ≥ 0
 ·rw [if_pos c2] at H
  have c2b0 : decide (0 ≤ a0) = true := decide_eq_true c2
  clear c2
  obtain rfl := Option.some.inj H
  go_enter Tryz.func67, Tryz.ntmps67
  go_wp2
  go_ret
  exact ⟨by first | rfl | (simp; done) | (simp [*]; done), by repeat (first | exact Drawn0.refl _ | apply Drawn0.step)⟩
 ·rw [if_neg c2] at H
  have c2b0 : decide (0 ≤ a0) = false := decide_eq_false c2
  clear c2
  obtain rfl := Option.some.inj H
  go_enter Tryz.func67, Tryz.ntmps67
  go_wp2
  go_ret
  exact ⟨by first | rfl | (simp; done) | (simp [*]; done), by repeat (first | exact Drawn0.refl _ | apply Drawn0.step)⟩
end Go.Proofs.YtgiefblcckikeaaGreat.G
end

section
/- record.SameEntry. -/
set_option maxRecDepth 100000
namespace Go.Proofs.YtgiefblcckikeaaGreat.M
open Go.RowKit Go.Proofs.YtgiefblcckikeaaGreatW.PrintWords Go.Proofs.YtgiefblcckikeaaGreatW.PrintLast Go.Proofs.YtgiefblcckikeaaGreatW.PrintMore Go.Proofs.YtgiefblcckikeaaGreat.G
structure TxAt (w : World) (p : Addr) (x : TxD) (A2 : Option Addr) (c2 : Nat) (A3 : Option Addr) (c3 : Nat) (A4 : Option Addr) (c4 : Nat) (A5 : Option Addr) (c5 : Nat) : Prop where
 e0 : w.cell? p = some (.int .i64 x.f0)
 e1 : w.cell? ⟨p.block, p.off + 1, none⟩ = some (.int .i64 x.f1)
 e2 : w.cell? ⟨p.block, p.off + 2, none⟩ = some (.slice A2 x.f2.length c2)
 e3 : w.cell? ⟨p.block, p.off + 3, none⟩ = some (.slice A3 x.f3.length c3)
 e4 : w.cell? ⟨p.block, p.off + 4, none⟩ = some (.slice A4 x.f4.length c4)
 e5 : w.cell? ⟨p.block, p.off + 5, none⟩ = some (.slice A5 x.f5.length c5)
structure TxC (w : World) (x : TxD) (A2 : Option Addr) (c2 : Nat) (A3 : Option Addr) (c3 : Nat) (A4 : Option Addr) (c4 : Nat) (A5 : Option Addr) (c5 : Nat) : Prop where
 l2 : x.f2.length ≤ c2
 g2 : (Kd.int .u8).C w A2 x.f2.length x.f2
 l3 : x.f3.length ≤ c3
 g3 : (Kd.int .i64).C w A3 x.f3.length x.f3
 l4 : x.f4.length ≤ c4
 g4 : G.k101.C w A4 x.f4.length x.f4
 l5 : x.f5.length ≤ c5
 g5 : G.k101.C w A5 x.f5.length x.f5
theorem TxC.below {w w' : World} {x : TxD} {A2 A3 A4 A5 : Option Addr} {c2 c3 c4 c5 : Nat} (h : TxC w x A2 c2 A3 c3 A4 c4 A5 c5) (hb : Below w.heap.size w w') : TxC w' x A2 c2 A3 c3 A4 c4 A5 c5 :=
 ⟨h.l2, Kd.C_below h.g2 hb, h.l3, Kd.C_below h.g3 hb, h.l4, Kd.C_below h.g4 hb, h.l5, Kd.C_below h.g5 hb⟩
theorem TxC.le {w : World} {x : TxD} {A2 A3 A4 A5 : Option Addr} {c2 c3 c4 c5 : Nat} (h : TxC w x A2 c2 A3 c3 A4 c4 A5 c5) : TxLe x 9223372036854775807 := ⟨h.g2.2.1, h.g3.2.1, h.g4.2.1, h.g5.2.1⟩
theorem tx_get {w : World} {A : Option Addr} {n : Nat} {l : List TxD} (h : Kd.C G.k26 w A n l) {k : Nat} {x : TxD} (hk : l[k]? = some x) :
  ∃ ad A2 c2 A3 c3 A4 c4 A5 c5, A = some ad ∧ TxAt w (ad.add (k * 6)) x A2 c2 A3 c3 A4 c4 A5 c5 ∧ TxC w x A2 c2 A3 c3 A4 c4 A5 c5 := by
 have hlt : k < n := by
  have := (List.getElem?_eq_some_iff.1 hk).1
  have := h.1
  omega
 obtain ⟨ad, A2, c2, A3, c3, A4, c4, A5, c5, rfl, h0, h1, h2, h3, h4, h5, l2, g2, l3, g3, l4, g4, l5, g5⟩ := G.at_T26 h (k : Int) (by omega) (by omega)
 have e : G.rd_T26 l (k : Int) = x := by unfold G.rd_T26; rw [Int.toNat_natCast, List.getD_eq_getElem?_getD, hk]; rfl
 rw [e] at h0 h1 h2 h3 h4 h5 l2 g2 l3 g3 l4 g4 l5 g5
 rw [Int.toNat_natCast] at h0 h1 h2 h3 h4 h5
 exact ⟨ad, A2, c2, A3, c3, A4, c4, A5, c5, rfl, ⟨h0, h1, h2, h3, h4, h5⟩, ⟨l2, g2, l3, g3, l4, g4, l5, g5⟩⟩
theorem sameTx_is {w : World} (a b : TxD) {A2 A3 A4 A5 B2 B3 B4 B5 : Option Addr} {c2 c3 c4 c5 d2 d3 d4 d5 : Nat} (ha : TxC w a A2 c2 A3 c3 A4 c4 A5 c5) (hb : TxC w b B2 d2 B3 d3 B4 d4 B5 d5) :
  Calls Tryz.prog 142 #[.agg #[.int .i64 a.f0, .int .i64 a.f1, .slice A2 a.f2.length c2, .slice A3 a.f3.length c3, .slice A4 a.f4.length c4, .slice A5 a.f5.length c5], .agg #[.int .i64 b.f0, .int .i64 b.f1, .slice B2 b.f2.length d2, .slice B3 b.f3.length d3, .slice B4 b.f4.length d4, .slice B5 b.f5.length d5]] w fun e w' => e = .returned (.bool (eqTx a b)) ∧ Below w.heap.size w w' :=
 G.record_SameTxn.calls (a.f3.length + a.f4.length + a.f5.length + 1) a.f0 a.f1 A2 c2 a.f2 A3 c3 a.f3 A4 c4 a.f4 A5 c5 a.f5 b.f0 b.f1 B2 d2 b.f2 B3 d3 b.f3 B4 d4 b.f4 B5 d5 b.f5 _ w ha.g2 ha.l2 ha.g3 ha.l3 ha.g4 ha.l4 ha.g5 ha.l5 hb.g2 hb.l2 hb.g3 hb.l3 hb.g4 hb.l4 hb.g5 hb.l5 (sameTxn_p _ a b ha.le ⟨by omega, by omega, by omega⟩)
theorem eqTs_take {a b : List TxD} {i : Nat} {x y : TxD} (hx : a[i]? = some x) (hy : b[i]? = some y) : eqTs (a.drop i) (b.drop i) = (eqTx x y && eqTs (a.drop (i + 1)) (b.drop (i + 1))) := by
 rw [drop_cons hx, drop_cons hy]; rfl
def EqI (a b : List TxD) (w : World) (i : Value) (wr : World) : Prop := ∃ k : Nat, i = .int .i64 k ∧ k ≤ a.length ∧ eqTs a b = eqTs (a.drop k) (b.drop k) ∧ Below w.heap.size w wr
set_option maxHeartbeats 1000000 in
theorem eqfunc_is (A B : Option Addr) (c d : Nat) (a b : List TxD) (w : World) (ha : Kd.C G.k26 w A a.length a) (hb : Kd.C G.k26 w B b.length b) :
  Calls Tryz.prog 141 #[.slice A a.length c, .slice B b.length d, .func (.func 142) #[] #[]] w fun e w' => e = .returned (.bool (eqTs a b)) ∧ Below w.heap.size w w' := by
 have hlm : a.length ≤ 9223372036854775807 := ha.2.1
 have HA := Lib.hid ha; have HB := Lib.hid hb
 clear ha hb
 by_cases hl : a.length = b.length
 ·have hlb : ((a.length : Int) != (b.length : Int)) = false := by rw [bne_eq_false_iff_eq]; omega
  have HL := Lib.hid hl
  clear hl
  go_enter Tryz.func141, Tryz.ntmps141
  go_wp2_with fail
  go_loopw [17] (fun i wr => EqI a b w i wr) (fun i _ => a.length - (intOf i).toNat)
  case atStart => exact ⟨0, rfl, Nat.zero_le _, rfl, Below.refl _ _⟩
  case round =>
   obtain ⟨k, rfl, hk, he, hb⟩ := hrel
   have HE := Lib.hid he; have HBr := Lib.hid hb
   clear he hb
   by_cases hlt : k < a.length
   ·obtain ⟨x, hx⟩ : ∃ x, a[k]? = some x := ⟨_, List.getElem?_eq_getElem hlt⟩
    obtain ⟨y, hy⟩ : ∃ y, b[k]? = some y := ⟨_, List.getElem?_eq_getElem (by have := HL.out; omega)⟩
    obtain ⟨ad, A2, c2, A3, c3, A4, c4, A5, c5, rfl, ⟨x0, x1, x2, x3, x4, x5⟩, hX⟩ := tx_get (Kd.C_below HA.out HBr.out) hx
    obtain ⟨bd, B2, d2, B3, d3, B4, d4, B5, d5, rfl, ⟨y0, y1, y2, y3, y4, y5⟩, hY⟩ := tx_get (Kd.C_below HB.out HBr.out) hy
    have HXX := Lib.hid hX; have HYY := Lib.hid hY
    have HS := Lib.hid (eqTs_take hx hy)
    have hkb : k < b.length := by have := HL.out; omega
    clear hX hY hx hy
    have zb : (bd.add (k * 6)).block < wr.heap.size := World.block_lt_of_cell? _ _ y0
    go_wp2_with fail
    have HB2 := Lib.hid (show Below wr.heap.size wr ((wr.alloc (.cells #[.int .i64 x.f0, .int .i64 x.f1, .slice A2 x.f2.length c2, .slice A3 x.f3.length c3, .slice A4 x.f4.length c4, .slice A5 x.f5.length c5] 26)).alloc (.cells #[.int .i64 y.f0, .int .i64 y.f1, .slice B2 y.f2.length d2, .slice B3 y.f3.length d3, .slice B4 y.f4.length d4, .slice B5 y.f5.length d5] 26)) from ((Below.refl _ _).alloc (Nat.le_refl _) _).alloc (by simp) _)
    refine (sameTx_is x y (HXX.out.below HB2.out) (HYY.out.below HB2.out)).mono ?_
    rintro e w' ⟨rfl, hb⟩
    have HB3 := Lib.hid (HBr.out.trans ((HB2.out.trans (hb.mono HB2.out.size)).mono HBr.out.size))
    clear hb x0 x1 x2 x3 x4 x5 y0 y1 y2 y3 y4 y5 zb
    obtain ⟨q, hq⟩ : ∃ q, eqTx x y = q := ⟨_, rfl⟩
    have HQ := Lib.hid hq
    rw [hq]
    clear hq
    cases q with
    | true =>
     go_wp2_with fail
     go_roundw
     case rel => exact ⟨k + 1, by go_num, hlt, by rw [HE.out, HS.out, HQ.out, Bool.true_and], HB3.out⟩
     case measure => simp [intOf]; omega
    | false =>
     go_wp2_with fail
     go_ret
     exact ⟨by rw [HE.out, HS.out, HQ.out]; rfl, HB3.out⟩
   ·have HF := Lib.hid (show eqTs a b = true by rw [HE.out, List.drop_of_length_le (by omega), List.drop_of_length_le (by have := HL.out; omega)]; rfl)
    go_wp2_with fail
    go_ret
    exact ⟨by rw [HF.out]; rfl, HBr.out⟩
 ·have hlb : ((a.length : Int) != (b.length : Int)) = true := by rw [bne_iff_ne]; omega
  have HF := Lib.hid (eqTs_len hl)
  clear hl
  go_enter Tryz.func141, Tryz.ntmps141
  go_wp2_with fail
  go_ret
  exact ⟨by rw [HF.out]; rfl, Below.refl _ _⟩
set_option maxHeartbeats 1000000 in
theorem sameEn_is (k f n : Int) (A : Option Addr) (c : Nat) (l : List TxD) (k' f' n' : Int) (A' : Option Addr) (c' : Nat) (l' : List TxD) (w : World) (ha : Kd.C G.k26 w A l.length l) (hb : Kd.C G.k26 w A' l'.length l') :
  Calls Tryz.prog 82 #[.agg #[.int .i64 k, .int .i64 f, .int .i64 n, .slice A l.length c], .agg #[.int .i64 k', .int .i64 f', .int .i64 n', .slice A' l'.length c']] w fun e w' => e = .returned (.bool (eqEn k f n l k' f' n' l')) ∧ Below w.heap.size w w' := by
 obtain ⟨q, hq⟩ : ∃ q, eqEn k f n l k' f' n' l' = q := ⟨_, rfl⟩
 have HQ := Lib.hid hq
 rw [hq]
 clear hq
 have HB := Lib.hid (show Below w.heap.size w ((w.alloc (.cells #[.int .i64 k, .int .i64 f, .int .i64 n, .slice A l.length c] 29)).alloc (.cells #[.int .i64 k', .int .i64 f', .int .i64 n', .slice A' l'.length c'] 29)) from ((Below.refl _ _).alloc (Nat.le_refl _) _).alloc (by simp) _)
 have HE := Lib.hid (eqfunc_is A A' c c' l l' _ (Kd.C_below ha HB.out) (Kd.C_below hb HB.out))
 clear ha hb
 cases h0 : (k == k') with
 | false =>
  have HV := Lib.hid (show q = false by rw [← HQ.out]; unfold eqEn; rw [h0, Bool.false_and])
  go_enter Tryz.func82, Tryz.ntmps82
  go_wp2_with fail
  go_ret
  exact ⟨by rw [HV.out]; rfl, HB.out⟩
 | true =>
  cases h1 : (f == f') with
  | false =>
   have HV := Lib.hid (show q = false by rw [← HQ.out]; unfold eqEn; rw [h1, Bool.false_and, Bool.and_false])
   go_enter Tryz.func82, Tryz.ntmps82
   go_wp2_with fail
   go_ret
   exact ⟨by rw [HV.out]; rfl, HB.out⟩
  | true =>
   cases h2 : (n == n') with
   | false =>
    have HV := Lib.hid (show q = false by rw [← HQ.out]; unfold eqEn; rw [h2, Bool.false_and, Bool.and_false, Bool.and_false])
    go_enter Tryz.func82, Tryz.ntmps82
    go_wp2_with fail
    go_ret
    exact ⟨by rw [HV.out]; rfl, HB.out⟩
   | true =>
    have HV := Lib.hid (show q = eqTs l l' by rw [← HQ.out]; unfold eqEn; rw [h0, h1, h2, Bool.true_and, Bool.true_and, Bool.true_and])
    go_enter Tryz.func82, Tryz.ntmps82
    go_wp2_with fail
    refine HE.out.mono ?_
    rintro e w' ⟨rfl, hb⟩
    have HB2 := Lib.hid (HB.out.trans (hb.mono HB.out.size))
    clear hb
    go_wp2_with fail
    go_ret
    exact ⟨by rw [HV.out]; rfl, HB2.out⟩
end Go.Proofs.YtgiefblcckikeaaGreat.M
namespace Go.Proofs.YtgiefblcckikeaaGreat.G
open Go.RowKit Go.Proofs.YtgiefblcckikeaaGreatW.PrintWords Go.Proofs.YtgiefblcckikeaaGreat.M
def record_SameEntry.f (a0_0 a0_1 a0_2 : Int) (l0_3 : List S26) (a1_0 a1_1 a1_2 : Int) (l1_3 : List S26) : Option Bool := some (eqEn a0_0 a0_1 a0_2 l0_3 a1_0 a1_1 a1_2 l1_3)
theorem record_SameEntry.calls (a0_0 a0_1 a0_2 : Int) (A0_3 : Option Addr) (c0_3 : Nat) (l0_3 : List S26) (a1_0 a1_1 a1_2 : Int) (A1_3 : Option Addr) (c1_3 : Nat) (l1_3 : List S26) (r : Bool) (w : World) (hr0_3 : Kd.C k26 w A0_3 l0_3.length l0_3) (hc0_3 : l0_3.length ≤ c0_3) (hr1_3 : Kd.C k26 w A1_3 l1_3.length l1_3) (hc1_3 : l1_3.length ≤ c1_3) (h : record_SameEntry.f a0_0 a0_1 a0_2 l0_3 a1_0 a1_1 a1_2 l1_3 = some r) :
  Calls Tryz.prog 82 #[.agg #[.int .i64 a0_0, .int .i64 a0_1, .int .i64 a0_2, .slice A0_3 l0_3.length c0_3], .agg #[.int .i64 a1_0, .int .i64 a1_1, .int .i64 a1_2, .slice A1_3 l1_3.length c1_3]] w fun e w' => e = .returned (.bool r) ∧ Below w.heap.size w w' := by
 obtain rfl := Option.some.inj h
 exact sameEn_is a0_0 a0_1 a0_2 A0_3 c0_3 l0_3 a1_0 a1_1 a1_2 A1_3 c1_3 l1_3 w hr0_3 hr1_3
end Go.Proofs.YtgiefblcckikeaaGreat.G
end

section
/- record.entry: which entries may be. -/
set_option maxRecDepth 100000
namespace Go.Proofs.YtgiefblcckikeaaGreat.M
open Go.RowKit Go.Proofs.YtgiefblcckikeaaGreatW.PrintWords Go.Proofs.YtgiefblcckikeaaGreatW.PrintLast Go.Proofs.YtgiefblcckikeaaGreatW.PrintMore Go.Proofs.YtgiefblcckikeaaGreat.G
theorem C_lit (w : World) (xs : List Int) (hm : xs.length ≤ 1000) : Kd.C (Kd.int .i64) (w.alloc (.cells (xs.map (Value.int .i64)).toArray 2)) (some ⟨w.heap.size, 0, none⟩) xs.length xs := by
 have h : Kd.R (Kd.int .i64) 2 (w.alloc (.cells (xs.map (Value.int .i64)).toArray 2)) w.heap.size (fun _ => True) (.slice (some ⟨w.heap.size, 0, none⟩) xs.length xs.length) xs :=
  Kd.R_of_own (own_lit w w.heap.size 2 .i64 xs (Nat.le_refl _) (by omega)) (fun _ _ => trivial)
 exact (Kd.R_reads' h).2.2
def mayT (t : TxD) : Bool := inB 1 1099511627776 [t.f0, t.f1] && (decide (t.f2.length ≤ 512) && (decide (t.f3.length ≤ 8) && (mayK t.f4 && mayK t.f5)))
def mayE (k f n : Int) (l : List TxD) : Bool := if k = 0 then eqEn k f n l 0 0 0 [] else (k == 1 && (inB 0 4 [f] && (inB 0 1099511627776 [n] && (inB 1 16 [(l.length : Int)] && l.all mayT))))
theorem record_txn_f (t : TxD) : G.record_txn.f t.f0 t.f1 t.f2 t.f3 t.f4 t.f5 = some (mayT t) := by
 unfold G.record_txn.f mayT G.record_between.f G.record_keys.f
 simp only [Option.bind_some]
 cases h1 : inB 1 1099511627776 [t.f0, t.f1]
 ·simp
 ·by_cases h2 : t.f2.length ≤ 512
  ·by_cases h3 : t.f3.length ≤ 8
   ·rw [if_pos rfl, if_pos (by omega), if_pos (by omega)]
    cases h4 : mayK t.f4 <;> simp [h2, h3]
   ·rw [if_pos rfl, if_pos (by omega), if_neg (by omega)]
    simp [h3]
  ·rw [if_pos rfl, if_neg (by omega)]
   simp [h2]
theorem mayTx_is {w : World} (a : TxD) {A2 A3 A4 A5 : Option Addr} {c2 c3 c4 c5 : Nat} (ha : TxC w a A2 c2 A3 c3 A4 c4 A5 c5) :
  Calls Tryz.prog 42 #[.agg #[.int .i64 a.f0, .int .i64 a.f1, .slice A2 a.f2.length c2, .slice A3 a.f3.length c3, .slice A4 a.f4.length c4, .slice A5 a.f5.length c5]] w fun e w' => e = .returned (.bool (mayT a)) ∧ Below w.heap.size w w' :=
 G.record_txn.calls a.f0 a.f1 A2 c2 a.f2 A3 c3 a.f3 A4 c4 a.f4 A5 c5 a.f5 _ w ha.g2 ha.l2 ha.g3 ha.l3 ha.g4 ha.l4 ha.g5 ha.l5 (record_txn_f a)
theorem entry1_is {w : World} (a : TxD) {A2 A3 A4 A5 : Option Addr} {c2 c3 c4 c5 : Nat} (ha : TxC w a A2 c2 A3 c3 A4 c4 A5 c5) :
  Calls Tryz.prog 86 #[.agg #[.int .i64 a.f0, .int .i64 a.f1, .slice A2 a.f2.length c2, .slice A3 a.f3.length c3, .slice A4 a.f4.length c4, .slice A5 a.f5.length c5]] w fun e w' => e = .returned (.bool (!mayT a)) ∧ Below w.heap.size w w' := by
 have HB := Lib.hid (show Below w.heap.size w (w.alloc (.cells #[.int .i64 a.f0, .int .i64 a.f1, .slice A2 a.f2.length c2, .slice A3 a.f3.length c3, .slice A4 a.f4.length c4, .slice A5 a.f5.length c5] 26)) from (Below.refl _ _).alloc (Nat.le_refl _) _)
 have HA := Lib.hid (ha.below HB.out)
 clear ha
 go_enter Tryz.func86, Tryz.ntmps86
 go_wp2_with fail
 refine (mayTx_is a HA.out).mono ?_
 rintro e w' ⟨rfl, hb⟩
 have HB2 := Lib.hid (HB.out.trans (hb.mono HB.out.size))
 clear hb
 go_wp2_with fail
 go_ret
 exact ⟨by simp, HB2.out⟩
def TxV (l : List TxD) (w : World) (e : Ending) (w' : World) : Prop := ∃ i : Int, e = .returned (.int .i64 i) ∧ (0 ≤ i ↔ l.all mayT = false) ∧ Below w.heap.size w w'
def TxI (l : List TxD) (w : World) (i : Value) (wr : World) : Prop := ∃ k : Nat, k ≤ l.length ∧ i = .int .i64 k ∧ (l.take k).all mayT = true ∧ Below w.heap.size w wr
set_option maxHeartbeats 1000000 in
theorem tx_index (A : Option Addr) (c : Nat) (l : List TxD) (w : World) (hr : Kd.C G.k26 w A l.length l) :
  Calls Tryz.prog 143 #[.slice A l.length c, .func (.func 86) #[] #[]] w fun e w' => TxV l w e w' := by
 have hlm : l.length ≤ 9223372036854775807 := hr.2.1
 have HR := Lib.hid hr
 clear hr
 go_enter Tryz.func143, Tryz.ntmps143
 go_wp2_with fail
 go_loopw [8] (fun i wr => TxI l w i wr) (fun i _ => l.length - (intOf i).toNat)
 case atStart => exact ⟨0, Nat.zero_le _, rfl, by simp, Below.refl _ _⟩
 case round =>
  obtain ⟨k, hk, rfl, hin, hb⟩ := hrel
  have HIN := Lib.hid hin; have HBr := Lib.hid hb
  clear hin hb
  by_cases hlt : k < l.length
  ·obtain ⟨x, hx⟩ : ∃ x, l[k]? = some x := ⟨_, List.getElem?_eq_getElem hlt⟩
   obtain ⟨ad, A2, c2, A3, c3, A4, c4, A5, c5, rfl, ⟨x0, x1, x2, x3, x4, x5⟩, hX⟩ := tx_get (Kd.C_below HR.out HBr.out) hx
   have HXX := Lib.hid hX
   have HX := Lib.hid (show l.take (k + 1) = l.take k ++ [x] by rw [List.take_add_one, hx]; rfl)
   have HM := Lib.hid (List.mem_of_getElem? hx)
   clear hx hX
   go_wp2_with fail
   refine (entry1_is x HXX.out).mono ?_
   rintro e w' ⟨rfl, hb⟩
   have HB2 := Lib.hid (HBr.out.trans (hb.mono HBr.out.size))
   clear hb
   cases ho : mayT x with
   | false =>
    have HB := Lib.hid (show l.all mayT = false by rw [List.all_eq_false]; exact ⟨x, HM.out, by rw [ho]; simp⟩)
    clear ho
    go_wp2_with fail
    go_ret
    exact ⟨k, rfl, ⟨fun _ => HB.out, fun _ => by omega⟩, HB2.out⟩
   | true =>
    have HB := Lib.hid (show (l.take (k + 1)).all mayT = true by rw [HX.out, List.all_append, HIN.out]; simp [ho])
    clear ho
    go_wp2_with fail
    go_roundw
    case rel => exact ⟨k + 1, hlt, by go_num, HB.out, HB2.out⟩
    case measure => simp [intOf]; omega
  ·have HB := Lib.hid (show l.all mayT = true by have := HIN.out; rwa [List.take_of_length_le (by omega)] at this)
   go_wp2_with fail
   go_ret
   exact ⟨-1, rfl, ⟨fun h => by omega, fun h => by rw [HB.out] at h; cases h⟩, HBr.out⟩
theorem tx_has (A : Option Addr) (c : Nat) (l : List TxD) (w : World) (hr : Kd.C G.k26 w A l.length l) :
  Calls Tryz.prog 85 #[.slice A l.length c, .func (.func 86) #[] #[]] w fun e w' => e = .returned (.bool (!l.all mayT)) ∧ Below w.heap.size w w' := by
 have H := Lib.hid (tx_index A c l w hr)
 clear hr
 go_enter Tryz.func85, Tryz.ntmps85
 go_wp2_with fail
 refine H.out.mono ?_
 rintro e w' ⟨i, rfl, hi, hb⟩
 have HI := Lib.hid hi; have HB := Lib.hid hb
 clear hi hb
 go_wp2_with fail
 go_ret
 refine ⟨?_, HB.out⟩
 show Ending.returned (.bool (decide (0 ≤ i))) = _
 cases hb : l.all mayT with
 | true => rw [decide_eq_false (fun h => by have := HI.out.1 h; rw [hb] at this; cases this)]; rfl
 | false => rw [decide_eq_true (HI.out.2 hb)]; rfl
def EnBox (W : World) (b : Nat) (k f n : Int) (A : Option Addr) (m c : Nat) : Prop := W.heap[b]? = some (.cells #[.int .i64 k, .int .i64 f, .int .i64 n, .slice A m c] 29)
theorem EnBox.cell {W : World} {b : Nat} {k f n : Int} {A : Option Addr} {m c : Nat} (h : EnBox W b k f n A m c) : W.cell? ⟨b, 0, none⟩ = some (.int .i64 k) ∧ W.cell? ⟨b, 1, none⟩ = some (.int .i64 f) ∧ W.cell? ⟨b, 2, none⟩ = some (.int .i64 n) ∧ W.cell? ⟨b, 3, none⟩ = some (.slice A m c) ∧ b < W.heap.size := by
 unfold EnBox at h
 exact ⟨by simp [World.cell?, h], by simp [World.cell?, h], by simp [World.cell?, h], by simp [World.cell?, h], (Array.getElem?_eq_some_iff.1 h).1⟩
theorem EnBox.below {W W' : World} {b : Nat} {k f n : Int} {A : Option Addr} {m c : Nat} (h : EnBox W b k f n A m c) (hb : Below W.heap.size W W') : EnBox W' b k f n A m c := (hb.block b h.cell.2.2.2.2).trans h
theorem below_then {a b c : World} (h : Below a.heap.size a b) (k : Below b.heap.size b c) : Below a.heap.size a c := h.trans (k.mono h.size)
set_option maxHeartbeats 2000000 in
theorem mayEn_is (k f n : Int) (A : Option Addr) (c : Nat) (l : List TxD) (w : World) (hr : Kd.C G.k26 w A l.length l) :
  Calls Tryz.prog 44 #[.agg #[.int .i64 k, .int .i64 f, .int .i64 n, .slice A l.length c]] w fun e w' => e = .returned (.bool (mayE k f n l)) ∧ Below w.heap.size w w' := by
 have hlm : l.length ≤ 9223372036854775807 := hr.2.1
 obtain ⟨q, hq⟩ : ∃ q, mayE k f n l = q := ⟨_, rfl⟩
 have HQ := Lib.hid hq
 rw [hq]
 clear hq
 have HB1 := Lib.hid (show Below w.heap.size w (w.alloc (.cells #[.int .i64 k, .int .i64 f, .int .i64 n, .slice A l.length c] 29)) from (Below.refl _ _).alloc (Nat.le_refl _) _)
 have HX1 := Lib.hid (show EnBox (w.alloc (.cells #[.int .i64 k, .int .i64 f, .int .i64 n, .slice A l.length c] 29)) w.heap.size k f n A l.length c from heap_alloc_new w _)
 have HR1 := Lib.hid (Kd.C_below hr HB1.out)
 clear hr
 cases h0 : (k == 0) with
 | true =>
  have hk0 : k = 0 := by simpa using h0
  subst hk0
  have HV := Lib.hid (show q = eqEn 0 f n l 0 0 0 [] by rw [← HQ.out]; unfold mayE; rw [if_pos rfl])
  have HS := Lib.hid (sameEn_is 0 f n A c l 0 0 0 none 0 [] _ HR1.out (Kd.C_nil _ _))
  simp only [List.length_nil] at HS
  go_enter Tryz.func44, Tryz.ntmps44
  go_wp2_with fail
  refine HS.out.mono ?_
  rintro e w' ⟨rfl, hb⟩
  have HB2 := Lib.hid (below_then HB1.out hb)
  clear hb
  go_wp2_with fail
  go_ret
  exact ⟨by rw [HV.out]; rfl, HB2.out⟩
 | false =>
  have hk0 : k ≠ 0 := by simpa using h0
  have HV := Lib.hid (show q = (k == 1 && (inB 0 4 [f] && (inB 0 1099511627776 [n] && (inB 1 16 [(l.length : Int)] && l.all mayT)))) by rw [← HQ.out]; unfold mayE; rw [if_neg hk0])
  clear hk0
  go_enter Tryz.func44, Tryz.ntmps44
  go_wp2_with fail
  have HB2 := Lib.hid (below_then HB1.out ((Below.refl _ (w.alloc (.cells #[.int .i64 k, .int .i64 f, .int .i64 n, .slice A l.length c] 29))).alloc (Nat.le_refl _) (.cells #[.int .i64 l.length] 2)))
  have HX2 := Lib.hid (HX1.out.below ((Below.refl _ (w.alloc (.cells #[.int .i64 k, .int .i64 f, .int .i64 n, .slice A l.length c] 29))).alloc (Nat.le_refl _) (.cells #[.int .i64 l.length] 2)))
  have HR2 := Lib.hid (Kd.C_below HR1.out ((Below.refl _ (w.alloc (.cells #[.int .i64 k, .int .i64 f, .int .i64 n, .slice A l.length c] 29))).alloc (Nat.le_refl _) (.cells #[.int .i64 l.length] 2)))
  have HL := C_lit (w.alloc (.cells #[.int .i64 k, .int .i64 f, .int .i64 n, .slice A l.length c] 29)) [(l.length : Int)] (by simp)
  simp only [World.size_alloc, List.length_singleton] at HL
  refine (between_is _ 1 [(l.length : Int)] 1 16 _ HL).mono ?_
  rintro e w3 ⟨rfl, hb⟩
  have HB3 := Lib.hid (below_then HB2.out hb); have HX3 := Lib.hid (HX2.out.below hb); have HR3 := Lib.hid (Kd.C_below HR2.out hb)
  clear hb HL
  obtain ⟨b4, hb4⟩ : ∃ b4, inB 1 16 [(l.length : Int)] = b4 := ⟨_, rfl⟩
  rw [hb4] at HV ⊢
  obtain ⟨c0, c1, c2, c3, cz⟩ := HX3.out.cell
  cases h1 : (k == 1) with
  | false =>
   have HW := Lib.hid (show q = false by rw [HV.out, h1, Bool.false_and])
   clear hb4
   go_wp2_with fail
   go_ret
   exact ⟨by rw [HW.out]; rfl, HB3.out⟩
  | true =>
   have HW := Lib.hid (show q = (inB 0 4 [f] && (inB 0 1099511627776 [n] && (b4 && l.all mayT))) by rw [HV.out, h1, Bool.true_and])
   clear hb4
   go_wp2_with fail
   refine (G.record_who.calls f (inB 0 4 [f]) w3 rfl).mono ?_
   rintro e w4 ⟨rfl, hb⟩
   have HB4 := Lib.hid (below_then HB3.out hb); have HX4 := Lib.hid (HX3.out.below hb); have HR4 := Lib.hid (Kd.C_below HR3.out hb)
   clear hb c0 c1 c2 c3 cz
   obtain ⟨c0, c1, c2, c3, cz⟩ := HX4.out.cell
   obtain ⟨b2, hb2⟩ : ∃ b2, inB 0 4 [f] = b2 := ⟨_, rfl⟩
   rw [hb2] at HW ⊢
   clear hb2
   cases b2 with
   | false =>
    have HF := Lib.hid (show q = false by rw [HW.out, Bool.false_and])
    go_wp2_with fail
    go_ret
    exact ⟨by rw [HF.out]; rfl, HB4.out⟩
   | true =>
    go_wp2_with fail
    have HL := C_lit w4 [n] (by simp)
    simp only [List.length_singleton] at HL
    refine (G.record_count.calls _ 1 [n] (inB 0 1099511627776 [n]) _ HL (by simp) rfl).mono ?_
    rintro e w5 ⟨rfl, hb⟩
    have hb' := below_then ((Below.refl _ w4).alloc (Nat.le_refl _) _) hb
    have HB5 := Lib.hid (below_then HB4.out hb'); have HX5 := Lib.hid (HX4.out.below hb'); have HR5 := Lib.hid (Kd.C_below HR4.out hb')
    clear hb hb' HL c0 c1 c2 c3 cz
    obtain ⟨c0, c1, c2, c3, cz⟩ := HX5.out.cell
    obtain ⟨b3, hb3⟩ : ∃ b3, inB 0 1099511627776 [n] = b3 := ⟨_, rfl⟩
    rw [hb3] at HW ⊢
    clear hb3
    cases b3 with
    | false =>
     have HF := Lib.hid (show q = false by rw [HW.out, Bool.false_and, Bool.and_false])
     go_wp2_with fail
     go_ret
     exact ⟨by rw [HF.out]; rfl, HB5.out⟩
    | true =>
     cases b4 with
     | false =>
      have HF := Lib.hid (show q = false by rw [HW.out, Bool.false_and, Bool.and_false, Bool.and_false])
      go_wp2_with fail
      go_ret
      exact ⟨by rw [HF.out]; rfl, HB5.out⟩
     | true =>
      have HF := Lib.hid (show q = l.all mayT by rw [HW.out, Bool.true_and, Bool.true_and, Bool.true_and])
      go_wp2_with fail
      refine (tx_has A c l _ HR5.out).mono ?_
      rintro e w6 ⟨rfl, hb⟩
      have HB6 := Lib.hid (below_then HB5.out hb)
      clear hb
      go_wp2_with fail
      go_ret
      exact ⟨by rw [HF.out]; simp, HB6.out⟩
end Go.Proofs.YtgiefblcckikeaaGreat.M
namespace Go.Proofs.YtgiefblcckikeaaGreat.G
open Go.RowKit Go.Proofs.YtgiefblcckikeaaGreatW.PrintWords Go.Proofs.YtgiefblcckikeaaGreat.M
def record_entry.f (a0_0 a0_1 a0_2 : Int) (l0_3 : List S26) : Option Bool := some (mayE a0_0 a0_1 a0_2 l0_3)
theorem record_entry.calls (a0_0 a0_1 a0_2 : Int) (A0_3 : Option Addr) (c0_3 : Nat) (l0_3 : List S26) (r : Bool) (w : World) (hr0_3 : Kd.C k26 w A0_3 l0_3.length l0_3) (hc0_3 : l0_3.length ≤ c0_3) (h : record_entry.f a0_0 a0_1 a0_2 l0_3 = some r) :
  Calls Tryz.prog 44 #[.agg #[.int .i64 a0_0, .int .i64 a0_1, .int .i64 a0_2, .slice A0_3 l0_3.length c0_3]] w fun e w' => e = .returned (.bool r) ∧ Below w.heap.size w w' := by
 obtain rfl := Option.some.inj h
 exact mayEn_is a0_0 a0_1 a0_2 A0_3 c0_3 l0_3 w hr0_3
end Go.Proofs.YtgiefblcckikeaaGreat.G
end

section
/- The pen: bytes that grow. -/
set_option maxRecDepth 100000
attribute [local irreducible] Go.wpStill
namespace Go.Proofs.YtgiefblcckikeaaGreat.M
open Go.RowKit Go.Proofs.YtgiefblcckikeaaGreatW.PrintWords Go.Proofs.YtgiefblcckikeaaGreatW.PrintLast Go.Proofs.YtgiefblcckikeaaGreatW.PrintMore Go.Proofs.YtgiefblcckikeaaGreat.G
def IsPen (W : World) (base p : Nat) (l : List Int) : Prop := ∃ (A : Option Addr) (c : Nat), W.heap[p]? = some (.cells #[.slice A l.length c] 75) ∧ base ≤ p ∧ l.length ≤ c ∧ Kd.R (Kd.int .u8) 5 W base (fun i => i ≠ p) (.slice A l.length c) l
theorem IsPen.lt {W : World} {base p : Nat} {l : List Int} (h : IsPen W base p l) : p < W.heap.size := by
 obtain ⟨A, c, h1, _⟩ := h
 exact (Array.getElem?_eq_some_iff.1 h1).1
theorem IsPen.ge {W : World} {base p : Nat} {l : List Int} (h : IsPen W base p l) : base ≤ p := by
 obtain ⟨A, c, h1, h2, _⟩ := h
 exact h2
theorem IsPen.below {W W' : World} {base p : Nat} {l : List Int} (h : IsPen W base p l) (hb : Below W.heap.size W W') : IsPen W' base p l := by
 have hl := h.lt
 obtain ⟨A, c, h1, h2, h3, h4⟩ := h
 exact ⟨A, c, (hb.block p hl).trans h1, h2, h3, Kd.R_step h4 (fun k _ hlt => hb.block k hlt)⟩
theorem isPen_put {W : World} {base p : Nat} {l l' : List Int} {v : Value} (h : IsPen W base p l) {base' : Nat} {ok : Nat → Prop} (hv : Kd.R (Kd.int .u8) 5 W base' ok v l') (hp : p < base') : ∃ (A : Option Addr) (c : Nat), v = .slice A l'.length c ∧ IsPen (W.setCell ⟨p, 0, none⟩ (.slice A l'.length c)) base p l' := by
 obtain ⟨A0, c0, h1, hbp, _, _⟩ := h
 have hv2 := Kd.R_mono (Kd.R_bound hv) (fun k hk => (by have := hk.2.1; omega : k ≠ p))
 obtain ⟨A, c, rfl⟩ := Kd.R_slice hv2
 refine ⟨A, c, rfl, A, c, ?_, hbp, (Kd.R_reads' hv2).2.1, ?_⟩
 ·have := heap_same W ⟨p, 0, none⟩ (.slice A l'.length c) h1 rfl
  simpa using this
 ·exact Kd.R_lower (Kd.R_step hv2 (fun i hi _ => Below.heap_setCell W ⟨p, 0, none⟩ _ i hi)) (by omega)
def PenP (w0 w : World) (p : Nat) (l' : List Int) (e : Ending) (w' : World) : Prop := e = .returned (.tuple #[]) ∧ IsPen w' w0.heap.size p l' ∧ Below w0.heap.size w0 w' ∧ KeepS (fun i => i = p) w w'
set_option maxHeartbeats 1000000 in
theorem nums_is {w0 w : World} {p : Nat} {l : List Int} (hI : IsPen w w0.heap.size p l) (hB : Below w0.heap.size w0 w) (hp : w0.heap.size ≤ p) (B : Option Addr) (c1 : Nat) (ns : List Int) (hr : Kd.C (Kd.int .i64) w B ns.length ns) (ho : okI ns = true) (hs : l.length + 9 * ns.length < 140737488355328) :
  Calls Tryz.prog 95 #[.pointer (some ⟨p, 0, none⟩), .slice B ns.length c1] w fun e w' => PenP w0 w p (l ++ numsB ns) e w' := by
 have HI := Lib.hid hI; have HB := Lib.hid hB; have HP := Lib.hid hp
 obtain ⟨A, c, h1, _, h2, h3⟩ := hI
 have HN := Lib.hid (num_calls A c l B c1 ns w (Kd.R_reads' h3).2.2 h2 hr ho hs)
 have c0 : w.cell? ⟨p, 0, none⟩ = some (.slice A l.length c) := by simp [World.cell?, h1]
 obtain ⟨l2, hl2⟩ : ∃ l2, l ++ numsB ns = l2 := ⟨_, rfl⟩
 rw [hl2] at HN ⊢
 clear h1 h2 h3 hr ho hs hB hp hl2
 go_enter Tryz.func95, Tryz.ntmps95
 go_wp2_with fail
 refine HN.out.mono ?_
 rintro e w1 ⟨v, rfl, hv, hb⟩
 have HI1 := Lib.hid (HI.out.below hb)
 have HB1 := Lib.hid (HB.out.trans (hb.mono HB.out.size))
 have HKK := Lib.hid ((KeepS.of_below (fun i => i = p) hb).set (p := ⟨p, 0, none⟩) (.inl rfl))
 obtain ⟨A', c', rfl, hP⟩ := isPen_put HI1.out hv HI.out.lt
 have HPP := Lib.hid hP
 have d0 : w1.cell? ⟨p, 0, none⟩ = some (.slice A l.length c) := (hb.cell (p := ⟨p, 0, none⟩) HI.out.lt).trans c0
 have d1 : w1.frozen? ⟨p, 0, none⟩ = false := by
  obtain ⟨A2, c2, h4, _⟩ := HI1.out
  simp [World.frozen?, h4]
 clear hb hv hP c0
 go_wp2_with fail
 go_end0
 exact ⟨rfl, HPP.out, HB1.out.setCell (by exact HP.out) _, HKK.out _⟩
theorem many_is {w0 w : World} {p : Nat} {l : List Int} (hI : IsPen w w0.heap.size p l) (hB : Below w0.heap.size w0 w) (hp : w0.heap.size ≤ p) (n : Int) (ho : isI64 n) (hs : l.length + 9 < 140737488355328) :
  Calls Tryz.prog 94 #[.pointer (some ⟨p, 0, none⟩), .int .i64 n] w fun e w' => PenP w0 w p (l ++ numB n) e w' := by
 have HB2 := (Below.refl w.heap.size w).alloc (Nat.le_refl _) (.cells #[.int .i64 n] 2)
 have HN := Lib.hid (nums_is (hI.below HB2) (hB.alloc hB.size _) hp _ 1 [n] (C_lit w [n] (by simp)) (by simp [okI, ho]) (by simpa using hs))
 simp only [List.length_singleton, numsB, List.flatMap_cons, List.flatMap_nil, List.append_nil] at HN
 clear hI hB hp ho hs HB2
 go_enter Tryz.func94, Tryz.ntmps94
 go_wp2_with fail
 refine HN.out.mono ?_
 rintro e w1 ⟨rfl, h1, h2, h3⟩
 have H1 := Lib.hid h1; have H2 := Lib.hid h2
 have H3 := Lib.hid (((KeepS.refl (fun i => i = p) w).alloc (.cells #[.int .i64 n] 2)).trans h3)
 clear h1 h2 h3
 go_wp2_with fail
 go_end0
 exact ⟨rfl, H1.out, H2.out, H3.out⟩
set_option maxHeartbeats 1000000 in
theorem data_is {w0 w : World} {p : Nat} {l : List Int} (hI : IsPen w w0.heap.size p l) (hB : Below w0.heap.size w0 w) (hp : w0.heap.size ≤ p) (B : Option Addr) (c1 : Nat) (bs : List Int) (hr : Kd.C (Kd.int .u8) w B bs.length bs) (hc1 : bs.length ≤ c1) (hs : l.length + bs.length + 9 < 140737488355328) :
  Calls Tryz.prog 100 #[.pointer (some ⟨p, 0, none⟩), .slice B bs.length c1] w fun e w' => PenP w0 w p (l ++ numB bs.length ++ bs) e w' := by
 have HI := Lib.hid hI; have HB := Lib.hid hB; have HP := Lib.hid hp
 obtain ⟨A, c, h1, _, h2, h3⟩ := hI
 have hi : isI64 (bs.length : Int) := by unfold isI64; omega
 have hf : G.shape_Blob.f l bs = some (l ++ numB bs.length ++ bs) := by
  unfold G.shape_Blob.f G.shape_Num.f
  have e1 : okI [(bs.length : Int)] = true := by simp [okI, hi]
  rw [if_pos ⟨e1, by simp; omega⟩]
  have e2 := (numB_len hi).2
  simp only [Option.bind_some, numsB, List.flatMap_cons, List.flatMap_nil, List.append_nil]
  rw [if_pos (by rw [List.length_append]; omega)]
 have HN := Lib.hid (G.shape_Blob.calls A c l B c1 bs _ w (Kd.R_reads' h3).2.2 h2 hr hc1 hf)
 have c0 : w.cell? ⟨p, 0, none⟩ = some (.slice A l.length c) := by simp [World.cell?, h1]
 obtain ⟨l2, hl2⟩ : ∃ l2, l ++ numB bs.length ++ bs = l2 := ⟨_, rfl⟩
 rw [hl2] at HN ⊢
 clear h1 h2 h3 hr hs hB hp hi hf hc1 hl2
 go_enter Tryz.func100, Tryz.ntmps100
 go_wp2_with fail
 refine HN.out.mono ?_
 rintro e w1 ⟨v, rfl, hv, hb⟩
 have HI1 := Lib.hid (HI.out.below hb)
 have HB1 := Lib.hid (HB.out.trans (hb.mono HB.out.size))
 have HKK := Lib.hid ((KeepS.of_below (fun i => i = p) hb).set (p := ⟨p, 0, none⟩) (.inl rfl))
 obtain ⟨A', c', rfl, hP⟩ := isPen_put HI1.out hv HI.out.lt
 have HPP := Lib.hid hP
 have d0 : w1.cell? ⟨p, 0, none⟩ = some (.slice A l.length c) := (hb.cell (p := ⟨p, 0, none⟩) HI.out.lt).trans c0
 have d1 : w1.frozen? ⟨p, 0, none⟩ = false := by
  obtain ⟨A2, c2, h4, _⟩ := HI1.out
  simp [World.frozen?, h4]
 clear hb hv hP c0
 go_wp2_with fail
 go_end0
 exact ⟨rfl, HPP.out, HB1.out.setCell (by exact HP.out) _, HKK.out _⟩
theorem newPen_is (A : Option Addr) (c : Nat) (l : List Int) (w : World) (hr : Kd.C (Kd.int .u8) w A l.length l) (hc : l.length ≤ c) (hl : l.length < 140737488355328) :
  Calls Tryz.prog 46 #[.slice A l.length c] w fun e w' => ∃ p, e = .returned (.pointer (some ⟨p, 0, none⟩)) ∧ IsPen w' w.heap.size p l ∧ Below w.heap.size w w' := by
 have HN := Lib.hid (clone_calls A c l w hr hc hl)
 clear hr hc hl
 go_enter Tryz.func46, Tryz.ntmps46
 go_wp2_with fail
 refine HN.out.mono ?_
 rintro e w1 ⟨v, rfl, hv, hb⟩
 have HB1 := Lib.hid hb
 have hv2 := Kd.R_mono (Kd.R_bound hv) (fun k hk => (by have := hk.2.2.1; omega : k ≠ w1.heap.size))
 obtain ⟨A', c', rfl⟩ := Kd.R_slice hv2
 have HV := Lib.hid hv2
 clear hb hv hv2
 go_wp2_with fail
 go_ret
 refine ⟨w1.heap.size, rfl, ⟨A', c', heap_alloc_new w1 _, HB1.out.size, (Kd.R_reads' HV.out).2.1, ?_⟩, HB1.out.alloc HB1.out.size _⟩
 exact Kd.R_step HV.out (fun k _ hlt => Below.heap_alloc w1 _ k hlt)
end Go.Proofs.YtgiefblcckikeaaGreat.M
end

section
/- Contract of trivet/shape.take. -/
set_option maxRecDepth 100000
namespace Go.Proofs.YtgiefblcckikeaaGreat.M
open Go.RowKit Go.Proofs.YtgiefblcckikeaaGreatW.PrintWords
def takeEnd (l : List Int) : Ending := if tkE l = 0 then .returned (.tuple #[.int .i64 (tkN l), .int .i64 (tkS l)]) else .panicked [{ v := wrongV (tkE l), recovered := false }]
theorem takeEnd_bad {l : List Int} {e : Int} (h : tkE l = e) (he : ¬ e = 0) : takeEnd l = .panicked [{ v := wrongV e, recovered := false }] := by
 unfold takeEnd
 rw [h, if_neg he]
theorem takeEnd_good {l : List Int} (h : tkE l = 0) : takeEnd l = .returned (.tuple #[.int .i64 (tkN l), .int .i64 (tkS l)]) := by
 unfold takeEnd
 rw [if_pos h]
set_option maxHeartbeats 1000000 in
theorem take_any (A : Option Addr) (c : Nat) (l : List Int) (w : World) (hr : Kd.C (Kd.int .u8) w A l.length l) (hc : l.length ≤ c) (hb : okB l = true) :
  Calls Tryz.prog 160 #[.slice A l.length c] w fun e w' => e = takeEnd l ∧ w' = w := by
 have HR := Aside0.mk hr
 have HC := Aside0.mk hc
 have HB := Aside0.mk hb
 clear hr hc hb
 obtain ⟨E, hE⟩ : ∃ E, takeEnd l = E := ⟨_, rfl⟩
 rw [hE]
 have HE := Aside0.mk hE
 clear hE
 by_cases h1 : l = []
 ·have he : tkE l = 10 := by unfold tkE; rw [if_pos h1]
  have HF := Aside0.mk (HE.out.symm.trans (takeEnd_bad he (by decide)))
  subst h1
  clear he
  go_enter Tryz.func160, Tryz.ntmps160
  go_wp2_with (go_at_call 123; first | ((with_reducible refine (give_no _ _).mono ?_); rintro e w' ⟨rfl, rfl⟩) | ((with_reducible refine (give_yes _ _).mono ?_); rintro e w' ⟨rfl, rfl⟩))
  exact ⟨rfl, HF.out.symm, rfl⟩
 have hl : 0 < l.length := List.length_pos_iff.2 h1
 have hlz : ((l.length : Int) == 0) = false := beq_eq_false_iff_ne.2 (by omega)
 have hb0 := okB_rd HB.out 0
 obtain ⟨ad, hA, hx0⟩ := Kd.at_int HR.out 0 (by omega) (by omega)
 rw [show ((0 : Int)).toNat = 0 from rfl, Addr.add_zero'] at hx0
 subst hA
 by_cases h2 : 17 < rd l 0 ∨ rd l 0 = 1
 ·have he : tkE l = 11 := by unfold tkE; rw [if_neg h1, if_pos h2]
  have HF := Aside0.mk (HE.out.symm.trans (takeEnd_bad he (by decide)))
  have h3 : decide (17 < rd l 0) = true ∨ (decide (17 < rd l 0) = false ∧ (rd l 0 == 1) = true) := by
   rcases h2 with h | h
   ·exact .inl (decide_eq_true h)
   ·exact .inr ⟨decide_eq_false (by omega), by rw [h]; rfl⟩
  clear h2 he h1
  rcases h3 with h3 | ⟨h3, h4⟩
  all_goals
   go_enter Tryz.func160, Tryz.ntmps160
   go_wp2_with (go_at_call 123; first | ((with_reducible refine (give_no _ _).mono ?_); rintro e w' ⟨rfl, rfl⟩) | ((with_reducible refine (give_yes _ _).mono ?_); rintro e w' ⟨rfl, rfl⟩))
   exact ⟨rfl, HF.out.symm, rfl⟩
 have h3 : decide (17 < rd l 0) = false := decide_eq_false (by omega)
 have h4 : (rd l 0 == 1) = false := beq_eq_false_iff_ne.2 (by omega)
 obtain ⟨k, hk⟩ : ∃ k, tkK l = k := ⟨_, rfl⟩
 have hk8 : k ≤ 8 := by unfold tkK at hk; omega
 have hq : rd l 0 / 2 = (k : Int) := by unfold tkK at hk; omega
 by_cases h5 : l.length ≤ k
 ·have he : tkE l = 10 := by unfold tkE; rw [if_neg h1, if_neg h2, hk, if_pos h5]
  have HF := Aside0.mk (HE.out.symm.trans (takeEnd_bad he (by decide)))
  have h6 : decide (l.length ≤ k) = true := decide_eq_true h5
  clear h2 he h1
  have HK := Lib.hid hk
  clear hk
  go_enter Tryz.func160, Tryz.ntmps160
  go_wp2_with (go_at_call 123; first | ((with_reducible refine (give_no _ _).mono ?_); rintro e w' ⟨rfl, rfl⟩) | ((with_reducible refine (give_yes _ _).mono ?_); rintro e w' ⟨rfl, rfl⟩))
  exact ⟨rfl, HF.out.symm, rfl⟩
 have h6 : decide (l.length ≤ k) = false := decide_eq_false h5
 have hrk : ∀ i : Nat, i ≤ k → w.cell? (ad.add i) = some (.int .u8 (rd l (i : Int))) := by
  intro i hi
  obtain ⟨ad', hA, hx⟩ := Kd.at_int HR.out (i : Int) (by omega) (by omega)
  obtain rfl : ad = ad' := by injection hA
  simpa using hx
 by_cases h7 : 0 < k ∧ rd l k = 0
 ·have he : tkE l = 11 := by unfold tkE; rw [if_neg h1, if_neg h2, hk, if_neg h5, if_pos h7]
  have HF := Aside0.mk (HE.out.symm.trans (takeEnd_bad he (by decide)))
  have hxk := hrk k (Nat.le_refl _)
  obtain ⟨h8, h9⟩ := h7
  rw [h9] at hxk
  have h10 : decide (0 < (k : Int)) = true := decide_eq_true (by omega)
  have h11 : (k : Int) < (l.length : Int) := by omega
  clear h2 he h1 hrk h9
  have HK := Lib.hid hk
  clear hk
  go_enter Tryz.func160, Tryz.ntmps160
  go_wp2_with (go_at_call 123; first | ((with_reducible refine (give_no _ _).mono ?_); rintro e w' ⟨rfl, rfl⟩) | ((with_reducible refine (give_yes _ _).mono ?_); rintro e w' ⟨rfl, rfl⟩))
  exact ⟨rfl, HF.out.symm, rfl⟩
 have h8 : (decide (0 < (k : Int)) = false ∧ k = 0) ∨ (0 < k ∧ (rd l k == 0) = false) := by
  rcases Nat.eq_zero_or_pos k with h | h
  ·exact .inl ⟨decide_eq_false (by omega), h⟩
  ·exact .inr ⟨h, beq_eq_false_iff_ne.2 (fun h' => h7 ⟨h, h'⟩)⟩
 have hxk := hrk k (Nat.le_refl _)
 have h11 : (k : Int) < (l.length : Int) := by omega
 have HP := Aside0.mk (show (if l = [] then (10:Int) else if 17 < rd l 0 ∨ rd l 0 = 1 then 11 else if l.length ≤ tkK l then 10 else if 0 < tkK l ∧ rd l (tkK l) = 0 then 11 else if big63 < tkU l ∨ (tkU l = big63 ∧ rd l 0 % 2 = 0) then 11 else 0) = if big63 < tkU l ∨ (tkU l = big63 ∧ rd l 0 % 2 = 0) then 11 else 0 by rw [if_neg h1, if_neg h2, hk, if_neg h5, if_neg h7])
 have HK := Lib.hid hk
 have HRK := Aside0.mk hrk
 clear hk hrk h2 h5 h7
 go_enter Tryz.func160, Tryz.ntmps160
 rcases h8 with ⟨h8, h9⟩ | ⟨h8, h9⟩
 all_goals
  (try (subst h9; clear h6))
  go_wp2_with (go_at_call 123; first | ((with_reducible refine (give_no _ _).mono ?_); rintro e w' ⟨rfl, rfl⟩) | ((with_reducible refine (give_yes _ _).mono ?_); rintro e w' ⟨rfl, rfl⟩))
  go_loop [5, 6] (fun u i => ∃ (j : Nat) (U : Int), j ≤ tkK l ∧ i = .int .i64 (j : Int) ∧ u = .int .u64 U ∧ Aside0 (U = upFrom l j (tkK l))) (fun _ i => (intOf i).toNat)
  case atStart => exact ⟨tkK l, 0, Nat.le_refl _, by first | (rw [HK.out]; done) | (rw [HK.out]; rfl), rfl, ⟨(upFrom_end _ _).symm⟩⟩
  case round =>
   obtain ⟨j, U, hj, rfl, rfl, HU⟩ := hrel
   have hk8' : tkK l ≤ 8 := by rw [HK.out]; exact hk8
   have hkl : tkK l < l.length := by rw [HK.out]; omega
   by_cases hlt : 0 < j
   ·have hxj := HRK.out j (by rw [← HK.out]; exact hj)
    have hj0 : (0 : Int) ≤ (j : Int) := by omega
    have hj1 : (j : Int) < (l.length : Int) := by omega
    have hbj := okB_rd HB.out (j : Int)
    have HV := Aside0.mk (show bits BinOp.or IntKind.u64 (U * 256) (rd l j) = upFrom l (j - 1) (tkK l) by
     rw [HU.out, or_byte _ _ (upFrom_nonneg HB.out _ _) (upFrom_lt HB.out hlt hk8') hbj.1 hbj.2, upFrom_step hlt hj hkl])
    have hU0 : 0 ≤ U := by rw [HU.out]; exact upFrom_nonneg HB.out _ _
    have hU1 : U < 72057594037927936 := by rw [HU.out]; exact upFrom_lt HB.out hlt hk8'
    go_wp2
    go_round
    case rel =>
     refine ⟨j - 1, _, by omega, by go_num, rfl, ⟨?_⟩⟩
     exact HV.out
    case measure => simp [intOf]; omega
   ·obtain rfl : j = 0 := by omega
    have hU : U = tkU l := by rw [HU.out, upFrom_zero]
    have hu0 : 0 ≤ U := by rw [HU.out]; exact upFrom_nonneg HB.out 0 _
    have hu1 : U < 18446744073709551616 := by rw [HU.out]; exact upFrom_lt8 HB.out (j := 0) hk8'
    have hT : tkE l = if big63 < U ∨ (U = big63 ∧ rd l 0 % 2 = 0) then 11 else 0 := by rw [hU]; exact HP.out
    have hS : tkS l = (tkK l : Int) + 1 := rfl
    rw [HK.out] at hS
    unfold big63 at hT
    have hm : rd l 0 % 2 = 0 ∨ rd l 0 % 2 = 1 := by omega
    rcases hm with hm | hm
    ·by_cases hg : U < 9223372036854775808
     ·have hN : tkN l = U := by unfold tkN; rw [if_neg (by omega), hU]
      have HF := Aside0.mk (HE.out.symm.trans (takeEnd_good (by rw [hT, if_neg (by omega)])))
      rw [hN, hS] at HF
      clear hU HU hN hS hT
      have hg1 : decide (9223372036854775808 < U) = false := decide_eq_false (by omega)
      have hg2 : (U == 9223372036854775808) = false := beq_eq_false_iff_ne.2 (by omega)
      have hw : wrap64 U = U := by unfold wrap64; omega
      go_wp2_with (go_at_call 123; first | ((with_reducible refine (give_no _ _).mono ?_); rintro e w' ⟨rfl, rfl⟩) | ((with_reducible refine (give_yes _ _).mono ?_); rintro e w' ⟨rfl, rfl⟩))
      go_ret2
      exact ⟨HF.out.symm, rfl⟩
     ·have HF := Aside0.mk (HE.out.symm.trans (takeEnd_bad (e := 11) (by rw [hT, if_pos (by omega)]) (by decide)))
      clear hU HU hS hT
      have hg3 : (decide (9223372036854775808 < U) = true) ∨ (decide (9223372036854775808 < U) = false ∧ (U == 9223372036854775808) = true) := by
       by_cases h : 9223372036854775808 < U
       ·exact .inl (decide_eq_true h)
       ·exact .inr ⟨decide_eq_false h, beq_iff_eq.2 (by omega)⟩
      rcases hg3 with hg1 | ⟨hg1, hg2⟩
      all_goals
       go_wp2_with (go_at_call 123; first | ((with_reducible refine (give_no _ _).mono ?_); rintro e w' ⟨rfl, rfl⟩) | ((with_reducible refine (give_yes _ _).mono ?_); rintro e w' ⟨rfl, rfl⟩))
       exact ⟨rfl, HF.out.symm, rfl⟩
    ·by_cases hg : 9223372036854775808 < U
     ·have HF := Aside0.mk (HE.out.symm.trans (takeEnd_bad (e := 11) (by rw [hT, if_pos (by omega)]) (by decide)))
      clear hU HU hS hT
      have hg1 : decide (9223372036854775808 < U) = true := decide_eq_true hg
      go_wp2_with (go_at_call 123; first | ((with_reducible refine (give_no _ _).mono ?_); rintro e w' ⟨rfl, rfl⟩) | ((with_reducible refine (give_yes _ _).mono ?_); rintro e w' ⟨rfl, rfl⟩))
      exact ⟨rfl, HF.out.symm, rfl⟩
     ·have hN : tkN l = wrap64 (IntKind.u64.wrap (-U)) := by
       unfold tkN; rw [if_pos hm, hU, IntKind.wrap_u64]; unfold wrap64; omega
      have HF := Aside0.mk (HE.out.symm.trans (takeEnd_good (by rw [hT, if_neg (by omega)])))
      rw [hN, hS] at HF
      clear hU HU hN hS hT
      have hg1 : decide (9223372036854775808 < U) = false := decide_eq_false (by omega)
      go_wp2_with (go_at_call 123; first | ((with_reducible refine (give_no _ _).mono ?_); rintro e w' ⟨rfl, rfl⟩) | ((with_reducible refine (give_yes _ _).mono ?_); rintro e w' ⟨rfl, rfl⟩))
      ·have h : U = 9223372036854775808 := by assumption
       rw [h] at HF
       go_ret2
       exact ⟨HF.out.symm, rfl⟩
      ·go_ret2
       exact ⟨HF.out.symm, rfl⟩
end Go.Proofs.YtgiefblcckikeaaGreat.M
end

section
/- Contract of trivet/shape.TakeNum. -/
set_option maxRecDepth 100000
namespace Go.Proofs.YtgiefblcckikeaaGreat.M
open Go.RowKit Go.Proofs.YtgiefblcckikeaaGreatW.PrintWords
def takeNum (l : List Int) : Int × Int × Int := if tkE l = 0 then (tkN l, tkS l, 0) else (0, 0, tkE l)
structure Boxes (b : Nat) (A : Option Addr) (c n : Nat) (z1 z2 : Value) (w : World) : Prop where
 b0 : w.cell? ⟨b, 0, none⟩ = some (.slice A n c)
 n0 : w.cell? ⟨b + 1, 0, none⟩ = some z1
 n1 : w.frozen? ⟨b + 1, 0, none⟩ = false
 s0 : w.cell? ⟨b + 2, 0, none⟩ = some z2
 s1 : w.frozen? ⟨b + 2, 0, none⟩ = false
theorem takenum1 (A : Option Addr) (c : Nat) (l : List Int) (w : World) (hr : Kd.C (Kd.int .u8) w A l.length l) (hc : l.length ≤ c) (hb : okB l = true) (b : Nat) (hx : Boxes b A c l.length (.int .i64 0) (.int .i64 0) w) :
  Calls Tryz.prog 168 #[.pointer (some ⟨b, 0, none⟩), .pointer (some ⟨b + 1, 0, none⟩), .pointer (some ⟨b + 2, 0, none⟩)] w fun e W => Keep2 b w W ∧
   (W.cell? ⟨b + 1, 0, none⟩ = some (.int .i64 (takeNum l).1) ∧ W.cell? ⟨b + 2, 0, none⟩ = some (.int .i64 (takeNum l).2.1) ∧ W.frozen? ⟨b + 1, 0, none⟩ = false ∧ W.frozen? ⟨b + 2, 0, none⟩ = false) ∧
   ((e = .returned (.tuple #[]) ∧ tkE l = 0) ∨ e = .panicked [{ v := wrongV (tkE l), recovered := false }]) := by
 have HT := Lib.hid (take_any A c l w hr hc hb)
 obtain ⟨hb0, hn0, hn1, hs0, hs1⟩ := hx
 by_cases he : tkE l = 0
 ·have HE := Aside0.mk (takeEnd_good he)
  have HZ := Aside0.mk he
  have HN := Aside0.mk (show takeNum l = (tkN l, tkS l, 0) by unfold takeNum; rw [if_pos he])
  clear he
  go_enter Tryz.func168, Tryz.ntmps168
  go_wp2_with (go_at_call 160; refine HT.out.mono ?_; rintro e w' ⟨rfl, rfl⟩; rw [HE.out])
  go_end0
  rw [HN.out]
  exact ⟨((Keep2.refl _ _).set1 _).set2 _, ⟨by simp [go_sem, hn0], by simp [go_sem, hs0], by simp [go_sem, hn1], by simp [go_sem, hs1]⟩, .inl ⟨rfl, HZ.out⟩⟩
 ·have HE := Aside0.mk (takeEnd_bad rfl he)
  have HN := Aside0.mk (show takeNum l = (0, 0, tkE l) by unfold takeNum; rw [if_neg he])
  clear he
  go_enter Tryz.func168, Tryz.ntmps168
  go_wp2_with (go_at_call 160; refine HT.out.mono ?_; rintro e w' ⟨rfl, rfl⟩; rw [HE.out])
  rw [HN.out]
  exact ⟨rfl, Keep2.refl _ _, ⟨hn0, hs0, hn1, hs1⟩, .inr rfl⟩
theorem takeNum_calls (A : Option Addr) (c : Nat) (l : List Int) (w : World) (hr : Kd.C (Kd.int .u8) w A l.length l) (hc : l.length ≤ c) (hb : okB l = true) :
  Calls Tryz.prog 153 #[.slice A l.length c] w fun e w' => e = .returned (.tuple #[.int .i64 (takeNum l).1, .int .i64 (takeNum l).2.1, .int .i64 (takeNum l).2.2]) ∧ Below w.heap.size w w' := by
 have HR := Aside0.mk hr
 have HC := Aside0.mk hc
 have HB := Aside0.mk hb
 clear hr hc hb
 have hmf : ∀ (fn : Fn) (first cap : Array Value) (w : World), (Instr.makeFunc fn first cap).run Tryz.prog w = .ok (.func fn first cap) w := fun _ _ _ _ => rfl
 go_enter Tryz.func153, Tryz.ntmps153
 go_wp2_with fail
 have HX : Boxes w.heap.size A c l.length (.int .i64 0) (.int .i64 0) ((((w.alloc (.cells #[.slice A l.length c] 23)).alloc (.cells #[.int .i64 0] 2)).alloc (.cells #[.int .i64 0] 3)).alloc (.cells #[.int .i64 0] 36)) := by
  constructor <;> simp [go_sem]
 refine (try_calls 168 _ w.heap.size _ _ (tkE l) (by simp) (enter_any _ _ _ Tryz.func168 rfl (by kernel_rfl))
  (takenum1 A c l _ (Kd.C_alloc (Kd.C_alloc (Kd.C_alloc (Kd.C_alloc HR.out _) _) _) _) HC.out HB.out w.heap.size HX)).mono ?_
 rintro e w1 ⟨W, ⟨hn, hs, hnf, hsf⟩, rfl, hk, hz, hbl, _⟩
 have hn1 : w1.cell? ⟨w.heap.size + 1, 0, none⟩ = some (.int .i64 (takeNum l).1) := (hbl.cell (by simp)).trans hn
 have hs1 : w1.cell? ⟨w.heap.size + 1 + 1, 0, none⟩ = some (.int .i64 (takeNum l).2.1) := (hbl.cell (by simp)).trans hs
 have hnf1 : w1.frozen? ⟨w.heap.size + 1, 0, none⟩ = false := (hbl.frozen (by simp)).trans hnf
 have hsf1 : w1.frozen? ⟨w.heap.size + 1 + 1, 0, none⟩ = false := (hbl.frozen (by simp)).trans hsf
 have HBL := Aside0.mk (show Below w.heap.size w w1 from
  (((((Below.refl w.heap.size w).alloc (Nat.le_refl _) _).alloc (by simp) _).alloc (by simp; omega) _).trans (hk.below (by omega) (by simp; omega))).trans (hbl.mono (by simp; omega)))
 have HT := Aside0.mk (show tkE l = (takeNum l).2.2 by unfold takeNum; split <;> simp [*])
 clear hn hs hnf hsf hk hz hbl HX
 go_wp2
 go_region
 all_goals
  go_wp2
  refine bodyPost_ret (v := .tuple #[.int .i64 (takeNum l).1, .int .i64 (takeNum l).2.1, .int .i64 (tkE l)]) (by simp [results, Tryz.results153, go_sem, hn1, hs1]) rfl ⟨by rw [HT.out], ?_⟩
  repeat first | exact HBL.out | exact (by assumption) | apply Below.drew | refine Below.setCell ?_ (by first | (simp; done) | (simp; omega)) _
end Go.Proofs.YtgiefblcckikeaaGreat.M
namespace Go.Proofs.YtgiefblcckikeaaGreat.G
open Go.RowKit Go.Proofs.YtgiefblcckikeaaGreatW.PrintWords Go.Proofs.YtgiefblcckikeaaGreat.M
def shape_TakeNum.f (l0 : List Int) : Option (Int × Int × Int) := if okB l0 = true then some (takeNum l0) else none
theorem shape_TakeNum.calls (A0 : Option Addr) (c0 : Nat) (l0 : List Int) (r1 : Int) (r2 : Int) (r3 : Int) (w : World) (hr0 : Kd.C (Kd.int .u8) w A0 l0.length l0) (hc0 : l0.length ≤ c0) (h : shape_TakeNum.f l0 = some (r1, r2, r3)) :
  Calls Tryz.prog 153 #[.slice A0 l0.length c0] w fun e w' => e = .returned (.tuple #[.int .i64 r1, .int .i64 r2, .int .i64 r3]) ∧ Below w.heap.size w w' := by
 unfold shape_TakeNum.f at h
 split at h
 ·rename_i hb
  have h := Option.some.inj h
  have h1 : r1 = (takeNum l0).1 := by rw [h]
  have h2 : r2 = (takeNum l0).2.1 := by rw [h]
  have h3 : r3 = (takeNum l0).2.2 := by rw [h]
  rw [h1, h2, h3]
  exact takeNum_calls A0 c0 l0 w hr0 hc0 hb
 ·cases h
end Go.Proofs.YtgiefblcckikeaaGreat.G
end

section
/- Contracts of trivet/shape.blob and trivet/shape.TakeBlob. -/
set_option maxRecDepth 100000
namespace Go.Proofs.YtgiefblcckikeaaGreat.M
open Go.RowKit Go.Proofs.YtgiefblcckikeaaGreatW.PrintWords
theorem tkN_bound {l : List Int} (hb : okB l = true) (h : tkE l = 0) : -9223372036854775808 ≤ tkN l ∧ tkN l ≤ 9223372036854775807 := by
 have h0 : 0 ≤ tkU l := by rw [← upFrom_zero]; exact upFrom_nonneg hb _ _
 unfold tkE at h
 split at h
 ·omega
 ·split at h
  ·omega
  ·split at h
   ·omega
   ·split at h
    ·omega
    ·split at h
     ·omega
     ·rename_i hh
      unfold big63 at hh
      unfold tkN
      have hr := okB_rd hb 0
      split
      ·unfold wrap64; omega
      ·omega
def blobV (A : Option Addr) (c : Nat) (l : List Int) : Value := .slice (if c = (blLo l).toNat then A else A.map (·.add ((blLo l).toNat * 1))) ((blHi l).toNat - (blLo l).toNat) (c - (blLo l).toNat)
set_option maxHeartbeats 1000000 in
theorem blob_any (A : Option Addr) (c : Nat) (l : List Int) (most more : Int) (w : World) (hr : Kd.C (Kd.int .u8) w A l.length l) (hc : l.length ≤ c) (hb : okB l = true) (hm0 : 0 ≤ more) (hm1 : more ≤ 8) (hlen : l.length < 140737488355328) :
  Calls Tryz.prog 122 #[.slice A l.length c, .int .i64 most, .int .i64 more] w fun e w' => w = w' ∧
   ((blE l most more = 0 ∧ e = .returned (.tuple #[blobV A c l, .int .i64 (blHi l)])) ∨ (¬ blE l most more = 0 ∧ e = .panicked [{ v := wrongV (blE l most more), recovered := false }])) := by
 have HT := Lib.hid (take_any A c l w hr hc hb)
 have HR := Aside0.mk hr
 have HBD := Aside0.mk (fun h => tkN_bound hb h)
 have HSZ := Aside0.mk (fun h => tkE_size (l := l) h)
 clear hr hb
 by_cases he : tkE l = 0
 ·have HE := Aside0.mk (takeEnd_good he)
  have hn := HBD.out he
  have hs := HSZ.out he
  have hs1 := tkS_pos l
  obtain ⟨n, HN⟩ : ∃ n, Aside0 (tkN l = n) := ⟨_, ⟨rfl⟩⟩
  obtain ⟨s, HS⟩ : ∃ s, Aside0 (tkS l = s) := ⟨_, ⟨rfl⟩⟩
  rw [HN.out, HS.out] at HE
  rw [HN.out] at hn
  rw [HS.out] at hs hs1
  have HBE := Aside0.mk (show blE l most more = if n < 0 then 11 else if most < n then 3 else if (l.length : Int) - s - more < n then 10 else 0 by unfold blE; rw [if_neg (by omega), HN.out, HS.out])
  clear he HBD HSZ
  by_cases h1 : n < 0
  ·have HZ := Aside0.mk (HBE.out.trans (if_pos h1))
   go_enter Tryz.func122, Tryz.ntmps122
   go_wp2_with (first | (go_at_call 160; refine HT.out.mono ?_; rintro e w' ⟨rfl, rfl⟩; rw [HE.out]) | (go_at_call 123; first | ((with_reducible refine (give_no _ _).mono ?_); rintro e w' ⟨rfl, rfl⟩) | ((with_reducible refine (give_yes _ _).mono ?_); rintro e w' ⟨rfl, rfl⟩)))
   exact ⟨rfl, rfl, .inr ⟨by rw [HZ.out]; decide, by rw [HZ.out]⟩⟩
  have g1 : decide (n < 0) = false := decide_eq_false h1
  by_cases h2 : most < n
  ·have HZ := Aside0.mk (HBE.out.trans ((if_neg h1).trans (if_pos h2)))
   go_enter Tryz.func122, Tryz.ntmps122
   go_wp2_with (first | (go_at_call 160; refine HT.out.mono ?_; rintro e w' ⟨rfl, rfl⟩; rw [HE.out]) | (go_at_call 123; first | ((with_reducible refine (give_no _ _).mono ?_); rintro e w' ⟨rfl, rfl⟩) | ((with_reducible refine (give_yes _ _).mono ?_); rintro e w' ⟨rfl, rfl⟩)))
   exact ⟨rfl, rfl, .inr ⟨by rw [HZ.out]; decide, by rw [HZ.out]⟩⟩
  have g2 : decide (most < n) = false := decide_eq_false h2
  by_cases h3 : (l.length : Int) - s - more < n
  ·have HZ := Aside0.mk (HBE.out.trans ((if_neg h1).trans ((if_neg h2).trans (if_pos h3))))
   go_enter Tryz.func122, Tryz.ntmps122
   go_wp2_with (first | (go_at_call 160; refine HT.out.mono ?_; rintro e w' ⟨rfl, rfl⟩; rw [HE.out]) | (go_at_call 123; first | ((with_reducible refine (give_no _ _).mono ?_); rintro e w' ⟨rfl, rfl⟩) | ((with_reducible refine (give_yes _ _).mono ?_); rintro e w' ⟨rfl, rfl⟩)))
   exact ⟨rfl, rfl, .inr ⟨by rw [HZ.out]; decide, by rw [HZ.out]⟩⟩
  have HZ := Aside0.mk (HBE.out.trans ((if_neg h1).trans ((if_neg h2).trans (if_neg h3))))
  have g3 : decide ((l.length : Int) - s - more < n) = false := decide_eq_false h3
  obtain ⟨i0, hi, hz0, hz1, hz2⟩ := info_parts infoU8
  have hcut := cut_mid (P := Tryz.prog) 23 5 .i64 .i64 Tryz.underlying23 hi 1 hz1 A l.length c s (s + n) (by omega) (by omega) (by omega) hc
  have hV0 : blobV A c l = .slice (if c = s.toNat then A else A.map (·.add (s.toNat * 1))) ((s + n).toNat - s.toNat) (c - s.toNat) := by unfold blobV blHi blLo; rw [HS.out, HN.out]
  rw [← hV0] at hcut
  clear hV0
  have HH := Aside0.mk (show blHi l = s + n by unfold blHi; rw [HS.out, HN.out])
  clear hi hz0 hz1 hz2
  go_enter Tryz.func122, Tryz.ntmps122
  go_wp2_with (first | (go_at_call 160; refine HT.out.mono ?_; rintro e w' ⟨rfl, rfl⟩; rw [HE.out]) | (go_at_call 123; first | ((with_reducible refine (give_no _ _).mono ?_); rintro e w' ⟨rfl, rfl⟩) | ((with_reducible refine (give_yes _ _).mono ?_); rintro e w' ⟨rfl, rfl⟩)))
  go_ret2
  exact ⟨rfl, .inl ⟨HZ.out, by rw [HH.out]; rfl⟩⟩
 ·have HE := Aside0.mk (takeEnd_bad rfl he)
  have HZ := Aside0.mk (show blE l most more = tkE l by unfold blE; rw [if_pos he])
  have HZ2 := Aside0.mk he
  clear he HBD HSZ
  go_enter Tryz.func122, Tryz.ntmps122
  go_wp2_with (go_at_call 160; refine HT.out.mono ?_; rintro e w' ⟨rfl, rfl⟩; rw [HE.out])
  exact ⟨rfl, rfl, .inr ⟨by rw [HZ.out]; exact HZ2.out, by rw [HZ.out]⟩⟩
theorem blD_length {l : List Int} (h : 1 ≤ blLo l ∧ blLo l ≤ blHi l ∧ blHi l ≤ (l.length : Int)) : (blD l).length = (blHi l).toNat - (blLo l).toNat := by
 unfold blD
 rw [List.length_drop, List.length_take]
 omega
theorem blobV_form {A : Option Addr} {c : Nat} {l : List Int} {w : World} (hr : Kd.C (Kd.int .u8) w A l.length l) (hc : l.length ≤ c) (h : 1 ≤ blLo l ∧ blLo l ≤ blHi l ∧ blHi l ≤ (l.length : Int)) :
  ∃ A' c', blobV A c l = .slice A' (blD l).length c' ∧ (blD l).length ≤ c' ∧ Kd.C (Kd.int .u8) w A' (blD l).length (blD l) := by
 refine ⟨_, c - (blLo l).toNat, ?_, ?_, Kd.C_mid (c := c) hr (by omega : (blLo l).toNat ≤ (blHi l).toNat) (by omega) hc⟩
 ·unfold blobV
  rw [blD_length h]
  rfl
 ·rw [blD_length h]; omega
theorem Own.set {W : World} {base : Nat} {v : Value} {l : List Int} (h : Own W base v l) {p : Addr} (hp : p.block < base) (u : Value) : Own (W.setCell p u) base v l :=
 Kd.R_mono (Kd.R_far (Kd.R_bound h) (p := p) (fun k hk e => by have := hk.2.1; omega) u) (fun _ _ => trivial)
theorem Own.below {W W' : World} {base : Nat} {v : Value} {l : List Int} (h : Own W base v l) (hb : Below W.heap.size W W') : Own W' base v l := Kd.R_below h hb
theorem Own.lower {W : World} {base base' : Nat} {v : Value} {l : List Int} (h : Own W base v l) (hb : base' ≤ base) : Own W base' v l := Kd.R_lower h hb
theorem Own.drew {W : World} {base : Nat} {v : Value} {l : List Int} (h : Own W base v l) : Own W.drew base v l := Kd.R_drew h
theorem Own.nil (W : World) (base : Nat) : Own W base (.slice none 0 0) [] := Kd.R_nil _ _ _ _ _
theorem Own.form {W : World} {base : Nat} {v : Value} {l : List Int} (h : Own W base v l) : ∃ A c, v = .slice A l.length c := Kd.R_slice h
theorem C_cells_imp {w W : World} {k : IntKind} {A : Option Addr} {n : Nat} {l : List Int} (h : Kd.C (Kd.int k) w A n l) (hk : ∀ (p : Addr) (x : Int), w.cell? p = some (.int k x) → W.cell? p = some (.int k x)) : Kd.C (Kd.int k) W A n l := by
 obtain ⟨h1, h2, h3⟩ := Kd.reads_of_C (d := (0 : Int)) h
 refine Kd.C_of_reads (d := (0 : Int)) (h1 := fun _ => rfl) ⟨h1, h2, fun hp => ?_⟩
 obtain ⟨ad, e, hc⟩ := h3 hp
 exact ⟨ad, e, fun j hj => hk _ _ (hc j hj)⟩
theorem C_over1 {w : World} {k : IntKind} {A : Option Addr} {n : Nat} {l : List Int} (h : Kd.C (Kd.int k) w A n l) {q : Addr} {z u : Value} (h1 : w.cell? q = some z) (hz : ∀ x, z ≠ .int k x) : Kd.C (Kd.int k) (w.setCell q u) A n l :=
 C_cells_imp h fun p x hp => (World.cell?_setCell_other _ _ _ _ (fun e => by subst e; rw [h1] at hp; exact hz x (Option.some.inj hp))).trans hp
def big62 : Int := 9223372036854775807
def takeBlob (l : List Int) : List Int × Int × Int := if blE l big62 0 = 0 then (blD l, blHi l, 0) else ([], 0, blE l big62 0)
set_option maxHeartbeats 1000000 in
theorem takeblob1 (A : Option Addr) (c : Nat) (l : List Int) (w : World) (hr : Kd.C (Kd.int .u8) w A l.length l) (hc : l.length ≤ c) (hb : okB l = true) (hlen : l.length < 140737488355328) (b : Nat) (hx : Boxes b A c l.length (.slice none 0 0) (.int .i64 0) w) (hbs : b + 3 ≤ w.heap.size) :
  Calls Tryz.prog 170 #[.pointer (some ⟨b, 0, none⟩), .pointer (some ⟨b + 1, 0, none⟩), .pointer (some ⟨b + 2, 0, none⟩)] w fun e W => Keep2 b w W ∧
   (∃ v, W.cell? ⟨b + 1, 0, none⟩ = some v ∧ W.cell? ⟨b + 2, 0, none⟩ = some (.int .i64 (takeBlob l).2.1) ∧ W.frozen? ⟨b + 1, 0, none⟩ = false ∧ W.frozen? ⟨b + 2, 0, none⟩ = false ∧ Own W w.heap.size v (takeBlob l).1) ∧
   ((e = .returned (.tuple #[]) ∧ blE l big62 0 = 0) ∨ e = .panicked [{ v := wrongV (blE l big62 0), recovered := false }]) := by
 have hT := blob_any A c l big62 0 w hr hc hb (by decide) (by decide) hlen
 obtain ⟨hb0, hn0, hn1, hs0, hs1⟩ := hx
 by_cases he : blE l big62 0 = 0
 ·obtain ⟨g1, g2, g3, g4, g5, g6⟩ := blE_good he
  obtain ⟨A', c', hV, hc', hr'⟩ := blobV_form hr hc ⟨g6, g5, by omega⟩
  have hl' : (blD l).length < 140737488355328 := by rw [blD_length ⟨g6, g5, by omega⟩]; omega
  have HN := Aside0.mk (show takeBlob l = (blD l, blHi l, 0) by unfold takeBlob; rw [if_pos he])
  have HZ := Aside0.mk he
  have HT := Lib.hid (hT.mono (R' := fun e w' => w = w' ∧ e = .returned (.tuple #[.slice A' (blD l).length c', .int .i64 (blHi l)])) (by
   rintro e w' ⟨rfl, ⟨_, rfl⟩ | ⟨h, _⟩⟩
   ·exact ⟨rfl, by rw [hV]⟩
   ·exact absurd he h))
  have HR := Aside0.mk hr'
  clear he hV hr' g1 g2 g3 g4 g5 g6 hr hT
  unfold big62 at HT
  go_enter Tryz.func170, Tryz.ntmps170
  go_wp2_with (go_at_call 122; refine HT.out.mono ?_; rintro e w' ⟨rfl, rfl⟩)
  refine (clone_calls A' c' (blD l) _ (C_over1 (C_over1 HR.out hn0 (by simp)) (z := .int .i64 0) (by rw [World.cell?_setCell_other _ _ _ _ (by simp)]; exact hs0) (by simp)) hc' hl').mono ?_
  rintro e w1 ⟨v, rfl, ho, hbl⟩
  obtain ⟨Av, cv, rfl⟩ := ho.form
  have HO := Aside0.mk ho
  have HBL := Aside0.mk hbl
  have k1 : w1.cell? ⟨b + 1, 0, none⟩ = some (.slice A' (blD l).length c') := by
   rw [hbl.cell (by simp [World.setCell]; omega), World.cell?_setCell_other _ _ _ _ (by simp)]; exact World.cell?_setCell_same' _ _ _ (by rw [hn0]; rfl)
  have k2 : w1.cell? ⟨b + 2, 0, none⟩ = some (.int .i64 (blHi l)) := by
   rw [hbl.cell (by simp [World.setCell]; omega)]; exact World.cell?_setCell_same' _ _ _ (by rw [World.cell?_setCell_other _ _ _ _ (by simp), hs0]; rfl)
  have k3 : w1.frozen? ⟨b + 1, 0, none⟩ = false := by
   rw [hbl.frozen (by simp [World.setCell]; omega)]; simp [hn1]
  have k4 : w1.frozen? ⟨b + 2, 0, none⟩ = false := by
   rw [hbl.frozen (by simp [World.setCell]; omega)]; simp [hs1]
  clear ho hbl
  go_wp2
  go_end0
  rw [HN.out]
  refine ⟨(((Keep2.refl b w).set1 _).set2 _ |>.trans (Keep2.of_below HBL.out)).set1 _, ⟨_, World.cell?_setCell_same' _ _ _ (by rw [k1]; rfl), ?_, ?_, ?_, ?_⟩, .inl ⟨rfl, HZ.out⟩⟩
  ·rw [World.cell?_setCell_other _ _ _ _ (by simp)]; exact k2
  ·simp [k3]
  ·simp [k4]
  ·exact (HO.out.lower (by simp [World.setCell])).set (p := ⟨b + 1, 0, none⟩) (by show b + 1 < _; omega) _
 ·have HN := Aside0.mk (show takeBlob l = ([], 0, blE l big62 0) by unfold takeBlob; rw [if_neg he])
  have HT := Lib.hid (hT.mono (R' := fun e w' => w = w' ∧ e = .panicked [{ v := wrongV (blE l big62 0), recovered := false }]) (by
   rintro e w' ⟨rfl, ⟨h, _⟩ | ⟨_, rfl⟩⟩
   ·exact absurd h he
   ·exact ⟨rfl, rfl⟩))
  clear he hr hT
  obtain ⟨er, HER⟩ : ∃ er, Aside0 (blE l big62 0 = er) := ⟨_, ⟨rfl⟩⟩
  rw [HER.out] at HT HN ⊢
  unfold big62 at HT
  go_enter Tryz.func170, Tryz.ntmps170
  go_wp2_with (go_at_call 122; refine HT.out.mono ?_; rintro e w' ⟨rfl, rfl⟩)
  rw [HN.out]
  exact ⟨rfl, Keep2.refl _ _, ⟨_, hn0, hs0, hn1, hs1, Own.nil _ _⟩, .inr rfl⟩
end Go.Proofs.YtgiefblcckikeaaGreat.M
namespace Go.Proofs.YtgiefblcckikeaaGreat.M
open Go.RowKit Go.Proofs.YtgiefblcckikeaaGreatW.PrintWords
theorem takeBlob_calls (A : Option Addr) (c : Nat) (l : List Int) (w : World) (hr : Kd.C (Kd.int .u8) w A l.length l) (hc : l.length ≤ c) (hb : okB l = true) (hlen : l.length < 140737488355328) :
  Calls Tryz.prog 161 #[.slice A l.length c] w fun e w' => ∃ v0_ : Value, e = .returned (.tuple #[v0_, .int .i64 (takeBlob l).2.1, .int .i64 (takeBlob l).2.2]) ∧ Own w' w.heap.size v0_ (takeBlob l).1 ∧ Below w.heap.size w w' := by
 have HR := Aside0.mk hr
 have HC := Aside0.mk hc
 have HB := Aside0.mk hb
 have HL := Aside0.mk hlen
 clear hr hc hb hlen
 have hmf : ∀ (fn : Fn) (first cap : Array Value) (w : World), (Instr.makeFunc fn first cap).run Tryz.prog w = .ok (.func fn first cap) w := fun _ _ _ _ => rfl
 go_enter Tryz.func161, Tryz.ntmps161
 go_wp2_with fail
 have HX : Boxes w.heap.size A c l.length (.slice none 0 0) (.int .i64 0) ((((w.alloc (.cells #[.slice A l.length c] 23)).alloc (.cells #[.slice none 0 0] 23)).alloc (.cells #[.int .i64 0] 3)).alloc (.cells #[.int .i64 0] 36)) := by
  constructor <;> simp [go_sem]
 refine (try_calls 170 _ w.heap.size _ _ (blE l big62 0) (by simp) (enter_any _ _ _ Tryz.func170 rfl (by kernel_rfl))
  (takeblob1 A c l _ (Kd.C_alloc (Kd.C_alloc (Kd.C_alloc (Kd.C_alloc HR.out _) _) _) _) HC.out HB.out HL.out w.heap.size HX (by simp))).mono ?_
 rintro e w1 ⟨W, ⟨v, hn, hs, hnf, hsf, ho⟩, rfl, hk, hz, hbl, hg⟩
 simp only [World.size_alloc] at hz hbl hg ho
 obtain ⟨Av, cv, rfl⟩ := ho.form
 have hn1 : w1.cell? ⟨w.heap.size + 1, 0, none⟩ = some (.slice Av (takeBlob l).1.length cv) := (hbl.cell (by simp)).trans hn
 have hs1 : w1.cell? ⟨w.heap.size + 1 + 1, 0, none⟩ = some (.int .i64 (takeBlob l).2.1) := (hbl.cell (by simp)).trans hs
 have hnf1 : w1.frozen? ⟨w.heap.size + 1, 0, none⟩ = false := (hbl.frozen (by simp)).trans hnf
 have hsf1 : w1.frozen? ⟨w.heap.size + 1 + 1, 0, none⟩ = false := (hbl.frozen (by simp)).trans hsf
 have HO1 := Aside0.mk (show Own w1 (w.heap.size + 1 + 1 + 1 + 1) (.slice Av (takeBlob l).1.length cv) (takeBlob l).1 from
  Kd.R_mono (Kd.R_grown (Kd.R_bound ho) hg (fun k hk e => by have := hk.2.1; have := Option.some.inj e; omega)) (fun _ _ => trivial))
 have HBL := Aside0.mk (show Below w.heap.size w w1 from
  (((((Below.refl w.heap.size w).alloc (Nat.le_refl _) _).alloc (by simp) _).alloc (by simp; omega) _).trans (hk.below (by omega) (by simp; omega))).trans (hbl.mono (by omega)))
 have HT := Aside0.mk (show blE l big62 0 = (takeBlob l).2.2 by unfold takeBlob; split <;> simp [*])
 obtain ⟨er, her⟩ : ∃ er, blE l big62 0 = er := ⟨_, rfl⟩
 rw [her] at HT ⊢
 clear hn hs hnf hsf hk hz hbl HX hg ho her
 go_wp2
 go_region
 all_goals
  go_wp2
  refine bodyPost_ret (v := .tuple #[.slice Av (takeBlob l).1.length cv, .int .i64 (takeBlob l).2.1, .int .i64 er]) (by simp [results, Tryz.results161, go_sem, hn1, hs1]) rfl ⟨_, by rw [HT.out], ?_, ?_⟩
  ·refine Own.lower (base := w.heap.size + 1 + 1 + 1 + 1) ?_ (by omega)
   repeat first | exact HO1.out | apply Own.drew | refine Own.set ?_ (by first | (simp; done) | (simp; omega)) _
  ·repeat first | exact HBL.out | exact (by assumption) | apply Below.drew | refine Below.setCell ?_ (by first | (simp; done) | (simp; omega)) _
end Go.Proofs.YtgiefblcckikeaaGreat.M
namespace Go.Proofs.YtgiefblcckikeaaGreat.G
open Go.RowKit Go.Proofs.YtgiefblcckikeaaGreatW.PrintWords Go.Proofs.YtgiefblcckikeaaGreat.M
def shape_TakeBlob.f (l0 : List Int) : Option (List Int × Int × Int) := if okB l0 = true ∧ l0.length < 140737488355328 then some (takeBlob l0) else none
theorem shape_TakeBlob.calls (A0 : Option Addr) (c0 : Nat) (l0 : List Int) (r1 : List Int) (r2 : Int) (r3 : Int) (w : World) (hr0 : Kd.C (Kd.int .u8) w A0 l0.length l0) (hc0 : l0.length ≤ c0) (h : shape_TakeBlob.f l0 = some (r1, r2, r3)) :
  Calls Tryz.prog 161 #[.slice A0 l0.length c0] w fun e w' => ∃ v0_ : Value, e = .returned (.tuple #[v0_, .int .i64 r2, .int .i64 r3]) ∧ Kd.R (Kd.int .u8) 5 w' w.heap.size (fun _ => True) v0_ r1 ∧ Below w.heap.size w w' := by
 unfold shape_TakeBlob.f at h
 split at h
 ·rename_i hb
  have h := Option.some.inj h
  have h1 : r1 = (takeBlob l0).1 := by rw [h]
  have h2 : r2 = (takeBlob l0).2.1 := by rw [h]
  have h3 : r3 = (takeBlob l0).2.2 := by rw [h]
  rw [h1, h2, h3]
  exact takeBlob_calls A0 c0 l0 w hr0 hc0 hb.1 hb.2
 ·cases h
end Go.Proofs.YtgiefblcckikeaaGreat.G
end

section
/- The eye: numbers and bytes read off bytes. -/
set_option maxRecDepth 100000
attribute [local irreducible] Go.wpStill
namespace Go.Proofs.YtgiefblcckikeaaGreat.M
open Go.RowKit Go.Proofs.YtgiefblcckikeaaGreatW.PrintWords Go.Proofs.YtgiefblcckikeaaGreatW.PrintLast Go.Proofs.YtgiefblcckikeaaGreatW.PrintMore Go.Proofs.YtgiefblcckikeaaGreat.G
structure EyeS where
 l : List Int
 e : Int
 o : Bool
def eNum (s : EyeS) : Int × EyeS := if s.e = 0 then ((takeNum s.l).1, ⟨s.l.drop (takeNum s.l).2.1.toNat, (takeNum s.l).2.2, s.o⟩) else (0, s)
def eSmall (s : EyeS) : Int × EyeS := if IntKind.i32.wrap (eNum s).1 = (eNum s).1 then eNum s else (0, { (eNum s).2 with o := true })
def eData (s : EyeS) : List Int × EyeS := if s.e = 0 then ((takeBlob s.l).1, ⟨s.l.drop (takeBlob s.l).2.1.toNat, (takeBlob s.l).2.2, s.o⟩) else ([], s)
def eWrong (b : Bool) (s : EyeS) : EyeS := if s.e = 0 ∧ b = true then { s with e := 40 } else s
def okS (s : EyeS) : Prop := okB s.l = true ∧ s.l.length < 140737488355328
theorem okS_num {s : EyeS} (h : okS s) : okS (eNum s).2 := by
 unfold eNum
 split
 ·exact ⟨okB_drop h.1 _, by have := h.2; simp only [List.length_drop]; omega⟩
 ·exact h
theorem okS_small {s : EyeS} (h : okS s) : okS (eSmall s).2 := by
 unfold eSmall
 split
 ·exact okS_num h
 ·exact okS_num h
theorem okS_data {s : EyeS} (h : okS s) : okS (eData s).2 := by
 unfold eData
 split
 ·exact ⟨okB_drop h.1 _, by have := h.2; simp only [List.length_drop]; omega⟩
 ·exact h
theorem okS_wrong {s : EyeS} (b : Bool) (h : okS s) : okS (eWrong b s) := by
 unfold eWrong
 split <;> exact h
def IsEye (w0 W : World) (x : Nat) (s : EyeS) : Prop := ∃ (A : Option Addr) (c : Nat), W.heap[x]? = some (.cells #[.slice A s.l.length c, .int .i64 s.e, .bool s.o] 81) ∧ w0.heap.size ≤ x ∧ s.l.length ≤ c ∧ Kd.C (Kd.int .u8) w0 A s.l.length s.l
theorem IsEye.lt {w0 W : World} {x : Nat} {s : EyeS} (h : IsEye w0 W x s) : x < W.heap.size := by
 obtain ⟨A, c, h1, _⟩ := h
 exact (Array.getElem?_eq_some_iff.1 h1).1
theorem IsEye.below {w0 W W' : World} {x : Nat} {s : EyeS} (h : IsEye w0 W x s) (hb : Below W.heap.size W W') : IsEye w0 W' x s := by
 have hl := h.lt
 obtain ⟨A, c, h1, h2⟩ := h
 exact ⟨A, c, (hb.block x hl).trans h1, h2⟩
theorem IsEye.ge {w0 W : World} {x : Nat} {s : EyeS} (h : IsEye w0 W x s) : w0.heap.size ≤ x := by
 obtain ⟨A, c, h1, h2, _⟩ := h
 exact h2
def EyP (w0 w : World) (x : Nat) (r : Value) (s' : EyeS) (e : Ending) (w' : World) : Prop := e = .returned r ∧ IsEye w0 w' x s' ∧ Below w0.heap.size w0 w' ∧ KeepS (fun i => i = x) w w'
theorem cutE {A : Option Addr} {c : Nat} {l : List Int} (j : Nat) (hj : j ≤ l.length) (hc : l.length ≤ c) :
  ∃ A' : Option Addr, (∀ W : World, (Instr.slice 23 (.slice A l.length c) (some (.int .i64 (j : Int))) none none).run Tryz.prog W = .ok (.slice A' (l.drop j).length (c - j)) W) ∧ (∀ w : World, Kd.C (Kd.int .u8) w A l.length l → Kd.C (Kd.int .u8) w A' (l.drop j).length (l.drop j)) ∧ (l.drop j).length ≤ c - j := by
 obtain ⟨i0, hi, hzz⟩ := Option.map_eq_some_iff.1 infoU8
 simp only [Prod.mk.injEq] at hzz
 obtain ⟨hz0, hz1, hz2⟩ := hzz
 refine ⟨if c = j then A else A.map (·.add (j * 1)), fun W => ?_, fun w h => ?_, ?_⟩
 ·have := cut_from (P := Tryz.prog) 23 5 .i64 Tryz.underlying23 hi 1 hz1 A l.length c (j : Int) (by omega) (by omega) W
  rw [Int.toNat_natCast] at this
  rw [List.length_drop]
  exact this
 ·have := Kd.C_drop h hj hc
  exact this
 ·rw [List.length_drop]; omega
theorem takeNum_size (l : List Int) : 0 ≤ (takeNum l).2.1 ∧ (takeNum l).2.1 ≤ l.length := by
 unfold takeNum
 by_cases h : tkE l = 0
 ·rw [if_pos h]
  simp only
  unfold tkE at h
  unfold tkS
  split at h
  ·omega
  ·split at h
   ·omega
   ·split at h
    ·omega
    ·omega
 ·rw [if_neg h]
  simp
set_option maxHeartbeats 1000000 in
theorem eNum_is {w0 w : World} {x : Nat} {s : EyeS} (hI : IsEye w0 w x s) (hB : Below w0.heap.size w0 w) (hok : okS s) :
  Calls Tryz.prog 110 #[.pointer (some ⟨x, 0, none⟩)] w fun e w' => EyP w0 w x (.int .i64 (eNum s).1) (eNum s).2 e w' := by
 have HI := Lib.hid hI; have HB := Lib.hid hB
 obtain ⟨A, c, h1, h2, h3, h4⟩ := hI
 have c0 : w.cell? ⟨x, 0, none⟩ = some (.slice A s.l.length c) := by simp [World.cell?, h1]
 have c1 : w.cell? ⟨x, 1, none⟩ = some (.int .i64 s.e) := by simp [World.cell?, h1]
 have HGE := Lib.hid h2
 by_cases he : s.e = 0
 ·have hb : (s.e != 0) = false := by rw [he]; rfl
  have HN := Lib.hid (takeNum_calls A c s.l w (Kd.C_below h4 hB) h3 hok.1)
  have HF := Lib.hid (show eNum s = ((takeNum s.l).1, ⟨s.l.drop (takeNum s.l).2.1.toNat, (takeNum s.l).2.2, s.o⟩) by unfold eNum; rw [if_pos he])
  obtain ⟨z0, z1⟩ := takeNum_size s.l
  obtain ⟨j, hj⟩ : ∃ j : Nat, (takeNum s.l).2.1 = (j : Int) := ⟨(takeNum s.l).2.1.toNat, by omega⟩
  obtain ⟨A', hcut, hC, hc'⟩ := cutE (A := A) (c := c) (l := s.l) j (by omega) h3
  obtain ⟨n, hn⟩ : ∃ n, (takeNum s.l).1 = n := ⟨_, rfl⟩
  obtain ⟨er, her⟩ : ∃ er, (takeNum s.l).2.2 = er := ⟨_, rfl⟩
  rw [hn, hj, her] at HN HF
  rw [Int.toNat_natCast] at HF
  have HC := Lib.hid (hC w0 h4)
  have HCC := Lib.hid hc'
  have HHE := Lib.hid h1
  obtain ⟨l2, hl2⟩ : ∃ l2, s.l.drop j = l2 := ⟨_, rfl⟩
  rw [hl2] at hcut HC HF HCC
  clear hB hok h1 h2 h3 h4 he z0 z1 hj hC hc' hn her hl2
  go_enter Tryz.func110, Tryz.ntmps110
  go_wp2_with fail
  refine HN.out.mono ?_
  rintro e w1 ⟨rfl, hb⟩
  have HB1 := Lib.hid (HB.out.trans (hb.mono HB.out.size))
  have HH1 := Lib.hid ((hb.block x HI.out.lt).trans HHE.out)
  have HK1 := Lib.hid (KeepS.of_below (fun i => i = x) hb)
  have d0 : w1.cell? ⟨x, 0, none⟩ = some (.slice A s.l.length c) := by simp [World.cell?, HH1.out]
  have d1 : w1.cell? ⟨x, 1, none⟩ = some (.int .i64 s.e) := by simp [World.cell?, HH1.out]
  have z0 : w1.frozen? ⟨x, 0, none⟩ = false := by simp [World.frozen?, HH1.out]
  have z1 : w1.frozen? ⟨x, 1, none⟩ = false := by simp [World.frozen?, HH1.out]
  clear hb c0 c1
  go_wp2_with fail
  go_ret
  refine ⟨by rw [HF.out]; rfl, ⟨A', c - j, ?_, HGE.out, ?_, ?_⟩, (HB1.out.setCell (by exact HGE.out) _).setCell (by exact HGE.out) _, (HK1.out.set (p := ⟨x, 1, none⟩) (.inl rfl) _).set (p := ⟨x, 0, none⟩) (.inl rfl) _⟩
  ·rw [HF.out]
   have e1 := heap_same w1 ⟨x, 1, none⟩ (.int .i64 er) HH1.out rfl
   have e2 := heap_same _ ⟨x, 0, none⟩ (.slice A' l2.length (c - j)) e1 rfl
   simpa using e2
  ·rw [HF.out]; exact HCC.out
  ·rw [HF.out]; exact HC.out
 ·have hb : (s.e != 0) = true := bne_iff_ne.2 he
  have HF := Lib.hid (show eNum s = (0, s) by unfold eNum; rw [if_neg he])
  clear hB hok h1 h2 h3 h4 he
  go_enter Tryz.func110, Tryz.ntmps110
  go_wp2_with fail
  go_ret
  exact ⟨by rw [HF.out]; rfl, by rw [HF.out]; exact HI.out, HB.out, KeepS.refl _ _⟩
theorem takeBlob_size {l : List Int} (h : okB l = true) (hl : l.length < 140737488355328) : 0 ≤ (takeBlob l).2.1 ∧ (takeBlob l).2.1 ≤ l.length := by
 unfold takeBlob
 by_cases h0 : blE l big62 0 = 0
 ·rw [if_pos h0]
  obtain ⟨h1, h2, h3, h4, h5, h6⟩ := blE_good h0
  show 0 ≤ blHi l ∧ blHi l ≤ l.length
  omega
 ·rw [if_neg h0]
  show (0 : Int) ≤ 0 ∧ (0 : Int) ≤ l.length
  omega
def DaP (w0 w : World) (x : Nat) (l : List Int) (s' : EyeS) (e : Ending) (w' : World) : Prop := ∃ v : Value, e = .returned v ∧ Kd.R (Kd.int .u8) 5 w' w.heap.size (fun k => k ≠ x) v l ∧ IsEye w0 w' x s' ∧ Below w0.heap.size w0 w' ∧ KeepS (fun i => i = x) w w'
set_option maxHeartbeats 1000000 in
theorem eData_is {w0 w : World} {x : Nat} {s : EyeS} (hI : IsEye w0 w x s) (hB : Below w0.heap.size w0 w) (hok : okS s) :
  Calls Tryz.prog 128 #[.pointer (some ⟨x, 0, none⟩)] w fun e w' => DaP w0 w x (eData s).1 (eData s).2 e w' := by
 have HI := Lib.hid hI; have HB := Lib.hid hB
 obtain ⟨A, c, h1, h2, h3, h4⟩ := hI
 have c0 : w.cell? ⟨x, 0, none⟩ = some (.slice A s.l.length c) := by simp [World.cell?, h1]
 have c1 : w.cell? ⟨x, 1, none⟩ = some (.int .i64 s.e) := by simp [World.cell?, h1]
 have HGE := Lib.hid h2
 by_cases he : s.e = 0
 ·have hb : (s.e != 0) = false := by rw [he]; rfl
  have HN := Lib.hid (takeBlob_calls A c s.l w (Kd.C_below h4 hB) h3 hok.1 hok.2)
  have HF := Lib.hid (show eData s = ((takeBlob s.l).1, ⟨s.l.drop (takeBlob s.l).2.1.toNat, (takeBlob s.l).2.2, s.o⟩) by unfold eData; rw [if_pos he])
  obtain ⟨z0, z1⟩ := takeBlob_size hok.1 hok.2
  obtain ⟨j, hj⟩ : ∃ j : Nat, (takeBlob s.l).2.1 = (j : Int) := ⟨(takeBlob s.l).2.1.toNat, by omega⟩
  obtain ⟨A', hcut, hC, hc'⟩ := cutE (A := A) (c := c) (l := s.l) j (by omega) h3
  obtain ⟨n, hn⟩ : ∃ n, (takeBlob s.l).1 = n := ⟨_, rfl⟩
  obtain ⟨er, her⟩ : ∃ er, (takeBlob s.l).2.2 = er := ⟨_, rfl⟩
  rw [hn, hj, her] at HN HF
  rw [Int.toNat_natCast] at HF
  have HC := Lib.hid (hC w0 h4)
  have HCC := Lib.hid hc'
  have HHE := Lib.hid h1
  obtain ⟨l2, hl2⟩ : ∃ l2, s.l.drop j = l2 := ⟨_, rfl⟩
  rw [hl2] at hcut HC HF HCC
  clear hB hok h1 h2 h3 h4 he z0 z1 hj hC hc' hn her hl2
  go_enter Tryz.func128, Tryz.ntmps128
  go_wp2_with fail
  refine HN.out.mono ?_
  rintro e w1 ⟨v, rfl, hv, hb⟩
  have HB1 := Lib.hid (HB.out.trans (hb.mono HB.out.size))
  have HH1 := Lib.hid ((hb.block x HI.out.lt).trans HHE.out)
  have HK1 := Lib.hid (KeepS.of_below (fun i => i = x) hb)
  have d0 : w1.cell? ⟨x, 0, none⟩ = some (.slice A s.l.length c) := by simp [World.cell?, HH1.out]
  have d1 : w1.cell? ⟨x, 1, none⟩ = some (.int .i64 s.e) := by simp [World.cell?, HH1.out]
  have z0 : w1.frozen? ⟨x, 0, none⟩ = false := by simp [World.frozen?, HH1.out]
  have z1 : w1.frozen? ⟨x, 1, none⟩ = false := by simp [World.frozen?, HH1.out]
  have HV := Lib.hid (show Kd.R (Kd.int .u8) 5 w1 w.heap.size (fun k => k ≠ x) v n from Kd.R_mono (Kd.R_bound hv) (fun k hk => by have := hk.2.1; have := HI.out.lt; omega))
  clear hb hv c0 c1
  go_wp2_with fail
  go_ret
  refine ⟨v, rfl, ?_, ⟨A', c - j, ?_, HGE.out, ?_, ?_⟩, (HB1.out.setCell (by exact HGE.out) _).setCell (by exact HGE.out) _, (HK1.out.set (p := ⟨x, 1, none⟩) (.inl rfl) _).set (p := ⟨x, 0, none⟩) (.inl rfl) _⟩
  ·rw [HF.out]
   exact Kd.R_step HV.out (fun k hk hl => (Below.heap_setCell _ ⟨x, 0, none⟩ _ k hk).trans (Below.heap_setCell w1 ⟨x, 1, none⟩ _ k hk))
  ·rw [HF.out]
   have e1 := heap_same w1 ⟨x, 1, none⟩ (.int .i64 er) HH1.out rfl
   have e2 := heap_same _ ⟨x, 0, none⟩ (.slice A' l2.length (c - j)) e1 rfl
   simpa using e2
  ·rw [HF.out]; exact HCC.out
  ·rw [HF.out]; exact HC.out
 ·have hb : (s.e != 0) = true := bne_iff_ne.2 he
  have HF := Lib.hid (show eData s = ([], s) by unfold eData; rw [if_neg he])
  clear hB hok h1 h2 h3 h4 he
  go_enter Tryz.func128, Tryz.ntmps128
  go_wp2_with fail
  go_ret
  exact ⟨.slice none 0 0, rfl, by rw [HF.out]; exact Kd.R_nil _ _ _ _ _, by rw [HF.out]; exact HI.out, HB.out, KeepS.refl _ _⟩
theorem eSmall_is {w0 w : World} {x : Nat} {s : EyeS} (hI : IsEye w0 w x s) (hB : Below w0.heap.size w0 w) (hok : okS s) :
  Calls Tryz.prog 112 #[.pointer (some ⟨x, 0, none⟩)] w fun e w' => EyP w0 w x (.int .i64 (eSmall s).1) (eSmall s).2 e w' := by
 have HN := Lib.hid (eNum_is hI hB hok)
 obtain ⟨n, hn⟩ : ∃ n, (eNum s).1 = n := ⟨_, rfl⟩
 obtain ⟨s2, hs2⟩ : ∃ s2, (eNum s).2 = s2 := ⟨_, rfl⟩
 rw [hn, hs2] at HN
 clear hI hB hok
 by_cases h : IntKind.i32.wrap n = n
 ·have HF := Lib.hid (show eSmall s = (n, s2) by unfold eSmall; rw [hn, if_pos h, ← hn, ← hs2])
  have hb : (n != wrap64 (wrap32 n)) = false := by
   rw [bne_eq_false_iff_eq]
   rw [IntKind.wrap_i32] at h
   unfold wrap64 wrap32
   omega
  clear hn hs2 h
  go_enter Tryz.func112, Tryz.ntmps112
  go_wp2_with fail
  refine HN.out.mono ?_
  rintro e w1 ⟨rfl, h1, h2, h3⟩
  have H1 := Lib.hid h1; have H2 := Lib.hid h2; have H3 := Lib.hid h3
  clear h1 h2 h3
  go_wp2_with fail
  go_ret
  exact ⟨by rw [HF.out]; rfl, by rw [HF.out]; exact H1.out, H2.out, H3.out⟩
 ·have HF := Lib.hid (show eSmall s = (0, { s2 with o := true }) by unfold eSmall; rw [hn, if_neg h, ← hs2])
  have hb : (n != wrap64 (wrap32 n)) = true := by
   rw [bne_iff_ne]
   rw [IntKind.wrap_i32] at h
   unfold wrap64 wrap32
   omega
  clear hn hs2 h
  go_enter Tryz.func112, Tryz.ntmps112
  go_wp2_with fail
  refine HN.out.mono ?_
  rintro e w1 ⟨rfl, h1, h2, h3⟩
  have H2 := Lib.hid h2; have H3 := Lib.hid h3
  obtain ⟨A, c, g1, g2, g3, g4⟩ := h1
  have HG := Lib.hid g1; have HGE := Lib.hid g2; have H34 := Lib.hid (And.intro g3 g4)
  have d2 : w1.cell? ⟨x, 2, none⟩ = some (.bool s2.o) := by simp [World.cell?, g1]
  have z2 : w1.frozen? ⟨x, 2, none⟩ = false := by simp [World.frozen?, g1]
  clear h2 h3 g1 g2 g3 g4
  go_wp2_with fail
  go_ret
  refine ⟨by rw [HF.out]; rfl, ?_, H2.out.setCell (by exact HGE.out) _, H3.out.set (p := ⟨x, 2, none⟩) (.inl rfl) _⟩
  rw [HF.out]
  refine ⟨A, c, ?_, HGE.out, H34.out.1, H34.out.2⟩
  have e1 := heap_same w1 ⟨x, 2, none⟩ (.bool true) HG.out rfl
  simpa using e1
theorem eWrong_is {w0 w : World} {x : Nat} {s : EyeS} (hI : IsEye w0 w x s) (hB : Below w0.heap.size w0 w) (b : Bool) :
  Calls Tryz.prog 111 #[.pointer (some ⟨x, 0, none⟩), .bool b] w fun e w' => EyP w0 w x (.tuple #[]) (eWrong b s) e w' := by
 have HI := Lib.hid hI; have HB := Lib.hid hB
 obtain ⟨A, c, h1, h2, h3, h4⟩ := hI
 have HGE := Lib.hid h2; have HH := Lib.hid h1; have H34 := Lib.hid (And.intro h3 h4)
 have c1 : w.cell? ⟨x, 1, none⟩ = some (.int .i64 s.e) := by simp [World.cell?, h1]
 have z1 : w.frozen? ⟨x, 1, none⟩ = false := by simp [World.frozen?, h1]
 clear h1 h2 h3 h4 hB
 by_cases he : s.e = 0
 ·have hb : (s.e == 0) = true := by rw [he]; rfl
  cases b with
  | true =>
   have HF := Lib.hid (show eWrong true s = { s with e := 40 } by unfold eWrong; rw [if_pos ⟨he, rfl⟩])
   clear he
   go_enter Tryz.func111, Tryz.ntmps111
   go_wp2_with fail
   go_end0
   refine ⟨rfl, ?_, HB.out.setCell (by exact HGE.out) _, (KeepS.refl (fun i => i = x) w).set (p := ⟨x, 1, none⟩) (.inl rfl) _⟩
   rw [HF.out]
   refine ⟨A, c, ?_, HGE.out, H34.out.1, H34.out.2⟩
   have e1 := heap_same w ⟨x, 1, none⟩ (.int .i64 40) HH.out rfl
   simpa using e1
  | false =>
   have HF := Lib.hid (show eWrong false s = s by unfold eWrong; rw [if_neg (fun h => by cases h.2)])
   clear he
   go_enter Tryz.func111, Tryz.ntmps111
   go_wp2_with fail
   go_end0
   exact ⟨rfl, by rw [HF.out]; exact HI.out, HB.out, KeepS.refl _ _⟩
 ·have hb : (s.e == 0) = false := beq_eq_false_iff_ne.2 he
  have HF := Lib.hid (show eWrong b s = s by unfold eWrong; rw [if_neg (fun h => he h.1)])
  clear he
  go_enter Tryz.func111, Tryz.ntmps111
  go_wp2_with fail
  go_end0
  exact ⟨rfl, by rw [HF.out]; exact HI.out, HB.out, KeepS.refl _ _⟩
end Go.Proofs.YtgiefblcckikeaaGreat.M
end

section
/- The eye's lists: numbers and keys (printed by geneye04.py). -/
set_option maxRecDepth 100000
attribute [local irreducible] Go.wpStill
namespace Go.Proofs.YtgiefblcckikeaaGreat.M
open Go.RowKit Go.Proofs.YtgiefblcckikeaaGreatW.PrintWords Go.Proofs.YtgiefblcckikeaaGreatW.PrintLast Go.Proofs.YtgiefblcckikeaaGreatW.PrintMore Go.Proofs.YtgiefblcckikeaaGreat.G
theorem IsEye.at {w0 W W' : World} {x : Nat} {s : EyeS} (h : IsEye w0 W x s) (e : W'.heap[x]? = W.heap[x]?) : IsEye w0 W' x s := by
 obtain ⟨A, c, h1, h2⟩ := h
 exact ⟨A, c, e.trans h1, h2⟩
theorem S_keep' {α : Type} {d : Kd α} {el base : Nat} {w w' : World} {v : Value} {l : List α} {x : Nat} (hx : x < base) (h : Kd.S d el w base (fun _ => True) v l) (hk : KeepS (fun i => i = x) w w') : Kd.S d el w' base (fun _ => True) v l :=
 Kd.S_mono (Kd.S_step (Kd.S_bound h) (fun k hk2 hlt => hk.block k hlt (fun e => by have := hk2.2.1; omega))) (fun _ _ => trivial)
theorem R_keep' {α : Type} {d : Kd α} {el base : Nat} {w w' : World} {v : Value} {l : List α} {x : Nat} (hx : x < base) (h : Kd.R d el w base (fun _ => True) v l) (hk : KeepS (fun i => i = x) w w') : Kd.R d el w' base (fun _ => True) v l :=
 Kd.R_mono (Kd.R_step (Kd.R_bound h) (fun k hk2 hlt => hk.block k hlt (fun e => by have := hk2.2.1; omega))) (fun _ _ => trivial)
def eMany {α : Type} (g : EyeS → α × EyeS) : Nat → EyeS → List α × EyeS
 | 0, s => ([], s)
 | n + 1, s => if s.e = 0 then ((g s).1 :: (eMany g n (g s).2).1, (eMany g n (g s).2).2) else ([], s)
theorem eMany_stop {α : Type} {g : EyeS → α × EyeS} {n : Nat} {s : EyeS} (h : ¬ s.e = 0) : eMany g n s = ([], s) := by
 cases n with
 | zero => rfl
 | succ n => simp only [eMany, if_neg h]
def eCount (s : EyeS) : EyeS := eWrong (decide ((eNum s).1 < 0) || decide (4096 < (eNum s).1)) (eNum s).2
def eList {α : Type} (g : EyeS → α × EyeS) (s : EyeS) : List α × EyeS := eMany g (eNum s).1.toNat (eCount s)
def LiP {α : Type} (d : Kd α) (el : Nat) (w0 w : World) (x : Nat) (l : List α) (s' : EyeS) (e : Ending) (w' : World) : Prop := ∃ v : Value, e = .returned v ∧ Kd.S d el w' w.heap.size (fun _ => True) v l ∧ IsEye w0 w' x s' ∧ Below w0.heap.size w0 w' ∧ KeepS (fun i => i = x) w w'
theorem okS_many {α : Type} {g : EyeS → α × EyeS} (hg : ∀ s, okS s → okS (g s).2) (n : Nat) : ∀ s, okS s → okS (eMany g n s).2 := by
 induction n with
 | zero => exact fun s h => h
 | succ n ih =>
  intro s h
  simp only [eMany]
  split
  ·exact ih _ (hg s h)
  ·exact h
theorem okS_list {α : Type} {g : EyeS → α × EyeS} (hg : ∀ s, okS s → okS (g s).2) {s : EyeS} (h : okS s) : okS (eList g s).2 := okS_many hg _ _ (okS_wrong _ (okS_num h))
def eKey (s : EyeS) : KeyD × EyeS := (⟨(eSmall s).1, (eNum (eSmall s).2).1⟩, (eNum (eSmall s).2).2)
theorem okS_key {s : EyeS} (h : okS s) : okS (eKey s).2 := okS_num (okS_small h)
theorem eSmall_i32 (s : EyeS) : wrap32 (eSmall s).1 = (eSmall s).1 := by
 unfold eSmall
 split
 ·next h => rw [IntKind.wrap_i32] at h; unfold wrap32; exact h
 ·show wrap32 0 = 0; unfold wrap32; omega
set_option maxHeartbeats 1000000 in
theorem eKey_is {w0 w : World} {x : Nat} {s : EyeS} (hI : IsEye w0 w x s) (hB : Below w0.heap.size w0 w) (hok : okS s) :
  Calls Tryz.prog 156 #[.pointer (some ⟨x, 0, none⟩)] w fun e w' => EyP w0 w x (.agg #[.int .i32 (eKey s).1.f0, .int .i64 (eKey s).1.f1]) (eKey s).2 e w' := by
 have hbx := heap_alloc_new w (.cells #[.int .i32 0, .int .i64 0] 101)
 have hb1 := (Below.refl _ w).alloc (Nat.le_refl _) (.cells #[.int .i32 0, .int .i64 0] 101)
 have HLT := Lib.hid (show x < w.heap.size from hI.lt); have HGEW := Lib.hid (show w0.heap.size ≤ w.heap.size from hB.size)
 have HN := Lib.hid (eSmall_is (hI.below hb1) (hB.alloc hB.size _) hok)
 have HK1 := Lib.hid (KeepS.of_below (fun i => i = x) hb1)
 have HOK := Lib.hid (okS_small hok)
 have h32 := eSmall_i32 s
 have HK := Lib.hid (show eKey s = (⟨(eSmall s).1, (eNum (eSmall s).2).1⟩, (eNum (eSmall s).2).2) from rfl)
 obtain ⟨n, hn⟩ : ∃ n, (eSmall s).1 = n := ⟨_, rfl⟩
 obtain ⟨s2, hs2⟩ : ∃ s2, (eSmall s).2 = s2 := ⟨_, rfl⟩
 rw [hn, hs2] at HN HK
 rw [hs2] at HOK
 rw [hn] at h32
 have HBX := Lib.hid hbx
 have HZ := Lib.hid (show w.heap.size < (w.alloc (.cells #[.int .i32 0, .int .i64 0] 101)).heap.size by simp)
 clear hn hs2 hI hB hok hbx hb1
 go_enter Tryz.func156, Tryz.ntmps156
 go_wp2_with fail
 refine HN.out.mono ?_
 rintro e w1 ⟨rfl, h1, h2, h3⟩
 have HN2 := Lib.hid (eNum_is h1 h2 HOK.out)
 have HZ2 := Lib.hid (Nat.lt_of_lt_of_le HZ.out h3.size)
 have HB1 := Lib.hid ((h3.block w.heap.size HZ.out (by have := HLT.out; omega)).trans HBX.out)
 have HK2 := Lib.hid (HK1.out.trans h3)
 obtain ⟨m, hm⟩ : ∃ m, (eNum s2).1 = m := ⟨_, rfl⟩
 obtain ⟨s3, hs3⟩ : ∃ s3, (eNum s2).2 = s3 := ⟨_, rfl⟩
 rw [hm, hs3] at HN2 HK
 clear h1 h2 h3 hm hs3
 go_wp2_with fail
 refine HN2.out.mono ?_
 rintro e w2 ⟨rfl, h1, h2, h3⟩
 have H1 := Lib.hid h1; have H2 := Lib.hid h2
 have HB2 := Lib.hid ((h3.block w.heap.size HZ2.out (by have := HLT.out; omega)).trans HB1.out)
 have HK3 := Lib.hid (HK2.out.trans h3)
 have d0 : w2.cell? ⟨w.heap.size, 0, none⟩ = some (.int .i32 0) := by simp [World.cell?, HB2.out]
 have d1 : w2.cell? ⟨w.heap.size, 1, none⟩ = some (.int .i64 0) := by simp [World.cell?, HB2.out]
 have z0 : w2.frozen? ⟨w.heap.size, 0, none⟩ = false := by simp [World.frozen?, HB2.out]
 have z1 : w2.frozen? ⟨w.heap.size, 1, none⟩ = false := by simp [World.frozen?, HB2.out]
 clear h1 h2 h3
 go_wp2_with fail
 refine bodyPost_ret (results_cell_row rfl _ _ w.heap.size 101 #[.int .i32 n, .int .i64 m] (0, 0) _ rfl ?_ Tryz.underlying101 rfl (by kernel_rfl)) rfl ?_
 ·refine blk_put (cs := #[.int .i32 n, .int .i64 0]) ?_ 1 _ rfl
  exact blk_put (cs := #[.int .i32 0, .int .i64 0]) HB2.out 0 _ rfl
 ·rw [HK.out]
  have e1 : x ≠ w.heap.size := by have := HLT.out; omega
  exact ⟨rfl, H1.out.at ((Below.heap_setCell _ ⟨w.heap.size, 1, none⟩ _ x e1).trans (Below.heap_setCell _ ⟨w.heap.size, 0, none⟩ _ x e1)), (H2.out.setCell (by exact HGEW.out) _).setCell (by exact HGEW.out) _, (HK3.out.set (p := ⟨w.heap.size, 0, none⟩) (.inr (Nat.le_refl _)) _).set (p := ⟨w.heap.size, 1, none⟩) (.inr (Nat.le_refl _)) _⟩
def LiI_nums (g : EyeS → Int × EyeS) (n : Int) (s0 : EyeS) (w0 w : World) (x : Nat) (v i : Value) (W : World) : Prop := ∃ (U : List Int) (s : EyeS), i = .int .i64 (U.length : Int) ∧ U.length ≤ 4096 ∧ U.length ≤ n.toNat ∧ (s.e = 0 → n ≤ 4096) ∧ Kd.S (Kd.int .i64) 2 W w.heap.size (fun _ => True) v U ∧ IsEye w0 W x s ∧ Below w0.heap.size w0 W ∧ KeepS (fun i => i = x) w W ∧ okS s ∧ eList g s0 = (U ++ (eMany g (n.toNat - U.length) s).1, (eMany g (n.toNat - U.length) s).2)
set_option maxHeartbeats 2000000 in
theorem eList_nums {w0 w : World} {x : Nat} {s : EyeS} (hI : IsEye w0 w x s) (hB : Below w0.heap.size w0 w) (hok : okS s) :
  Calls Tryz.prog 154 #[.pointer (some ⟨x, 0, none⟩), .func (.func 110) #[.pointer (some ⟨x, 0, none⟩)] #[]] w fun e w' => LiP (Kd.int .i64) 2 w0 w x (eList eNum s).1 (eList eNum s).2 e w' := by
 have HN := Lib.hid (eNum_is hI hB hok)
 have HOK := Lib.hid (okS_num hok)
 have HLT := Lib.hid hI.lt
 have HGEW := Lib.hid (show w0.heap.size ≤ w.heap.size from hB.size)
 obtain ⟨n, hn⟩ : ∃ n, (eNum s).1 = n := ⟨_, rfl⟩
 obtain ⟨s1, hs1⟩ : ∃ s1, (eNum s).2 = s1 := ⟨_, rfl⟩
 have HCT := Lib.hid (show eCount s = eWrong (decide (n < 0) || decide (4096 < n)) s1 by unfold eCount; rw [hn, hs1])
 have Hint64 := Lib.hid (show eList eNum s = eMany eNum n.toNat (eCount s) by unfold eList; rw [hn])
 rw [hn, hs1] at HN
 rw [hs1] at HOK
 clear hI hB hok hn hs1
 go_enter Tryz.func154, Tryz.ntmps154
 go_wp2_with fail
 refine HN.out.mono ?_
 rintro e w1 ⟨rfl, h1, h2, h3⟩
 have H1 := Lib.hid h1; have H2 := Lib.hid h2; have H3 := Lib.hid h3
 clear h1 h2 h3 HN
 go_upto_region 2 with fail
 go_cut [] (fun wx => IsEye w0 wx x (eCount s) ∧ Below w0.heap.size w0 wx ∧ KeepS (fun i => i = x) w wx)
 case first =>
  by_cases ha : n < 0
  ·have hq : decide (n < 0) = true := decide_eq_true ha
   have HW := Lib.hid (eWrong_is H1.out H2.out true)
   have HC2 := Lib.hid (show eCount s = eWrong true s1 by rw [HCT.out, hq, Bool.true_or])
   clear ha
   go_wp2_with fail
   refine HW.out.mono ?_
   rintro e w2 ⟨rfl, h1, h2, h3⟩
   have G1 := Lib.hid h1; have G2 := Lib.hid h2; have G3 := Lib.hid (H3.out.trans h3)
   clear h1 h2 h3
   go_wp2_with fail
   go_meet
   exact ⟨by rw [HC2.out]; exact G1.out, G2.out, G3.out⟩
  ·have hq : decide (n < 0) = false := decide_eq_false ha
   obtain ⟨b, hb⟩ : ∃ b, decide ((4096 : Int) < n) = b := ⟨_, rfl⟩
   have HW := Lib.hid (eWrong_is H1.out H2.out b)
   have HC2 := Lib.hid (show eCount s = eWrong b s1 by rw [HCT.out, hq, hb, Bool.false_or])
   clear ha
   go_wp2_with fail
   refine HW.out.mono ?_
   rintro e w2 ⟨rfl, h1, h2, h3⟩
   have G1 := Lib.hid h1; have G2 := Lib.hid h2; have G3 := Lib.hid (H3.out.trans h3)
   clear h1 h2 h3
   go_wp2_with fail
   go_meet
   exact ⟨by rw [HC2.out]; exact G1.out, G2.out, G3.out⟩
 case rest =>
  obtain ⟨h1, h2, h3⟩ := hcut
  have G1 := Lib.hid h1; have G2 := Lib.hid h2; have G3 := Lib.hid h3
  have HE0 := Lib.hid (show (eCount s).e = 0 → n ≤ 4096 by
   intro h
   rw [HCT.out] at h
   by_cases h5 : (4096 : Int) < n
   ·rw [decide_eq_true h5, Bool.or_true] at h
    unfold eWrong at h
    split at h
    ·cases h
    ·next h6 => exact absurd ⟨h, rfl⟩ h6
   ·omega)
  have HOC := Lib.hid (show okS (eCount s) by rw [HCT.out]; exact okS_wrong _ HOK.out)
  clear h1 h2 h3
  go_wp2_with fail
  go_loopw [6, 7] (fun v i wr => LiI_nums eNum n s w0 w x v i wr) (fun _ i _ => n.toNat - (intOf i).toNat)
  case atStart => exact ⟨[], eCount s, rfl, by simp, by simp, HE0.out, Kd.S_nil _ _ _ _ _, G1.out, G2.out, G3.out, HOC.out, by simpa using Hint64.out⟩
  case round =>
   obtain ⟨U, s2, rfl, hU, hUn, hE, hS, hI, hB, hK, hO, hF⟩ := hrel
   have HI := Lib.hid hI; have HB := Lib.hid hB; have HK := Lib.hid hK; have HO := Lib.hid hO; have HF := Lib.hid hF; have HS := Lib.hid hS; have HUN := Lib.hid hUn; have HE := Lib.hid hE
   obtain ⟨Av, cv, rfl⟩ := Kd.S_slice hS
   obtain ⟨A, c, g1, g2, g3, g4⟩ := hI
   have c1 : wr.cell? ⟨x, 1, none⟩ = some (.int .i64 s2.e) := by simp [World.cell?, g1]
   clear hB hK hO hF hS hUn hE g1 g2 g3 g4
   by_cases hlt : (U.length : Int) < n
   ·by_cases he : s2.e = 0
    ·have hq1 : decide ((U.length : Int) < n) = true := decide_eq_true hlt
     have hq2 : (s2.e == 0) = true := by rw [he]; rfl
     have HN4 := Lib.hid (HE.out he)
     have HG := Lib.hid (eNum_is HI.out HB.out HO.out)
     have HGO := Lib.hid (okS_num HO.out)
     obtain ⟨y, hy⟩ : ∃ y, (eNum s2).1 = y := ⟨_, rfl⟩
     obtain ⟨s3, hs3⟩ : ∃ s3, (eNum s2).2 = s3 := ⟨_, rfl⟩
     have HF2 := Lib.hid (show eList eNum s = ((U ++ [y]) ++ (eMany eNum (n.toNat - (U ++ [y]).length) s3).1, (eMany eNum (n.toNat - (U ++ [y]).length) s3).2) by
      rw [HF.out]
      have e1 : n.toNat - U.length = (n.toNat - (U ++ [y]).length) + 1 := by simp; omega
      rw [e1]
      simp only [eMany, he, if_true, hy, hs3, List.append_assoc, List.singleton_append])
     have HLT2 := Lib.hid hlt
     rw [hy, hs3] at HG
     rw [hs3] at HGO
     clear hlt he hy hs3
     go_wp2_with fail
     refine HG.out.mono ?_
     rintro e w3 ⟨rfl, h1, h2, h3⟩
     have HS3 := Lib.hid (show Kd.S (Kd.int .i64) 2 w3 w.heap.size (fun _ => True) (.slice Av U.length cv) U from S_keep' HLT.out HS.out h3)
     have HZ3 := Lib.hid (Nat.le_trans HK.out.size h3.size)
     have K1 := Lib.hid h1; have K2 := Lib.hid h2; have K3 := Lib.hid (HK.out.trans h3)
     clear h1 h2 h3
     go_wp2_with ((with_reducible refine gate_builtin (b := .append) (xs := #[.tmp 30, .tmp 33]) rfl ?_); at_builtin; refine Kd.S_append (Kd.int .i64) (w0 := w3) w.heap.size rfl (.tmp 30) (.tmp 33) 24 2 (.int .i64 0) 8 rfl Tryz.underlying24 infoI64 rfl (by decide) (by omega) _ U y [.int .i64 y] (fun _ => True) (fun _ => False) rfl rfl rfl (fun _ hk => hk.elim) (fun _ _ => trivial) (Kd.S_mono HS3.out (fun _ h => ⟨h, fun q => q⟩)) (Below.refl _ _) HZ3.out (by omega) ?_; intro v1 w5 ho hb5 hg5 hat; obtain ⟨A5, c5, rfl⟩ := Kd.S_slice ho; have HS5 := Lib.hid ho; have HK5 := Lib.hid (K3.out.then_base hb5); have HI5 := Lib.hid (K1.out.at (hb5.block x HLT.out)); have HB5 := Lib.hid (K2.out.trans (hb5.mono HGEW.out)); clear ho hb5 hg5 hat)
     go_roundw
     case rel =>
      refine ⟨U ++ [y], s3, by rw [List.length_append]; go_num, ?_, ?_, fun _ => HN4.out, (by have h9 := HS5.out; rw [List.length_append] at h9; exact h9), HI5.out, HB5.out, HK5.out, HGO.out, HF2.out⟩
      ·have h1 := HN4.out; have h2 := HLT2.out
       rw [List.length_append, List.length_singleton]
       omega
      ·have h2 := HLT2.out
       rw [List.length_append, List.length_singleton]
       omega
     case measure => simp [intOf]; have h2 := HLT2.out; omega
    ·have hq1 : decide ((U.length : Int) < n) = true := decide_eq_true hlt
     have hq2 : (s2.e == 0) = false := beq_eq_false_iff_ne.2 he
     have HF2 := Lib.hid (show eList eNum s = (U, s2) by rw [HF.out, eMany_stop he, List.append_nil])
     clear hlt he
     go_wp2_with fail
     go_ret
     exact ⟨_, rfl, by rw [HF2.out]; exact HS.out, by rw [HF2.out]; exact HI.out, HB.out, HK.out⟩
   ·have hq1 : decide ((U.length : Int) < n) = false := decide_eq_false hlt
    have HF2 := Lib.hid (show eList eNum s = (U, s2) by
     have e1 : n.toNat - U.length = 0 := by omega
     rw [HF.out, e1]
     simp only [eMany, List.append_nil])
    clear hlt
    go_wp2_with fail
    go_ret
    exact ⟨_, rfl, by rw [HF2.out]; exact HS.out, by rw [HF2.out]; exact HI.out, HB.out, HK.out⟩
def LiI_keys (g : EyeS → KeyD × EyeS) (n : Int) (s0 : EyeS) (w0 w : World) (x : Nat) (v i : Value) (W : World) : Prop := ∃ (U : List KeyD) (s : EyeS), i = .int .i64 (U.length : Int) ∧ U.length ≤ 4096 ∧ U.length ≤ n.toNat ∧ (s.e = 0 → n ≤ 4096) ∧ Kd.S G.k101 101 W w.heap.size (fun _ => True) v U ∧ IsEye w0 W x s ∧ Below w0.heap.size w0 W ∧ KeepS (fun i => i = x) w W ∧ okS s ∧ eList g s0 = (U ++ (eMany g (n.toNat - U.length) s).1, (eMany g (n.toNat - U.length) s).2)
set_option maxHeartbeats 2000000 in
theorem eList_keys {w0 w : World} {x : Nat} {s : EyeS} (hI : IsEye w0 w x s) (hB : Below w0.heap.size w0 w) (hok : okS s) :
  Calls Tryz.prog 155 #[.pointer (some ⟨x, 0, none⟩), .func (.func 156) #[.pointer (some ⟨x, 0, none⟩)] #[]] w fun e w' => LiP G.k101 101 w0 w x (eList eKey s).1 (eList eKey s).2 e w' := by
 have HN := Lib.hid (eNum_is hI hB hok)
 have HOK := Lib.hid (okS_num hok)
 have HLT := Lib.hid hI.lt
 have HGEW := Lib.hid (show w0.heap.size ≤ w.heap.size from hB.size)
 obtain ⟨n, hn⟩ : ∃ n, (eNum s).1 = n := ⟨_, rfl⟩
 obtain ⟨s1, hs1⟩ : ∃ s1, (eNum s).2 = s1 := ⟨_, rfl⟩
 have HCT := Lib.hid (show eCount s = eWrong (decide (n < 0) || decide (4096 < n)) s1 by unfold eCount; rw [hn, hs1])
 have Hapi.Key := Lib.hid (show eList eKey s = eMany eKey n.toNat (eCount s) by unfold eList; rw [hn])
 rw [hn, hs1] at HN
 rw [hs1] at HOK
 clear hI hB hok hn hs1
 go_enter Tryz.func155, Tryz.ntmps155
 go_wp2_with fail
 refine HN.out.mono ?_
 rintro e w1 ⟨rfl, h1, h2, h3⟩
 have H1 := Lib.hid h1; have H2 := Lib.hid h2; have H3 := Lib.hid h3
 clear h1 h2 h3 HN
 go_upto_region 2 with fail
 go_cut [] (fun wx => IsEye w0 wx x (eCount s) ∧ Below w0.heap.size w0 wx ∧ KeepS (fun i => i = x) w wx)
 case first =>
  by_cases ha : n < 0
  ·have hq : decide (n < 0) = true := decide_eq_true ha
   have HW := Lib.hid (eWrong_is H1.out H2.out true)
   have HC2 := Lib.hid (show eCount s = eWrong true s1 by rw [HCT.out, hq, Bool.true_or])
   clear ha
   go_wp2_with fail
   refine HW.out.mono ?_
   rintro e w2 ⟨rfl, h1, h2, h3⟩
   have G1 := Lib.hid h1; have G2 := Lib.hid h2; have G3 := Lib.hid (H3.out.trans h3)
   clear h1 h2 h3
   go_wp2_with fail
   go_meet
   exact ⟨by rw [HC2.out]; exact G1.out, G2.out, G3.out⟩
  ·have hq : decide (n < 0) = false := decide_eq_false ha
   obtain ⟨b, hb⟩ : ∃ b, decide ((4096 : Int) < n) = b := ⟨_, rfl⟩
   have HW := Lib.hid (eWrong_is H1.out H2.out b)
   have HC2 := Lib.hid (show eCount s = eWrong b s1 by rw [HCT.out, hq, hb, Bool.false_or])
   clear ha
   go_wp2_with fail
   refine HW.out.mono ?_
   rintro e w2 ⟨rfl, h1, h2, h3⟩
   have G1 := Lib.hid h1; have G2 := Lib.hid h2; have G3 := Lib.hid (H3.out.trans h3)
   clear h1 h2 h3
   go_wp2_with fail
   go_meet
   exact ⟨by rw [HC2.out]; exact G1.out, G2.out, G3.out⟩
 case rest =>
  obtain ⟨h1, h2, h3⟩ := hcut
  have G1 := Lib.hid h1; have G2 := Lib.hid h2; have G3 := Lib.hid h3
  have HE0 := Lib.hid (show (eCount s).e = 0 → n ≤ 4096 by
   intro h
   rw [HCT.out] at h
   by_cases h5 : (4096 : Int) < n
   ·rw [decide_eq_true h5, Bool.or_true] at h
    unfold eWrong at h
    split at h
    ·cases h
    ·next h6 => exact absurd ⟨h, rfl⟩ h6
   ·omega)
  have HOC := Lib.hid (show okS (eCount s) by rw [HCT.out]; exact okS_wrong _ HOK.out)
  clear h1 h2 h3
  go_wp2_with fail
  go_loopw [6, 7] (fun v i wr => LiI_keys eKey n s w0 w x v i wr) (fun _ i _ => n.toNat - (intOf i).toNat)
  case atStart => exact ⟨[], eCount s, rfl, by simp, by simp, HE0.out, Kd.S_nil _ _ _ _ _, G1.out, G2.out, G3.out, HOC.out, by simpa using Hapi.Key.out⟩
  case round =>
   obtain ⟨U, s2, rfl, hU, hUn, hE, hS, hI, hB, hK, hO, hF⟩ := hrel
   have HI := Lib.hid hI; have HB := Lib.hid hB; have HK := Lib.hid hK; have HO := Lib.hid hO; have HF := Lib.hid hF; have HS := Lib.hid hS; have HUN := Lib.hid hUn; have HE := Lib.hid hE
   obtain ⟨Av, cv, rfl⟩ := Kd.S_slice hS
   obtain ⟨A, c, g1, g2, g3, g4⟩ := hI
   have c1 : wr.cell? ⟨x, 1, none⟩ = some (.int .i64 s2.e) := by simp [World.cell?, g1]
   clear hB hK hO hF hS hUn hE g1 g2 g3 g4
   by_cases hlt : (U.length : Int) < n
   ·by_cases he : s2.e = 0
    ·have hq1 : decide ((U.length : Int) < n) = true := decide_eq_true hlt
     have hq2 : (s2.e == 0) = true := by rw [he]; rfl
     have HN4 := Lib.hid (HE.out he)
     have HG := Lib.hid (eKey_is HI.out HB.out HO.out)
     have HGO := Lib.hid (okS_key HO.out)
     obtain ⟨y, hy⟩ : ∃ y, (eKey s2).1 = y := ⟨_, rfl⟩
     obtain ⟨s3, hs3⟩ : ∃ s3, (eKey s2).2 = s3 := ⟨_, rfl⟩
     have HF2 := Lib.hid (show eList eKey s = ((U ++ [y]) ++ (eMany eKey (n.toNat - (U ++ [y]).length) s3).1, (eMany eKey (n.toNat - (U ++ [y]).length) s3).2) by
      rw [HF.out]
      have e1 : n.toNat - U.length = (n.toNat - (U ++ [y]).length) + 1 := by simp; omega
      rw [e1]
      simp only [eMany, he, if_true, hy, hs3, List.append_assoc, List.singleton_append])
     have HLT2 := Lib.hid hlt
     rw [hy, hs3] at HG
     rw [hs3] at HGO
     clear hlt he hy hs3
     go_wp2_with fail
     refine HG.out.mono ?_
     rintro e w3 ⟨rfl, h1, h2, h3⟩
     have HS3 := Lib.hid (show Kd.S G.k101 101 w3 w.heap.size (fun _ => True) (.slice Av U.length cv) U from S_keep' HLT.out HS.out h3)
     have HZ3 := Lib.hid (Nat.le_trans HK.out.size h3.size)
     have K1 := Lib.hid h1; have K2 := Lib.hid h2; have K3 := Lib.hid (HK.out.trans h3)
     clear h1 h2 h3
     go_wp2_with ((with_reducible refine gate_builtin (b := .append) (xs := #[.tmp 30, .tmp 33]) rfl ?_); at_builtin; refine Kd.S_append G.k101 (w0 := w3) w.heap.size rfl (.tmp 30) (.tmp 33) 22 101 (.agg #[.int .i32 0, .int .i64 0]) 16 rfl Tryz.underlying22 infoKey rfl (by decide) (by omega) _ U y [.int .i32 y.f0, .int .i64 y.f1] (fun _ => True) (fun _ => False) rfl rfl (G.k101_mkM _ _ _ _) (fun _ hk => hk.elim) (fun _ _ => trivial) (Kd.S_mono HS3.out (fun _ h => ⟨h, fun q => q⟩)) (Below.refl _ _) HZ3.out (by omega) ?_; intro v1 w5 ho hb5 hg5 hat; obtain ⟨A5, c5, rfl⟩ := Kd.S_slice ho; have HS5 := Lib.hid ho; have HK5 := Lib.hid (K3.out.then_base hb5); have HI5 := Lib.hid (K1.out.at (hb5.block x HLT.out)); have HB5 := Lib.hid (K2.out.trans (hb5.mono HGEW.out)); clear ho hb5 hg5 hat)
     go_roundw
     case rel =>
      refine ⟨U ++ [y], s3, by rw [List.length_append]; go_num, ?_, ?_, fun _ => HN4.out, (by have h9 := HS5.out; rw [List.length_append] at h9; exact h9), HI5.out, HB5.out, HK5.out, HGO.out, HF2.out⟩
      ·have h1 := HN4.out; have h2 := HLT2.out
       rw [List.length_append, List.length_singleton]
       omega
      ·have h2 := HLT2.out
       rw [List.length_append, List.length_singleton]
       omega
     case measure => simp [intOf]; have h2 := HLT2.out; omega
    ·have hq1 : decide ((U.length : Int) < n) = true := decide_eq_true hlt
     have hq2 : (s2.e == 0) = false := beq_eq_false_iff_ne.2 he
     have HF2 := Lib.hid (show eList eKey s = (U, s2) by rw [HF.out, eMany_stop he, List.append_nil])
     clear hlt he
     go_wp2_with fail
     go_ret
     exact ⟨_, rfl, by rw [HF2.out]; exact HS.out, by rw [HF2.out]; exact HI.out, HB.out, HK.out⟩
   ·have hq1 : decide ((U.length : Int) < n) = false := decide_eq_false hlt
    have HF2 := Lib.hid (show eList eKey s = (U, s2) by
     have e1 : n.toNat - U.length = 0 := by omega
     rw [HF.out, e1]
     simp only [eMany, List.append_nil])
    clear hlt
    go_wp2_with fail
    go_ret
    exact ⟨_, rfl, by rw [HF2.out]; exact HS.out, by rw [HF2.out]; exact HI.out, HB.out, HK.out⟩
end Go.Proofs.YtgiefblcckikeaaGreat.M
end

section
/- The eye: a transaction. -/
set_option maxRecDepth 100000
attribute [local irreducible] Go.wpStill
namespace Go.Proofs.YtgiefblcckikeaaGreat.M
open Go.RowKit Go.Proofs.YtgiefblcckikeaaGreatW.PrintWords Go.Proofs.YtgiefblcckikeaaGreatW.PrintLast Go.Proofs.YtgiefblcckikeaaGreatW.PrintMore Go.Proofs.YtgiefblcckikeaaGreat.G
def eTxn (s : EyeS) : TxD × EyeS :=
 (⟨(eNum s).1, (eNum (eNum s).2).1, (eData (eNum (eNum s).2).2).1, (eList eNum (eData (eNum (eNum s).2).2).2).1, (eList eKey (eList eNum (eData (eNum (eNum s).2).2).2).2).1, (eList eKey (eList eKey (eList eNum (eData (eNum (eNum s).2).2).2).2).2).1⟩,
  (eList eKey (eList eKey (eList eNum (eData (eNum (eNum s).2).2).2).2).2).2)
theorem okS_txn {s : EyeS} (h : okS s) : okS (eTxn s).2 := okS_list (fun _ => okS_key) (okS_list (fun _ => okS_key) (okS_list (fun _ => okS_num) (okS_data (okS_num (okS_num h)))))
def TxP (w0 w : World) (x : Nat) (y : TxD) (s' : EyeS) (e : Ending) (w' : World) : Prop := ∃ v2 v3 v4 v5 : Value, e = .returned (.agg #[.int .i64 y.f0, .int .i64 y.f1, v2, v3, v4, v5]) ∧ Kd.R (Kd.int .u8) 5 w' w.heap.size (fun _ => True) v2 y.f2 ∧ Kd.R (Kd.int .i64) 2 w' w.heap.size (fun _ => True) v3 y.f3 ∧ Kd.R G.k101 101 w' w.heap.size (fun k => some k ≠ v5.ownBlock) v4 y.f4 ∧ Kd.R G.k101 101 w' w.heap.size (fun k => some k ≠ v4.ownBlock) v5 y.f5 ∧ IsEye w0 w' x s' ∧ Below w0.heap.size w0 w' ∧ KeepS (fun i => i = x) w w'
theorem R_keepO {α : Type} {d : Kd α} {el base : Nat} {w w' : World} {v : Value} {l : List α} {ok S : Nat → Prop} (ho : ∀ i, ok i → ¬ S i) (h : Kd.R d el w base ok v l) (hk : KeepS S w w') : Kd.R d el w' base ok v l :=
 Kd.R_step h (fun k hk2 hlt => hk.block k hlt (ho k hk2))
abbrev zTxn : Obj := .cells #[.int .i64 0, .int .i64 0, .slice none 0 0, .slice none 0 0, .slice none 0 0, .slice none 0 0] 26
set_option maxHeartbeats 4000000 in
theorem eTxn_is {w0 w : World} {x : Nat} {s : EyeS} (hI : IsEye w0 w x s) (hB : Below w0.heap.size w0 w) (hok : okS s) :
  Calls Tryz.prog 114 #[.pointer (some ⟨x, 0, none⟩)] w fun e w' => TxP w0 w x (eTxn s).1 (eTxn s).2 e w' := by
 have hbx := heap_alloc_new w zTxn
 have hb1 := (Below.refl _ w).alloc (Nat.le_refl _) zTxn
 have HLT := Lib.hid (show x < w.heap.size from hI.lt); have HGEW := Lib.hid (show w0.heap.size ≤ w.heap.size from hB.size)
 have HN := Lib.hid (eNum_is (hI.below hb1) (hB.alloc hB.size _) hok)
 have HK1 := Lib.hid (KeepS.of_below (fun i => i = x) hb1)
 obtain ⟨r, HF0⟩ : ∃ r, eTxn s = r := ⟨_, rfl⟩
 have HF := HF0
 unfold eTxn at HF
 obtain ⟨a, ha⟩ : ∃ a, (eNum s).1 = a := ⟨_, rfl⟩
 obtain ⟨s1, hs1⟩ : ∃ s1, (eNum s).2 = s1 := ⟨_, rfl⟩
 have ho1 := okS_num hok
 rw [ha, hs1] at HN HF
 rw [hs1] at ho1
 obtain ⟨b, hb⟩ : ∃ b, (eNum s1).1 = b := ⟨_, rfl⟩
 obtain ⟨s2, hs2⟩ : ∃ s2, (eNum s1).2 = s2 := ⟨_, rfl⟩
 have ho2 := okS_num ho1
 rw [hb, hs2] at HF
 rw [hs2] at ho2
 obtain ⟨l2, hl2⟩ : ∃ l2, (eData s2).1 = l2 := ⟨_, rfl⟩
 obtain ⟨s3, hs3⟩ : ∃ s3, (eData s2).2 = s3 := ⟨_, rfl⟩
 have ho3 := okS_data ho2
 rw [hl2, hs3] at HF
 rw [hs3] at ho3
 obtain ⟨l3, hl3⟩ : ∃ l3, (eList eNum s3).1 = l3 := ⟨_, rfl⟩
 obtain ⟨s4, hs4⟩ : ∃ s4, (eList eNum s3).2 = s4 := ⟨_, rfl⟩
 have ho4 := okS_list (g := eNum) (fun _ => okS_num) ho3
 rw [hl3, hs4] at HF
 rw [hs4] at ho4
 obtain ⟨l4, hl4⟩ : ∃ l4, (eList eKey s4).1 = l4 := ⟨_, rfl⟩
 obtain ⟨s5, hs5⟩ : ∃ s5, (eList eKey s4).2 = s5 := ⟨_, rfl⟩
 have ho5 := okS_list (g := eKey) (fun _ => okS_key) ho4
 rw [hl4, hs5] at HF
 rw [hs5] at ho5
 obtain ⟨l5, hl5⟩ : ∃ l5, (eList eKey s5).1 = l5 := ⟨_, rfl⟩
 obtain ⟨s6, hs6⟩ : ∃ s6, (eList eKey s5).2 = s6 := ⟨_, rfl⟩
 rw [hl5, hs6] at HF
 have HF := Lib.hid (HF0.trans HF.symm)
 have HO1 := Lib.hid ho1; have HO2 := Lib.hid ho2; have HO3 := Lib.hid ho3; have HO4 := Lib.hid ho4; have HO5 := Lib.hid ho5
 have HE2 := Lib.hid (And.intro hb hs2); have HE3 := Lib.hid (And.intro hl2 hs3); have HE4 := Lib.hid (And.intro hl3 hs4); have HE5 := Lib.hid (And.intro hl4 hs5); have HE6 := Lib.hid (And.intro hl5 hs6)
 have HBX := Lib.hid hbx
 have HZ := Lib.hid (show w.heap.size < (w.alloc zTxn).heap.size by simp)
 clear ha hs1 hb hs2 hl2 hs3 hl3 hs4 hl4 hs5 hl5 hs6 ho1 ho2 ho3 ho4 ho5 hI hB hok hbx hb1
 go_enter Tryz.func114, Tryz.ntmps114
 go_wp2_with fail
 refine HN.out.mono ?_
 rintro e w1 ⟨rfl, h1, h2, h3⟩
 have h4 := eNum_is h1 h2 HO1.out
 rw [HE2.out.1, HE2.out.2] at h4
 have HN2 := Lib.hid h4
 have HZ1 := Lib.hid (Nat.lt_of_lt_of_le HZ.out h3.size)
 have HB1 := Lib.hid ((h3.block w.heap.size HZ.out (by have := HLT.out; omega)).trans HBX.out)
 have HK2 := Lib.hid (HK1.out.trans h3)
 clear h1 h2 h3 h4
 go_wp2_with fail
 refine HN2.out.mono ?_
 rintro e w2 ⟨rfl, h1, h2, h3⟩
 have h4 := eData_is h1 h2 HO2.out
 rw [HE3.out.1, HE3.out.2] at h4
 have HN3 := Lib.hid h4
 have HZ2 := Lib.hid (Nat.lt_of_lt_of_le HZ1.out h3.size)
 have HB2 := Lib.hid ((h3.block w.heap.size HZ1.out (by have := HLT.out; omega)).trans HB1.out)
 have HK3 := Lib.hid (HK2.out.trans h3)
 clear h1 h2 h3 h4
 go_wp2_with fail
 refine HN3.out.mono ?_
 rintro e w3 ⟨v2, rfl, hv, h1, h2, h3⟩
 obtain ⟨A2, c2, rfl⟩ := Kd.R_slice hv
 have HV2 := Lib.hid (show Kd.R (Kd.int .u8) 5 w3 w.heap.size (fun k => k ≠ x ∧ k ≠ w.heap.size ∧ k ≠ w3.heap.size) _ l2 from Kd.R_mono (Kd.R_lower (Kd.R_bound hv) (Nat.le_of_lt HZ2.out)) (fun k hk => by
  have h7 := hk.2.1; have h8 := hk.2.2.1; have := HZ2.out; exact ⟨hk.1, by omega, by omega⟩))
 have HZ3 := Lib.hid (Nat.lt_of_lt_of_le HZ2.out h3.size)
 have HB3 := Lib.hid ((h3.block w.heap.size HZ2.out (by have := HLT.out; omega)).trans HB2.out)
 have HK4 := Lib.hid (HK3.out.trans h3)
 have H1 := Lib.hid h1; have H2 := Lib.hid h2
 clear h1 h2 h3 hv
 go_wp2_with fail
 have hby := heap_alloc_new w3 (.cells #[.int .i64 a, .int .i64 b, .slice A2 l2.length c2, .slice none 0 0, .slice none 0 0, .slice none 0 0] 26)
 have hay := (Below.refl _ w3).alloc (Nat.le_refl _) (.cells #[.int .i64 a, .int .i64 b, .slice A2 l2.length c2, .slice none 0 0, .slice none 0 0, .slice none 0 0] 26)
 have hzy : (w3.alloc (.cells #[.int .i64 a, .int .i64 b, .slice A2 l2.length c2, .slice none 0 0, .slice none 0 0, .slice none 0 0] 26)).heap.size = w3.heap.size + 1 := by simp
 have HVA := Lib.hid (Kd.R_alloc HV2.out (.cells #[.int .i64 a, .int .i64 b, .slice A2 l2.length c2, .slice none 0 0, .slice none 0 0, .slice none 0 0] 26))
 obtain ⟨w4, hw4⟩ : ∃ w4, w3.alloc (.cells #[.int .i64 a, .int .i64 b, .slice A2 l2.length c2, .slice none 0 0, .slice none 0 0, .slice none 0 0] 26) = w4 := ⟨_, rfl⟩
 rw [hw4] at hby hay hzy HVA ⊢
 obtain ⟨g, hg⟩ : ∃ g, w3.heap.size = g := ⟨_, rfl⟩
 have HI4 := Lib.hid (H1.out.below hay)
 have HD4 := Lib.hid (H2.out.trans (hay.mono H2.out.size))
 have HG4 := Lib.hid ((hay.block w.heap.size HZ3.out).trans HB3.out)
 have HQ4 := Lib.hid (HK4.out.then_below hay)
 rw [hg] at hby hzy HVA HZ3 ⊢
 have HY4 := Lib.hid hby
 have HGZ := Lib.hid (show w.heap.size < g ∧ x < w.heap.size from ⟨HZ3.out, HLT.out⟩)
 have HZZ4 := Lib.hid (show g < w4.heap.size by omega)
 clear hw4 hg hby hay hzy H1 H2 HB3 HK4 HV2
 have HV2 := HVA
 clear HVA
 have h4 := eList_nums HI4.out HD4.out HO3.out
 rw [HE4.out.1, HE4.out.2] at h4
 have HNN3 := Lib.hid h4
 clear h4
 refine HNN3.out.mono ?_
 rintro e w5 ⟨v3, rfl, hv, h1, h2, h3⟩
 have hvr := Kd.S_R hv
 obtain ⟨A3, c3, rfl⟩ := Kd.R_slice hvr
 have HV3 := Lib.hid (show Kd.R (Kd.int .i64) 2 w5 w.heap.size (fun k => k ≠ x ∧ k ≠ w.heap.size ∧ k ≠ g) _ l3 from Kd.R_mono (Kd.R_lower (Kd.R_bound hvr) HQ4.out.size) (fun k hk => by
  have h7 := hk.2.1; have h9 := HGZ.out; have h8 := HZZ4.out; refine ⟨?_, ?_, ?_⟩ <;> omega))
 have HW2 := Lib.hid (R_keepO (S := fun i => i = x) (fun i hi => hi.1) HV2.out h3)
 clear HV2
 have HV2 := HW2
 clear HW2
 have HG5 := Lib.hid ((h3.block w.heap.size (by have := HGZ.out; have := HZZ4.out; omega) (by have := HGZ.out; omega)).trans HG4.out)
 have HY5 := Lib.hid ((h3.block g HZZ4.out (by have := HGZ.out; omega)).trans HY4.out)
 have HQ5 := Lib.hid (HQ4.out.trans h3)
 have HZZ5 := Lib.hid (Nat.lt_of_lt_of_le HZZ4.out h3.size)
 have HI5 := Lib.hid h1
 have HD5 := Lib.hid h2
 have d3 : w5.cell? ⟨g, 3, none⟩ = some (.slice none 0 0) := by simp [World.cell?, HY5.out]
 have z3 : w5.frozen? ⟨g, 3, none⟩ = false := by simp [World.frozen?, HY5.out]
 clear hv hvr h1 h2 h3 HNN3
 go_wp2_with fail
 have HY6 := Lib.hid (blk_put (cs := #[.int .i64 a, .int .i64 b, .slice A2 l2.length c2, .slice none 0 0, .slice none 0 0, .slice none 0 0]) HY5.out 3 (.slice A3 l3.length c3) rfl)
 have HG6 := Lib.hid ((Below.heap_setCell w5 ⟨g, 3, none⟩ (.slice A3 l3.length c3) w.heap.size (by have := HGZ.out; simp; omega)).trans HG5.out)
 have HI6 := Lib.hid (HI5.out.at (Below.heap_setCell w5 ⟨g, 3, none⟩ (.slice A3 l3.length c3) x (by have := HGZ.out; simp; omega)))
 have HD6 := Lib.hid (HD5.out.setCell (p := ⟨g, 3, none⟩) (by have := HGZ.out; have := HGEW.out; simp; omega) (.slice A3 l3.length c3))
 have HQ6 := Lib.hid (HQ5.out.set (p := ⟨g, 3, none⟩) (.inr (by have := HGZ.out; simp; omega)) (.slice A3 l3.length c3))
 have HZZ6 := Lib.hid (show g < (w5.setCell ⟨g, 3, none⟩ (.slice A3 l3.length c3)).heap.size by rw [World.size_setCell]; exact HZZ5.out)
 have HW2 := Lib.hid (Kd.R_far (p := ⟨g, 3, none⟩) HV2.out (fun k hk => hk.2.2) (.slice A3 l3.length c3))
 have HW3 := Lib.hid (Kd.R_far (p := ⟨g, 3, none⟩) HV3.out (fun k hk => hk.2.2) (.slice A3 l3.length c3))
 obtain ⟨w6, hw6⟩ : ∃ w6, w5.setCell ⟨g, 3, none⟩ (.slice A3 l3.length c3) = w6 := ⟨_, rfl⟩
 rw [hw6] at HY6 HG6 HI6 HD6 HQ6 HZZ6 HW2 HW3 ⊢
 clear hw6 HY5 HG5 HI5 HD5 HQ5 HZZ5 HV2 HV3 d3 z3
 have HV2 := HW2
 clear HW2
 have HV3 := HW3
 clear HW3
 have h4 := eList_keys HI6.out HD6.out HO4.out
 rw [HE5.out.1, HE5.out.2] at h4
 have HNN4 := Lib.hid h4
 clear h4
 refine HNN4.out.mono ?_
 rintro e w7 ⟨v4, rfl, hv, h1, h2, h3⟩
 have hvr := Kd.S_R hv
 obtain ⟨A4, c4, rfl⟩ := Kd.R_slice hvr
 have HV4 := Lib.hid (show Kd.R G.k101 101 w7 w.heap.size (fun k => k ≠ x ∧ k ≠ w.heap.size ∧ k ≠ g) _ l4 from Kd.R_mono (Kd.R_lower (Kd.R_bound hvr) HQ6.out.size) (fun k hk => by
  have h7 := hk.2.1; have h9 := HGZ.out; have h8 := HZZ6.out; refine ⟨?_, ?_, ?_⟩ <;> omega))
 have HW2 := Lib.hid (R_keepO (S := fun i => i = x) (fun i hi => hi.1) HV2.out h3)
 clear HV2
 have HV2 := HW2
 clear HW2
 have HW3 := Lib.hid (R_keepO (S := fun i => i = x) (fun i hi => hi.1) HV3.out h3)
 clear HV3
 have HV3 := HW3
 clear HW3
 have HG7 := Lib.hid ((h3.block w.heap.size (by have := HGZ.out; have := HZZ6.out; omega) (by have := HGZ.out; omega)).trans HG6.out)
 have HY7 := Lib.hid ((h3.block g HZZ6.out (by have := HGZ.out; omega)).trans HY6.out)
 have HQ7 := Lib.hid (HQ6.out.trans h3)
 have HZZ7 := Lib.hid (Nat.lt_of_lt_of_le HZZ6.out h3.size)
 have HI7 := Lib.hid h1
 have HD7 := Lib.hid h2
 have d4 : w7.cell? ⟨g, 4, none⟩ = some (.slice none 0 0) := by simp [World.cell?, HY7.out]
 have z4 : w7.frozen? ⟨g, 4, none⟩ = false := by simp [World.frozen?, HY7.out]
 clear hv hvr h1 h2 h3 HNN4
 go_wp2_with fail
 have HY8 := Lib.hid (blk_put (cs := #[.int .i64 a, .int .i64 b, .slice A2 l2.length c2, .slice A3 l3.length c3, .slice none 0 0, .slice none 0 0]) HY7.out 4 (.slice A4 l4.length c4) rfl)
 have HG8 := Lib.hid ((Below.heap_setCell w7 ⟨g, 4, none⟩ (.slice A4 l4.length c4) w.heap.size (by have := HGZ.out; simp; omega)).trans HG7.out)
 have HI8 := Lib.hid (HI7.out.at (Below.heap_setCell w7 ⟨g, 4, none⟩ (.slice A4 l4.length c4) x (by have := HGZ.out; simp; omega)))
 have HD8 := Lib.hid (HD7.out.setCell (p := ⟨g, 4, none⟩) (by have := HGZ.out; have := HGEW.out; simp; omega) (.slice A4 l4.length c4))
 have HQ8 := Lib.hid (HQ7.out.set (p := ⟨g, 4, none⟩) (.inr (by have := HGZ.out; simp; omega)) (.slice A4 l4.length c4))
 have HZZ8 := Lib.hid (show g < (w7.setCell ⟨g, 4, none⟩ (.slice A4 l4.length c4)).heap.size by rw [World.size_setCell]; exact HZZ7.out)
 have HW2 := Lib.hid (Kd.R_far (p := ⟨g, 4, none⟩) HV2.out (fun k hk => hk.2.2) (.slice A4 l4.length c4))
 have HW3 := Lib.hid (Kd.R_far (p := ⟨g, 4, none⟩) HV3.out (fun k hk => hk.2.2) (.slice A4 l4.length c4))
 have HW4 := Lib.hid (Kd.R_far (p := ⟨g, 4, none⟩) HV4.out (fun k hk => hk.2.2) (.slice A4 l4.length c4))
 obtain ⟨w8, hw8⟩ : ∃ w8, w7.setCell ⟨g, 4, none⟩ (.slice A4 l4.length c4) = w8 := ⟨_, rfl⟩
 rw [hw8] at HY8 HG8 HI8 HD8 HQ8 HZZ8 HW2 HW3 HW4 ⊢
 clear hw8 HY7 HG7 HI7 HD7 HQ7 HZZ7 HV2 HV3 HV4 d4 z4
 have HV2 := HW2
 clear HW2
 have HV3 := HW3
 clear HW3
 have HV4 := HW4
 clear HW4
 have h4 := eList_keys HI8.out HD8.out HO5.out
 rw [HE6.out.1, HE6.out.2] at h4
 have HNN5 := Lib.hid h4
 clear h4
 refine HNN5.out.mono ?_
 rintro e w9 ⟨v5, rfl, hv, h1, h2, h3⟩
 have hvr := Kd.S_R hv
 obtain ⟨A5, c5, rfl⟩ := Kd.R_slice hvr
 have HV5 := Lib.hid (show Kd.R G.k101 101 w9 w.heap.size (fun k => k ≠ x ∧ k ≠ w.heap.size ∧ k ≠ g ∧ w8.heap.size ≤ k) _ l5 from Kd.R_mono (Kd.R_lower (Kd.R_bound hvr) HQ8.out.size) (fun k hk => by
  have h7 := hk.2.1; have h9 := HGZ.out; have h8 := HZZ8.out; refine ⟨?_, ?_, ?_, ?_⟩ <;> omega))
 have HW2 := Lib.hid (R_keepO (S := fun i => i = x) (fun i hi => hi.1) HV2.out h3)
 clear HV2
 have HV2 := HW2
 clear HW2
 have HW3 := Lib.hid (R_keepO (S := fun i => i = x) (fun i hi => hi.1) HV3.out h3)
 clear HV3
 have HV3 := HW3
 clear HW3
 have HW4 := Lib.hid (R_keepO (S := fun i => i = x) (fun i hi => hi.1.1) (show Kd.R G.k101 101 w8 w.heap.size (fun k => (k ≠ x ∧ k ≠ w.heap.size ∧ k ≠ g) ∧ k < w8.heap.size) _ l4 from Kd.R_mono (Kd.R_bound HV4.out) (fun k hk => ⟨hk.1, hk.2.2.1⟩)) h3)
 clear HV4
 have HV4 := HW4
 clear HW4
 have HG9 := Lib.hid ((h3.block w.heap.size (by have := HGZ.out; have := HZZ8.out; omega) (by have := HGZ.out; omega)).trans HG8.out)
 have HY9 := Lib.hid ((h3.block g HZZ8.out (by have := HGZ.out; omega)).trans HY8.out)
 have HQ9 := Lib.hid (HQ8.out.trans h3)
 have HZZ9 := Lib.hid (Nat.lt_of_lt_of_le HZZ8.out h3.size)
 have HI9 := Lib.hid h1
 have HD9 := Lib.hid h2
 have d5 : w9.cell? ⟨g, 5, none⟩ = some (.slice none 0 0) := by simp [World.cell?, HY9.out]
 have z5 : w9.frozen? ⟨g, 5, none⟩ = false := by simp [World.frozen?, HY9.out]
 clear hv hvr h1 h2 h3 HNN5
 have d0 : w9.cell? ⟨g, 0, none⟩ = some (.int .i64 a) := by simp [World.cell?, HY9.out]
 have d1 : w9.cell? ⟨g, 1, none⟩ = some (.int .i64 b) := by simp [World.cell?, HY9.out]
 have d2 : w9.cell? ⟨g, 2, none⟩ = some (.slice A2 l2.length c2) := by simp [World.cell?, HY9.out]
 have d3 : w9.cell? ⟨g, 3, none⟩ = some (.slice A3 l3.length c3) := by simp [World.cell?, HY9.out]
 have d4 : w9.cell? ⟨g, 4, none⟩ = some (.slice A4 l4.length c4) := by simp [World.cell?, HY9.out]
 have e0 : w9.cell? ⟨w.heap.size, 0, none⟩ = some (.int .i64 0) := by simp [World.cell?, HG9.out]
 have y0 : w9.frozen? ⟨w.heap.size, 0, none⟩ = false := by simp [World.frozen?, HG9.out]
 have e1 : w9.cell? ⟨w.heap.size, 1, none⟩ = some (.int .i64 0) := by simp [World.cell?, HG9.out]
 have y1 : w9.frozen? ⟨w.heap.size, 1, none⟩ = false := by simp [World.frozen?, HG9.out]
 have e2 : w9.cell? ⟨w.heap.size, 2, none⟩ = some (.slice none 0 0) := by simp [World.cell?, HG9.out]
 have y2 : w9.frozen? ⟨w.heap.size, 2, none⟩ = false := by simp [World.frozen?, HG9.out]
 have e3 : w9.cell? ⟨w.heap.size, 3, none⟩ = some (.slice none 0 0) := by simp [World.cell?, HG9.out]
 have y3 : w9.frozen? ⟨w.heap.size, 3, none⟩ = false := by simp [World.frozen?, HG9.out]
 have e4 : w9.cell? ⟨w.heap.size, 4, none⟩ = some (.slice none 0 0) := by simp [World.cell?, HG9.out]
 have y4 : w9.frozen? ⟨w.heap.size, 4, none⟩ = false := by simp [World.frozen?, HG9.out]
 have e5 : w9.cell? ⟨w.heap.size, 5, none⟩ = some (.slice none 0 0) := by simp [World.cell?, HG9.out]
 have y5 : w9.frozen? ⟨w.heap.size, 5, none⟩ = false := by simp [World.frozen?, HG9.out]
 have HGN : w.heap.size ≠ g := by have := HGZ.out; omega
 go_wp2_with fail
 have HEB := Lib.hid (blk_put (cs := #[.int .i64 a, .int .i64 b, .slice A2 l2.length c2, .slice A3 l3.length c3, .slice A4 l4.length c4, .slice none 0 0]) (blk_put (cs := #[.int .i64 a, .int .i64 b, .slice A2 l2.length c2, .slice A3 l3.length c3, .slice none 0 0, .slice none 0 0]) (blk_put (cs := #[.int .i64 a, .int .i64 b, .slice A2 l2.length c2, .slice none 0 0, .slice none 0 0, .slice none 0 0]) (blk_put (cs := #[.int .i64 a, .int .i64 b, .slice none 0 0, .slice none 0 0, .slice none 0 0, .slice none 0 0]) (blk_put (cs := #[.int .i64 a, .int .i64 0, .slice none 0 0, .slice none 0 0, .slice none 0 0, .slice none 0 0]) (blk_put (cs := #[.int .i64 0, .int .i64 0, .slice none 0 0, .slice none 0 0, .slice none 0 0, .slice none 0 0]) ((Below.heap_setCell w9 ⟨g, 5, none⟩ (.slice A5 l5.length c5) w.heap.size HGN).trans HG9.out) 0 (.int .i64 a) rfl) 1 (.int .i64 b) rfl) 2 (.slice A2 l2.length c2) rfl) 3 (.slice A3 l3.length c3) rfl) 4 (.slice A4 l4.length c4) rfl) 5 (.slice A5 l5.length c5) rfl)
 have HKS := Lib.hid ((((((((KeepS.refl (fun i => i = g ∨ i = w.heap.size) w9).set (p := ⟨g, 5, none⟩) (.inl (.inl rfl)) (.slice A5 l5.length c5)).set (p := ⟨w.heap.size, 0, none⟩) (.inl (.inr rfl)) (.int .i64 a)).set (p := ⟨w.heap.size, 1, none⟩) (.inl (.inr rfl)) (.int .i64 b)).set (p := ⟨w.heap.size, 2, none⟩) (.inl (.inr rfl)) (.slice A2 l2.length c2)).set (p := ⟨w.heap.size, 3, none⟩) (.inl (.inr rfl)) (.slice A3 l3.length c3)).set (p := ⟨w.heap.size, 4, none⟩) (.inl (.inr rfl)) (.slice A4 l4.length c4)).set (p := ⟨w.heap.size, 5, none⟩) (.inl (.inr rfl)) (.slice A5 l5.length c5))
 obtain ⟨W, hW⟩ : ∃ W, ((((((w9.setCell ⟨g, 5, none⟩ (.slice A5 l5.length c5)).setCell ⟨w.heap.size, 0, none⟩ (.int .i64 a)).setCell ⟨w.heap.size, 1, none⟩ (.int .i64 b)).setCell ⟨w.heap.size, 2, none⟩ (.slice A2 l2.length c2)).setCell ⟨w.heap.size, 3, none⟩ (.slice A3 l3.length c3)).setCell ⟨w.heap.size, 4, none⟩ (.slice A4 l4.length c4)).setCell ⟨w.heap.size, 5, none⟩ (.slice A5 l5.length c5) = W := ⟨_, rfl⟩
 rw [hW] at HEB HKS ⊢
 clear hW
 refine bodyPost_ret (results_cell_row rfl _ _ w.heap.size 26 #[.int .i64 a, .int .i64 b, .slice A2 l2.length c2, .slice A3 l3.length c3, .slice A4 l4.length c4, .slice A5 l5.length c5] (0, 0) _ rfl HEB.out Tryz.underlying26 rfl (by kernel_rfl)) rfl ?_
 rw [HF.out]
 have hq := HQ9.out.size
 have hgz := HGZ.out
 refine ⟨_, _, _, _, rfl, Kd.R_mono (R_keepO (fun i hi => ?_) HV2.out HKS.out) (fun _ _ => trivial), Kd.R_mono (R_keepO (fun i hi => ?_) HV3.out HKS.out) (fun _ _ => trivial), Kd.R_mono (R_keepO (fun i hi => ?_) HV4.out HKS.out) (fun k hk e => ?_), Kd.R_mono (R_keepO (fun i hi => ?_) HV5.out HKS.out) (fun k hk e => ?_), HI9.out.at (HKS.out.block x (by omega) ?_), HD9.out.trans (HKS.out.below (B := w0.heap.size) HD9.out.size ?_), HQ9.out.then_base (HKS.out.below (B := w.heap.size) hq ?_)⟩
 ·rintro (h | h); exact hi.2.2 h; exact hi.2.1 h
 ·rintro (h | h); exact hi.2.2 h; exact hi.2.1 h
 ·rintro (h | h); exact hi.1.2.2 h; exact hi.1.2.1 h
 ·have h5 := HV5.out.1 k e.symm
  have := hk.2
  have := h5.2.2.2
  omega
 ·rintro (h | h); exact hi.2.2.1 h; exact hi.2.1 h
 ·have h5 := HV4.out.1 k e.symm
  have := hk.2.2.2
  have := h5.2
  omega
 ·rintro (h | h) <;> omega
 ·have := HGEW.out
  rintro i (h | h) <;> omega
 ·rintro i (h | h) <;> omega
end Go.Proofs.YtgiefblcckikeaaGreat.M
end
