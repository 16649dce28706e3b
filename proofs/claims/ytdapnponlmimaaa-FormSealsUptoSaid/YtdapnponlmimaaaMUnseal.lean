/- Contracts of slices.Equal of bytes and of trivet/shape.Unseal. -/
import Derived.Test.YtdapnponlmimaaaGx0
import Derived.Test.YtdapnponlmimaaaGx3
import Derived.Test.YtdapnponlmimaaaMTakeBlob
import Derived.Test.YtdapnponlmimaaaMEight
import Derived.Deep.RegionHeld3
set_option linter.unusedVariables false
set_option linter.unusedSimpArgs false
namespace Go.Proofs.Ytdapnponlmimaaa.M
open Go.RowKit Go.Proofs.YtdapnponlmimaaaW.PrintWords Go.Proofs.YtdapnponlmimaaaW.PrintLast Go.Proofs.YtdapnponlmimaaaW.PrintMore Go.Proofs.Ytdapnponlmimaaa.G

set_option maxHeartbeats 1000000 in
theorem equal_calls (A : Option Addr) (c0 : Nat) (l0 : List Int) (B : Option Addr) (c1 : Nat) (l1 : List Int) (w : World) (hr0 : Kd.C (Kd.int .u8) w A l0.length l0) (hr1 : Kd.C (Kd.int .u8) w B l1.length l1) :
    Calls Try.prog 45 #[.slice A l0.length c0, .slice B l1.length c1] w fun e w' => e = .returned (.bool (decide (l0 = l1))) ∧ Drawn0 w w' := by
  have HR0 := Aside0.mk hr0
  have HR1 := Aside0.mk hr1
  have hm0 : (l0.length : Int) ≤ 9223372036854775807 := by have := Kd.C_max hr0; omega
  clear hr0 hr1
  by_cases hl : l0.length = l1.length
  · have hl1 : ((l0.length : Int) != (l1.length : Int)) = false := by rw [bne_eq_false_iff_eq]; omega
    have HL := Aside0.mk hl
    clear hl
    go_enter Try.func45, Try.ntmps45
    go_wp2
    go_loopw [5, 13] (fun _ i wr => ∃ j : Nat, j ≤ l0.length ∧ i = .int .i64 (j : Int) ∧ Aside0 (l0.take j = l1.take j) ∧ Aside0 (Drawn0 w wr)) (fun _ i _ => l0.length - (intOf i).toNat)
    case atStart => exact ⟨0, Nat.zero_le _, rfl, ⟨rfl⟩, ⟨Drawn0.refl _⟩⟩
    case round =>
      obtain ⟨j, hj, rfl, HE, HD⟩ := hrel
      by_cases hlt : j < l0.length
      · have hlt0 : (j : Int) < (l0.length : Int) := by omega
        have hlt1 : (j : Int) < (l1.length : Int) := by have := HL.out; omega
        have hj0 : (0 : Int) ≤ (j : Int) := by omega
        obtain ⟨ad0, hA, hx0⟩ := Kd.at_int (Kd.C_below HR0.out HD.out.below) (j : Int) hj0 hlt0
        obtain ⟨ad1, hB, hx1⟩ := Kd.at_int (Kd.C_below HR1.out HD.out.below) (j : Int) hj0 hlt1
        subst hA hB
        rw [Int.toNat_natCast] at hx0 hx1
        have HT0 := Aside0.mk (take_snoc_int l0 j hlt)
        have HT1 := Aside0.mk (take_snoc_int l1 j (by omega))
        by_cases he : rd l0 j = rd l1 j
        · have he1 : (rd l0 j != rd l1 j) = false := bne_eq_false_iff_eq.2 he
          have HEE := Aside0.mk he
          clear he
          go_wp2
          go_quiet (fail)
          go_wp2
          go_roundw
          case rel => exact ⟨j + 1, by omega, by go_num, ⟨by rw [HT0.out, HT1.out, HE.out, HEE.out]⟩, ⟨HD.out.step _⟩⟩
          case measure => simp [intOf]; omega
        · have he1 : (rd l0 j != rd l1 j) = true := bne_iff_ne.2 he
          have HF := Aside0.mk (show decide (l0 = l1) = false from decide_eq_false (fun e => he (by rw [e])))
          clear he
          go_wp2
          go_quiet (fail)
          go_wp2
          go_ret
          exact ⟨by rw [HF.out]; rfl, HD.out.step _⟩
      · obtain rfl : j = l0.length := by omega
        have HF := Aside0.mk (show decide (l0 = l1) = true from decide_eq_true (by
          have := HE.out
          rw [List.take_length] at this
          rw [this, HL.out, List.take_length]))
        clear hlt
        go_wp2
        go_ret
        exact ⟨by rw [HF.out]; rfl, HD.out⟩
  · have hl1 : ((l0.length : Int) != (l1.length : Int)) = true := by rw [bne_iff_ne]; omega
    have HF := Aside0.mk (show decide (l0 = l1) = false from decide_eq_false (fun e => hl (by rw [e])))
    clear hl
    go_enter Try.func45, Try.ntmps45
    go_wp2
    go_ret
    exact ⟨by rw [HF.out]; rfl, Drawn0.refl _⟩

/-! ### The check -/
def prime : Int := 1099511628211
def chkFrom (h : Int) (l : List Int) : Int := l.foldl (fun h c => IntKind.u64.wrap ((Go.bits .xor .u64 h (IntKind.u64.wrap c)) * 1099511628211)) h
def chk (l : List Int) : Int := chkFrom 14695981039346656037 l
theorem chkFrom_cons (h c : Int) (l : List Int) : chkFrom h (c :: l) = chkFrom (IntKind.u64.wrap ((Go.bits .xor .u64 h (IntKind.u64.wrap c)) * 1099511628211)) l := rfl
theorem chkFrom_append (h : Int) (l m : List Int) : chkFrom h (l ++ m) = chkFrom (chkFrom h l) m := List.foldl_append ..

theorem check_l1 (d : Nat) : ∀ (k : Nat) (h : Int) (L : List (List Int)) (n i : Int) (x : List Int) (j : Nat), x.length - j = d → j ≤ x.length → (x.length : Int) ≤ 140737488355328 → d < k →
    shape_Check.l1 k h L n i x (x.length : Int) (j : Int) = shape_Check.l0 (k - d - 1) (chkFrom h (x.drop j)) L n (wrap64 (i + 1)) := by
  induction d with
  | zero =>
    intro k h L n i x j hd hj hx hk
    obtain ⟨k, rfl⟩ : ∃ m, k = m + 1 := ⟨k - 1, by omega⟩
    simp only [shape_Check.l1]
    rw [if_neg (by omega), List.drop_eq_nil_of_le (by omega)]
    rfl
  | succ d ih =>
    intro k h L n i x j hd hj hx hk
    obtain ⟨k, rfl⟩ : ∃ m, k = m + 1 := ⟨k - 1, by omega⟩
    have hlt : j < x.length := by omega
    simp only [shape_Check.l1]
    rw [if_pos (by omega), if_pos (by omega), if_pos (by omega)]
    have hw : wrap64 ((j : Int) + 1) = ((j + 1 : Nat) : Int) := by unfold wrap64; omega
    rw [hw, ih k _ L n i x (j + 1) (by omega) (by omega) hx (by omega), List.drop_eq_getElem_cons hlt, chkFrom_cons]
    have hr : rd x (j : Int) = x[j] := by simp [rd, List.getD_eq_getElem?_getD, List.getElem?_eq_getElem hlt]
    rw [hr]
    congr 1
    omega
theorem check_l0 (L : List (List Int)) (hL : (L.length : Int) ≤ 140737488355328) (hx : ∀ x ∈ L, (x.length : Int) ≤ 140737488355328) (d : Nat) : ∀ (i : Nat) (h : Int), L.length - i = d → i ≤ L.length →
    ∃ K, ∀ k, K ≤ k → shape_Check.l0 k h L (L.length : Int) (i : Int) = some (chkFrom h (L.drop i).flatten) := by
  induction d with
  | zero =>
    intro i h hd hi
    refine ⟨1, fun k hk => ?_⟩
    obtain ⟨k, rfl⟩ : ∃ m, k = m + 1 := ⟨k - 1, by omega⟩
    simp only [shape_Check.l0]
    rw [if_neg (by omega), List.drop_eq_nil_of_le (by omega)]
    rfl
  | succ d ih =>
    intro i h hd hi
    have hlt : i < L.length := by omega
    have hr : rd_L1 L (i : Int) = L[i] := by simp [rd_L1, List.getD_eq_getElem?_getD, List.getElem?_eq_getElem hlt]
    obtain ⟨K, hK⟩ := ih (i + 1) (chkFrom h L[i]) (by omega) (by omega)
    refine ⟨K + L[i].length + 2, fun k hk => ?_⟩
    obtain ⟨k, rfl⟩ : ∃ m, k = m + 1 := ⟨k - 1, by omega⟩
    simp only [shape_Check.l0]
    rw [if_pos (by omega), if_pos (by omega), if_pos (by omega), hr]
    have h1 := check_l1 L[i].length k h L (L.length : Int) (i : Int) L[i] 0 (by omega) (by omega) (hx _ (List.getElem_mem hlt)) (by omega)
    rw [show ((0 : Nat) : Int) = 0 from rfl] at h1
    rw [h1]
    have hw : wrap64 ((i : Int) + 1) = ((i + 1 : Nat) : Int) := by unfold wrap64; omega
    rw [hw, List.drop_zero, hK _ (by omega), List.drop_eq_getElem_cons hlt, List.flatten_cons, chkFrom_append]
theorem check_f (L : List (List Int)) (hL : (L.length : Int) ≤ 140737488355328) (hx : ∀ x ∈ L, (x.length : Int) ≤ 140737488355328) : ∃ K, ∀ k, K ≤ k → shape_Check.f k L = some (chk L.flatten) := by
  obtain ⟨K, hK⟩ := check_l0 L hL hx L.length 0 14695981039346656037 (by omega) (by omega)
  exact ⟨K, fun k hk => by unfold shape_Check.f; exact hK k hk⟩
theorem chkFrom_range (h : Int) (l : List Int) (hh : 0 ≤ h ∧ h ≤ 18446744073709551615) : 0 ≤ chkFrom h l ∧ chkFrom h l ≤ 18446744073709551615 := by
  induction l generalizing h with
  | nil => exact hh
  | cons c l ih => rw [chkFrom_cons]; exact ih _ (by rw [IntKind.wrap_u64]; omega)
theorem chk_range (l : List Int) : 0 ≤ chk l ∧ chk l ≤ 18446744073709551615 := chkFrom_range _ l (by decide)

/-! ### Unseal -/
def sealB (l : List Int) : List Int := eightB (chk l).toNat
def tail8 (l : List Int) : List Int := (l.take (blHi l + 8).toNat).drop (blHi l).toNat
def unE (l : List Int) : Int := if ¬ blE l 1048576 8 = 0 then blE l 1048576 8 else if sealB (blD l) = tail8 l then 0 else 12
def takeSeal (l : List Int) : List Int × Int × Int := if unE l = 0 then (blD l, blHi l + 8, 0) else ([], 0, unE l)

/-- One row of bytes, as a row of rows. -/
theorem C_row1 {w : World} {A : Option Addr} {c : Nat} {l : List Int} (h : Kd.C (Kd.int .u8) w A l.length l) (hc : l.length ≤ c) (e : TypeId) :
    Kd.C (Kd.slice 5 (Kd.int .u8)) (w.alloc (.cells #[.slice A l.length c] e)) (some ⟨w.heap.size, 0, none⟩) 1 [l] := by
  refine ⟨rfl, by omega, fun _ => ⟨_, rfl, fun j p hj => ?_⟩⟩
  cases j with
  | zero =>
    simp at hj
    subst hj
    refine ⟨[.slice A l.length c], rfl, ⟨A, c, rfl, hc, Kd.C_alloc h _⟩, fun i u hu => ?_⟩
    cases i with
    | zero => simp at hu; subst hu; rw [add_plain]; simp
    | succ i => simp at hu
  | succ j => simp at hj

theorem tail8_length {l : List Int} (h : 0 ≤ blHi l) (h8 : blHi l + 8 ≤ (l.length : Int)) : (tail8 l).length = (blHi l + 8).toNat - (blHi l).toNat := by
  unfold tail8
  rw [List.length_drop, List.length_take]
  omega
theorem tail_form {A : Option Addr} {c : Nat} {l : List Int} {w : World} (hr : Kd.C (Kd.int .u8) w A l.length l) (hc : l.length ≤ c) (h : 0 ≤ blHi l) (h8 : blHi l + 8 ≤ (l.length : Int)) :
    ∃ At ct, Value.slice (if c = (blHi l).toNat then A else A.map (·.add ((blHi l).toNat * 1))) ((blHi l + 8).toNat - (blHi l).toNat) (c - (blHi l).toNat) = .slice At (tail8 l).length ct ∧ (tail8 l).length ≤ ct ∧ Kd.C (Kd.int .u8) w At (tail8 l).length (tail8 l) := by
  refine ⟨_, c - (blHi l).toNat, ?_, ?_, Kd.C_mid (c := c) hr (by omega : (blHi l).toNat ≤ (blHi l + 8).toNat) (by omega) hc⟩
  · rw [tail8_length h h8]
    rfl
  · rw [tail8_length h h8]; omega

set_option maxHeartbeats 2000000 in
theorem takeseal1 (A : Option Addr) (c : Nat) (l : List Int) (w : World) (hr : Kd.C (Kd.int .u8) w A l.length l) (hc : l.length ≤ c) (hb : okB l = true) (hlen : l.length < 140737488355328) (b : Nat) (hx : Boxes b A c l.length (.slice none 0 0) (.int .i64 0) w) (hbs : b + 3 ≤ w.heap.size) :
    Calls Try.prog 43 #[.pointer (some ⟨b, 0, none⟩), .pointer (some ⟨b + 1, 0, none⟩), .pointer (some ⟨b + 2, 0, none⟩)] w fun e W => Keep2 b w W ∧
      (∃ v, W.cell? ⟨b + 1, 0, none⟩ = some v ∧ W.cell? ⟨b + 2, 0, none⟩ = some (.int .i64 (takeSeal l).2.1) ∧ W.frozen? ⟨b + 1, 0, none⟩ = false ∧ W.frozen? ⟨b + 2, 0, none⟩ = false ∧ Own W w.heap.size v (takeSeal l).1) ∧
      ((e = .returned (.tuple #[]) ∧ unE l = 0) ∨ e = .panicked [{ v := wrongV (unE l), recovered := false }]) := by
  have hT := blob_any A c l 1048576 8 w hr hc hb (by decide) (by decide) hlen
  obtain ⟨hb0, hn0, hn1, hs0, hs1⟩ := hx
  by_cases he : blE l 1048576 8 = 0
  · obtain ⟨g1, g2, g3, g4, g5, g6⟩ := blE_good he
    obtain ⟨A', c', hV, hc', hr'⟩ := blobV_form hr hc ⟨g6, g5, by omega⟩
    have hl' : (blD l).length < 140737488355328 := by rw [blD_length ⟨g6, g5, by omega⟩]; omega
    have HT := Lib.hid (hT.mono (R' := fun e w' => w = w' ∧ e = .returned (.tuple #[.slice A' (blD l).length c', .int .i64 (blHi l)])) (by
      rintro e w' ⟨rfl, ⟨_, rfl⟩ | ⟨h, _⟩⟩
      · exact ⟨rfl, by rw [hV]⟩
      · exact absurd he h))
    have HR := Aside0.mk hr'
    have HRL := Aside0.mk hr
    have HU := Aside0.mk (show unE l = if sealB (blD l) = tail8 l then 0 else 12 by unfold unE; rw [if_neg (by omega)])
    obtain ⟨hi, HHI⟩ : ∃ hi, Aside0 (blHi l = hi) := ⟨_, ⟨rfl⟩⟩
    rw [HHI.out] at g4 g5 HT
    obtain ⟨K', hK⟩ := check_f [blD l] (by simp) (by simp; omega)
    have HK := Aside0.mk (hK K' (Nat.le_refl _))
    rw [show ([blD l] : List (List Int)).flatten = blD l by simp] at HK
    obtain ⟨i0, hi0, hz0, hz1, hz2⟩ := info_parts infoU8
    have hcut := cut_mid (P := Try.prog) 22 5 .i64 .i64 Try.underlying22 hi0 1 hz1 A l.length c hi (hi + 8) (by omega) (by omega) (by omega) hc
    obtain ⟨At, ct, hVt, hct, hrt⟩ := tail_form (A := A) (c := c) (l := l) (w := w) hr hc (by rw [HHI.out]; omega) (by rw [HHI.out]; omega)
    have HRT := Aside0.mk hrt
    rw [HHI.out] at hVt
    rw [hVt] at hcut
    have HEI := Aside0.mk (show shape_eight.f (chk (blD l)) = some (sealB (blD l)) by unfold shape_eight.f sealB; rw [if_pos (chk_range _)])
    have hbl : b < w.heap.size := by omega
    have hw8 : IntKind.i64.wrap (hi + 8) = hi + 8 := by rw [IntKind.wrap_i64]; omega
    clear he hV hr' g1 g2 g3 hr hT hK hi0 hz0 hz1 hz2 hVt hrt
    go_enter Try.func43, Try.ntmps43
    go_wp2_with (go_at_call 39; refine HT.out.mono ?_; rintro e w' ⟨rfl, rfl⟩)
    by_cases heq : sealB (blD l) = tail8 l
    · have HEQ := Aside0.mk (show decide (sealB (blD l) = tail8 l) = true from decide_eq_true heq)
      clear heq
      go_region_held3 (fun w' => w'.cell? ⟨b, 0, none⟩ = some (.slice A l.length c)) (go_keep) (first
        | (go_at_call 29; refine (shape_Check.calls K' _ 1 [blD l] _ _ (Kd.C_drew (C_row1 HR.out hc' _)) (Nat.le_refl 1) HK.out).mono ?_; rintro e w1 ⟨rfl, hd⟩; have q1 : w1.cell? ⟨b, 0, none⟩ = some (.slice A l.length c) := (hd.below.cell (by simp; omega)).trans (by simp [go_sem, hb0, hbl]); have HB1 := Aside0.mk (show Below w.heap.size w w1 from (((Below.refl _ _).alloc (Nat.le_refl _) _).drew.trans (hd.below.mono (by simp)))); clear hd)
        | (go_at_call 40; refine (shape_eight.calls (chk (blD l)) (sealB (blD l)) _ HEI.out).mono ?_; rintro e w2 ⟨v, rfl, ho, hb2⟩; obtain ⟨Av, cv, rfl, hcv, hrv⟩ := Kd.R_reads ho; have HRV := Aside0.mk hrv; have q2 : w2.cell? ⟨b, 0, none⟩ = some (.slice A l.length c) := (hb2.cell (by have := HB1.out.size; simp; omega)).trans q1; have HB2 := Aside0.mk (below_step HB1.out hb2); clear hb2 ho hrv)
        | (go_at_call 45; refine (equal_calls Av cv (sealB (blD l)) At ct (tail8 l) _ HRV.out (Kd.C_below HRT.out HB2.out)).mono ?_; rintro e w3 ⟨rfl, hd3⟩; rw [HEQ.out]; have q3 : w3.cell? ⟨b, 0, none⟩ = some (.slice A l.length c) := (hd3.below.cell (by have := HB2.out.size; simp; omega)).trans q2; have HB3 := Aside0.mk (below_step HB2.out hd3.below); clear hd3)
        | (go_at_call 44; refine (give_no _ _).mono ?_; rintro e w' ⟨rfl, rfl⟩))
      have HN := Aside0.mk (show takeSeal l = (blD l, hi + 8, 0) by
        unfold takeSeal; rw [HU.out, if_pos (of_decide_eq_true HEQ.out), if_pos rfl, HHI.out])
      have HZ := Aside0.mk (show unE l = 0 by rw [HU.out, if_pos (of_decide_eq_true HEQ.out)])
      have kn0 : w3.cell? ⟨b + 1, 0, none⟩ = some (.slice none 0 0) := (HB3.out.cell (by simp; omega)).trans hn0
      have ks0 : w3.cell? ⟨b + 2, 0, none⟩ = some (.int .i64 0) := (HB3.out.cell (by simp; omega)).trans hs0
      have kn1 : w3.frozen? ⟨b + 1, 0, none⟩ = false := (HB3.out.frozen (by simp; omega)).trans hn1
      have ks1 : w3.frozen? ⟨b + 2, 0, none⟩ = false := (HB3.out.frozen (by simp; omega)).trans hs1
      clear hn0 hs0 hn1 hs1 q1 q2 hw8 hcut
      go_wp2_with fail
      refine (clone_calls A' c' (blD l) _ (Kd.C_below HR.out HB3.out) hc' hl').mono ?_
      rintro e w4 ⟨v4, rfl, ho4, hb4⟩
      obtain ⟨A4, c4, rfl⟩ := Own.form ho4
      have HO4 := Aside0.mk ho4
      have HB4 := Aside0.mk (below_step HB3.out hb4)
      have hsz3 := HB3.out.size
      have k1 : w4.cell? ⟨b + 1, 0, none⟩ = some (.slice none 0 0) := (hb4.cell (by simp; omega)).trans kn0
      have k2 : w4.cell? ⟨b + 2, 0, none⟩ = some (.int .i64 0) := (hb4.cell (by simp; omega)).trans ks0
      have k3 : w4.frozen? ⟨b + 1, 0, none⟩ = false := (hb4.frozen (by simp; omega)).trans kn1
      have k4 : w4.frozen? ⟨b + 2, 0, none⟩ = false := (hb4.frozen (by simp; omega)).trans ks1
      have hw8 : IntKind.i64.wrap (hi + 8) = hi + 8 := by rw [IntKind.wrap_i64]; omega
      clear ho4 hb4 kn0 ks0 kn1 ks1 q3
      go_wp2
      go_end0
      rw [HN.out]
      refine ⟨((Keep2.of_below HB4.out).set1 _).set2 _, ⟨.slice A4 (blD l).length c4, ?_, ?_, ?_, ?_, ?_⟩, .inl ⟨rfl, HZ.out⟩⟩
      · rw [World.cell?_setCell_other _ _ _ _ (by simp)]; exact World.cell?_setCell_same' _ _ _ (by rw [k1]; rfl)
      · exact World.cell?_setCell_same' _ _ _ (by rw [World.cell?_setCell_other _ _ _ _ (by simp), k2]; rfl)
      · simp [k3]
      · simp [k4]
      · exact ((HO4.out.lower hsz3).set (p := ⟨b + 1, 0, none⟩) (by show b + 1 < _; omega) _).set (p := ⟨b + 2, 0, none⟩) (by show b + 2 < _; omega) _
    · have HEQ := Aside0.mk (show decide (sealB (blD l) = tail8 l) = false from decide_eq_false heq)
      have HN := Aside0.mk (show takeSeal l = ([], 0, 12) by unfold takeSeal; rw [HU.out, if_neg heq, if_neg (by decide)])
      have HZ := Aside0.mk (show unE l = 12 by rw [HU.out, if_neg heq])
      clear heq
      refine start_ (n := 12) (S := fun w' => w'.cell? ⟨b, 0, none⟩ = some (.slice A l.length c)) (ds := []) #[false, false, false, false, false, false, false, false, false, false, false, false] (by kernel_rfl) rfl rfl (by simpa using hb0) (fun hHeld => ?_)
      refine pure_ (i := 0) (N := some 10) (v := ?_) (a' := ?_) #[true, false, false, false, false, false, false, false, false, false, false, false] rfl rfl (by kernel_rfl) (fun _ _ _ h => h) (Or.inl ⟨by rfl, ?_⟩) ?_ ?_
      rotate_left
      · intro w'
        go_simp
        try with_reducible rfl
      rotate_left
      · simp only [Act.put, List.setIfInBounds_toArray, List.set_cons_zero, List.set_cons_succ, i64_w, i32_w]
        rfl
      refine pure_ (i := 5) (N := some 15) (v := ?_) (a' := ?_) #[true, false, false, false, false, true, false, false, false, false, false, false] rfl rfl (by kernel_rfl) (fun _ _ _ h => h) (Or.inl ⟨by rfl, ?_⟩) ?_ ?_
      rotate_left
      · intro w'
        go_simp
        try with_reducible rfl
      rotate_left
      · simp only [Act.put, List.setIfInBounds_toArray, List.set_cons_zero, List.set_cons_succ, i64_w, i32_w]
        rfl
      refine pure_ (i := 6) (N := some 16) (v := ?_) (a' := ?_) #[true, false, false, false, false, true, true, false, false, false, false, false] rfl rfl (by kernel_rfl) (fun _ _ _ h => h) (Or.inl ⟨by rfl, ?_⟩) ?_ ?_
      rotate_left
      · intro w'
        go_simp
        try with_reducible rfl
      rotate_left
      · simp only [Act.put, List.setIfInBounds_toArray, List.set_cons_zero, List.set_cons_succ, i64_w, i32_w]
        rfl
      refine pure_ (i := 7) (N := some 17) (v := ?_) (a' := ?_) #[true, false, false, false, false, true, true, true, false, false, false, false] rfl rfl (by kernel_rfl) (fun _ _ _ h => h) (Or.inl ⟨by rfl, ?_⟩) ?_ ?_
      rotate_left
      · intro w'
        go_simp
        try with_reducible rfl
      rotate_left
      · simp only [Act.put, List.setIfInBounds_toArray, List.set_cons_zero, List.set_cons_succ, i64_w, i32_w]
        rfl
      refine take_ (i := 4) (N := some 14) (v := ?_) (a' := ?_) #[true, false, false, false, true, true, true, true, false, false, false, false] rfl rfl (by kernel_rfl) (fun _ _ _ h => h) (Or.inl ⟨by rfl, ?_⟩) hHeld ?_ ?_
      rotate_left
      · intro w' hS
        go_simp
        try with_reducible rfl
      rotate_left
      · simp only [Act.put, List.setIfInBounds_toArray, List.set_cons_zero, List.set_cons_succ, i64_w, i32_w]
        rfl
      refine pure_ (i := 8) (N := some 18) (v := ?_) (a' := ?_) #[true, false, false, false, true, true, true, true, true, false, false, false] rfl rfl (by kernel_rfl) (fun _ _ _ h => h) (Or.inl ⟨by rfl, ?_⟩) ?_ ?_
      rotate_left
      · intro w'
        go_simp
        try with_reducible rfl
      rotate_left
      · simp only [Act.put, List.setIfInBounds_toArray, List.set_cons_zero, List.set_cons_succ, i64_w, i32_w]
        rfl
      refine one_ (i := 1) (N := some 11) #[true, true, false, false, true, true, true, true, true, false, false, false] rfl rfl (by kernel_rfl) (by decide) (fun K hK => ?_)
      go_simp
      refine hK.out _ _ (by simpa [go_sem, hbl] using hHeld) (fun hHeld => ?_)
      refine one_ (i := 2) (N := some 12) #[true, true, true, false, true, true, true, true, true, false, false, false] rfl rfl (by kernel_rfl) (by decide) (fun K hK => ?_)
      go_simp
      refine (shape_Check.calls K' _ 1 [blD l] _ _ (C_row1 (Kd.C_drew HR.out) hc' _) (Nat.le_refl 1) HK.out).mono ?_
      rintro e w1 ⟨rfl, hd⟩
      have HB1 := Aside0.mk (show Below w.heap.size w w1 from (((Below.refl _ _).drew.alloc (Nat.le_refl _) _).trans (hd.below.mono (by simp))))
      refine hK.out _ _ ((hd.below.cell (by simp; omega)).trans hHeld) (fun hHeld => ?_)
      refine one_ (i := 3) (N := some 13) #[true, true, true, true, true, true, true, true, true, false, false, false] rfl rfl (by kernel_rfl) (by decide) (fun K hK => ?_)
      go_simp
      refine (shape_eight.calls (chk (blD l)) (sealB (blD l)) _ HEI.out).mono ?_
      rintro e w2 ⟨v, rfl, ho, hb2⟩
      obtain ⟨Av, cv, rfl, hcv, hrv⟩ := Kd.R_reads ho
      have HRV := Aside0.mk hrv
      have HB2 := Aside0.mk (below_step HB1.out hb2)
      refine hK.out _ _ ((hb2.cell (by have := HB1.out.size; simp; omega)).trans hHeld) (fun hHeld => ?_)
      refine one_ (i := 9) (N := some 19) #[true, true, true, true, true, true, true, true, true, true, false, false] rfl rfl (by kernel_rfl) (by decide) (fun K hK => ?_)
      go_simp
      refine (equal_calls Av cv (sealB (blD l)) At ct (tail8 l) _ HRV.out (Kd.C_below HRT.out HB2.out)).mono ?_
      rintro e w3 ⟨rfl, hd3⟩
      rw [HEQ.out]
      have HB3 := Aside0.mk (below_step HB2.out hd3.below)
      refine hK.out _ _ ((hd3.below.cell (by have := HB2.out.size; simp; omega)).trans hHeld) (fun hHeld => ?_)
      refine pure_ (i := 10) (N := some 20) (v := ?_) (a' := ?_) #[true, true, true, true, true, true, true, true, true, true, true, false] rfl rfl (by kernel_rfl) (fun _ _ _ h => h) (Or.inl ⟨by rfl, ?_⟩) ?_ ?_
      rotate_left
      · intro w'
        go_simp
        try with_reducible rfl
      rotate_left
      · simp only [Act.put, List.setIfInBounds_toArray, List.set_cons_zero, List.set_cons_succ, i64_w, i32_w]
        rfl
      refine one_ (i := 11) (N := some 21) #[true, true, true, true, true, true, true, true, true, true, true, true] rfl rfl (by kernel_rfl) (by decide) (fun K hK => ?_)
      go_simp
      refine (give_yes _ _).mono ?_
      rintro e w' ⟨rfl, rfl⟩
      all_goals
        have kn0 : w3.cell? ⟨b + 1, 0, none⟩ = some (.slice none 0 0) := (HB3.out.cell (by simp; omega)).trans hn0
        have ks0 : w3.cell? ⟨b + 2, 0, none⟩ = some (.int .i64 0) := (HB3.out.cell (by simp; omega)).trans hs0
        have kn1 : w3.frozen? ⟨b + 1, 0, none⟩ = false := (HB3.out.frozen (by simp; omega)).trans hn1
        have ks1 : w3.frozen? ⟨b + 2, 0, none⟩ = false := (HB3.out.frozen (by simp; omega)).trans hs1
        dsimp only
        go_wp2
        rw [HN.out, HZ.out]
        exact ⟨rfl, Keep2.of_below HB3.out, ⟨_, kn0, ks0, kn1, ks1, Own.nil _ _⟩, .inr rfl⟩
  · have HN := Aside0.mk (show takeSeal l = ([], 0, blE l 1048576 8) by
      have hu : unE l = blE l 1048576 8 := by unfold unE; rw [if_pos he]
      unfold takeSeal; rw [hu, if_neg he])
    have HU := Aside0.mk (show unE l = blE l 1048576 8 by unfold unE; rw [if_pos he])
    have HT := Lib.hid (hT.mono (R' := fun e w' => w = w' ∧ e = .panicked [{ v := wrongV (blE l 1048576 8), recovered := false }]) (by
      rintro e w' ⟨rfl, ⟨h, _⟩ | ⟨_, rfl⟩⟩
      · exact absurd h he
      · exact ⟨rfl, rfl⟩))
    clear he hr hT
    obtain ⟨er, HER⟩ : ∃ er, Aside0 (blE l 1048576 8 = er) := ⟨_, ⟨rfl⟩⟩
    rw [HER.out] at HT HN HU
    rw [HU.out]
    go_enter Try.func43, Try.ntmps43
    go_wp2_with (go_at_call 39; refine HT.out.mono ?_; rintro e w' ⟨rfl, rfl⟩)
    rw [HN.out]
    exact ⟨rfl, Keep2.refl _ _, ⟨_, hn0, hs0, hn1, hs1, Own.nil _ _⟩, .inr rfl⟩
end Go.Proofs.Ytdapnponlmimaaa.M

namespace Go.Proofs.Ytdapnponlmimaaa.M
open Go.RowKit Go.Proofs.YtdapnponlmimaaaW.PrintWords
theorem takeSeal_calls (A : Option Addr) (c : Nat) (l : List Int) (w : World) (hr : Kd.C (Kd.int .u8) w A l.length l) (hc : l.length ≤ c) (hb : okB l = true) (hlen : l.length < 140737488355328) :
    Calls Try.prog 27 #[.slice A l.length c] w fun e w' => ∃ v0_ : Value, e = .returned (.tuple #[v0_, .int .i64 (takeSeal l).2.1, .int .i64 (takeSeal l).2.2]) ∧ Own w' w.heap.size v0_ (takeSeal l).1 ∧ Below w.heap.size w w' := by
  have HR := Aside0.mk hr
  have HC := Aside0.mk hc
  have HB := Aside0.mk hb
  have HL := Aside0.mk hlen
  clear hr hc hb hlen
  have hmf : ∀ (fn : Fn) (first cap : Array Value) (w : World), (Instr.makeFunc fn first cap).run Try.prog w = .ok (.func fn first cap) w := fun _ _ _ _ => rfl
  go_enter Try.func27, Try.ntmps27
  go_wp2_with fail
  have HX : Boxes w.heap.size A c l.length (.slice none 0 0) (.int .i64 0) ((((w.alloc (.cells #[.slice A l.length c] 22)).alloc (.cells #[.slice none 0 0] 22)).alloc (.cells #[.int .i64 0] 3)).alloc (.cells #[.int .i64 0] 24)) := by
    constructor <;> simp [go_sem]
  refine (try_calls 43 _ w.heap.size _ _ (unE l) (by simp) (enter_any _ _ _ Try.func43 rfl (by kernel_rfl))
    (takeseal1 A c l _ (Kd.C_alloc (Kd.C_alloc (Kd.C_alloc (Kd.C_alloc HR.out _) _) _) _) HC.out HB.out HL.out w.heap.size HX (by simp))).mono ?_
  rintro e w1 ⟨W, ⟨v, hn, hs, hnf, hsf, ho⟩, rfl, hk, hz, hbl, hg⟩
  simp only [World.size_alloc] at hz hbl hg ho
  obtain ⟨Av, cv, rfl⟩ := ho.form
  have hn1 : w1.cell? ⟨w.heap.size + 1, 0, none⟩ = some (.slice Av (takeSeal l).1.length cv) := (hbl.cell (by simp)).trans hn
  have hs1 : w1.cell? ⟨w.heap.size + 1 + 1, 0, none⟩ = some (.int .i64 (takeSeal l).2.1) := (hbl.cell (by simp)).trans hs
  have hnf1 : w1.frozen? ⟨w.heap.size + 1, 0, none⟩ = false := (hbl.frozen (by simp)).trans hnf
  have hsf1 : w1.frozen? ⟨w.heap.size + 1 + 1, 0, none⟩ = false := (hbl.frozen (by simp)).trans hsf
  have HO1 := Aside0.mk (show Own w1 (w.heap.size + 1 + 1 + 1 + 1) (.slice Av (takeSeal l).1.length cv) (takeSeal l).1 from
    Kd.R_mono (Kd.R_grown (Kd.R_bound ho) hg (fun k hk e => by have := hk.2.1; have := Option.some.inj e; omega)) (fun _ _ => trivial))
  have HBL := Aside0.mk (show Below w.heap.size w w1 from
    (((((Below.refl w.heap.size w).alloc (Nat.le_refl _) _).alloc (by simp) _).alloc (by simp; omega) _).trans (hk.below (by omega) (by simp; omega))).trans (hbl.mono (by omega)))
  have HT := Aside0.mk (show unE l = (takeSeal l).2.2 by unfold takeSeal; split <;> simp [*])
  obtain ⟨er, her⟩ : ∃ er, unE l = er := ⟨_, rfl⟩
  rw [her] at HT ⊢
  clear hn hs hnf hsf hk hz hbl HX hg ho her
  go_wp2
  go_region
  all_goals
    go_wp2
    refine bodyPost_ret (v := .tuple #[.slice Av (takeSeal l).1.length cv, .int .i64 (takeSeal l).2.1, .int .i64 er]) (by simp [results, Try.results27, go_sem, hn1, hs1]) rfl ⟨_, by rw [HT.out], ?_, ?_⟩
    · refine Own.lower (base := w.heap.size + 1 + 1 + 1 + 1) ?_ (by omega)
      repeat first | exact HO1.out | apply Own.drew | refine Own.set ?_ (by first | (simp; done) | (simp; omega)) _
    · repeat first | exact HBL.out | exact (by assumption) | apply Below.drew | refine Below.setCell ?_ (by first | (simp; done) | (simp; omega)) _
end Go.Proofs.Ytdapnponlmimaaa.M
namespace Go.Proofs.Ytdapnponlmimaaa.G
open Go.RowKit Go.Proofs.YtdapnponlmimaaaW.PrintWords Go.Proofs.Ytdapnponlmimaaa.M
def shape_Unseal.f (l0 : List Int) : Option (List Int × Int × Int) := if okB l0 = true ∧ l0.length < 140737488355328 then some (takeSeal l0) else none
theorem shape_Unseal.calls (A0 : Option Addr) (c0 : Nat) (l0 : List Int) (r1 : List Int) (r2 : Int) (r3 : Int) (w : World) (hr0 : Kd.C (Kd.int .u8) w A0 l0.length l0) (hc0 : l0.length ≤ c0) (h : shape_Unseal.f l0 = some (r1, r2, r3)) :
    Calls Try.prog 27 #[.slice A0 l0.length c0] w fun e w' => ∃ v0_ : Value, e = .returned (.tuple #[v0_, .int .i64 r2, .int .i64 r3]) ∧ Kd.R (Kd.int .u8) 5 w' w.heap.size (fun _ => True) v0_ r1 ∧ Below w.heap.size w w' := by
  unfold shape_Unseal.f at h
  split at h
  · rename_i hb
    have h := Option.some.inj h
    have h1 : r1 = (takeSeal l0).1 := by rw [h]
    have h2 : r2 = (takeSeal l0).2.1 := by rw [h]
    have h3 : r3 = (takeSeal l0).2.2 := by rw [h]
    rw [h1, h2, h3]
    exact takeSeal_calls A0 c0 l0 w hr0 hc0 hb.1 hb.2
  · cases h
end Go.Proofs.Ytdapnponlmimaaa.G
