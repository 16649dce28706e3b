/- Contract of trivet/shape.Num. -/
import Derived.Test.YtdapnponlmimaaaGx0
import Derived.Test.YtdapnponlmimaaaGx2
import Derived.Test.YtdapnponlmimaaaMClone
set_option linter.unusedVariables false
set_option linter.unusedSimpArgs false
namespace Go.Proofs.Ytdapnponlmimaaa.M
open Go.RowKit Go.Proofs.YtdapnponlmimaaaW.PrintWords Go.Proofs.YtdapnponlmimaaaW.PrintLast Go.Proofs.YtdapnponlmimaaaW.PrintMore Go.Proofs.Ytdapnponlmimaaa.G

theorem low_l0 (j : Nat) : ∀ (k n : Nat) (acc : List Int), n < 256 ^ j → j < k → acc.length + j < 140737488355328 → shape_low.l0 k (n : Int) acc = some (acc ++ lowB n) := by
  induction j with
  | zero =>
    intro k n acc hn hk _
    obtain ⟨k, rfl⟩ : ∃ m, k = m + 1 := ⟨k - 1, by omega⟩
    have : n = 0 := by simpa using hn
    subst this
    simp only [shape_low.l0]
    rw [if_neg (by simp), lowB_zero, List.append_nil]
  | succ j ih =>
    intro k n acc hn hk ha
    obtain ⟨k, rfl⟩ : ∃ m, k = m + 1 := ⟨k - 1, by omega⟩
    by_cases h0 : n = 0
    · subst h0
      simp only [shape_low.l0]
      rw [if_neg (by simp), lowB_zero, List.append_nil]
    · simp only [shape_low.l0]
      rw [if_pos (by omega), if_pos (by omega), lowB_pos h0]
      have := ih k (n / 256) (acc ++ [((n % 256 : Nat) : Int)]) (by rw [Nat.pow_succ] at hn; omega) (by omega) (by simp; omega)
      have e1 : ((n / 256 : Nat) : Int) = (n : Int) / 256 := by omega
      have e2 : ((n % 256 : Nat) : Int) = (n : Int) % 256 := by omega
      rw [e1, e2] at this
      rw [this, e2, List.append_assoc]
      rfl
theorem low_f (n : Nat) (hn : n < 256 ^ 8) (k : Nat) (hk : 8 < k) : shape_low.f k (n : Int) = some (lowB n) := by
  unfold shape_low.f
  rw [low_l0 8 k n [] hn hk (by simp)]
  rfl

/-- number. -/
theorem number_calls (n : Int) (w : World) (hn : isI64 n) :
    Calls Try.prog 35 #[.int .i64 n] w fun e w' => ∃ v0_ : Value, e = .returned v0_ ∧ Own w' w.heap.size v0_ (numB n) ∧ Below w.heap.size w w' := by
  have hl := lowB_len _ 8 (mag_lt hn)
  have HL := Aside0.mk (low_f (mag n) (mag_lt hn) 9 (by omega))
  have HN := Aside0.mk hn
  unfold isI64 at hn
  by_cases h : n < 0
  · have HU := Aside0.mk (show shape_low.f 9 (IntKind.u64.wrap (-(IntKind.u64.wrap n))) = some (lowB (mag n)) by
      rw [← HL.out]; congr 1; simp only [IntKind.wrap_u64]; unfold mag; omega)
    have HB := Aside0.mk (show numB n = [2 * ((lowB (mag n)).length : Int) + 1] ++ lowB (mag n) by unfold numB; rw [if_pos h]; rfl)
    go_enter Try.func35, Try.ntmps35
    go_wp2_with fail
    refine (shape_low.calls 9 _ _ _ HU.out).mono ?_
    rintro e w1 ⟨v1, rfl, ho, hb⟩
    obtain ⟨A1, c1, rfl, hc1, hr1⟩ := Kd.R_reads ho
    have HO := Aside0.mk hr1
    have HBL := Aside0.mk hb
    clear ho hr1 hb
    go_wp2_with ((with_reducible refine gate_builtin (b := .append) (xs := #[.tmp 20, .tmp 21]) rfl ?_); at_builtin; refine Kd.R_append_rows (Kd.int .u8) (w0 := w) w.heap.size rfl (.tmp 20) (.tmp 21) 22 5 (.int .u8 0) 1 rfl Try.underlying22 infoU8 rfl (by decide) (by omega) _ _ (lowB (mag n)) _ _ _ (fun _ => True) (fun _ => False) rfl rfl (Kd.R_lower (own_one _ (2 * ((lowB (mag n)).length : Int) + 1)) HBL.out.size) (Kd.C_alloc HO.out _) (fun _ _ h => h) (fun _ h => h.elim) (fun _ _ => trivial) (HBL.out.alloc HBL.out.size _) (by have := HBL.out.size; simp; omega) (by simp; omega) ?_; intro v2 w2 ho2 hb2 _ _)
    go_ret
    exact ⟨_, rfl, by rw [HB.out]; exact ho2, hb2⟩
  · have HU := Aside0.mk (show shape_low.f 9 n = some (lowB (mag n)) by
      rw [← HL.out]; congr 1; unfold mag; omega)
    have HB := Aside0.mk (show numB n = [2 * ((lowB (mag n)).length : Int)] ++ lowB (mag n) by unfold numB; rw [if_neg h, Int.add_zero]; rfl)
    go_enter Try.func35, Try.ntmps35
    go_wp2_with fail
    refine (shape_low.calls 9 _ _ _ HU.out).mono ?_
    rintro e w1 ⟨v1, rfl, ho, hb⟩
    obtain ⟨A1, c1, rfl, hc1, hr1⟩ := Kd.R_reads ho
    have HO := Aside0.mk hr1
    have HBL := Aside0.mk hb
    clear ho hr1 hb
    go_wp2_with ((with_reducible refine gate_builtin (b := .append) (xs := #[.tmp 20, .tmp 21]) rfl ?_); at_builtin; refine Kd.R_append_rows (Kd.int .u8) (w0 := w) w.heap.size rfl (.tmp 20) (.tmp 21) 22 5 (.int .u8 0) 1 rfl Try.underlying22 infoU8 rfl (by decide) (by omega) _ _ (lowB (mag n)) _ _ _ (fun _ => True) (fun _ => False) rfl rfl (Kd.R_lower (own_one _ (2 * ((lowB (mag n)).length : Int))) HBL.out.size) (Kd.C_alloc HO.out _) (fun _ _ h => h) (fun _ h => h.elim) (fun _ _ => trivial) (HBL.out.alloc HBL.out.size _) (by have := HBL.out.size; simp; omega) (by simp; omega) ?_; intro v2 w2 ho2 hb2 _ _)
    go_ret
    exact ⟨_, rfl, by rw [HB.out]; exact ho2, hb2⟩
end Go.Proofs.Ytdapnponlmimaaa.M
namespace Go.Proofs.Ytdapnponlmimaaa.M
open Go.RowKit Go.Proofs.YtdapnponlmimaaaW.PrintWords Go.Proofs.YtdapnponlmimaaaW.PrintLast Go.Proofs.YtdapnponlmimaaaW.PrintMore Go.Proofs.Ytdapnponlmimaaa.G

theorem clip_calls (A : Option Addr) (n c : Nat) (w : World) (hc : n ≤ c) (hm : (n : Int) ≤ 9223372036854775807) :
    Calls Try.prog 34 #[.slice A n c] w fun e w' => e = .returned (.slice A n n) ∧ w = w' := by
  have hc' : (n : Int) ≤ (c : Int) := by omega
  have h0 : (0 : Int) ≤ (n : Int) := by omega
  go_enter Try.func34, Try.ntmps34
  go_wp2
  go_ret
  exact ⟨rfl, rfl⟩

theorem C_cells {w : World} {k : IntKind} {A : Option Addr} {n : Nat} {xs : List Int} (h : Kd.C (Kd.int k) w A n xs) (ad : Addr) (hA : A = some ad) (j : Nat) (u : Value) (hj : (xs.map (Value.int k))[j]? = some u) : w.cell? (ad.add j) = some u := by
  rw [List.getElem?_map, Option.map_eq_some_iff] at hj
  obtain ⟨x, hx, rfl⟩ := hj
  have hl : j < xs.length := (List.getElem?_eq_some_iff.1 hx).1
  have hn := h.1
  obtain ⟨ad', hA', hc⟩ := Kd.at_int h (j : Int) (by omega) (by omega)
  rw [hA] at hA'
  obtain rfl : ad = ad' := by injection hA'
  rw [Int.toNat_natCast] at hc
  rw [hc]
  simp [rd, List.getD_eq_getElem?_getD, hx]

theorem own_of_ints {w : World} {base : Nat} {v : Value} {xs : List Int} (h : w.ownsRow base 5 1 v xs.length (xs.map (Value.int .u8))) {base' : Nat} (hb : base' ≤ base) : Own w base' v xs :=
  Kd.R_lower (Kd.R_of_own (enc := Value.int .u8) (by simpa [encs] using h) (fun _ _ => trivial)) hb

set_option maxHeartbeats 1000000 in
theorem num_calls (A : Option Addr) (c : Nat) (l0 : List Int) (B : Option Addr) (c1 : Nat) (l1 : List Int) (w : World) (hr0 : Kd.C (Kd.int .u8) w A l0.length l0) (hc0 : l0.length ≤ c)
    (hr1 : Kd.C (Kd.int .i64) w B l1.length l1) (hi : okI l1 = true) (hs : l0.length + 9 * l1.length < 140737488355328) :
    Calls Try.prog 14 #[.slice A l0.length c, .slice B l1.length c1] w fun e w' => ∃ v0_ : Value, e = .returned v0_ ∧ Own w' w.heap.size v0_ (l0 ++ numsB l1) ∧ Below w.heap.size w w' := by
  have HR0 := Aside0.mk hr0
  have HR1 := Aside0.mk hr1
  have HI := Aside0.mk hi
  have hl1 : l1.length * 8 ≤ 9223372036854775807 := by omega
  have hm0 : (l0.length : Int) ≤ 9223372036854775807 := by omega
  clear hr0 hr1 hi
  go_enter Try.func14, Try.ntmps14
  go_wp2_with (go_at_call 34; refine (clip_calls A l0.length c w hc0 hm0).mono ?_; rintro e w' ⟨rfl, rfl⟩)
  go_loopw [0, 11] (fun b i wr => ∃ j : Nat, j ≤ l1.length ∧ i = .int .i64 (j : Int) ∧ Aside0 (Below w.heap.size w wr) ∧ Aside0 ((j = 0 ∧ b = .slice A l0.length l0.length) ∨ (0 < j ∧ Own wr w.heap.size b (l0 ++ numsB (l1.take j))))) (fun _ i _ => l1.length - (intOf i).toNat)
  case atStart => exact ⟨0, Nat.zero_le _, rfl, ⟨Below.refl _ _⟩, ⟨.inl ⟨rfl, rfl⟩⟩⟩
  case round =>
    obtain ⟨j, hj, rfl, HB, HC⟩ := hrel
    by_cases hlt : j < l1.length
    · have hlt' : (j : Int) < (l1.length : Int) := by omega
      have hj0 : (0 : Int) ≤ (j : Int) := by omega
      obtain ⟨bd, hB, hx⟩ := Kd.at_int (Kd.C_below HR1.out HB.out) (j : Int) hj0 hlt'
      subst hB
      rw [Int.toNat_natCast] at hx
      have hw : isI64 (rd l1 j) := okI_mem HI.out (by simp [rd, List.getD_eq_getElem?_getD, List.getElem?_eq_getElem hlt])
      have HW := Aside0.mk hw
      have HT := Aside0.mk (show l0 ++ numsB (l1.take (j + 1)) = (l0 ++ numsB (l1.take j)) ++ numB (rd l1 j) by rw [take_snoc_int l1 j hlt, numsB_snoc, List.append_assoc])
      have hle : (numsB (l1.take j)).length ≤ 9 * j := by
        have := numsB_len (l := l1.take j) (by have := HI.out; unfold okI at this ⊢; rw [List.all_eq_true] at this ⊢; exact fun x hx => this x (List.mem_of_mem_take hx))
        rw [List.length_take] at this; omega
      have hnl := numB_len hw
      clear hw
      have hB0 := HB.out.size
      rcases HC.out with ⟨rfl, rfl⟩ | ⟨hjp, hown⟩
      · clear HC
        rw [Addr.add_zero'] at hx
        obtain ⟨i0, hi, hz0, hz1, hz2⟩ := info_parts infoU8
        have HI0 := Aside0.mk hi
        have HI1 := Aside0.mk hz0
        have HI2 := Aside0.mk hz1
        have HI3 := Aside0.mk hz2
        clear hi hz0 hz1 hz2
        go_wp2_with fail
        refine (number_calls (rd l1 (0 : Nat)) _ HW.out).mono ?_
        rintro e w1 ⟨v1, rfl, ho, hb⟩
        obtain ⟨A1, c1', rfl, hc1, hr1⟩ := Kd.R_reads ho
        have HO := Aside0.mk hr1
        have HBL := Aside0.mk (below_step HB.out hb)
        have HBS := Aside0.mk hb
        clear ho hr1 hb
        have hA1 : ∃ ad1, A1 = some ad1 := by
          obtain ⟨ad, e, _⟩ := HO.out.2.2 (by omega)
          exact ⟨ad, e⟩
        obtain ⟨ad1, rfl⟩ := hA1
        go_wp2_with ((with_reducible refine gate_builtin (b := .append) (xs := #[.tmp 15, .tmp 17]) rfl ?_); at_builtin; refine wpList_append_grows _ rfl (.tmp 15) (.tmp 17) 22 rfl 5 i0 (.int .u8 0) 1 1 Try.underlying22 HI0.out HI1.out HI2.out HI3.out rfl (by decide) A l0.length l0.length (l0.map (Value.int .u8)) rfl (fun h => by subst h; exact ⟨(C_none HR0.out).1, (C_none HR0.out).1⟩) (by simp) (fun b hb => C_cells (Kd.C_below (Kd.C_below HR0.out HB.out) HBS.out) b hb) ad1 (numB (rd l1 (0 : Nat))).length c1' ((numB (rd l1 (0 : Nat))).map (Value.int .u8)) rfl (by simp) (C_cells HO.out ad1 rfl) (ints_oneCell .u8 _) (by omega) (by unfold maxLen; omega) (by omega) ?_; intro v2 w2 ho2 hg2)
        go_roundw
        case rel =>
          refine ⟨1, by omega, by go_num, ⟨?_⟩, ⟨.inr ⟨by omega, ?_⟩⟩⟩
          · exact HBL.out.grown hg2 HBL.out.size (by simp)
          · rw [HT.out]
            simp only [List.take_zero]
            refine own_of_ints (by simpa [numsB] using ho2) HBL.out.size
        case measure => simp [intOf]; omega
      · clear HC
        have HOW := Aside0.mk hown
        clear hown
        go_wp2_with fail
        refine (number_calls (rd l1 j) _ HW.out).mono ?_
        rintro e w1 ⟨v1, rfl, ho, hb⟩
        obtain ⟨A1, c1', rfl, hc1, hr1⟩ := Kd.R_reads ho
        have HO := Aside0.mk hr1
        have HBL := Aside0.mk (below_step HB.out hb)
        have HBS := Aside0.mk hb
        clear ho hr1 hb
        go_wp2_with ((with_reducible refine gate_builtin (b := .append) (xs := #[.tmp 15, .tmp 17]) rfl ?_); at_builtin; refine Kd.R_append_rows (Kd.int .u8) (w0 := w) w.heap.size rfl (.tmp 15) (.tmp 17) 22 5 (.int .u8 0) 1 rfl Try.underlying22 infoU8 rfl (by decide) (by omega) _ _ (numB (rd l1 j)) _ _ _ (fun _ => True) (fun _ => False) rfl rfl (Kd.R_below HOW.out HBS.out) HO.out (fun _ _ h => h) (fun _ h => h.elim) (fun _ _ => trivial) HBL.out HBL.out.size (by simp; omega) ?_; intro v2 w2 ho2 hb2 _ _)
        go_roundw
        case rel => exact ⟨j + 1, by omega, by go_num, ⟨hb2⟩, ⟨.inr ⟨by omega, by rw [HT.out]; exact ho2⟩⟩⟩
        case measure => simp [intOf]; omega
    · obtain rfl : j = l1.length := by omega
      have hB0 := HB.out.size
      rcases HC.out with ⟨hz, rfl⟩ | ⟨hjp, hown⟩
      · have HZ := Aside0.mk (show l0 ++ numsB l1 = l0 by rw [List.eq_nil_of_length_eq_zero hz]; simp [numsB])
        clear HC hz
        go_wp2_with fail
        refine (clone_calls A l0.length l0 _ (Kd.C_below HR0.out HB.out) (Nat.le_refl _) (by omega)).mono ?_
        rintro e w1 ⟨v1, rfl, ho, hb⟩
        have HO := Aside0.mk ho
        have HBL := Aside0.mk (below_step HB.out hb)
        clear ho hb
        go_wp2
        go_ret
        exact ⟨_, rfl, by rw [HZ.out]; exact Kd.R_lower HO.out hB0, HBL.out⟩
      · clear HC
        have hlen : (l0 ++ numsB (l1.take l1.length)).length < 140737488355328 := by
          have := numsB_len HI.out
          rw [List.take_length, List.length_append]; omega
        obtain ⟨L, hL⟩ : ∃ L, l0 ++ numsB (l1.take l1.length) = L := ⟨_, rfl⟩
        rw [hL] at hown hlen
        obtain ⟨A1, c1', rfl, hc1, hr1⟩ := Kd.R_reads hown
        have HO := Aside0.mk hr1
        have HZ := Aside0.mk (show L = l0 ++ numsB l1 by rw [← hL, List.take_length])
        clear hL
        clear hown hr1
        go_wp2_with fail
        refine (clone_calls A1 _ _ _ HO.out hc1 hlen).mono ?_
        rintro e w1 ⟨v1, rfl, ho, hb⟩
        have HO2 := Aside0.mk ho
        have HBL := Aside0.mk (below_step HB.out hb)
        clear ho hb
        go_wp2
        go_ret
        exact ⟨_, rfl, by rw [← HZ.out]; exact Kd.R_lower HO2.out hB0, HBL.out⟩
end Go.Proofs.Ytdapnponlmimaaa.M

namespace Go.Proofs.Ytdapnponlmimaaa.G
open Go.RowKit Go.Proofs.YtdapnponlmimaaaW.PrintWords Go.Proofs.Ytdapnponlmimaaa.M
def shape_number.f (a0 : Int) : Option (List Int) := if isI64 a0 then some (numB a0) else none
theorem shape_number.calls (a0 : Int) (r : List Int) (w : World) (h : shape_number.f a0 = some r) :
    Calls Try.prog 35 #[.int .i64 a0] w fun e w' => ∃ v0_ : Value, e = .returned (v0_) ∧ Kd.R (Kd.int .u8) 5 w' w.heap.size (fun _ => True) v0_ r ∧ Below w.heap.size w w' := by
  unfold shape_number.f at h
  split at h
  · obtain rfl := Option.some.inj h
    exact number_calls a0 w (by assumption)
  · cases h
def shape_Num.f (l0 l1 : List Int) : Option (List Int) := if okI l1 = true ∧ l0.length + 9 * l1.length < 140737488355328 then some (l0 ++ numsB l1) else none
theorem shape_Num.calls (A0 : Option Addr) (c0 : Nat) (l0 : List Int) (A1 : Option Addr) (c1 : Nat) (l1 : List Int) (r : List Int) (w : World) (hr0 : Kd.C (Kd.int .u8) w A0 l0.length l0) (hc0 : l0.length ≤ c0) (hr1 : Kd.C (Kd.int .i64) w A1 l1.length l1) (_hc1 : l1.length ≤ c1) (h : shape_Num.f l0 l1 = some r) :
    Calls Try.prog 14 #[.slice A0 l0.length c0, .slice A1 l1.length c1] w fun e w' => ∃ v0_ : Value, e = .returned (v0_) ∧ Kd.R (Kd.int .u8) 5 w' w.heap.size (fun _ => True) v0_ r ∧ Below w.heap.size w w' := by
  unfold shape_Num.f at h
  split at h
  · rename_i hh
    obtain rfl := Option.some.inj h
    exact num_calls A0 c0 l0 A1 c1 l1 w hr0 hc0 hr1 hh.1 hh.2
  · cases h
end Go.Proofs.Ytdapnponlmimaaa.G
