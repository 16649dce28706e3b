/- SkipSameSaid: contracts of the functions that the law goes through, put together in build order (part 2 of 3). -/
import Derived.Test.YtdolmkiiflhehaaPart0
import Derived.StillTailTactics
import Derived.Deep.RegionHeld3
import Derived.Test.YtdolmkiiflhehaaProg
import Derived.Below
import Derived.Deep.Draws
import Derived.Deep.AppendLies
import Derived.Maps.AppendAt
import Derived.OwnWalk
import Derived.Laws.BytesArg
import Derived.Laws.MakeOwn
import Derived.Laws.OwnMore
import Derived.Deep.OwnRows
import Derived.Tactics
import Derived.Lib.ConvBytes
import Derived.Laws.Slices
import Derived.WalkKit
import Derived.KernelRfl
import Derived.RowKit3
import Derived.Deep.LoopGhost
import Derived.Deep.QuietTactic
import Derived.BigQuiet
import Derived.WideLaws
import Derived.Deep.DeepCutAuto
import Derived.Deep.CutBlock
import Derived.Laws.Rows
import Derived.Lib.AppendStr
import Derived.ArgAppend
import Derived.Laws.IdiomCopy
import Derived.OrdersHeld
import Derived.Laws.BitsLemmas
import Derived.RowKit
import Derived.Test.YtdolmkiiflhehaaWWords
import Derived.Test.YtdolmkiiflhehaaWLast
import Derived.Test.YtdolmkiiflhehaaWTab
import Derived.Test.YtdolmkiiflhehaaWFour
import Derived.Test.YtdolmkiiflhehaaWQPut
import Derived.Test.YtdolmkiiflhehaaWApart
import Derived.Test.YtdolmkiiflhehaaWArr
import Derived.Test.YtdolmkiiflhehaaWZeros
import Derived.Test.YtdolmkiiflhehaaWFoot
import Derived.Test.YtdolmkiiflhehaaWKept
import Derived.Test.YtdolmkiiflhehaaWShare
import Derived.Test.YtdolmkiiflhehaaWN
import Derived.Test.YtdolmkiiflhehaaWFootNe
import Derived.Test.YtdolmkiiflhehaaWAt
import Derived.Test.YtdolmkiiflhehaaWEqStruct
import Derived.Test.YtdolmkiiflhehaaWRepsOne
import Derived.Test.YtdolmkiiflhehaaWInv
import Derived.Test.YtdolmkiiflhehaaWInvWords
import Derived.Test.YtdolmkiiflhehaaWGuard
import Derived.Test.YtdolmkiiflhehaaWNEv
import Derived.Test.YtdolmkiiflhehaaWMore
import Derived.Laws.BitsAllLaws
import Derived.Laws.Bits64
import Derived.Recover
import Derived.WalkLawsBesides
import Derived.WalkSpells
import Derived.Lib.Hide
import Derived.Lib.SliceRun
import Derived.Lib.Bytes
import Derived.Maps.OwnSet
import Derived.Maps.OwnOps
import Derived.Maps.RangeWalk
import Derived.Maps.Views
import Derived.DeepKeys4
import Derived.Laws.ResultCell
section
/- The reference's Erase. -/
set_option linter.unusedVariables false
set_option linter.unusedSimpArgs false
set_option maxRecDepth 100000
namespace Go.Proofs.Ytdolmkiiflhehaa.M
open Go.RowKit Go.Proofs.YtdolmkiiflhehaaW.PrintWords Go.Proofs.YtdolmkiiflhehaaW.PrintLast
def eraL (L : List Nd) (k : Int × Int) : List Nd := if (getL L k).isSome then del L (rank L k) else L
def eraE (L : List Nd) (k : Int × Int) : Int := if (getL L k).isSome then 0 else 4
theorem cells_del (L : List Nd) (m : Nat) : cellsL (del L m) = (cellsL L).take m ++ (cellsL L).drop (m + 1) := by unfold cellsL del; rw [List.map_append, List.map_take, List.map_drop]
theorem his_del (L : List Nd) (m : Nat) : hisL (del L m) = (hisL L).take m ++ (hisL L).drop (m + 1) := by unfold hisL del; rw [List.map_append, List.map_take, List.map_drop]
def RmP (w : World) (q : Nat) (S : Nat → Prop) (L : List Nd) (x E : Int) (e : Ending) (w' : World) : Prop := e = .returned (.int .i64 E) ∧ KeepS S w w' ∧ ∃ S', IsRk w' q S' L x ∧ ∀ i, S' i → S i ∨ w.heap.size ≤ i
set_option maxHeartbeats 2000000 in
theorem rerase_is {w : World} {q : Nat} {S : Nat → Prop} {L : List Nd} {x : Int} (H : IsRk w q S L x) (hL : L.length ≤ 1048576) (k : Int × Int) :
    Calls Try.prog 58 #[.pointer (some ⟨q, 0, none⟩), keyV k] w fun e w' => RmP w q S (eraL L k) x (eraE L k) e w' := by
  have HB := Lib.hid (show Below w.heap.size w (w.alloc (.cells #[.int .i32 k.1, .int .i64 k.2] 29)) from (Below.refl _ _).alloc (Nat.le_refl _) _)
  have HA := Lib.hid (H.below HB.out)
  have HX := Lib.hid (heap_alloc_new w (.cells #[.int .i32 k.1, .int .i64 k.2] 29))
  obtain ⟨w1, hw1⟩ : ∃ W, w.alloc (.cells #[.int .i32 k.1, .int .i64 k.2] 29) = W := ⟨_, rfl⟩
  rw [hw1] at HB HA HX
  have HW := Lib.hid hw1
  obtain ⟨gv, hgv⟩ : ∃ g, getL L k = g := ⟨_, rfl⟩
  have HG := Lib.hid hgv
  have HQ := Lib.hid H.lt
  clear H hw1 hgv
  unfold keyV
  go_enter Try.func58, Try.ntmps58
  go_upto_region 1 with fail
  rw [HW.out]
  have a0 : w1.cell? ⟨w.heap.size, 0, none⟩ = some (.int .i32 k.1) := (blk_cell HX.out 0).trans rfl
  have a1 : w1.cell? ⟨w.heap.size, 1, none⟩ = some (.int .i64 k.2) := (blk_cell HX.out 1).trans rfl
  go_wp2_with fail
  refine (rfind_is HA.out hL k).mono ?_
  rintro e w3 ⟨rfl, hb⟩
  have HB3 := Lib.hid (HB.out.trans (hb.mono HB.out.size))
  have HR := Lib.hid (HA.out.below hb)
  clear hb a0 a1
  cases gv with
  | none =>
    rw [HG.out]
    simp only [Option.isSome_none]
    go_wp2_with fail
    go_ret
    have e1 : eraL L k = L := by unfold eraL; rw [HG.out]; rfl
    have e2 : eraE L k = 4 := by unfold eraE; rw [HG.out]; rfl
    rw [e1, e2]
    exact ⟨rfl, KeepS.of_below _ HB3.out, S, HR.out, fun i hi => .inl hi⟩
  | some c =>
  obtain ⟨e, he, rfl, hlt⟩ := getL_at HG.out
  have HRES := Lib.hid (show eraL L k = del L (rank L k) ∧ eraE L k = 0 by unfold eraL eraE; rw [HG.out]; exact ⟨rfl, rfl⟩)
  have HST := Lib.hid (del_store HR.out.store (rank L k))
  rw [HG.out]
  simp only [Option.isSome_some]
  obtain ⟨A, a, B, b, hV⟩ := HR.out.toV
  obtain ⟨m, hm⟩ : ∃ m, rank L k = m := ⟨_, rfl⟩
  obtain ⟨n, hn⟩ : ∃ n, L.length = n := ⟨_, rfl⟩
  rw [hm] at hlt HRES HST
  rw [hn] at hlt hV hL
  have HVw3 := Lib.hid hV
  have HMN := Lib.hid hlt
  have HLN := Lib.hid hL
  rw [hm]
  have i0 : (0 : Int) ≤ (m : Int) := by omega
  have i1 : (m : Int) < (n : Int) := by omega
  have i2 : (m : Int) ≤ (n : Int) := by omega
  have i3 : (m : Int) + 1 ≤ (n : Int) := by omega
  clear he hm hV hn HR HA HX
  have HPL := Lib.hid (R_pre HVw3.out.l (m := m) (Nat.le_of_lt HMN.out))
  have HSL := Lib.hid (R_suf HVw3.out.l (m := m + 1) HMN.out)
  have cL := HVw3.out.cells.1
  have laL : (n : Int) ≤ (a : Int) := by have := HPL.out.2.1; omega
  obtain ⟨PL, hPL⟩ : ∃ P, (cellsL L).take m = P := ⟨_, rfl⟩
  obtain ⟨DL, hDL⟩ : ∃ D, (cellsL L).drop (m + 1) = D := ⟨_, rfl⟩
  rw [hPL] at HPL
  rw [hDL] at HSL
  have HPDL := Lib.hid (And.intro hPL hDL)
  obtain ⟨AL, hAL⟩ : ∃ A', (if a = m + 1 then A else Option.map (fun x => x.add ((m + 1) * 4)) A) = A' := ⟨_, rfl⟩
  have HQL := Lib.hid (show Kd.C cellK w3 AL (n - (m + 1)) DL from hAL ▸ HSL.out)
  clear hPL hDL
  go_upto_region 5 with ((with_reducible refine gate_builtin (b := .append) (xs := #[.const (.slice none 0 0), .tmp 22]) rfl ?_); at_builtin; refine Kd.R_append_rows cellK (Rr := Kd.K cellK w3) (w0 := w3) w3.heap.size rfl (.const (.slice none 0 0)) (.tmp 22) 59 31 _ 32 rfl Try.underlying59 info4 rfl (by decide) (by omega) _ ([] : List T4) PL _ _ _ (fun _ => True) (fun _ => False) rfl rfl (Kd.R_nil _ _ _ _ _) HPL.out.2.2.1 (fun _ _ h => h) (fun _ h => h.elim) (fun _ _ => trivial) (Below.refl _ _) (Nat.le_refl _) (by have := HMN.out; have := HLN.out; simp; omega) ?_; intro v1 w5 ho hb5 hg5 hat; obtain ⟨Aw5, cw5, rfl⟩ := Kd.R_slice ho; have HOw5 := Lib.hid ho; have HBw5 := Lib.hid hb5; clear ho hb5 hg5 hat)
  have HVw5 := Lib.hid (HVw3.out.below HBw5.out)
  have HQL2 := Lib.hid (Kd.C_below HQL.out HBw5.out)
  have hq_ := HOw5.out
  rw [List.nil_append] at hq_
  have HO2w5 := Lib.hid hq_
  clear hq_ cL
  have cL := HVw5.out.cells.1
  have zL := HVw5.out.fz 0
  obtain ⟨lL, hlL⟩ : ∃ l, PL.length = l := ⟨_, rfl⟩
  have HLL := Lib.hid hlL
  rw [hlL]
  have HLBL := Lib.hid (show lL ≤ 1048576 by have h1 := HPL.out.2.2.2; have h2 := HMN.out; have h3 := HLN.out; omega)
  go_upto_region 6 with ((with_reducible refine gate_builtin (b := .append) (xs := #[.tmp 25, .tmp 32]) rfl ?_); at_builtin; refine Kd.R_append_rows cellK (Rr := Kd.K cellK w5) (w0 := w3) w3.heap.size rfl (.tmp 25) (.tmp 32) 59 31 _ 32 rfl Try.underlying59 info4 rfl (by decide) (by omega) _ PL DL _ _ _ (fun _ => True) (fun _ => False) rfl rfl (HLL.out ▸ HO2w5.out) HQL2.out (fun _ _ h => h) (fun _ h => h.elim) (fun _ _ => trivial) HBw5.out HBw5.out.size (by have h1 := HLL.out; have h2 := HLBL.out; have h3 := HLN.out; have h4 := HMN.out; omega) ?_; intro v1 w6 ho hb5 hg5 hat; obtain ⟨Aw6, cw6, rfl⟩ := Kd.R_slice ho; have HOw6 := Lib.hid ho; have HBw6 := Lib.hid hb5; clear ho hb5 hg5 hat; have HVw6 := Lib.hid (HVw3.out.below HBw6.out); have dL := HVw6.out.cells.1; have yL := HVw6.out.fz 0)
  have hR_ := Kd.R_mono (Kd.R_bound HOw6.out) (fun i hi => (Or.inr (Nat.le_trans HB3.out.size hi.2.1) : S i ∨ w.heap.size ≤ i))
  rw [List.length_append, HLL.out] at hR_
  have HV7 := Lib.hid (HVw6.out.setL (S' := fun i => S i ∨ w.heap.size ≤ i) hR_ (fun i hi => .inl hi) (fun i hi => hi))
  have HK7 := Lib.hid ((((KeepS.of_below S HB3.out).then_below HBw6.out)).set (p := ⟨q, 0, none⟩) (.inl HVw6.out.s) (.slice Aw6 (lL + DL.length) cw6))
  obtain ⟨w7, hw7⟩ : ∃ W, w6.setCell ⟨q, 0, none⟩ (.slice Aw6 (lL + DL.length) cw6) = W := ⟨_, rfl⟩
  rw [hw7] at HV7 HK7 ⊢
  have HVw7 := HV7
  clear hw7 hR_ cL zL dL yL laL hAL HV7
  have HPH := Lib.hid (R_pre HVw7.out.h (m := m) (Nat.le_of_lt HMN.out))
  have HSH := Lib.hid (R_suf HVw7.out.h (m := m + 1) HMN.out)
  have cH := HVw7.out.cells.2.1
  have laH : (n : Int) ≤ (b : Int) := by have := HPH.out.2.1; omega
  obtain ⟨PH, hPH⟩ : ∃ P, (hisL L).take m = P := ⟨_, rfl⟩
  obtain ⟨DH, hDH⟩ : ∃ D, (hisL L).drop (m + 1) = D := ⟨_, rfl⟩
  rw [hPH] at HPH
  rw [hDH] at HSH
  have HPDH := Lib.hid (And.intro hPH hDH)
  obtain ⟨AH, hAH⟩ : ∃ A', (if b = m + 1 then B else Option.map (fun x => ({ block := x.block, off := x.off + (m + 1) } : Addr)) B) = A' := ⟨_, rfl⟩
  have HQH := Lib.hid (show Kd.C (Kd.int .i64) w7 AH (n - (m + 1)) DH from by rw [← hAH]; have h := HSH.out; rw [show (m + 1) * (Kd.int .i64).sz = m + 1 from Nat.mul_one _] at h; exact h)
  clear hPH hDH
  go_upto_region 7 with ((with_reducible refine gate_builtin (b := .append) (xs := #[.const (.slice none 0 0), .tmp 41]) rfl ?_); at_builtin; refine Kd.R_append_rows (Kd.int .i64) (Rr := Kd.K (Kd.int .i64) w7) (w0 := w7) w7.heap.size rfl (.const (.slice none 0 0)) (.tmp 41) 78 3 _ 8 rfl Try.underlying78 infoI rfl (by decide) (by omega) _ ([] : List Int) PH _ _ _ (fun _ => True) (fun _ => False) rfl rfl (Kd.R_nil _ _ _ _ _) HPH.out.2.2.1 (fun _ _ h => h) (fun _ h => h.elim) (fun _ _ => trivial) (Below.refl _ _) (Nat.le_refl _) (by have := HMN.out; have := HLN.out; simp; omega) ?_; intro v1 w8 ho hb5 hg5 hat; obtain ⟨Aw8, cw8, rfl⟩ := Kd.R_slice ho; have HOw8 := Lib.hid ho; have HBw8 := Lib.hid hb5; clear ho hb5 hg5 hat)
  have HVw8 := Lib.hid (HVw7.out.below HBw8.out)
  have HQH2 := Lib.hid (Kd.C_below HQH.out HBw8.out)
  have hq_ := HOw8.out
  rw [List.nil_append] at hq_
  have HO2w8 := Lib.hid hq_
  clear hq_ cH
  have cH := HVw8.out.cells.2.1
  have zH := HVw8.out.fz 1
  obtain ⟨lH, hlH⟩ : ∃ l, PH.length = l := ⟨_, rfl⟩
  have HLH := Lib.hid hlH
  rw [hlH]
  have HLBH := Lib.hid (show lH ≤ 1048576 by have h1 := HPH.out.2.2.2; have h2 := HMN.out; have h3 := HLN.out; omega)
  go_upto_region 8 with ((with_reducible refine gate_builtin (b := .append) (xs := #[.tmp 44, .tmp 51]) rfl ?_); at_builtin; refine Kd.R_append_rows (Kd.int .i64) (Rr := Kd.K (Kd.int .i64) w8) (w0 := w7) w7.heap.size rfl (.tmp 44) (.tmp 51) 78 3 _ 8 rfl Try.underlying78 infoI rfl (by decide) (by omega) _ PH DH _ _ _ (fun _ => True) (fun _ => False) rfl rfl (HLH.out ▸ HO2w8.out) HQH2.out (fun _ _ h => h) (fun _ h => h.elim) (fun _ _ => trivial) HBw8.out HBw8.out.size (by have h1 := HLH.out; have h2 := HLBH.out; have h3 := HLN.out; have h4 := HMN.out; omega) ?_; intro v1 w9 ho hb5 hg5 hat; obtain ⟨Aw9, cw9, rfl⟩ := Kd.R_slice ho; have HOw9 := Lib.hid ho; have HBw9 := Lib.hid hb5; clear ho hb5 hg5 hat; have HVw9 := Lib.hid (HVw7.out.below HBw9.out); have dH := HVw9.out.cells.2.1; have yH := HVw9.out.fz 1)
  have hR_ := Kd.R_mono (Kd.R_bound HOw9.out) (fun i hi => (Or.inr (Nat.le_trans HK7.out.size hi.2.1) : S i ∨ w.heap.size ≤ i))
  rw [List.length_append, HLH.out] at hR_
  have HVA := Lib.hid (HVw9.out.setH (S' := fun i => S i ∨ w.heap.size ≤ i) hR_ (fun i hi => hi) (fun i hi => hi))
  have HKA := Lib.hid ((HK7.out.then_below HBw9.out).set (p := ⟨q, 1, none⟩) (.inl HVw3.out.s) (.slice Aw9 (lH + DH.length) cw9))
  obtain ⟨wA, hwA⟩ : ∃ W, w9.setCell ⟨q, 1, none⟩ (.slice Aw9 (lH + DH.length) cw9) = W := ⟨_, rfl⟩
  rw [hwA] at HVA HKA ⊢
  clear hwA hR_ cH zH dH yH laH hAH
  go_wp2_with fail
  go_ret
  rw [HRES.out.1, HRES.out.2]
  exact ⟨rfl, HKA.out, _, HVA.out.toK (by rw [cells_del, ← HPDL.out.1, ← HPDL.out.2]) (by rw [his_del, ← HPDH.out.1, ← HPDH.out.2]) HST.out, fun i hi => hi⟩
end Go.Proofs.Ytdolmkiiflhehaa.M
end

section
/- The height that is drawn, to the letter. -/
set_option linter.unusedVariables false
set_option linter.unusedSimpArgs false
set_option maxRecDepth 100000
namespace Go.Proofs.Ytdolmkiiflhehaa.M
open Go.RowKit Go.Proofs.YtdolmkiiflhehaaW.PrintWords
def drX (x : Int) : Int :=
  let x1 := bits BinOp.xor .u64 x (IntKind.u64.wrap (x * 8192))
  let x2 := bits BinOp.xor .u64 x1 (x1 / 128)
  bits BinOp.xor .u64 x2 (IntKind.u64.wrap (x2 * 131072))
def hgt (X : Int) : Nat → Nat → Nat
  | g, 0 => g
  | g, f + 1 => if bits BinOp.and .u64 (X / 2 ^ (g - 1)) 1 = 1 then hgt X (g + 1) f else g
def drH (X : Int) : Nat := hgt X 1 7
theorem hgt_le (X : Int) : ∀ f g, g ≤ hgt X g f ∧ hgt X g f ≤ g + f
  | 0, g => ⟨Nat.le_refl _, Nat.le_refl _⟩
  | f + 1, g => by
    have := hgt_le X f (g + 1)
    unfold hgt
    split <;> omega
theorem drH_le (X : Int) : 1 ≤ drH X ∧ drH X ≤ 8 := hgt_le X 7 1
theorem hgt_yes {X : Int} {g f : Nat} (h : bits BinOp.and .u64 (X / 2 ^ (g - 1)) 1 = 1) : hgt X g (f + 1) = hgt X (g + 1) f := by rw [hgt, if_pos h]
theorem hgt_no {X : Int} {g : Nat} (f : Nat) (h : ¬ bits BinOp.and .u64 (X / 2 ^ (g - 1)) 1 = 1) : hgt X g f = g := by
  cases f with
  | zero => rfl
  | succ f => rw [hgt, if_neg h]
theorem half (X : Int) {g : Nat} (h : 1 ≤ g) : X / 2 ^ (g - 1) / 2 = X / 2 ^ (g + 1 - 1) := by
  obtain ⟨g, rfl⟩ : ∃ g', g = g' + 1 := ⟨g - 1, by omega⟩
  rw [Nat.add_sub_cancel, Nat.add_sub_cancel, Int.ediv_ediv_of_nonneg (Int.le_of_lt (Int.pow_pos (by decide))), Int.pow_succ]
set_option maxHeartbeats 1000000 in
theorem height_isX {w : World} {s h : Nat} {L : List Nd} {x : Int} {nx : Nat → Nat → Option Nat} (H : IsSk w s h L x nx) :
    Calls Try.prog 37 #[.pointer (some ⟨s, 0, none⟩)] w fun e w' => e = .returned (.int .i64 (drH (drX x) : Nat)) ∧ IsSk w' s h L (drX x) nx ∧ KeepS (fun i => i = s) w w' := by
  have HH := Lib.hid H
  have c2 := H.c2
  have z2 := H.z 2
  clear H
  go_enter Try.func37, Try.ntmps37
  go_upto_region 2 with fail
  go_cut [] (fun wx => IsSk wx s h L (bits BinOp.xor .u64 x (IntKind.u64.wrap (x * 8192))) nx ∧ KeepS (fun i => i = s) w wx)
  case first =>
    go_wp2_with fail
    refine wp_region_still_tail 12 (by kernel_rfl) (by kernel_rfl) ?_
    simp only [List.take_succ_cons, List.take_zero, List.drop_succ_cons, List.drop_zero]
    iterate 12 still_step
    refine wpStill_nil ?_
    change wpList _ _ _ _ _ w.drew
    go_wp2_with fail
    go_meet
    exact ⟨(HH.out.setX _).drew, ((KeepS.refl (fun i => i = s) _).set (p := ⟨s, 2, none⟩) (.inl rfl) _).drew⟩
  clear c2 z2
  obtain ⟨H1, K1⟩ := hcut
  obtain ⟨x1, hx1⟩ : ∃ y, (bits BinOp.xor .u64 x (IntKind.u64.wrap (x * 8192))) = y := ⟨_, rfl⟩
  rw [hx1] at H1
  have HH1 := Lib.hid H1; have HK1 := Lib.hid K1
  obtain ⟨w1, rfl⟩ : ∃ w1, w1 = wc := ⟨_, rfl⟩
  have c2 := H1.c2
  have z2 := H1.z 2
  clear H1 K1
  go_upto_region 3 with fail
  go_cut [] (fun wx => IsSk wx s h L (bits BinOp.xor .u64 x1 (x1 / 128)) nx ∧ KeepS (fun i => i = s) w wx)
  case first =>
    refine wp_region_still_tail 12 (by kernel_rfl) (by kernel_rfl) ?_
    simp only [List.take_succ_cons, List.take_zero, List.drop_succ_cons, List.drop_zero]
    iterate 12 still_step
    refine wpStill_nil ?_
    change wpList _ _ _ _ _ w1.drew
    go_wp2_with fail
    go_meet
    exact ⟨(HH1.out.setX _).drew, (HK1.out.set (p := ⟨s, 2, none⟩) (.inl rfl) _).drew⟩
  clear c2 z2
  obtain ⟨H2, K2⟩ := hcut
  obtain ⟨x2, hx2⟩ : ∃ y, (bits BinOp.xor .u64 x1 (x1 / 128)) = y := ⟨_, rfl⟩
  rw [hx2] at H2
  have HH2 := Lib.hid H2; have HK2 := Lib.hid K2
  obtain ⟨w2, rfl⟩ : ∃ w2, w2 = wc := ⟨_, rfl⟩
  have c2 := H2.c2
  have z2 := H2.z 2
  clear H2 K2
  go_upto_region 4 with fail
  go_cut [] (fun wx => IsSk wx s h L (bits BinOp.xor .u64 x2 (IntKind.u64.wrap (x2 * 131072))) nx ∧ KeepS (fun i => i = s) w wx)
  case first =>
    refine wp_region_still_tail 12 (by kernel_rfl) (by kernel_rfl) ?_
    simp only [List.take_succ_cons, List.take_zero, List.drop_succ_cons, List.drop_zero]
    iterate 12 still_step
    refine wpStill_nil ?_
    change wpList _ _ _ _ _ w2.drew
    go_wp2_with fail
    go_meet
    exact ⟨(HH2.out.setX _).drew, (HK2.out.set (p := ⟨s, 2, none⟩) (.inl rfl) _).drew⟩
  clear c2 z2
  obtain ⟨H3, K3⟩ := hcut
  obtain ⟨x3, hx3⟩ : ∃ y, (bits BinOp.xor .u64 x2 (IntKind.u64.wrap (x2 * 131072))) = y := ⟨_, rfl⟩
  rw [hx3] at H3
  have HH3 := Lib.hid H3; have HK3 := Lib.hid K3
  obtain ⟨w3, rfl⟩ : ∃ w3, w3 = wc := ⟨_, rfl⟩
  have c2 := H3.c2
  have z2 := H3.z 2
  have HX3 := Lib.hid (show drX x = x3 by unfold drX; simp only [hx1, hx2, hx3])
  clear H3 K3 hx1 hx2 hx3
  obtain ⟨gh, hgh⟩ : ∃ g, drH x3 = g := ⟨_, rfl⟩
  have HGH := Lib.hid hgh
  clear hgh
  go_wp2_with fail
  go_loopw [3, 4] (fun a b wr => wr = w3 ∧ ∃ g : Nat, a = .int .i64 g ∧ b = .int .u64 (x3 / 2 ^ (g - 1)) ∧ 1 ≤ g ∧ g ≤ 8 ∧ hgt x3 g (8 - g) = gh) (fun a _ _ => 8 - (intOf a).toNat)
  case atStart => exact ⟨rfl, 1, rfl, by simp, by omega, by omega, HGH.out⟩
  case round =>
    obtain ⟨rfl, g, rfl, rfl, g1, g2, hg3⟩ := hrel
    have HF := Lib.hid hg3
    have HHALF := Lib.hid (half x3 g1)
    obtain ⟨y, hy⟩ : ∃ y, x3 / 2 ^ (g - 1) = y := ⟨_, rfl⟩
    have HY := Lib.hid hy
    rw [hy]
    clear hg3 hy
    by_cases hb : bits BinOp.and .u64 y 1 = 1
    · have HBT := Lib.hid hb
      by_cases hg : g < 8
      · go_wp2_with fail
        refine ⟨⟨trivial, g + 1, ?_, ?_, by omega, by omega, ?_⟩, ?_⟩
        · congr 1
        · rw [← HHALF.out, HY.out]
        · rw [← HF.out, show 8 - g = 8 - (g + 1) + 1 by omega, hgt_yes (by rw [HY.out]; exact HBT.out)]
        · simp [intOf]; omega
      · have hgb : decide ((g : Int) < 8) = false := decide_eq_false (by omega)
        have HG8 := Lib.hid hg
        clear hg
        go_wp2_with fail
        go_ret
        exact ⟨by rw [HX3.out, HGH.out, ← HF.out, show 8 - g = 0 by have := HG8.out; omega]; rfl, by rw [HX3.out]; exact HH3.out, HK3.out⟩
    · have HBF := Lib.hid hb
      have hbb : decide (bits BinOp.and .u64 y 1 = 1) = false := decide_eq_false hb
      go_wp2_with fail
      go_ret
      exact ⟨by rw [HX3.out, HGH.out, ← HF.out, hgt_no _ (by rw [HY.out]; exact HBF.out)]; rfl, by rw [HX3.out]; exact HH3.out, HK3.out⟩
end Go.Proofs.Ytdolmkiiflhehaa.M
end

section
/- The reference's draw. -/
set_option linter.unusedVariables false
set_option linter.unusedSimpArgs false
set_option maxRecDepth 100000
namespace Go.Proofs.Ytdolmkiiflhehaa.M
open Go.RowKit Go.Proofs.YtdolmkiiflhehaaW.PrintWords
set_option maxHeartbeats 1000000 in
theorem rdraw_is {w : World} {q : Nat} {S : Nat → Prop} {vL vH : Value} {XL : List T4} {XH : List Int} {x : Int} (H : IsRv w q S vL XL vH XH x) :
    Calls Try.prog 75 #[.pointer (some ⟨q, 0, none⟩)] w fun e w' => e = .returned (.int .i64 (drH (drX x) : Nat)) ∧ IsRv w' q S vL XL vH XH (drX x) ∧ KeepS (fun i => i = q) w w' := by
  have HH := Lib.hid H
  have c2 := H.cells.2.2
  have z2 := H.fz 2
  clear H
  go_enter Try.func75, Try.ntmps75
  go_upto_region 1 with fail
  go_cut [] (fun wx => IsRv wx q S vL XL vH XH (bits BinOp.xor .u64 x (IntKind.u64.wrap (x * 8192))) ∧ KeepS (fun i => i = q) w wx)
  case first =>
    refine wp_region_still_tail 12 (by kernel_rfl) (by kernel_rfl) ?_
    simp only [List.take_succ_cons, List.take_zero, List.drop_succ_cons, List.drop_zero]
    iterate 12 still_step
    refine wpStill_nil ?_
    change wpList _ _ _ _ _ w.drew
    go_wp2_with fail
    go_meet
    exact ⟨(HH.out.setX _).drew, ((KeepS.refl (fun i => i = q) _).set (p := ⟨q, 2, none⟩) (.inl rfl) _).drew⟩
  clear c2 z2
  obtain ⟨H1, K1⟩ := hcut
  obtain ⟨x1, hx1⟩ : ∃ y, (bits BinOp.xor .u64 x (IntKind.u64.wrap (x * 8192))) = y := ⟨_, rfl⟩
  rw [hx1] at H1
  have HH1 := Lib.hid H1; have HK1 := Lib.hid K1
  obtain ⟨w1, rfl⟩ : ∃ w1, w1 = wc := ⟨_, rfl⟩
  have c2 := H1.cells.2.2
  have z2 := H1.fz 2
  clear H1 K1
  go_upto_region 2 with fail
  go_cut [] (fun wx => IsRv wx q S vL XL vH XH (bits BinOp.xor .u64 x1 (x1 / 128)) ∧ KeepS (fun i => i = q) w wx)
  case first =>
    refine wp_region_still_tail 12 (by kernel_rfl) (by kernel_rfl) ?_
    simp only [List.take_succ_cons, List.take_zero, List.drop_succ_cons, List.drop_zero]
    iterate 12 still_step
    refine wpStill_nil ?_
    change wpList _ _ _ _ _ w1.drew
    go_wp2_with fail
    go_meet
    exact ⟨(HH1.out.setX _).drew, (HK1.out.set (p := ⟨q, 2, none⟩) (.inl rfl) _).drew⟩
  clear c2 z2
  obtain ⟨H2, K2⟩ := hcut
  obtain ⟨x2, hx2⟩ : ∃ y, (bits BinOp.xor .u64 x1 (x1 / 128)) = y := ⟨_, rfl⟩
  rw [hx2] at H2
  have HH2 := Lib.hid H2; have HK2 := Lib.hid K2
  obtain ⟨w2, rfl⟩ : ∃ w2, w2 = wc := ⟨_, rfl⟩
  have c2 := H2.cells.2.2
  have z2 := H2.fz 2
  clear H2 K2
  go_upto_region 3 with fail
  go_cut [] (fun wx => IsRv wx q S vL XL vH XH (bits BinOp.xor .u64 x2 (IntKind.u64.wrap (x2 * 131072))) ∧ KeepS (fun i => i = q) w wx)
  case first =>
    refine wp_region_still_tail 12 (by kernel_rfl) (by kernel_rfl) ?_
    simp only [List.take_succ_cons, List.take_zero, List.drop_succ_cons, List.drop_zero]
    iterate 12 still_step
    refine wpStill_nil ?_
    change wpList _ _ _ _ _ w2.drew
    go_wp2_with fail
    go_meet
    exact ⟨(HH2.out.setX _).drew, (HK2.out.set (p := ⟨q, 2, none⟩) (.inl rfl) _).drew⟩
  clear c2 z2
  obtain ⟨H3, K3⟩ := hcut
  obtain ⟨x3, hx3⟩ : ∃ y, (bits BinOp.xor .u64 x2 (IntKind.u64.wrap (x2 * 131072))) = y := ⟨_, rfl⟩
  rw [hx3] at H3
  have HH3 := Lib.hid H3; have HK3 := Lib.hid K3
  obtain ⟨w3, rfl⟩ : ∃ w3, w3 = wc := ⟨_, rfl⟩
  have c2 := H3.cells.2.2
  have z2 := H3.fz 2
  have HX3 := Lib.hid (show drX x = x3 by unfold drX; simp only [hx1, hx2, hx3])
  clear H3 K3 hx1 hx2 hx3
  obtain ⟨gh, hgh⟩ : ∃ g, drH x3 = g := ⟨_, rfl⟩
  have HGH := Lib.hid hgh
  clear hgh
  go_wp2_with fail
  have HK3' := HK3
  have c2 := HH3.out.cells.2.2
  go_loopw [3] (fun a wr => wr = w3 ∧ ∃ g : Nat, a = .int .i64 g ∧ 1 ≤ g ∧ g ≤ 8 ∧ hgt x3 g (8 - g) = gh) (fun a _ => 8 - (intOf a).toNat)
  case atStart => exact ⟨rfl, 1, rfl, by omega, by omega, HGH.out⟩
  case round =>
    obtain ⟨rfl, g, rfl, g1, g2, hg3⟩ := hrel
    have HF := Lib.hid hg3
    have HG1 := Lib.hid g1
    have i1 : (1 : Int) ≤ (g : Int) := by omega
    clear hg3
    by_cases hg : g < 8
    · have q1 : decide ((g : Int) < 8) = true := decide_eq_true (by omega)
      have q2 : decide (g < 8) = true := decide_eq_true hg
      have HG8 := Lib.hid hg
      by_cases hb : bits BinOp.and .u64 (x3 / 2 ^ (g - 1)) 1 = 1
      · have HBT := Lib.hid hb
        have hbb : (bits BinOp.and .u64 (x3 / 2 ^ (g - 1)) 1 == 1) = true := beq_iff_eq.2 hb
        clear hb hg
        go_wp2_with fail
        go_roundw
        case rel => exact ⟨trivial, g + 1, by go_num, by have := HG8.out; omega, by have := HG8.out; omega, by rw [← HF.out, show 8 - g = 8 - (g + 1) + 1 by have := HG8.out; omega, hgt_yes HBT.out]⟩
        case measure => have := HG8.out; simp [intOf]; omega
      · have HBF := Lib.hid hb
        have hbb : (bits BinOp.and .u64 (x3 / 2 ^ (g - 1)) 1 == 1) = false := beq_eq_false_iff_ne.2 hb
        clear hb hg
        go_wp2_with fail
        go_ret
        exact ⟨by rw [HX3.out, HGH.out, ← HF.out, hgt_no _ HBF.out]; rfl, by rw [HX3.out]; exact HH3.out, HK3.out⟩
    · have q1 : decide ((g : Int) < 8) = false := decide_eq_false (by omega)
      have q2 : decide (g < 8) = false := decide_eq_false hg
      have HG8 := Lib.hid hg
      clear hg
      go_wp2_with fail
      go_ret
      exact ⟨by rw [HX3.out, HGH.out, ← HF.out, show 8 - g = 0 by have := HG8.out; omega]; rfl, by rw [HX3.out]; exact HH3.out, HK3.out⟩
end Go.Proofs.Ytdolmkiiflhehaa.M
end

section
/- Put, to the letter. -/
set_option linter.unusedVariables false
set_option linter.unusedSimpArgs false
set_option maxRecDepth 100000
attribute [local irreducible] Go.wpStill
namespace Go.Proofs.Ytdolmkiiflhehaa.M
open Go.RowKit Go.Proofs.YtdolmkiiflhehaaW.PrintWords Go.Proofs.YtdolmkiiflhehaaW.PrintMore Go.Proofs.YtdolmkiiflhehaaW.PrintLast
def okC (c : CellD) : Bool := decide (0 ≤ c.slot) && decide (c.slot ≤ 1099511627776)
def putL (L : List Nd) (c : CellD) (x : Int) (b : Nat) : List Nd := if okC c = true then (if (getL L c.key).isSome = true then setC L (rank L c.key) c else if L.length < 1048576 then ins L (rank L c.key) ⟨b, c, drH (drX x)⟩ else L) else L
def putX (L : List Nd) (c : CellD) (x : Int) : Int := if okC c = true then (if (getL L c.key).isSome = true then x else if L.length < 1048576 then drX x else x) else x
def putE (L : List Nd) (c : CellD) : Int := if okC c = true then (if (getL L c.key).isSome = true then 0 else if L.length < 1048576 then 0 else 6) else 1
theorem put_bad {L : List Nd} {c : CellD} (x : Int) (b : Nat) (h : okC c = false) : putL L c x b = L ∧ putX L c x = x ∧ putE L c = 1 := by unfold putL putX putE; rw [h]; exact ⟨rfl, rfl, rfl⟩
theorem put_old {L : List Nd} {c d : CellD} (x : Int) (b : Nat) (h : okC c = true) (hg : getL L c.key = some d) : putL L c x b = setC L (rank L c.key) c ∧ putX L c x = x ∧ putE L c = 0 := by unfold putL putX putE; rw [h, hg]; exact ⟨rfl, rfl, rfl⟩
theorem put_new {L : List Nd} {c : CellD} (x : Int) (b : Nat) (h : okC c = true) (hg : getL L c.key = none) (hl : L.length < 1048576) : putL L c x b = ins L (rank L c.key) ⟨b, c, drH (drX x)⟩ ∧ putX L c x = drX x ∧ putE L c = 0 := by
  unfold putL putX putE; rw [h, hg]; simp only [Option.isSome_none, Bool.false_eq_true, if_false, if_true]; rw [if_pos hl, if_pos hl, if_pos hl]; exact ⟨rfl, rfl, rfl⟩
theorem put_full {L : List Nd} {c : CellD} (x : Int) (b : Nat) (h : okC c = true) (hg : getL L c.key = none) (hl : ¬ L.length < 1048576) : putL L c x b = L ∧ putX L c x = x ∧ putE L c = 6 := by
  unfold putL putX putE; rw [h, hg]; simp only [Option.isSome_none, Bool.false_eq_true, if_false, if_true]; rw [if_neg hl, if_neg hl, if_neg hl]; exact ⟨rfl, rfl, rfl⟩
def PutX (w : World) (s h : Nat) (L : List Nd) (c : CellD) (x : Int) (e : Ending) (w' : World) : Prop :=
  ∃ (b : Nat) (nx' : Nat → Nat → Option Nat), e = .returned (.int .i64 (putE L c)) ∧ IsSk w' s h (putL L c x b) (putX L c x) nx' ∧ KeepS (IsSk.Own s h L) w w' ∧ (∀ i, IsSk.Own s h (putL L c x b) i → IsSk.Own s h L i ∨ w.heap.size ≤ i)
set_option maxHeartbeats 1000000 in
theorem put_isX {w : World} {s h : Nat} {L : List Nd} {x : Int} {nx : Nat → Nat → Option Nat} (H : IsSk w s h L x nx) (hL : L.length ≤ 1048576) (c : CellD) :
    Calls Try.prog 12 #[.pointer (some ⟨s, 0, none⟩), celV c] w fun e w' => PutX w s h L c x e w' := by
  have HB := Lib.hid (show Below w.heap.size w (w.alloc (.cells #[.int .i32 c.table, .int .i64 c.row, .int .i64 c.value, .int .i64 c.slot] 31)) from (Below.refl _ _).alloc (Nat.le_refl _) _)
  have HA := H.below HB.out
  have b0 := heap_alloc_new w (.cells #[.int .i32 c.table, .int .i64 c.row, .int .i64 c.value, .int .i64 c.slot] 31)
  have HSZ := Lib.hid (show (w.alloc (.cells #[.int .i32 c.table, .int .i64 c.row, .int .i64 c.value, .int .i64 c.slot] 31)).heap.size = w.heap.size + 1 by simp)
  unfold celV
  go_enter Try.func12, Try.ntmps12
  go_wp2_with fail
  obtain ⟨w2, hw2⟩ : ∃ w2, w.alloc (.cells #[.int .i32 c.table, .int .i64 c.row, .int .i64 c.value, .int .i64 c.slot] 31) = w2 := ⟨_, rfl⟩
  rw [hw2] at HB HA b0 HSZ ⊢
  clear hw2
  have HH := Lib.hid HA
  have HW := Lib.hid H
  have HX := Lib.hid b0
  have c0 : w2.cell? ⟨w.heap.size, 0, none⟩ = some (.int .i32 c.table) := by simp [World.cell?, b0]
  have c1 : w2.cell? ⟨w.heap.size, 1, none⟩ = some (.int .i64 c.row) := by simp [World.cell?, b0]
  have c2 : w2.cell? ⟨w.heap.size, 2, none⟩ = some (.int .i64 c.value) := by simp [World.cell?, b0]
  have c3 : w2.cell? ⟨w.heap.size, 3, none⟩ = some (.int .i64 c.slot) := by simp [World.cell?, b0]
  clear HA H b0
  by_cases s1 : c.slot < 0
  · have HS := Lib.hid s1
    have s1b : decide (c.slot < 0) = true := decide_eq_true s1
    clear s1
    refine (none_is HH.out).mono ?_
    rintro e w' ⟨rfl, rfl⟩
    go_wp2_with fail
    go_ret
    obtain ⟨e1, e2, e3⟩ := put_bad (L := L) (c := c) x 0 (by unfold okC; rw [Bool.and_eq_false_iff]; left; have := HS.out; simp; omega)
    exact ⟨0, nx, by rw [e3]; rfl, by rw [e1, e2]; exact HH.out, KeepS.of_below _ HB.out, fun i hi => .inl (by rw [e1] at hi; exact hi)⟩
  have HS1 := Lib.hid s1
  have s1b : decide (c.slot < 0) = false := decide_eq_false s1
  by_cases s2 : c.slot > 1099511627776
  · have HS := Lib.hid s2
    have s2b : decide (1099511627776 < c.slot) = true := decide_eq_true s2
    clear s1 s2
    refine (none_is HH.out).mono ?_
    rintro e w' ⟨rfl, rfl⟩
    go_wp2_with fail
    go_ret
    obtain ⟨e1, e2, e3⟩ := put_bad (L := L) (c := c) x 0 (by unfold okC; rw [Bool.and_eq_false_iff]; right; have := HS.out; simp; omega)
    exact ⟨0, nx, by rw [e3]; rfl, by rw [e1, e2]; exact HH.out, KeepS.of_below _ HB.out, fun i hi => .inl (by rw [e1] at hi; exact hi)⟩
  have HS2 := Lib.hid s2
  have s2b : decide (1099511627776 < c.slot) = false := decide_eq_false (by omega)
  clear s1 s2
  refine (none_is HH.out).mono ?_
  rintro e w' ⟨rfl, rfl⟩
  go_wp2_with fail
  refine (path_is HH.out hL c.key).mono ?_
  rintro e w3 ⟨rfl, hb⟩
  have HB3 := Lib.hid hb
  have h1 := HH.out.below hb
  have hm := rank_le L c.key
  have hp := pre_zero h1.store hm
  have n1 := (h1.nds (rank L c.key) hm).next (l := 0) (by omega)
  rw [h1.links _ hm 0 (by rw [← hp]; exact pre_hi L (by omega) _), nxt_at h1.store hm] at n1
  have n2 := (h1.nds _ hm).lt
  have hcs : ∀ i, w3.cell? ⟨w.heap.size, i, none⟩ = w'.cell? ⟨w.heap.size, i, none⟩ := fun i => hb.cell (p := ⟨w.heap.size, i, none⟩) (by rw [HSZ.out]; show w.heap.size < _; omega)
  have d0 := (hcs 0).trans c0; have d1 := (hcs 1).trans c1; have d2 := (hcs 2).trans c2; have d3 := (hcs 3).trans c3
  clear h1 hm hb hcs c0 c1 c2 c3
  obtain ⟨pb, hpb⟩ : ∃ pb, adr h L (rank L c.key) = pb := ⟨_, rfl⟩
  rw [hpb] at n1 n2
  have hp2 : adr h L (pre L 0 (rank L c.key)) = pb := by rw [hp]; exact hpb
  have HP2 := Lib.hid hp2
  have HA8 := Lib.hid (heap_alloc_new w3 (.cells (ptrArr (fun l => some (adr h L (pre L l (rank L c.key))))) 82))
  unfold ptrArr
  simp only [np]
  simp only [hp2]
  clear hpb hp hp2
  have n3 : w3.cell? ⟨pb, 4, none⟩ = some (np (atB L c.key)) := n1
  obtain ⟨r, hr⟩ : ∃ r, np (atB L c.key) = r := ⟨_, rfl⟩
  rw [hr] at n3
  have HR := Lib.hid hr
  have hlt : w.heap.size < w3.heap.size := by have := HB3.out.size; rw [HSZ.out] at this; omega
  clear n1 hr
  go_wp2_with fail
  have HB4 := Lib.hid (HB3.out.alloc HB3.out.size (.cells (ptrArr (fun l => some (adr h L (pre L l (rank L c.key))))) 82))
  have hE : w3.alloc (.cells #[(.pointer (some ⟨pb, 0, none⟩)), (.pointer (some ⟨adr h L (pre L 1 (rank L c.key)), 0, none⟩)), (.pointer (some ⟨adr h L (pre L 2 (rank L c.key)), 0, none⟩)), (.pointer (some ⟨adr h L (pre L 3 (rank L c.key)), 0, none⟩)), (.pointer (some ⟨adr h L (pre L 4 (rank L c.key)), 0, none⟩)), (.pointer (some ⟨adr h L (pre L 5 (rank L c.key)), 0, none⟩)), (.pointer (some ⟨adr h L (pre L 6 (rank L c.key)), 0, none⟩)), (.pointer (some ⟨adr h L (pre L 7 (rank L c.key)), 0, none⟩))] 82) = w3.alloc (.cells (ptrArr (fun l => some (adr h L (pre L l (rank L c.key))))) 82) := by rw [← HP2.out]; rfl
  rw [hE]
  obtain ⟨w4, hw4⟩ : ∃ w4, w3.alloc (.cells (ptrArr (fun l => some (adr h L (pre L l (rank L c.key))))) 82) = w4 := ⟨_, rfl⟩
  rw [hw4] at HA8 HB4 ⊢
  clear hE hw4 n2 n3 d0 d1 d2 d3 hlt
  have HH4 := Lib.hid (HH.out.below HB4.out)
  have HX4 := Lib.hid ((HB4.out.block w.heap.size (by rw [HSZ.out]; omega)).trans HX.out)
  have HP4 := Lib.hid (show w'.heap.size ≤ w3.heap.size from HB3.out.size)
  obtain ⟨P, hP⟩ : ∃ P, w3.heap.size = P := ⟨_, rfl⟩
  rw [hP] at HA8 HP4 ⊢
  clear hP HB3
  go_cut [7, 44] (fun a b wx => Below w4.heap.size w4 wx ∧ PutT L c.key a b)
  case first =>
    have b0 := HX4.out
    have c0 : w4.cell? ⟨w.heap.size, 0, none⟩ = some (.int .i32 c.table) := by simp [World.cell?, b0]
    have c1 : w4.cell? ⟨w.heap.size, 1, none⟩ = some (.int .i64 c.row) := by simp [World.cell?, b0]
    clear b0
    rcases getB HH4.out c.key with ⟨h1, h2⟩ | ⟨e, h1, h2, h3, h4⟩
    · have HG := Lib.hid h2
      have hr : r = .pointer none := by rw [← HR.out, h1]; rfl
      rw [hr]
      clear h1 h2 hr HR
      refine wp_region_still_tail 11 (by kernel_rfl) (by kernel_rfl) ?_
      simp only [List.take_succ_cons, List.take_zero, List.drop_succ_cons, List.drop_zero]
      iterate 11 still_step
      refine wpStill_nil ?_
      change wpList _ _ _ _ _ w4.drew
      go_wp2_with fail
      go_meet
      exact ⟨(Below.refl _ _).drew, false, rfl, .inl ⟨rfl, HG.out⟩⟩
    · have n0 := h3.c0
      have n1 := h3.c1
      have HG := Lib.hid h4
      have HM := Lib.hid h2
      have hr : r = .pointer (some ⟨e.b, 0, none⟩) := by rw [← HR.out, h1]; rfl
      rw [hr]
      clear h1 h2 h3 h4 hr HR
      by_cases hk : e.c.key = c.key
      · have hq : ∀ W : World, (Op.equalIn 10000 29 (.agg #[.int .i32 e.c.table, .int .i64 e.c.row]) (.agg #[.int .i32 c.table, .int .i64 c.row])).run Try.prog W = .ok true W := fun W => by
          have := eqk_self e.c.key W
          rw [show keyV e.c.key = .agg #[.int .i32 c.table, .int .i64 c.row] by rw [hk]; rfl] at this
          have h2 : keyV e.c.key = .agg #[.int .i32 e.c.table, .int .i64 e.c.row] := rfl
          rw [show (Value.agg #[.int .i32 e.c.table, .int .i64 e.c.row]) = .agg #[.int .i32 c.table, .int .i64 c.row] by rw [← h2, hk]; rfl]
          exact this
        have HE := Lib.hid hk
        clear hk
        refine wp_region_still_tail 11 (by kernel_rfl) (by kernel_rfl) ?_
        simp only [List.take_succ_cons, List.take_zero, List.drop_succ_cons, List.drop_zero]
        iterate 11 still_step
        refine wpStill_nil ?_
        change wpList _ _ _ _ _ w4.drew
        go_wp2_with fail
        go_meet
        exact ⟨(Below.refl _ _).drew, true, rfl, .inr ⟨rfl, e, HM.out, HE.out, rfl⟩⟩
      · have hq : ∀ W : World, (Op.equalIn 10000 29 (.agg #[.int .i32 e.c.table, .int .i64 e.c.row]) (.agg #[.int .i32 c.table, .int .i64 c.row])).run Try.prog W = .ok false W := fun W => eqk_ne hk W
        have HE := Lib.hid (show getL L c.key = none by rw [HG.out, if_neg hk])
        clear hk
        refine wp_region_still_tail 11 (by kernel_rfl) (by kernel_rfl) ?_
        simp only [List.take_succ_cons, List.take_zero, List.drop_succ_cons, List.drop_zero]
        iterate 11 still_step
        refine wpStill_nil ?_
        change wpList _ _ _ _ _ w4.drew
        go_wp2_with fail
        go_meet
        exact ⟨(Below.refl _ _).drew, false, rfl, .inl ⟨rfl, HE.out⟩⟩
  case rest =>
    obtain ⟨hB5, d, rfl, hd⟩ := hcut
    have HB5 := Lib.hid hB5
    obtain ⟨w5, rfl⟩ : ∃ w5, w5 = wc := ⟨_, rfl⟩
    clear hB5
    rcases hd with ⟨rfl, hg⟩ | ⟨rfl, e, he, hk, rfl⟩
    · have HG := Lib.hid hg
      have HH5 := Lib.hid (HH4.out.below HB5.out)
      have f1 := HH5.out.c1
      have HSL := Lib.hid (show okC c = true by unfold okC; rw [Bool.and_eq_true]; have := HS1.out; have := HS2.out; constructor <;> (apply decide_eq_true; omega))
      clear hg
      by_cases hln : L.length < 1048576
      rotate_left
      · have HLN := Lib.hid hln
        have hfull : decide ((1048576 : Int) ≤ (L.length : Int)) = true := decide_eq_true (by omega)
        clear hln
        go_wp2_with fail
        go_ret
        obtain ⟨e1, e2, e3⟩ := put_full (L := L) (c := c) x 0 HSL.out HG.out HLN.out
        exact ⟨0, nx, by rw [e3]; rfl, by rw [e1, e2]; exact HH5.out, ((KeepS.of_below _ HB.out).then_below HB4.out).then_below HB5.out, fun i hi => .inl (by rw [e1] at hi; exact hi)⟩
      have HLN := Lib.hid hln
      have hfull : decide ((1048576 : Int) ≤ (L.length : Int)) = false := decide_eq_false (by omega)
      clear hln
      go_wp2_with fail
      have HX5 := Lib.hid ((HB5.out.block w.heap.size (by have := HB4.out.size; rw [HSZ.out] at this; omega)).trans HX4.out)
      have HL5 := Lib.hid (show w.heap.size < w5.drew.heap.size from by have h1 := HB4.out.size; have h2 := HB5.out.size; rw [HSZ.out] at h1; show w.heap.size < w5.heap.size; omega)
      have hws : w.heap.size ≠ s := by have := HW.out.slt; omega
      have HA5 := Lib.hid ((HB5.out.block P (Array.getElem?_eq_some_iff.1 HA8.out).1).trans HA8.out)
      clear f1 hfull HX HX4 HA8
      refine start_ (n := 6) (S := (fun W => W.cell? ⟨w.heap.size, 0, none⟩ = some (.int .i32 c.table) ∧ W.cell? ⟨w.heap.size, 1, none⟩ = some (.int .i64 c.row) ∧ W.cell? ⟨w.heap.size, 2, none⟩ = some (.int .i64 c.value) ∧ W.cell? ⟨w.heap.size, 3, none⟩ = some (.int .i64 c.slot))) (ds := []) #[false, false, false, false, false, false] (by kernel_rfl) rfl rfl (boxC (show w5.drew.heap[w.heap.size]? = _ from HX5.out)) (fun hHeld => ?_)
      refine take_ (i := 0) (N := some 54) (v := ?_) (a' := ?_) #[true, false, false, false, false, false] rfl rfl (by kernel_rfl) (fun _ _ _ h => h) (Or.inl ⟨by rfl, ?_⟩) hHeld ?_ ?_
      rotate_left
      · intro W hS
        go_simp
        try with_reducible rfl
      rotate_left
      · simp only [Act.put, List.setIfInBounds_toArray, List.set_cons_zero, List.set_cons_succ, i64_w, i32_w]
        rfl
      refine pure_ (i := 1) (N := some 55) (v := ?_) (a' := ?_) #[true, true, false, false, false, false] rfl rfl (by kernel_rfl) (fun _ _ _ h => h) (Or.inl ⟨by rfl, ?_⟩) ?_ ?_
      rotate_left
      · intro W
        go_simp
        try with_reducible rfl
      rotate_left
      · simp only [Act.put, List.setIfInBounds_toArray, List.set_cons_zero, List.set_cons_succ, i64_w, i32_w]
        rfl
      refine one_ (i := 2) (N := some 56) #[true, true, true, false, false, false] rfl rfl (by kernel_rfl) (by decide) (fun K hK => ?_)
      go_simp
      refine (height_isX HH5.out.drew).mono ?_
      rintro e w6 ⟨rfl, h6, k6⟩
      obtain ⟨g1, g2⟩ := drH_le (drX x)
      obtain ⟨y, hy⟩ : ∃ y, drX x = y := ⟨_, rfl⟩
      obtain ⟨g, hg⟩ : ∃ g, drH (drX x) = g := ⟨_, rfl⟩
      have HYG := Lib.hid (And.intro hy hg)
      rw [hg] at g1 g2 ⊢
      rw [hy] at h6
      clear hy hg
      have HH6 := Lib.hid h6; have HK6 := Lib.hid k6; have HG12 := Lib.hid (And.intro g1 g2)
      clear g1 g2 h6 k6
      have HX6 := Lib.hid ((HK6.out.block w.heap.size HL5.out hws).trans HX5.out)
      have HL6 := Lib.hid (show w.heap.size < w6.heap.size from Nat.lt_of_lt_of_le HL5.out HK6.out.size)
      refine hK.out _ _ (boxC HX6.out) (fun hHeld => ?_)
      refine pure_ (i := 3) (N := some 57) (v := ?_) (a' := ?_) #[true, true, true, true, false, false] rfl rfl (by kernel_rfl) (fun _ _ _ h => h) (Or.inl ⟨by rfl, ?_⟩) ?_ ?_
      rotate_left
      · intro W
        go_simp
        try with_reducible rfl
      rotate_left
      · simp only [Act.put, List.setIfInBounds_toArray, List.set_cons_zero, List.set_cons_succ, i64_w, i32_w]
        rfl
      refine one_ (i := 4) (N := some 58) #[true, true, true, true, true, false] rfl rfl (by kernel_rfl) (by decide) (fun K hK => ?_)
      go_simp
      refine hK.out _ _ (boxC ((Below.heap_alloc _ _ _ HL6.out).trans HX6.out)) (fun hHeld => ?_)
      refine pure_ (i := 5) (N := some 8) (v := ?_) (a' := ?_) #[true, true, true, true, true, true] rfl rfl (by kernel_rfl) (fun _ _ _ h => h) (Or.inl ⟨by rfl, ?_⟩) ?_ ?_
      rotate_left
      · intro W
        go_simp
        try with_reducible rfl
      rotate_left
      · simp only [Act.put, List.setIfInBounds_toArray, List.set_cons_zero, List.set_cons_succ, i64_w, i32_w]
        rfl
      refine done_ (by kernel_rfl) ?_
      have HN7 := Lib.hid (show NodeIs (w6.alloc (.cells (ndArr c (fun _ => none) g) 84)) w6.heap.size c (fun _ => none) g from ⟨heap_alloc_new w6 _⟩)
      have HH7 := Lib.hid (HH6.out.alloc (.cells (ndArr c (fun _ => none) g) 84))
      have HPL := Lib.hid (show P < w6.heap.size from Nat.lt_of_lt_of_le (Array.getElem?_eq_some_iff.1 HA5.out).1 HK6.out.size)
      have HPs := Lib.hid (show P ≠ s from by have := HH.out.slt; have := HP4.out; omega)
      have HA7 := Lib.hid ((Below.heap_alloc w6 (.cells (ndArr c (fun _ => none) g) 84) P HPL.out).trans ((HK6.out.block P (Array.getElem?_eq_some_iff.1 HA5.out).1 HPs.out).trans HA5.out))
      have HK7 := Lib.hid ((((KeepS.of_below (IsSk.Own s h L) HB.out).then_below HB4.out).then_below HB5.out).drew.trans ((HK6.out.mono (S' := IsSk.Own s h L) (fun i hi => .inl hi)).alloc (.cells (ndArr c (fun _ => none) g) 84)))
      have hE7 : w6.alloc (.cells #[.int .i32 c.table, .int .i64 c.row, .int .i64 c.value, .int .i64 c.slot, .pointer none, .pointer none, .pointer none, .pointer none, .pointer none, .pointer none, .pointer none, .pointer none, .int .i64 g] 84) = w6.alloc (.cells (ndArr c (fun _ => none) g) 84) := rfl
      rw [hE7]
      have HBX := Lib.hid (show ∀ i, IsSk.Own s h L i → i < w6.heap.size from fun i hi => HH6.out.own_lt hi)
      have HWB := Lib.hid (show w.heap.size ≤ w6.heap.size from Nat.le_of_lt HL6.out)
      obtain ⟨w7, hw7⟩ : ∃ w7, w6.alloc (.cells (ndArr c (fun _ => none) g) 84) = w7 := ⟨_, rfl⟩
      obtain ⟨bx, hbx⟩ : ∃ bx, w6.heap.size = bx := ⟨_, rfl⟩
      rw [hw7] at HN7 HH7 HA7 HK7 ⊢
      rw [hbx] at HN7 HPL HBX HWB ⊢
      clear hE7 hw7 hbx HX6 HL6 HH6 HK6 HA5 HX5 HL5 HH5 hHeld
      have n12 := HN7.out.c12
      go_wp2_with fail
      go_loopw [63] (fun i wr => PutL s h L y nx (rank L c.key) ⟨bx, c, g⟩ P w7 i wr) (fun i _ => g - (intOf i).toNat)
      case atStart =>
        exact ⟨0, rfl, Nat.zero_le _, InsI.zero HH7.out (e := ⟨bx, c, g⟩) (fun hx => absurd (HBX.out bx (.inr hx)) (Nat.lt_irrefl _)) HN7.out _, HA7.out, KeepS.refl _ _⟩
      case round =>
        obtain ⟨j, rfl, hj, hI, hA, hK⟩ := hrel
        have HI := Lib.hid hI; have HAj := Lib.hid hA; have HKj := Lib.hid hK
        clear hI hA hK n12
        by_cases hlt : j < g
        · have hm := rank_le L c.key
          have hp : pre L j (rank L c.key) ≤ L.length := Nat.le_trans (pre_le L j _) hm
          have hj8 : j < 8 := Nat.lt_of_lt_of_le hlt HG12.out.2
          have hpb : adr h L (pre L j (rank L c.key)) ≠ bx := fun e' => absurd (HBX.out bx (.inr (e' ▸ adr_mem h L hp))) (Nat.lt_irrefl _)
          have hPb : P ≠ bx := by have := HPL.out; omega
          have hat := (HI.out.nds _ hp).next hj8
          rw [insJ_at hpb] at hat
          have hzp := (HI.out.nds _ hp).z (4 + j)
          have a3 := HI.out.nd.next hj8
          have z3 := HI.out.nd.z (4 + j)
          have a1 : wr.cell? ⟨P, j, none⟩ = some (.pointer (some ⟨adr h L (pre L j (rank L c.key)), 0, none⟩)) := by
            have := ptrArr_get (fun l => some (adr h L (pre L l (rank L c.key)))) hj8
            simp [World.cell?, HAj.out, this, np]
          have HST := Lib.hid (show InsI ((wr.drew.setCell ⟨bx, 4 + j, none⟩ (np (nx (adr h L (pre L j (rank L c.key))) j))).setCell ⟨adr h L (pre L j (rank L c.key)), 4 + j, none⟩ (np (some bx))) s h L y nx (rank L c.key) ⟨bx, c, g⟩ (j + 1) from
            (HI.out.move (w' := wr.drew) (fun _ _ => rfl)).step HH7.out.apart HH7.out.sne hm (fun hx => absurd (HBX.out bx (.inr hx)) (Nat.lt_irrefl _)) (fun e' => absurd (HBX.out bx (.inl e')) (Nat.lt_irrefl _)) hlt HG12.out.2)
          have HOW := Lib.hid (IsSk.own_adr s h L hp)
          have HPO := Lib.hid (show P ≠ adr h L (pre L j (rank L c.key)) from fun e' => absurd (HH.out.own_lt (HPx HOW.out e'.symm)) (by have := HP4.out; omega))
          obtain ⟨pa, hpa⟩ : ∃ pa, adr h L (pre L j (rank L c.key)) = pa := ⟨_, rfl⟩
          rw [hpa] at hpb hat hzp a1 HST HOW HPO
          obtain ⟨nv, hnv⟩ : ∃ nv, np (nx pa j) = .pointer nv := np_ptr _
          rw [hnv] at hat HST
          obtain ⟨ov, hov⟩ : ∃ ov, np (insJ nx h L (rank L c.key) ⟨bx, c, g⟩ j bx j) = ov := ⟨_, rfl⟩
          have a3' : wr.cell? ⟨bx, 4 + j, none⟩ = some ov := by rw [← hov]; exact a3
          have z3' : wr.frozen? ⟨bx, 4 + j, none⟩ = false := z3
          have g0 : (0 : Int) ≤ (j : Int) := by omega
          have g8 : (j : Int) < 8 := by omega
          have gl : (j : Int) < (g : Int) := by omega
          clear hm hp hnv hov hpa a3 z3
          go_wp2_with fail
          go_cut [] (fun wx => wx = wr.drew.setCell ⟨bx, 4 + j, none⟩ (.pointer nv))
          case first =>
            refine wp_region_still_tail 13 (by kernel_rfl) (by kernel_rfl) ?_
            simp only [List.take_succ_cons, List.take_zero, List.drop_succ_cons, List.drop_zero]
            iterate 13 still_step
            refine wpStill_nil ?_
            change wpList _ _ _ _ _ wr.drew
            go_wp2_with fail
            go_meet
            rfl
          case rest =>
            have HWC := Lib.hid hcut
            have b1 : wc.cell? ⟨P, j, none⟩ = some (.pointer (some ⟨pa, 0, none⟩)) := by rw [hcut, World.cell?_setCell_other _ _ _ _ (by simp [hPb])]; exact a1
            have b2 : wc.cell? ⟨pa, 4 + j, none⟩ = some (.pointer nv) := by rw [hcut, World.cell?_setCell_other _ _ _ _ (by simp [hpb])]; exact hat
            have zb : wc.frozen? ⟨pa, 4 + j, none⟩ = false := by rw [hcut, World.frozen?_setCell]; exact hzp
            clear hcut a1 hat hzp a3' z3'
            go_wp2_with fail
            go_roundw
            case rel =>
              refine ⟨j + 1, by go_num, hlt, ?_, ?_, ?_⟩
              · rw [HWC.out]; exact HST.out
              · rw [HWC.out]
                exact (Below.heap_setCell _ _ _ P (by exact HPO.out)).trans ((Below.heap_setCell _ _ _ P (by exact hPb)).trans HAj.out)
              · rw [HWC.out]
                exact (HKj.out.drew.set (p := ⟨bx, 4 + j, none⟩) (.inl (.inr rfl)) _).set (p := ⟨pa, 4 + j, none⟩) (.inl (.inl HOW.out)) _
            case measure => simp [intOf]; omega
        · have hjg : j = g := by simp only at hj; omega
          subst hjg
          have hlt' : decide ((j : Int) < (j : Int)) = false := decide_eq_false (by omega)
          have s1 : wr.cell? ⟨s, 1, none⟩ = some (.int .i64 L.length) := by simp [World.cell?, HI.out.sh]
          have zs : wr.frozen? ⟨s, 1, none⟩ = false := by simp [World.frozen?, HI.out.sh]
          clear hlt hj
          go_wp2_with fail
          go_ret
          have hm := rank_le L c.key
          have hbx : bx ∉ h :: L.map (·.b) := fun hx => absurd (HBX.out bx (.inr hx)) (Nat.lt_irrefl _)
          have hbs : bx ≠ s := fun e' => absurd (HBX.out bx (.inl e')) (Nat.lt_irrefl _)
          have hsl : (decide (0 ≤ c.slot) && decide (c.slot ≤ 1099511627776)) = true := by rw [Bool.and_eq_true]; have := HS1.out; have := HS2.out; constructor <;> (apply decide_eq_true; omega)
          have hd := InsI.done (e := ⟨bx, c, j⟩) HI.out HH7.out.links HH7.out.apart HH7.out.store HH7.out.sne rfl hm hbx hbs HG12.out.1 HG12.out.2 HG.out
          obtain ⟨e1, e2, e3⟩ := put_new (L := L) (c := c) x bx HSL.out HG.out HLN.out
          rw [HYG.out.2] at e1
          rw [HYG.out.1] at e2
          refine ⟨bx, insJ nx h L (rank L c.key) ⟨bx, c, j⟩ j, by rw [e3]; rfl, ?_, ?_, ?_⟩
          · rw [e1, e2]; exact hd
          · refine KeepS.set ?_ (p := ⟨s, 1, none⟩) (.inl (.inl rfl)) _
            refine ⟨HKj.out.os.trans HK7.out.os, HKj.out.tape.trans HK7.out.tape, HKj.out.output.trans HK7.out.output, Nat.le_trans HK7.out.size HKj.out.size, fun i hi hn => ?_⟩
            exact (HKj.out.block i (Nat.lt_of_lt_of_le hi HK7.out.size) (by rintro (e' | e'); exact hn e'; have := HWB.out; have e2 : i = bx := e'; omega)).trans (HK7.out.block i hi hn)
          · intro i hi
            rw [e1] at hi
            rcases hi with hi | hi
            · exact .inl (.inl hi)
            · rcases List.mem_cons.1 hi with hi | hi
              · exact .inl (.inr (hi ▸ List.mem_cons_self))
              · obtain ⟨e', h1, h2⟩ := List.mem_map.1 hi
                rcases ins_mem.1 h1 with rfl | h3
                · exact .inr (by rw [← h2]; exact HWB.out)
                · exact .inl (.inr (List.mem_cons_of_mem _ (List.mem_map.2 ⟨e', h3, h2⟩)))
    · have HE := Lib.hid he
      have HK := Lib.hid hk
      have HH5 := Lib.hid (HH4.out.below HB5.out)
      have HX5 := (HB5.out.block w.heap.size (by have := HB4.out.size; rw [HSZ.out] at this; omega)).trans HX4.out
      have c0 : w5.cell? ⟨w.heap.size, 0, none⟩ = some (.int .i32 c.table) := by simp [World.cell?, HX5]
      have c1 : w5.cell? ⟨w.heap.size, 1, none⟩ = some (.int .i64 c.row) := by simp [World.cell?, HX5]
      have c2 : w5.cell? ⟨w.heap.size, 2, none⟩ = some (.int .i64 c.value) := by simp [World.cell?, HX5]
      have c3 : w5.cell? ⟨w.heap.size, 3, none⟩ = some (.int .i64 c.slot) := by simp [World.cell?, HX5]
      have hn := HH5.out.nd he
      have m0 := hn.c0; have m1 := hn.c1; have m2 := hn.c2; have m3 := hn.c3
      have z0 := hn.z 0; have z1 := hn.z 1; have z2 := hn.z 2; have z3 := hn.z 3
      clear he hk HX5 hn
      go_wp2_with fail
      go_ret
      have hm := (List.getElem?_eq_some_iff.1 HE.out).1
      have hown : IsSk.Own s h L e.b := .inr (List.mem_cons_of_mem _ (List.mem_map.2 ⟨e, List.mem_of_getElem? HE.out, rfl⟩))
      have hsl : (decide (0 ≤ c.slot) && decide (c.slot ≤ 1099511627776)) = true := by rw [Bool.and_eq_true]; have := HS1.out; have := HS2.out; constructor <;> (apply decide_eq_true; omega)
      have hget : getL L c.key = some e.c := by unfold getL; rw [HE.out]; simp only; rw [if_pos HK.out]
      obtain ⟨e1, e2, e3⟩ := put_old (L := L) (c := c) x 0 hsl hget
      refine ⟨0, nx, by rw [e3]; rfl, by rw [e1, e2]; exact HH5.out.set4 HE.out HK.out.symm, ?_, ?_⟩
      · exact (((KeepS.of_below _ HB.out).then_below HB4.out).then_below HB5.out).trans ((keep_set4 w5 e.b c).mono (fun i hi => by rw [hi]; exact hown))
      · intro i hi
        rw [e1] at hi
        unfold IsSk.Own at hi ⊢
        rw [setC_map HE.out] at hi
        exact .inl hi
end Go.Proofs.Ytdolmkiiflhehaa.M
end

section
/- The reference's Put. -/
set_option linter.unusedVariables false
set_option linter.unusedSimpArgs false
set_option maxRecDepth 100000
attribute [local irreducible] Go.wpStill
namespace Go.Proofs.Ytdolmkiiflhehaa.M
open Go.RowKit Go.Proofs.YtdolmkiiflhehaaW.PrintWords Go.Proofs.YtdolmkiiflhehaaW.PrintLast
theorem cells_ins (L : List Nd) (m b g : Nat) (c : CellD) : cellsL (ins L m ⟨b, c, g⟩) = (cellsL L).take m ++ [t4 c] ++ (cellsL L).drop m := by unfold cellsL ins; rw [List.map_append, List.map_cons, List.map_take, List.map_drop, List.append_assoc]; rfl
theorem his_ins (L : List Nd) (m b g : Nat) (c : CellD) : hisL (ins L m ⟨b, c, g⟩) = (hisL L).take m ++ [(g : Int)] ++ (hisL L).drop m := by unfold hisL ins; rw [List.map_append, List.map_cons, List.map_take, List.map_drop, List.append_assoc]; rfl
theorem cells_set {L : List Nd} {m : Nat} {e : Nd} (h : L[m]? = some e) (c : CellD) : cellsL (setC L m c) = (cellsL L).set m (t4 c) ∧ hisL (setC L m c) = hisL L := by
  rw [setC_eq h]
  refine ⟨by unfold cellsL; rw [List.map_set], ?_⟩
  unfold hisL
  rw [List.map_set]
  apply List.ext_getElem?
  intro i
  rw [List.getElem?_set]
  split
  · next e1 =>
    subst e1
    rw [List.getElem?_map, h]
    split
    · rfl
    · next h2 => have := (List.getElem?_eq_some_iff.1 h).1; simp at h2; omega
  · rfl
set_option maxHeartbeats 4000000 in
theorem rput_is {w : World} {q : Nat} {S : Nat → Prop} {L : List Nd} {x : Int} (H : IsRk w q S L x) (hL : L.length ≤ 1048576) (c : CellD) :
    Calls Try.prog 52 #[.pointer (some ⟨q, 0, none⟩), celV c] w fun e w' => RmP w q S (putL L c x 0) (putX L c x) (putE L c) e w' := by
  have HB := Lib.hid (show Below w.heap.size w (w.alloc (.cells #[.int .i32 c.table, .int .i64 c.row, .int .i64 c.value, .int .i64 c.slot] 31)) from (Below.refl _ _).alloc (Nat.le_refl _) _)
  have HA := Lib.hid (H.below HB.out)
  have HX := Lib.hid (heap_alloc_new w (.cells #[.int .i32 c.table, .int .i64 c.row, .int .i64 c.value, .int .i64 c.slot] 31))
  obtain ⟨w1, hw1⟩ : ∃ W, w.alloc (.cells #[.int .i32 c.table, .int .i64 c.row, .int .i64 c.value, .int .i64 c.slot] 31) = W := ⟨_, rfl⟩
  rw [hw1] at HB HA HX
  have HW := Lib.hid hw1
  obtain ⟨A, a, B, b, hV0⟩ := H.toV
  have HV0 := Lib.hid hV0
  clear H hw1 hV0
  unfold celV
  go_enter Try.func52, Try.ntmps52
  go_upto_region 1 with fail
  rw [HW.out]
  have a0 : w1.cell? ⟨w.heap.size, 0, none⟩ = some (.int .i32 c.table) := (blk_cell HX.out 0).trans rfl
  have a1 : w1.cell? ⟨w.heap.size, 1, none⟩ = some (.int .i64 c.row) := (blk_cell HX.out 1).trans rfl
  have a3 : w1.cell? ⟨w.heap.size, 3, none⟩ = some (.int .i64 c.slot) := (blk_cell HX.out 3).trans rfl
  by_cases s1 : c.slot < 0
  · have HS := Lib.hid s1
    have s1b : decide (c.slot < 0) = true := decide_eq_true s1
    clear s1
    go_wp2_with fail
    go_ret
    obtain ⟨e1, e2, e3⟩ := put_bad (L := L) (c := c) x 0 (by unfold okC; rw [Bool.and_eq_false_iff]; left; have := HS.out; simp; omega)
    exact ⟨by rw [e3]; rfl, KeepS.of_below _ HB.out, S, by rw [e1, e2]; exact HA.out, fun i hi => .inl hi⟩
  have HS1 := Lib.hid s1
  have s1b : decide (c.slot < 0) = false := decide_eq_false s1
  by_cases s2 : c.slot > 1099511627776
  · have HS := Lib.hid s2
    have s2b : decide (1099511627776 < c.slot) = true := decide_eq_true s2
    clear s1 s2
    go_wp2_with fail
    go_ret
    obtain ⟨e1, e2, e3⟩ := put_bad (L := L) (c := c) x 0 (by unfold okC; rw [Bool.and_eq_false_iff]; right; have := HS.out; simp; omega)
    exact ⟨by rw [e3]; rfl, KeepS.of_below _ HB.out, S, by rw [e1, e2]; exact HA.out, fun i hi => .inl hi⟩
  have HS2 := Lib.hid s2
  have s2b : decide (1099511627776 < c.slot) = false := decide_eq_false (by omega)
  have HOKS := Lib.hid (show okC c = true by unfold okC; rw [Bool.and_eq_true]; constructor <;> (apply decide_eq_true; omega))
  clear s1 s2 HS1 HS2
  go_wp2_with fail
  refine (rfind_is HA.out hL c.key).mono ?_
  rintro e w3 ⟨rfl, hb⟩
  have HB3 := Lib.hid (HB.out.trans (hb.mono HB.out.size))
  have HR := Lib.hid (HA.out.below hb)
  have HX3 := Lib.hid ((hb.block w.heap.size (blk_lt HX.out)).trans HX.out)
  have hV := HV0.out.below HB3.out
  have hmn := rank_le L c.key
  obtain ⟨n, hn⟩ : ∃ n, L.length = n := ⟨_, rfl⟩
  have HNN := Lib.hid hn
  obtain ⟨m, hm⟩ : ∃ m, rank L c.key = m := ⟨_, rfl⟩
  have HMM := Lib.hid hm
  rw [hn] at hL hV hmn
  rw [hm] at hmn
  rw [hm]
  have HVw3 := Lib.hid hV
  have HMN := Lib.hid hmn
  have HLN := Lib.hid hL
  clear hb a0 a1 a3 s1b s2b hn hm hV HA
  obtain ⟨gv, hgv⟩ : ∃ g, getL L c.key = g := ⟨_, rfl⟩
  have HG := Lib.hid hgv
  rw [hgv]
  clear hgv
  cases gv with
  | some d =>
    obtain ⟨e, he, rfl, hlt⟩ := getL_at HG.out
    obtain ⟨e1, e2, e3⟩ := put_old (L := L) (c := c) x 0 HOKS.out HG.out
    have HE := Lib.hid (And.intro e1 (And.intro e2 e3))
    have HKEY := Lib.hid (show c.key = e.c.key by
      have h := HG.out
      unfold getL at h
      rw [he] at h
      simp only at h
      split at h
      · next h2 => exact h2.symm
      · cases h)
    rw [HMM.out] at he
    rw [HMM.out, HNN.out] at hlt
    have HEL := Lib.hid he
    have hpos : 0 < (cellsL L).length := by rw [cellsL_len, HNN.out]; omega
    obtain ⟨g, cap, hg1, _, hg3, curg, hg4⟩ := Kd.R_form HVw3.out.l hpos
    rw [cellsL_len, HNN.out] at hg1
    simp only [Value.slice.injEq] at hg1
    obtain ⟨rfl, _, rfl⟩ := hg1
    have HRL := Lib.hid HVw3.out.l
    have hC3 : Kd.C cellK w3 (some ⟨g, 0, none⟩) n (cellsL L) := by have h := (Kd.R_reads' HVw3.out.l).2.2; rw [cellsL_len, HNN.out] at h; exact h
    obtain ⟨ad, had, d0, d1, d2, d3⟩ := cell_get hC3 (cellsL_get he)
    simp only [Option.some.injEq] at had
    subst had
    have hc0 := HVw3.out.cells.1
    have hgw : w.heap.size ≠ g := by have := Kd.R_lt HV0.out.l g rfl; omega
    have k0 : w3.cell? ⟨w.heap.size, 0, none⟩ = some (.int .i32 c.table) := (blk_cell HX3.out 0).trans rfl
    have k1 : w3.cell? ⟨w.heap.size, 1, none⟩ = some (.int .i64 c.row) := (blk_cell HX3.out 1).trans rfl
    have k2 : w3.cell? ⟨w.heap.size, 2, none⟩ = some (.int .i64 c.value) := (blk_cell HX3.out 2).trans rfl
    have k3 : w3.cell? ⟨w.heap.size, 3, none⟩ = some (.int .i64 c.slot) := (blk_cell HX3.out 3).trans rfl
    have hadd : ∀ k_ : Nat, (⟨g, 0, none⟩ : Addr).add k_ = ⟨g, k_, none⟩ := fun k_ => by unfold Addr.add; split <;> simp_all
    have d0' := d0; have d1' := d1; have d2' := d2; have d3' := d3
    rw [hadd] at d0 d1 d2 d3
    have i0 : (0 : Int) ≤ (m : Int) := by omega
    have i1 : (m : Int) < (n : Int) := by omega
    have HLT := Lib.hid hlt
    clear he hlt hpos hC3 e1 e2 e3
    go_upto_region 5 with fail
    refine wp_region_still_tail 7 (by kernel_rfl) (by kernel_rfl) ?_
    simp only [List.take_succ_cons, List.take_zero, List.drop_succ_cons, List.drop_zero]
    iterate 7 still_step
    refine wpStill_nil ?_
    change wpList _ _ _ _ _ w3.drew
    refine Kd.R_store cellK (w0 := w3.drew) 0 rfl rfl 31 (.tmp 31) (.tmp 30) rfl 31 (g := g) (o' := m * 4) (m : Int) 0 (cellsL L) (t4 c) (.agg #[.int .i32 c.table, .int .i64 c.row, .int .i64 c.value, .int .i64 c.slot]) [.int .i32 c.table, .int .i64 c.row, .int .i64 c.value, .int .i64 c.slot] [.int .i32 e.c.table, .int .i64 e.c.row, .int .i64 e.c.value, .int .i64 e.c.slot] S (fun _ => False) ?_ (by simp; rfl) rfl rfl (by kernel_rfl) (by intro q_ hq_; simp only [List.mem_cons, List.not_mem_nil, or_false] at hq_; rcases hq_ with rfl | rfl | rfl | rfl <;> rfl) (Kd.R_drew HRL.out) (by omega) (by have := HLT.out; omega) rfl ?_ (Nat.le_refl 4) ?_ (fun _ hk => hk.elim) (Below.refl _ _) ?_
    rotate_left
    · intro j u hu
      rw [Int.toNat_natCast, show cellK.sz = 4 from rfl]
      rcases j with _ | _ | _ | _ | j
      · simp only [List.getElem?_cons_zero, Option.some.injEq] at hu; subst hu; exact d0
      · simp only [List.getElem?_cons_succ, List.getElem?_cons_zero, Option.some.injEq] at hu; subst hu; exact d1
      · simp only [List.getElem?_cons_succ, List.getElem?_cons_zero, Option.some.injEq] at hu; subst hu; exact d2
      · simp only [List.getElem?_cons_succ, List.getElem?_cons_zero, Option.some.injEq] at hu; subst hu; exact d3
      · simp at hu
    · exact ⟨[.int .i32 c.table, .int .i64 c.row], [.int .i64 c.value, .int .i64 c.slot], rfl, ⟨_, _, rfl, rfl, rfl⟩, ⟨_, _, rfl, rfl, rfl⟩⟩
    · intro w4 hR hB hG
      have hG' : w3.drew.grownBy w4 (Value.slice (some ⟨g, 0, none⟩) n a).ownBlock := hG
      have HV4 := Lib.hid (show IsRv w4 q S (.slice (some ⟨g, 0, none⟩) n a) ((cellsL L).set m (t4 c)) (.slice B n b) (hisL L) x from
        ⟨(hG.block q HVw3.out.lt (fun e_ => Kd.R_ne HRL.out HVw3.out.y (by decide) (by injection e_ with e_; rw [e_]; rfl))).trans HVw3.out.y, by rw [Int.toNat_natCast] at hR; exact hR, Kd.R_over (Kd.R_drew HVw3.out.h) (Kd.R_drew HRL.out) (by decide) hG', HVw3.out.s⟩)
      have HK4 := Lib.hid (((KeepS.of_below S HB3.out).drew).trans (KeepS.of_grown hG (fun i hi => by cases hi; exact HRL.out.1 g rfl)))
      clear hR hB hG hG'
      go_wp2_with fail
      go_ret
      obtain ⟨e1, e2, e3⟩ := HE.out
      rw [e1, e2, e3]
      have hs := cells_set (c := c) HEL.out
      exact ⟨rfl, HK4.out, S, HV4.out.toK (by rw [HMM.out]; exact hs.1.symm) (by rw [HMM.out]; exact hs.2.symm) (by rw [HMM.out]; exact setC_store HR.out.store HEL.out HKEY.out), fun i hi => .inl hi⟩
    · rfl
  | none =>
  simp only [Option.isSome_none]
  have c0 := HVw3.out.cells.1
  by_cases hfl : n < 1048576
  rotate_left
  · have HF := Lib.hid hfl
    have hfull : decide ((1048576 : Int) ≤ (n : Int)) = true := decide_eq_true (by omega)
    have hfull2 : decide (1048576 ≤ n) = true := decide_eq_true (by omega)
    clear hfl
    go_wp2_with fail
    go_ret
    obtain ⟨e1, e2, e3⟩ := put_full (L := L) (c := c) x 0 HOKS.out HG.out (by rw [HNN.out]; exact HF.out)
    exact ⟨by rw [e3]; rfl, KeepS.of_below _ HB3.out, S, by rw [e1, e2]; exact HR.out, fun i hi => .inl hi⟩
  have HF := Lib.hid hfl
  have hfull : decide ((1048576 : Int) ≤ (n : Int)) = false := decide_eq_false (by omega)
  have hfull2 : decide (1048576 ≤ n) = false := decide_eq_false (by omega)
  have i0 : (0 : Int) ≤ (m : Int) := by omega
  have i1 : (m : Int) ≤ (n : Int) := by omega
  clear c0
  go_upto_region 7 with fail
  have c0 := HVw3.out.cells.1
  go_upto_region 9 with fail
  clear c0 hfl hfull hfull2
  have HPL := Lib.hid (R_pre HVw3.out.l (m := m) HMN.out)
  have HSL := Lib.hid (R_suf HVw3.out.l (m := m) HMN.out)
  have cL := HVw3.out.cells.1
  have laL : (n : Int) ≤ (a : Int) := by have := HPL.out.2.1; omega
  obtain ⟨PL, hPL⟩ : ∃ P, (cellsL L).take m = P := ⟨_, rfl⟩
  obtain ⟨DL, hDL⟩ : ∃ D, (cellsL L).drop m = D := ⟨_, rfl⟩
  rw [hPL] at HPL
  rw [hDL] at HSL
  have HPDL := Lib.hid (And.intro hPL hDL)
  obtain ⟨AL, hAL⟩ : ∃ A', (if a = m then A else Option.map (fun x => x.add (m * 4)) A) = A' := ⟨_, rfl⟩
  have HQL := Lib.hid (show Kd.C cellK w3 AL (n - m) DL from hAL ▸ HSL.out)
  have HAL := Lib.hid hAL
  clear hPL hDL
  go_upto_region 10 with ((with_reducible refine gate_builtin (b := .append) (xs := #[.const (.slice none 0 0), .tmp 43]) rfl ?_); at_builtin; refine Kd.R_append_rows cellK (Rr := Kd.K cellK w3) (w0 := w3) w3.heap.size rfl (.const (.slice none 0 0)) (.tmp 43) 59 31 _ 32 rfl Try.underlying59 info4 rfl (by decide) (by omega) _ ([] : List T4) PL _ _ _ (fun _ => True) (fun _ => False) rfl rfl (Kd.R_nil _ _ _ _ _) HPL.out.2.2.1 (fun _ _ h => h) (fun _ h => h.elim) (fun _ _ => trivial) (Below.refl _ _) (Nat.le_refl _) (by have := HMN.out; have := HLN.out; simp; omega) ?_; intro v1 w5 ho hb5 hg5 hat; obtain ⟨Aw5, cw5, rfl⟩ := Kd.R_slice ho; have HOw5 := Lib.hid ho; have HBw5 := Lib.hid hb5; clear ho hb5 hg5 hat)
  have HVw5 := Lib.hid (HVw3.out.below HBw5.out)
  have HQL2 := Lib.hid (Kd.C_below HQL.out HBw5.out)
  have hq_ := HOw5.out
  rw [List.nil_append] at hq_
  have HO2w5 := Lib.hid hq_
  clear hq_ cL
  obtain ⟨lL, hlL⟩ : ∃ l, PL.length = l := ⟨_, rfl⟩
  have HLL := Lib.hid hlL
  rw [hlL] at HO2w5
  rw [hlL]
  have HLBL := Lib.hid (show lL ≤ 1048576 by have h1 := HPL.out.2.2.2; have h2 := HMN.out; have h3 := HLN.out; omega)
  have HX5 := Lib.hid ((HBw5.out.block w.heap.size (blk_lt HX3.out)).trans HX3.out)
  obtain ⟨wd, hwd⟩ : ∃ W, w5.drew = W := ⟨_, rfl⟩
  have HVd := Lib.hid (show IsRv wd q S (.slice A n a) (cellsL L) (.slice B n b) (hisL L) x from by rw [← hwd]; exact HVw5.out.drew)
  have HXd := Lib.hid (show wd.heap[w.heap.size]? = some (.cells #[.int .i32 c.table, .int .i64 c.row, .int .i64 c.value, .int .i64 c.slot] 31) from by rw [← hwd]; exact HX5.out)
  have HOd := Lib.hid (show Kd.R cellK 31 wd w3.heap.size (fun _ => True) (.slice Aw5 lL cw5) PL from by rw [← hwd]; exact (Kd.R_drew HO2w5.out))
  have HBd := Lib.hid (show Below w3.heap.size w3 wd from by rw [← hwd]; exact HBw5.out.drew)
  have HQd := Lib.hid (show Kd.C cellK wd AL (n - m) DL from by rw [← hwd]; exact Kd.C_drew HQL2.out)
  refine start_ (n := 15) (S := (fun w' => w'.cell? ⟨q, 0, none⟩ = some (.slice A n a) ∧ w'.cell? ⟨w.heap.size, 0, none⟩ = some (.int .i32 c.table) ∧ w'.cell? ⟨w.heap.size, 1, none⟩ = some (.int .i64 c.row) ∧ w'.cell? ⟨w.heap.size, 2, none⟩ = some (.int .i64 c.value) ∧ w'.cell? ⟨w.heap.size, 3, none⟩ = some (.int .i64 c.slot))) (ds := [14]) #[false, false, false, false, false, false, false, false, false, false, false, false, false, false, false] (by kernel_rfl) rfl rfl (hwd ▸ ⟨HVd.out.cells.1, (blk_cell HXd.out 0).trans rfl, (blk_cell HXd.out 1).trans rfl, (blk_cell HXd.out 2).trans rfl, (blk_cell HXd.out 3).trans rfl⟩) (fun hHeld => ?_)
  rw [hwd]
  rw [hwd] at hHeld
  clear hwd
  refine pure_ (i := 0) (N := some 45) (v := ?_) (a' := ?_) #[true, false, false, false, false, false, false, false, false, false, false, false, false, false, false] rfl rfl (by kernel_rfl) (fun _ _ _ h => h) (Or.inl ⟨by rfl, ?_⟩) ?_ ?_
  rotate_left
  · intro w'
    go_simp
    try with_reducible rfl
  rotate_left
  · simp only [Act.put, List.setIfInBounds_toArray, List.set_cons_zero, List.set_cons_succ, i64_w, i32_w]
    rfl
  refine pure_ (i := 1) (N := some 46) (v := ?_) (a' := ?_) #[true, true, false, false, false, false, false, false, false, false, false, false, false, false, false] rfl rfl (by kernel_rfl) (fun _ _ _ h => h) (Or.inl ⟨by rfl, ?_⟩) ?_ ?_
  rotate_left
  · intro w'
    go_simp
    try with_reducible rfl
  rotate_left
  · simp only [Act.put, List.setIfInBounds_toArray, List.set_cons_zero, List.set_cons_succ, i64_w, i32_w]
    rfl
  refine take_ (i := 2) (N := some 47) (v := ?_) (a' := ?_) #[true, true, true, false, false, false, false, false, false, false, false, false, false, false, false] rfl rfl (by kernel_rfl) (fun _ _ _ h => h) (Or.inl ⟨by rfl, ?_⟩) hHeld ?_ ?_
  rotate_left
  · intro w' hS
    have hS0 := hS.2.1
    have hS1 := hS.2.2.1
    have hS2 := hS.2.2.2.1
    have hS3 := hS.2.2.2.2
    go_simp
    try with_reducible rfl
  rotate_left
  · simp only [Act.put, List.setIfInBounds_toArray, List.set_cons_zero, List.set_cons_succ, i64_w, i32_w]
    rfl
  refine pure_ (i := 5) (N := some 50) (v := ?_) (a' := ?_) #[true, true, true, false, false, true, false, false, false, false, false, false, false, false, false] rfl rfl (by kernel_rfl) (fun _ _ _ h => h) (Or.inl ⟨by rfl, ?_⟩) ?_ ?_
  rotate_left
  · intro w'
    go_simp
    try with_reducible rfl
  rotate_left
  · simp only [Act.put, List.setIfInBounds_toArray, List.set_cons_zero, List.set_cons_succ, i64_w, i32_w]
    rfl
  refine pure_ (i := 6) (N := some 51) (v := ?_) (a' := ?_) #[true, true, true, false, false, true, true, false, false, false, false, false, false, false, false] rfl rfl (by kernel_rfl) (fun _ _ _ h => h) (Or.inl ⟨by rfl, ?_⟩) ?_ ?_
  rotate_left
  · intro w'
    go_simp
    try with_reducible rfl
  rotate_left
  · simp only [Act.put, List.setIfInBounds_toArray, List.set_cons_zero, List.set_cons_succ, i64_w, i32_w]
    rfl
  refine pure_ (i := 7) (N := some 52) (v := ?_) (a' := ?_) #[true, true, true, false, false, true, true, true, false, false, false, false, false, false, false] rfl rfl (by kernel_rfl) (fun _ _ _ h => h) (Or.inl ⟨by rfl, ?_⟩) ?_ ?_
  rotate_left
  · intro w'
    go_simp
    try with_reducible rfl
  rotate_left
  · simp only [Act.put, List.setIfInBounds_toArray, List.set_cons_zero, List.set_cons_succ, i64_w, i32_w]
    rfl
  refine take_ (i := 8) (N := some 53) (v := ?_) (a' := ?_) #[true, true, true, false, false, true, true, true, true, false, false, false, false, false, false] rfl rfl (by kernel_rfl) (fun _ _ _ h => h) (Or.inl ⟨by rfl, ?_⟩) hHeld ?_ ?_
  rotate_left
  · intro w' hS
    have hS0 := hS.1
    go_simp
    try with_reducible rfl
  rotate_left
  · simp only [Act.put, List.setIfInBounds_toArray, List.set_cons_zero, List.set_cons_succ, i64_w, i32_w]
    rfl
  refine pure_ (i := 9) (N := some 54) (v := ?_) (a' := ?_) #[true, true, true, false, false, true, true, true, true, true, false, false, false, false, false] rfl rfl (by kernel_rfl) (fun _ _ _ h => h) (Or.inl ⟨by rfl, ?_⟩) ?_ ?_
  rotate_left
  · intro w'
    go_simp
    try with_reducible rfl
  rotate_left
  · simp only [Act.put, List.setIfInBounds_toArray, List.set_cons_zero, List.set_cons_succ, i64_w, i32_w]
    rfl
  refine pure_ (i := 10) (N := some 55) (v := ?_) (a' := ?_) #[true, true, true, false, false, true, true, true, true, true, true, false, false, false, false] rfl rfl (by kernel_rfl) (fun _ _ _ h => h) (Or.inl ⟨by rfl, ?_⟩) ?_ ?_
  rotate_left
  · intro w'
    go_simp
    try with_reducible rfl
  rotate_left
  · simp only [Act.put, List.setIfInBounds_toArray, List.set_cons_zero, List.set_cons_succ, i64_w, i32_w]
    rfl
  refine one_ (i := 3) (N := some 48) #[true, true, true, true, false, true, true, true, true, true, true, false, false, false, false] rfl rfl (by kernel_rfl) (by decide) (fun K hK => ?_)
  refine value_ (w1 := ?_) (v := ?_) (by rfl) rfl ?_ ?_
  rotate_left 2
  · go_simp
    constructor <;> rfl
  have HVa := Lib.hid (HVd.out.below ((Below.refl _ wd).alloc (Nat.le_refl _) (.cells #[.int .i32 c.table, .int .i64 c.row, .int .i64 c.value, .int .i64 c.slot] 31)))
  have HXa := Lib.hid ((Below.heap_alloc wd (.cells #[.int .i32 c.table, .int .i64 c.row, .int .i64 c.value, .int .i64 c.slot] 31) w.heap.size (blk_lt HXd.out)).trans HXd.out)
  refine hK.out _ _ ⟨HVa.out.cells.1, (blk_cell HXa.out 0).trans rfl, (blk_cell HXa.out 1).trans rfl, (blk_cell HXa.out 2).trans rfl, (blk_cell HXa.out 3).trans rfl⟩ (fun hHeld => ?_)
  clear hK K
  refine norm_ (a' := ?_) ?_ ?_
  rotate_left
  · show Act.put _ (some 48) _ = _
    simp only [Act.put, List.setIfInBounds_toArray, List.set_cons_zero, List.set_cons_succ, i64_w, i32_w]
    rfl
  refine one_ (i := 4) (N := some 49) #[true, true, true, true, true, true, true, true, true, true, true, false, false, false, false] rfl rfl (by kernel_rfl) (by decide) (fun K hK => ?_)
  refine Kd.R_append_step cellK (w0 := w3) w3.heap.size (by rfl) (.tmp 46) (.tmp 48) 59 31 (.agg #[.int .i32 0, .int .i64 0, .int .i64 0, .int .i64 0]) 32 rfl Try.underlying59 info4 rfl (by decide) (by omega) (.slice Aw5 lL cw5) PL (t4 c) [.int .i32 c.table, .int .i64 c.row, .int .i64 c.value, .int .i64 c.slot] (fun _ => True) (fun _ => False) rfl rfl ⟨[.int .i32 c.table, .int .i64 c.row], [.int .i64 c.value, .int .i64 c.slot], rfl, ⟨_, _, rfl, rfl, rfl⟩, ⟨_, _, rfl, rfl, rfl⟩⟩ (fun _ hk => hk.elim) (fun _ _ => trivial) HOd.out HBd.out HBd.out.size (by have := HLL.out; have := HLBL.out; omega) ?_
  intro v_ w6 ho hb hg_ hat
  obtain ⟨Aw6, cw6, rfl⟩ := Kd.R_slice ho
  have HO6 := Lib.hid ho
  have HB6 := Lib.hid hb
  clear ho hb hg_ hat
  have HV6 := Lib.hid (HVw3.out.below HB6.out)
  have HX6 := Lib.hid ((HB6.out.block w.heap.size (blk_lt HX3.out)).trans HX3.out)
  have HQ6 := Lib.hid (Kd.C_below HQL.out HB6.out)
  refine hK.out _ _ ⟨HV6.out.cells.1, (blk_cell HX6.out 0).trans rfl, (blk_cell HX6.out 1).trans rfl, (blk_cell HX6.out 2).trans rfl, (blk_cell HX6.out 3).trans rfl⟩ (fun hHeld => ?_)
  clear hK K
  refine norm_ (a' := ?_) ?_ ?_
  rotate_left
  · show Act.put _ (some 49) _ = _
    simp only [Act.put, List.setIfInBounds_toArray, List.set_cons_zero, List.set_cons_succ, i64_w, i32_w]
    rfl
  refine one_ (i := 11) (N := some 56) #[true, true, true, true, true, true, true, true, true, true, true, true, false, false, false] rfl rfl (by kernel_rfl) (by decide) (fun K hK => ?_)
  refine Kd.R_append_rows_step cellK (Rr := Kd.K cellK w6) (w0 := w3) w3.heap.size (by rfl) (.tmp 49) (.tmp 55) 59 31 (.agg #[.int .i32 0, .int .i64 0, .int .i64 0, .int .i64 0]) 32 rfl Try.underlying59 info4 rfl (by decide) (by omega) _ (PL ++ [t4 c]) DL _ _ _ (fun _ => True) (fun _ => False) rfl rfl HO6.out HQ6.out (fun _ _ h => h) (fun _ h => h.elim) (fun _ _ => trivial) HB6.out HB6.out.size (by have h1 := HLL.out; have h2 := HLBL.out; have h3 := HLN.out; have h4 := HMN.out; simp; omega) ?_
  intro v_ w7 ho hb hg_ hat
  obtain ⟨Aw7, cw7, rfl⟩ := Kd.R_slice ho
  have HO7 := Lib.hid ho
  have HB7 := Lib.hid hb
  clear ho hb hg_ hat
  have HV7 := Lib.hid (HVw3.out.below HB7.out)
  have HX7 := Lib.hid ((HB7.out.block w.heap.size (blk_lt HX3.out)).trans HX3.out)
  refine hK.out _ _ ⟨HV7.out.cells.1, (blk_cell HX7.out 0).trans rfl, (blk_cell HX7.out 1).trans rfl, (blk_cell HX7.out 2).trans rfl, (blk_cell HX7.out 3).trans rfl⟩ (fun hHeld => ?_)
  clear hK K
  refine norm_ (a' := ?_) ?_ ?_
  rotate_left
  · show Act.put _ (some 56) _ = _
    simp only [Act.put, List.setIfInBounds_toArray, List.set_cons_zero, List.set_cons_succ, i64_w, i32_w]
    rfl
  refine pure_ (i := 12) (N := some 57) (v := ?_) (a' := ?_) #[true, true, true, true, true, true, true, true, true, true, true, true, true, false, false] rfl rfl (by kernel_rfl) (fun _ _ _ h => h) (Or.inl ⟨by rfl, ?_⟩) ?_ ?_
  rotate_left
  · intro w'
    go_simp
    try with_reducible rfl
  rotate_left
  · simp only [Act.put, List.setIfInBounds_toArray, List.set_cons_zero, List.set_cons_succ, i64_w, i32_w]
    rfl
  refine pure_ (i := 13) (N := some 58) (v := ?_) (a' := ?_) #[true, true, true, true, true, true, true, true, true, true, true, true, true, true, false] rfl rfl (by kernel_rfl) (fun _ _ _ h => h) (Or.inl ⟨by rfl, ?_⟩) ?_ ?_
  rotate_left
  · intro w'
    go_simp
    try with_reducible rfl
  rotate_left
  · simp only [Act.put, List.setIfInBounds_toArray, List.set_cons_zero, List.set_cons_succ, i64_w, i32_w]
    rfl
  have q3 := HV7.out.cells.1
  have z3 := HV7.out.fz 0
  refine last_ (i := 14) (N := none) #[true, true, true, true, true, true, true, true, true, true, true, true, true, true, true] rfl rfl (by kernel_rfl) (by decide) (fun K hK => ?_)
  refine skip_ (w1 := ?_) (by rfl) rfl ?_ ?_
  rotate_left
  · go_simp
    rfl
  refine hK.out _ _ ?_
  clear hK K
  refine done_ (by kernel_rfl) ?_
  have hR_ := Kd.R_mono (Kd.R_bound HO7.out) (fun i hi => (Or.inr (Nat.le_trans HB3.out.size hi.2.1) : S i ∨ w.heap.size ≤ i))
  rw [show (PL ++ [t4 c] ++ DL).length = lL + (DL.length + 1) by have := HLL.out; simp; omega] at hR_
  have HV8 := Lib.hid (HV7.out.setL (S' := fun i => S i ∨ w.heap.size ≤ i) hR_ (fun i hi => .inl hi) (fun i hi => hi))
  have HK8 := Lib.hid ((((KeepS.of_below S HB3.out).then_below HB7.out)).set (p := ⟨q, 0, none⟩) (.inl HVw3.out.s) (.slice Aw7 (lL + (DL.length + 1)) cw7))
  obtain ⟨kL, hkL⟩ : ∃ k, lL + (DL.length + 1) = k := ⟨_, rfl⟩
  rw [hkL] at HV8 HK8
  obtain ⟨w8, hw8⟩ : ∃ W, w7.setCell ⟨q, 0, none⟩ (.slice Aw7 kL cw7) = W := ⟨_, rfl⟩
  rw [hw8] at HV8 HK8
  obtain ⟨XL8, hX8⟩ : ∃ X, PL ++ [t4 c] ++ DL = X := ⟨_, rfl⟩
  rw [hX8] at HV8
  have HX8 := Lib.hid hX8
  obtain ⟨S8, hS8⟩ : ∃ T : Nat → Prop, (fun i => (S i ∨ w.heap.size ≤ i) ∧ i < w8.heap.size) = T := ⟨_, rfl⟩
  have HS8 := Lib.hid (show ∀ i, S8 i → (S i ∨ w.heap.size ≤ i) ∧ i < w8.heap.size from fun i hi => by rw [← hS8] at hi; exact hi)
  have HVw8 := Lib.hid (show IsRv w8 q S8 (.slice Aw7 kL cw7) XL8 (.slice B n b) (hisL L) x from hS8 ▸ HV8.out.bound)
  rw [hkL, hw8]
  clear hkL hw8 hX8 hS8 hR_ q3 z3 hHeld hAL laL HV7 HV6 HO7 HO6 HB7 HB6 HX7 HX6 HQ6 HV8
  have HPH := Lib.hid (R_pre HVw8.out.h (m := m) HMN.out)
  have HSH := Lib.hid (R_suf HVw8.out.h (m := m) HMN.out)
  have cH := HVw8.out.cells.2.1
  have laH : (n : Int) ≤ (b : Int) := by have := HPH.out.2.1; omega
  obtain ⟨PH, hPH⟩ : ∃ P, (hisL L).take m = P := ⟨_, rfl⟩
  obtain ⟨DH, hDH⟩ : ∃ D, (hisL L).drop m = D := ⟨_, rfl⟩
  rw [hPH] at HPH
  rw [hDH] at HSH
  have HPDH := Lib.hid (And.intro hPH hDH)
  obtain ⟨AH, hAH⟩ : ∃ A', (if b = m then B else Option.map (fun x => x.add m) B) = A' := ⟨_, rfl⟩
  have HQH := Lib.hid (show Kd.C (Kd.int .i64) w8 AH (n - m) DH from by rw [← hAH]; have h := HSH.out; rw [show m * (Kd.int .i64).sz = m from Nat.mul_one _] at h; exact h)
  have HAH := Lib.hid hAH
  clear hPH hDH
  go_upto_region 12 with ((with_reducible refine gate_builtin (b := .append) (xs := #[.const (.slice none 0 0), .tmp 64]) rfl ?_); at_builtin; refine Kd.R_append_rows (Kd.int .i64) (Rr := Kd.K (Kd.int .i64) w8) (w0 := w8) w8.heap.size rfl (.const (.slice none 0 0)) (.tmp 64) 78 3 _ 8 rfl Try.underlying78 infoI rfl (by decide) (by omega) _ ([] : List Int) PH _ _ _ (fun _ => True) (fun _ => False) rfl rfl (Kd.R_nil _ _ _ _ _) HPH.out.2.2.1 (fun _ _ h => h) (fun _ h => h.elim) (fun _ _ => trivial) (Below.refl _ _) (Nat.le_refl _) (by have := HMN.out; have := HLN.out; simp; omega) ?_; intro v1 w9 ho hb5 hg5 hat; obtain ⟨Aw9, cw9, rfl⟩ := Kd.R_slice ho; have HOw9 := Lib.hid ho; have HBw9 := Lib.hid hb5; clear ho hb5 hg5 hat)
  have HVw9 := Lib.hid (HVw8.out.below HBw9.out)
  have HQH2 := Lib.hid (Kd.C_below HQH.out HBw9.out)
  have hq_ := HOw9.out
  rw [List.nil_append] at hq_
  have HO2w9 := Lib.hid hq_
  clear hq_ cH
  obtain ⟨lH, hlH⟩ : ∃ l, PH.length = l := ⟨_, rfl⟩
  have HLH := Lib.hid hlH
  rw [hlH] at HO2w9
  rw [hlH]
  have HLBH := Lib.hid (show lH ≤ 1048576 by have h1 := HPH.out.2.2.2; have h2 := HMN.out; have h3 := HLN.out; omega)
  obtain ⟨wd, hwd⟩ : ∃ W, w9.drew = W := ⟨_, rfl⟩
  have HVd := Lib.hid (show IsRv wd q S8 (.slice Aw7 kL cw7) XL8 (.slice B n b) (hisL L) x from by rw [← hwd]; exact HVw9.out.drew)
  have HBd := Lib.hid (show Below w8.heap.size w8 wd from by rw [← hwd]; exact HBw9.out.drew)
  have HOd := Lib.hid (show Kd.R (Kd.int .i64) 3 wd w8.heap.size (fun _ => True) (.slice Aw9 lH cw9) PH from by rw [← hwd]; exact (Kd.R_drew HO2w9.out))
  have HQd := Lib.hid (show Kd.C (Kd.int .i64) wd AH (n - m) DH from by rw [← hwd]; exact Kd.C_drew HQH2.out)
  refine start_ (n := 16) (S := (fun w' => w'.cell? ⟨q, 1, none⟩ = some (.slice B n b))) (ds := [15]) #[false, false, false, false, false, false, false, false, false, false, false, false, false, false, false, false] (by kernel_rfl) rfl rfl (by rw [hwd]; exact HVd.out.cells.2.1) (fun hHeld => ?_)
  rw [hwd]
  rw [hwd] at hHeld
  clear hwd
  refine pure_ (i := 0) (N := some 66) (v := ?_) (a' := ?_) #[true, false, false, false, false, false, false, false, false, false, false, false, false, false, false, false] rfl rfl (by kernel_rfl) (fun _ _ _ h => h) (Or.inl ⟨by rfl, ?_⟩) ?_ ?_
  rotate_left
  · intro w'
    go_simp
    try with_reducible rfl
  rotate_left
  · simp only [Act.put, List.setIfInBounds_toArray, List.set_cons_zero, List.set_cons_succ, i64_w, i32_w]
    rfl
  refine pure_ (i := 1) (N := some 67) (v := ?_) (a' := ?_) #[true, true, false, false, false, false, false, false, false, false, false, false, false, false, false, false] rfl rfl (by kernel_rfl) (fun _ _ _ h => h) (Or.inl ⟨by rfl, ?_⟩) ?_ ?_
  rotate_left
  · intro w'
    go_simp
    try with_reducible rfl
  rotate_left
  · simp only [Act.put, List.setIfInBounds_toArray, List.set_cons_zero, List.set_cons_succ, i64_w, i32_w]
    rfl
  refine pure_ (i := 2) (N := some 68) (v := ?_) (a' := ?_) #[true, true, true, false, false, false, false, false, false, false, false, false, false, false, false, false] rfl rfl (by kernel_rfl) (fun _ _ _ h => h) (Or.inl ⟨by rfl, ?_⟩) ?_ ?_
  rotate_left
  · intro w'
    go_simp
    try with_reducible rfl
  rotate_left
  · simp only [Act.put, List.setIfInBounds_toArray, List.set_cons_zero, List.set_cons_succ, i64_w, i32_w]
    rfl
  refine pure_ (i := 6) (N := some 72) (v := ?_) (a' := ?_) #[true, true, true, false, false, false, true, false, false, false, false, false, false, false, false, false] rfl rfl (by kernel_rfl) (fun _ _ _ h => h) (Or.inl ⟨by rfl, ?_⟩) ?_ ?_
  rotate_left
  · intro w'
    go_simp
    try with_reducible rfl
  rotate_left
  · simp only [Act.put, List.setIfInBounds_toArray, List.set_cons_zero, List.set_cons_succ, i64_w, i32_w]
    rfl
  refine pure_ (i := 7) (N := some 73) (v := ?_) (a' := ?_) #[true, true, true, false, false, false, true, true, false, false, false, false, false, false, false, false] rfl rfl (by kernel_rfl) (fun _ _ _ h => h) (Or.inl ⟨by rfl, ?_⟩) ?_ ?_
  rotate_left
  · intro w'
    go_simp
    try with_reducible rfl
  rotate_left
  · simp only [Act.put, List.setIfInBounds_toArray, List.set_cons_zero, List.set_cons_succ, i64_w, i32_w]
    rfl
  refine pure_ (i := 8) (N := some 74) (v := ?_) (a' := ?_) #[true, true, true, false, false, false, true, true, true, false, false, false, false, false, false, false] rfl rfl (by kernel_rfl) (fun _ _ _ h => h) (Or.inl ⟨by rfl, ?_⟩) ?_ ?_
  rotate_left
  · intro w'
    go_simp
    try with_reducible rfl
  rotate_left
  · simp only [Act.put, List.setIfInBounds_toArray, List.set_cons_zero, List.set_cons_succ, i64_w, i32_w]
    rfl
  refine take_ (i := 9) (N := some 75) (v := ?_) (a' := ?_) #[true, true, true, false, false, false, true, true, true, true, false, false, false, false, false, false] rfl rfl (by kernel_rfl) (fun _ _ _ h => h) (Or.inl ⟨by rfl, ?_⟩) hHeld ?_ ?_
  rotate_left
  · intro w' hS
    go_simp
    try with_reducible rfl
  rotate_left
  · simp only [Act.put, List.setIfInBounds_toArray, List.set_cons_zero, List.set_cons_succ, i64_w, i32_w]
    rfl
  refine pure_ (i := 10) (N := some 76) (v := ?_) (a' := ?_) #[true, true, true, false, false, false, true, true, true, true, true, false, false, false, false, false] rfl rfl (by kernel_rfl) (fun _ _ _ h => h) (Or.inl ⟨by rfl, ?_⟩) ?_ ?_
  rotate_left
  · intro w'
    go_simp
    try with_reducible rfl
  rotate_left
  · simp only [Act.put, List.setIfInBounds_toArray, List.set_cons_zero, List.set_cons_succ, i64_w, i32_w]
    rfl
  refine pure_ (i := 11) (N := some 77) (v := ?_) (a' := ?_) #[true, true, true, false, false, false, true, true, true, true, true, true, false, false, false, false] rfl rfl (by kernel_rfl) (fun _ _ _ h => h) (Or.inl ⟨by rfl, ?_⟩) ?_ ?_
  rotate_left
  · intro w'
    go_simp
    try with_reducible rfl
  rotate_left
  · simp only [Act.put, List.setIfInBounds_toArray, List.set_cons_zero, List.set_cons_succ, i64_w, i32_w]
    rfl
  refine one_ (i := 3) (N := some 69) #[true, true, true, true, false, false, true, true, true, true, true, true, false, false, false, false] rfl rfl (by kernel_rfl) (by decide) (fun K hK => ?_)
  go_simp
  refine (rdraw_is HVd.out).mono ?_
  rintro e wa ⟨rfl, hv, hk⟩
  have HVa := Lib.hid hv
  have HLTd := Lib.hid (HVd.out.lt)
  have HQ8 := Lib.hid (show q < w8.heap.size from HVw8.out.lt)
  have HOa := Lib.hid (Kd.R_step (Kd.R_mono (Kd.R_bound HOd.out) (fun k_ hk_ => (hk_.2.1 : w8.heap.size ≤ k_))) (fun k_ hk_ hlt => hk.block k_ hlt (fun e_ => by have := HQ8.out; omega)))
  have HKa := Lib.hid ((KeepS.of_below (fun i => i = q) HBd.out).trans hk)
  have HSa := Lib.hid (show w8.heap.size ≤ wa.heap.size from HKa.out.size)
  clear hv hk
  obtain ⟨gh, hgh⟩ : ∃ g, drH (drX x) = g := ⟨_, rfl⟩
  have HGH := Lib.hid hgh
  rw [hgh]
  clear hgh
  have HQa := Lib.hid (show Kd.C (Kd.int .i64) wa AH (n - m) DH from by rw [← HAH.out, ← HPDH.out.2]; have h := R_suf HVa.out.h (m := m) HMN.out; rw [show m * (Kd.int .i64).sz = m from Nat.mul_one _] at h; exact h)
  refine hK.out _ _ HVa.out.cells.2.1 (fun hHeld => ?_)
  clear hK K
  refine one_ (i := 4) (N := some 70) #[true, true, true, true, true, false, true, true, true, true, true, true, false, false, false, false] rfl rfl (by kernel_rfl) (by decide) (fun K hK => ?_)
  refine value_ (w1 := ?_) (v := ?_) (by rfl) rfl ?_ ?_
  rotate_left 2
  · go_simp
    constructor <;> rfl
  have HVb := Lib.hid (HVa.out.below ((Below.refl _ wa).alloc (Nat.le_refl _) (.cells #[.int .i64 gh] 3)))
  refine hK.out _ _ HVb.out.cells.2.1 (fun hHeld => ?_)
  clear hK K
  refine norm_ (a' := ?_) ?_ ?_
  rotate_left
  · show Act.put _ (some 70) _ = _
    simp only [Act.put, List.setIfInBounds_toArray, List.set_cons_zero, List.set_cons_succ, i64_w, i32_w]
    rfl
  refine one_ (i := 5) (N := some 71) #[true, true, true, true, true, true, true, true, true, true, true, true, false, false, false, false] rfl rfl (by kernel_rfl) (by decide) (fun K hK => ?_)
  refine Kd.R_append_step (Kd.int .i64) (w0 := wa) w8.heap.size (by rfl) (.tmp 67) (.tmp 70) 78 3 (.int .i64 0) 8 rfl Try.underlying78 infoI rfl (by decide) (by omega) (.slice Aw9 lH cw9) PH (gh : Int) [.int .i64 gh] (fun k => w8.heap.size ≤ k) (fun _ => False) rfl rfl rfl (fun _ hk => hk.elim) (fun k hk => Nat.le_trans HSa.out hk) HOa.out (Below.refl _ _) HSa.out (by have := HLH.out; have := HLBH.out; omega) ?_
  intro v_ wb ho hb hg_ hat
  obtain ⟨Awb, cwb, rfl⟩ := Kd.R_slice ho
  have HOb := Lib.hid ho
  have HBb := Lib.hid hb
  clear ho hb hg_ hat
  have HVc := Lib.hid (HVa.out.move (fun k_ hs_ _ => HBb.out.block k_ (HS8.out _ hs_).2))
  have HQb := Lib.hid (show Kd.C (Kd.int .i64) wb AH (n - m) DH from by rw [← HAH.out, ← HPDH.out.2]; have h := R_suf HVc.out.h (m := m) HMN.out; rw [show m * (Kd.int .i64).sz = m from Nat.mul_one _] at h; exact h)
  refine hK.out _ _ HVc.out.cells.2.1 (fun hHeld => ?_)
  clear hK K
  refine norm_ (a' := ?_) ?_ ?_
  rotate_left
  · show Act.put _ (some 71) _ = _
    simp only [Act.put, List.setIfInBounds_toArray, List.set_cons_zero, List.set_cons_succ, i64_w, i32_w]
    rfl
  refine one_ (i := 12) (N := some 78) #[true, true, true, true, true, true, true, true, true, true, true, true, true, false, false, false] rfl rfl (by kernel_rfl) (by decide) (fun K hK => ?_)
  refine Kd.R_append_rows_step (Kd.int .i64) (Rr := Kd.K (Kd.int .i64) wb) (w0 := wa) w8.heap.size (by rfl) (.tmp 71) (.tmp 77) 78 3 (.int .i64 0) 8 rfl Try.underlying78 infoI rfl (by decide) (by omega) _ (PH ++ [(gh : Int)]) DH _ _ _ (fun k => w8.heap.size ≤ k) (fun _ => False) rfl rfl HOb.out HQb.out (fun _ _ h => h) (fun _ h => h.elim) (fun k hk => Nat.le_trans (Nat.le_trans HSa.out HBb.out.size) hk) HBb.out (Nat.le_trans HSa.out HBb.out.size) (by have h1 := HLH.out; have h2 := HLBH.out; have h3 := HLN.out; have h4 := HMN.out; simp; omega) ?_
  intro v_ wc ho hb hg_ hat
  obtain ⟨Awc, cwc, rfl⟩ := Kd.R_slice ho
  have HOc := Lib.hid ho
  have HBc := Lib.hid hb
  clear ho hb hg_ hat
  have HVe := Lib.hid (HVa.out.move (fun k_ hs_ _ => HBc.out.block k_ (HS8.out _ hs_).2))
  refine hK.out _ _ HVe.out.cells.2.1 (fun hHeld => ?_)
  clear hK K
  refine norm_ (a' := ?_) ?_ ?_
  rotate_left
  · show Act.put _ (some 78) _ = _
    simp only [Act.put, List.setIfInBounds_toArray, List.set_cons_zero, List.set_cons_succ, i64_w, i32_w]
    rfl
  refine pure_ (i := 13) (N := some 79) (v := ?_) (a' := ?_) #[true, true, true, true, true, true, true, true, true, true, true, true, true, true, false, false] rfl rfl (by kernel_rfl) (fun _ _ _ h => h) (Or.inl ⟨by rfl, ?_⟩) ?_ ?_
  rotate_left
  · intro w'
    go_simp
    try with_reducible rfl
  rotate_left
  · simp only [Act.put, List.setIfInBounds_toArray, List.set_cons_zero, List.set_cons_succ, i64_w, i32_w]
    rfl
  refine pure_ (i := 14) (N := some 80) (v := ?_) (a' := ?_) #[true, true, true, true, true, true, true, true, true, true, true, true, true, true, true, false] rfl rfl (by kernel_rfl) (fun _ _ _ h => h) (Or.inl ⟨by rfl, ?_⟩) ?_ ?_
  rotate_left
  · intro w'
    go_simp
    try with_reducible rfl
  rotate_left
  · simp only [Act.put, List.setIfInBounds_toArray, List.set_cons_zero, List.set_cons_succ, i64_w, i32_w]
    rfl
  have q3 := HVe.out.cells.2.1
  have z3 := HVe.out.fz 1
  refine last_ (i := 15) (N := none) #[true, true, true, true, true, true, true, true, true, true, true, true, true, true, true, true] rfl rfl (by kernel_rfl) (by decide) (fun K hK => ?_)
  refine skip_ (w1 := ?_) (by rfl) rfl ?_ ?_
  rotate_left
  · go_simp
    rfl
  refine hK.out _ _ ?_
  clear hK K
  refine done_ (by kernel_rfl) ?_
  have hR_ := Kd.R_mono (Kd.R_bound HOc.out) (fun i hi => (Or.inr (Nat.le_trans HK8.out.size hi.1) : S i ∨ w.heap.size ≤ i))
  have HVf := Lib.hid (HVe.out.setH (S' := fun i => S i ∨ w.heap.size ≤ i) hR_ (fun i hi => (HS8.out i hi).1) (fun i hi => hi))
  have HKf := Lib.hid ((((HK8.out.trans (HKa.out.mono (S' := S) (fun i hi => by rw [hi]; exact HVw3.out.s))).then_base (HBc.out.mono HK8.out.size))).set (p := ⟨q, 1, none⟩) (.inl HVw3.out.s) (.slice Awc (PH ++ [(gh : Int)] ++ DH).length cwc))
  rw [show (PH ++ [(gh : Int)] ++ DH).length = lH + (DH.length + 1) by have := HLH.out; simp; omega] at HVf HKf
  obtain ⟨wf, hwf⟩ : ∃ W, wc.setCell ⟨q, 1, none⟩ (.slice Awc (lH + (DH.length + 1)) cwc) = W := ⟨_, rfl⟩
  rw [hwf] at HVf HKf ⊢
  clear q3 z3 hHeld hR_ hwf
  go_wp2_with fail
  go_ret
  obtain ⟨e1, e2, e3⟩ := put_new (L := L) (c := c) x 0 HOKS.out HG.out (by rw [HNN.out]; exact HF.out)
  rw [HGH.out, HMM.out] at e1
  refine ⟨by rw [e3]; rfl, HKf.out, fun i => S i ∨ w.heap.size ≤ i, ?_, fun i hi => hi⟩
  rw [e1, e2]
  refine HVf.out.toK ?_ ?_ ?_
  · rw [← HX8.out, ← HPDL.out.1, ← HPDL.out.2, cells_ins]
  · rw [← HPDH.out.1, ← HPDH.out.2, his_ins]
  · have h1 := ins_store (e := ⟨0, c, gh⟩) HR.out.store HG.out (by rw [← HGH.out]; exact drH_le _)
    rw [HMM.out] at h1
    exact h1
end Go.Proofs.Ytdolmkiiflhehaa.M
end

section
/- Same of two stores; the reference's New. -/
set_option linter.unusedVariables false
set_option linter.unusedSimpArgs false
set_option maxRecDepth 100000
attribute [local irreducible] Go.wpStill
namespace Go.Proofs.Ytdolmkiiflhehaa.M
open Go.RowKit Go.Proofs.YtdolmkiiflhehaaW.PrintWords Go.Proofs.YtdolmkiiflhehaaW.PrintLast
theorem IsSk.first {w : World} {s h : Nat} {L : List Nd} {x : Int} {nx : Nat → Nat → Option Nat} (H : IsSk w s h L x nx) : w.cell? ⟨h, 4, none⟩ = some (ptrAt L 0) := by
  have n0 := (H.nds 0 (Nat.zero_le _)).next (l := 0) (by omega)
  rw [H.links 0 (Nat.zero_le _) 0 (by show 0 < 8; omega), nxt_at H.store (Nat.zero_le _)] at n0
  exact n0
theorem all_first {w : World} {s h : Nat} {L : List Nd} {x : Int} {nx : Nat → Nat → Option Nat} (H : IsSk w s h L x nx) (hL : L.length ≤ 1048576) {r : Value} (hr : ptrAt L 0 = r) :
    Calls Try.prog 43 #[r] w fun e w' => ∃ (A : Option Addr) (cc : Nat), e = .returned (.slice A (cellsL L).length cc) ∧ Kd.F cellK w' (fun i => w.heap.size ≤ i ∧ i < w'.heap.size) A (cellsL L).length (cellsL L) ∧ Below w.heap.size w w' := by
  have h1 := all_is H hL 0 (Nat.zero_le _)
  rw [List.drop_zero, hr] at h1
  exact h1
set_option maxHeartbeats 2000000 in
theorem same_is {w : World} {s h s2 h2 : Nat} {L L2 : List Nd} {x x2 : Int} {nx nx2 : Nat → Nat → Option Nat} (H : IsSk w s h L x nx) (H2 : IsSk w s2 h2 L2 x2 nx2) (hL : L.length ≤ 1048576) (hL2 : L2.length ≤ 1048576) :
    Calls Try.prog 26 #[.pointer (some ⟨s, 0, none⟩), .pointer (some ⟨s2, 0, none⟩)] w fun e w' => e = .returned (.bool (decide (cellsL L = cellsL L2))) ∧ Below w.heap.size w w' := by
  have HH := Lib.hid H.drew; have HH2 := Lib.hid H2.drew
  have HN1 := Lib.hid (none_is H); have HN2 := Lib.hid (none_is H2)
  have c0 := H.c0; have d0 := H2.c0
  have c4 := H.first; have d4 := H2.first
  obtain ⟨r1, hr1⟩ : ∃ r, ptrAt L 0 = r := ⟨_, rfl⟩
  obtain ⟨r2, hr2⟩ : ∃ r, ptrAt L2 0 = r := ⟨_, rfl⟩
  rw [hr1] at c4
  rw [hr2] at d4
  have HR1 := Lib.hid hr1; have HR2 := Lib.hid hr2
  obtain ⟨X, hX⟩ : ∃ X, cellsL L = X := ⟨_, rfl⟩
  obtain ⟨Y, hY⟩ : ∃ X, cellsL L2 = X := ⟨_, rfl⟩
  have HX := Lib.hid hX; have HY := Lib.hid hY
  rw [hX, hY]
  clear H H2 hr1 hr2 hX hY
  go_enter Try.func26, Try.ntmps26
  go_wp2_with fail
  refine HN1.out.mono ?_
  rintro e w1 ⟨rfl, rfl⟩
  go_wp2_with fail
  refine HN2.out.mono ?_
  rintro e w1 ⟨rfl, rfl⟩
  go_wp2_with fail
  go_region_held3 (fun w' => w'.cell? ⟨s, 0, none⟩ = some (.pointer (some ⟨h, 0, none⟩)) ∧ w'.cell? ⟨h, 4, none⟩ = some r1 ∧ w'.cell? ⟨s2, 0, none⟩ = some (.pointer (some ⟨h2, 0, none⟩)) ∧ w'.cell? ⟨h2, 4, none⟩ = some r2) (go_keep) (first
    | (have hg_ := HF2; clear hg_; go_at_call 47; refine (eqcells_is A1 A2 _ _ _ _ X Y (Kd.C_below (Kd.F_now HF1.out) HB2.out) (Kd.F_now HF2.out)).mono ?_; rintro e w4 ⟨rfl, hb⟩; have HB4 := Lib.hid hb; have t0 := (hb.cell (World.block_lt_of_cell? _ _ q0)).trans q0; have t1 := (hb.cell (World.block_lt_of_cell? _ _ q1)).trans q1; have t2 := (hb.cell (World.block_lt_of_cell? _ _ q2)).trans q2; have t3 := (hb.cell (World.block_lt_of_cell? _ _ q3)).trans q3; clear hb)
    | (have hg_ := HF1; clear hg_; go_at_call 43; refine (all_first (HH2.out.below HB1.out) hL2 HR2.out).mono ?_; rintro e w3 ⟨A2, cc2, rfl, hF, hb⟩; rw [HY.out] at hF; rw [HY.out]; have HF2 := Lib.hid hF; have HB2 := Lib.hid hb; have q0 := (hb.cell (World.block_lt_of_cell? _ _ p0)).trans p0; have q1 := (hb.cell (World.block_lt_of_cell? _ _ p1)).trans p1; have q2 := (hb.cell (World.block_lt_of_cell? _ _ p2)).trans p2; have q3 := (hb.cell (World.block_lt_of_cell? _ _ p3)).trans p3; clear hF hb)
    | (go_at_call 43; refine (all_first HH.out hL HR1.out).mono ?_; rintro e w2 ⟨A1, cc1, rfl, hF, hb⟩; rw [HX.out] at hF; rw [HX.out]; have HF1 := Lib.hid hF; have HB1 := Lib.hid hb; have p0 := (hb.cell (World.block_lt_of_cell? _ _ c0)).trans c0; have p1 := (hb.cell (World.block_lt_of_cell? _ _ c4)).trans c4; have p2 := (hb.cell (World.block_lt_of_cell? _ _ d0)).trans d0; have p3 := (hb.cell (World.block_lt_of_cell? _ _ d4)).trans d4; clear hF hb))
  go_wp2_with fail
  go_ret
  exact ⟨rfl, (Below.refl _ _).drew.trans (HB1.out.trans ((HB2.out.trans (HB4.out.mono HB2.out.size)).mono HB1.out.size))⟩
theorem same_nil_r {w : World} {s h : Nat} {L : List Nd} {x : Int} {nx : Nat → Nat → Option Nat} (H : IsSk w s h L x nx) :
    Calls Try.prog 26 #[.pointer (some ⟨s, 0, none⟩), .pointer none] w fun e w' => e = .returned (.bool false) ∧ w = w' := by
  have HN1 := Lib.hid (none_is H)
  go_enter Try.func26, Try.ntmps26
  go_wp2_with fail
  refine HN1.out.mono ?_
  rintro e w1 ⟨rfl, rfl⟩
  go_wp2_with fail
  refine (none_nil _).mono ?_
  rintro e w1 ⟨rfl, rfl⟩
  go_wp2_with fail
  go_ret
  exact ⟨rfl, rfl⟩
theorem rnew_is (x : Int) (w : World) : Calls Try.prog 31 #[.int .u64 x] w fun e w' => e = .returned (.pointer (some ⟨w.heap.size, 0, none⟩)) ∧ IsRk w' w.heap.size (fun i => i = w.heap.size) [] x ∧ Below w.heap.size w w' := by
  go_enter Try.func31, Try.ntmps31
  go_wp2_with fail
  go_ret
  refine ⟨rfl, ⟨⟨none, 0, none, 0, heap_alloc_new w _, Kd.R_nil _ _ _ _ _, Kd.R_nil _ _ _ _ _⟩, rfl, ⟨List.Pairwise.nil, fun e he => by cases he⟩⟩, (Below.refl _ _).alloc (Nat.le_refl _) _⟩
end Go.Proofs.Ytdolmkiiflhehaa.M
end

section
/- Erase, to the letter. -/
set_option linter.unusedVariables false
set_option linter.unusedSimpArgs false
set_option maxRecDepth 100000
attribute [local irreducible] Go.wpStill
namespace Go.Proofs.Ytdolmkiiflhehaa.M
open Go.RowKit Go.Proofs.YtdolmkiiflhehaaW.PrintWords Go.Proofs.YtdolmkiiflhehaaW.PrintMore Go.Proofs.YtdolmkiiflhehaaW.PrintLast
def EraX (w : World) (s h : Nat) (L : List Nd) (x : Int) (k : Int × Int) (e : Ending) (w' : World) : Prop :=
  ∃ nx' : Nat → Nat → Option Nat, e = .returned (.int .i64 (eraE L k)) ∧ IsSk w' s h (eraL L k) x nx' ∧ KeepS (IsSk.Own s h L) w w' ∧ (∀ i, IsSk.Own s h (eraL L k) i → IsSk.Own s h L i ∨ w.heap.size ≤ i)
theorem era_no {L : List Nd} {k : Int × Int} (h : getL L k = none) : eraL L k = L ∧ eraE L k = 4 := by unfold eraL eraE; rw [h]; exact ⟨rfl, rfl⟩
theorem era_yes {L : List Nd} {k : Int × Int} {c : CellD} (h : getL L k = some c) : eraL L k = del L (rank L k) ∧ eraE L k = 0 := by unfold eraL eraE; rw [h]; exact ⟨rfl, rfl⟩
set_option maxHeartbeats 1000000 in
theorem erase_isX {w : World} {s h : Nat} {L : List Nd} {x : Int} {nx : Nat → Nat → Option Nat} (H : IsSk w s h L x nx) (hL : L.length ≤ 1048576) (k : Int × Int) :
    Calls Try.prog 11 #[.pointer (some ⟨s, 0, none⟩), keyV k] w fun e w' => EraX w s h L x k e w' := by
  have HB := Lib.hid (show Below w.heap.size w (w.alloc (.cells #[.int .i32 k.1, .int .i64 k.2] 29)) from (Below.refl _ _).alloc (Nat.le_refl _) _)
  have HA := H.below HB.out
  have b0 := heap_alloc_new w (.cells #[.int .i32 k.1, .int .i64 k.2] 29)
  have HSZ := Lib.hid (show (w.alloc (.cells #[.int .i32 k.1, .int .i64 k.2] 29)).heap.size = w.heap.size + 1 by simp)
  unfold keyV
  go_enter Try.func11, Try.ntmps11
  go_wp2_with fail
  obtain ⟨w2, hw2⟩ : ∃ w2, w.alloc (.cells #[.int .i32 k.1, .int .i64 k.2] 29) = w2 := ⟨_, rfl⟩
  rw [hw2] at HB HA b0 HSZ ⊢
  clear hw2
  have HH := Lib.hid HA
  have HW := Lib.hid H
  have HX := Lib.hid b0
  have c0 : w2.cell? ⟨w.heap.size, 0, none⟩ = some (.int .i32 k.1) := by simp [World.cell?, b0]
  have c1 : w2.cell? ⟨w.heap.size, 1, none⟩ = some (.int .i64 k.2) := by simp [World.cell?, b0]
  clear HA H b0
  refine (none_is HH.out).mono ?_
  rintro e w' ⟨rfl, rfl⟩
  go_wp2_with fail
  refine (path_is HH.out hL k).mono ?_
  rintro e w3 ⟨rfl, hb⟩
  have HB3 := Lib.hid hb
  have h1 := HH.out.below hb
  have hm := rank_le L k
  have hp := pre_zero h1.store hm
  have n1 := (h1.nds (rank L k) hm).next (l := 0) (by omega)
  rw [h1.links _ hm 0 (by rw [← hp]; exact pre_hi L (by omega) _), nxt_at h1.store hm] at n1
  have n2 := (h1.nds _ hm).lt
  clear h1 hm hb c0 c1
  obtain ⟨pb, hpb⟩ : ∃ pb, adr h L (rank L k) = pb := ⟨_, rfl⟩
  rw [hpb] at n1 n2
  have hp2 : adr h L (pre L 0 (rank L k)) = pb := by rw [hp]; exact hpb
  have HP2 := Lib.hid hp2
  have HA8 := Lib.hid (heap_alloc_new w3 (.cells (ptrArr (fun l => some (adr h L (pre L l (rank L k))))) 82))
  unfold ptrArr
  simp only [np]
  simp only [hp2]
  clear hpb hp hp2
  have n3 : w3.cell? ⟨pb, 4, none⟩ = some (np (atB L k)) := n1
  obtain ⟨r, hr⟩ : ∃ r, np (atB L k) = r := ⟨_, rfl⟩
  rw [hr] at n3
  have HR := Lib.hid hr
  clear n1 hr
  go_wp2_with fail
  have HB4 := Lib.hid (HB3.out.alloc HB3.out.size (.cells (ptrArr (fun l => some (adr h L (pre L l (rank L k))))) 82))
  have hE : w3.alloc (.cells #[(.pointer (some ⟨pb, 0, none⟩)), (.pointer (some ⟨adr h L (pre L 1 (rank L k)), 0, none⟩)), (.pointer (some ⟨adr h L (pre L 2 (rank L k)), 0, none⟩)), (.pointer (some ⟨adr h L (pre L 3 (rank L k)), 0, none⟩)), (.pointer (some ⟨adr h L (pre L 4 (rank L k)), 0, none⟩)), (.pointer (some ⟨adr h L (pre L 5 (rank L k)), 0, none⟩)), (.pointer (some ⟨adr h L (pre L 6 (rank L k)), 0, none⟩)), (.pointer (some ⟨adr h L (pre L 7 (rank L k)), 0, none⟩))] 82) = w3.alloc (.cells (ptrArr (fun l => some (adr h L (pre L l (rank L k))))) 82) := by rw [← HP2.out]; rfl
  rw [hE]
  obtain ⟨w4, hw4⟩ : ∃ w4, w3.alloc (.cells (ptrArr (fun l => some (adr h L (pre L l (rank L k))))) 82) = w4 := ⟨_, rfl⟩
  rw [hw4] at HA8 HB4 ⊢
  clear hE hw4 n2 n3
  have HH4 := Lib.hid (HH.out.below HB4.out)
  have HX4 := Lib.hid ((HB4.out.block w.heap.size (by rw [HSZ.out]; omega)).trans HX.out)
  have HP4 := Lib.hid (show w'.heap.size ≤ w3.heap.size from HB3.out.size)
  obtain ⟨P, hP⟩ : ∃ P, w3.heap.size = P := ⟨_, rfl⟩
  rw [hP] at HA8 HP4 ⊢
  clear hP HB3
  go_cut [7, 33] (fun a b wx => Below w4.heap.size w4 wx ∧ EraT L k a b)
  case first =>
    have b0 := HX4.out
    have c0 : w4.cell? ⟨w.heap.size, 0, none⟩ = some (.int .i32 k.1) := by simp [World.cell?, b0]
    have c1 : w4.cell? ⟨w.heap.size, 1, none⟩ = some (.int .i64 k.2) := by simp [World.cell?, b0]
    clear b0
    rcases getB HH4.out k with ⟨h1, h2⟩ | ⟨e, h1, h2, h3, h4⟩
    · have HG := Lib.hid h2
      have hr : r = .pointer none := by rw [← HR.out, h1]; rfl
      rw [hr]
      clear h1 h2 hr HR
      refine wp_region_still_tail 10 (by kernel_rfl) (by kernel_rfl) ?_
      simp only [List.take_succ_cons, List.take_zero, List.drop_succ_cons, List.drop_zero]
      iterate 10 still_step
      refine wpStill_nil ?_
      change wpList _ _ _ _ _ w4.drew
      go_wp2_with fail
      go_meet
      exact ⟨(Below.refl _ _).drew, true, rfl, .inl ⟨rfl, HG.out⟩⟩
    · have n0 := h3.c0
      have n1 := h3.c1
      have HG := Lib.hid h4
      have HM := Lib.hid h2
      have hr : r = .pointer (some ⟨e.b, 0, none⟩) := by rw [← HR.out, h1]; rfl
      rw [hr]
      clear h1 h2 h3 h4 hr HR
      by_cases hk : e.c.key = k
      · have hq : ∀ W : World, (Op.equalIn 10000 29 (.agg #[.int .i32 e.c.table, .int .i64 e.c.row]) (.agg #[.int .i32 k.1, .int .i64 k.2])).run Try.prog W = .ok true W := fun W => by
          rw [← hk]; exact eqk_self e.c.key W
        have HE := Lib.hid hk
        clear hk
        refine wp_region_still_tail 10 (by kernel_rfl) (by kernel_rfl) ?_
        simp only [List.take_succ_cons, List.take_zero, List.drop_succ_cons, List.drop_zero]
        iterate 10 still_step
        refine wpStill_nil ?_
        change wpList _ _ _ _ _ w4.drew
        go_wp2_with fail
        go_meet
        exact ⟨(Below.refl _ _).drew, false, rfl, .inr ⟨rfl, e, HM.out, HE.out, rfl⟩⟩
      · have hq : ∀ W : World, (Op.equalIn 10000 29 (.agg #[.int .i32 e.c.table, .int .i64 e.c.row]) (.agg #[.int .i32 k.1, .int .i64 k.2])).run Try.prog W = .ok false W := fun W => eqk_ne hk W
        have HE := Lib.hid (show getL L k = none by rw [HG.out, if_neg hk])
        clear hk
        refine wp_region_still_tail 10 (by kernel_rfl) (by kernel_rfl) ?_
        simp only [List.take_succ_cons, List.take_zero, List.drop_succ_cons, List.drop_zero]
        iterate 10 still_step
        refine wpStill_nil ?_
        change wpList _ _ _ _ _ w4.drew
        go_wp2_with fail
        go_meet
        exact ⟨(Below.refl _ _).drew, true, rfl, .inl ⟨rfl, HE.out⟩⟩
  case rest =>
    obtain ⟨hB5, d, rfl, hd⟩ := hcut
    have HB5 := Lib.hid hB5
    obtain ⟨w5, rfl⟩ : ∃ w5, w5 = wc := ⟨_, rfl⟩
    clear hB5
    rcases hd with ⟨rfl, hg⟩ | ⟨rfl, e, he, hk, rfl⟩
    · have HG := Lib.hid hg
      have HH5 := Lib.hid (HH4.out.below HB5.out)
      clear hg
      go_wp2_with fail
      go_ret
      obtain ⟨e1, e2⟩ := era_no HG.out
      exact ⟨nx, by rw [e2]; rfl, by rw [e1]; exact HH5.out, ((KeepS.of_below _ HB.out).then_below HB4.out).then_below HB5.out, fun i hi => .inl (by rw [e1] at hi; exact hi)⟩
    · have HE := Lib.hid he
      have HK := Lib.hid hk
      have HH5 := Lib.hid (HH4.out.below HB5.out)
      have HA5 := Lib.hid ((HB5.out.block P (Array.getElem?_eq_some_iff.1 HA8.out).1).trans HA8.out)
      have HK5 := Lib.hid (((KeepS.of_below (IsSk.Own s h L) HB.out).then_below HB4.out).then_below HB5.out)
      have HL := Lib.hid (List.getElem?_eq_some_iff.1 he).1
      have HHI := Lib.hid (show hiAt L (rank L k) = e.hi by unfold hiAt; rw [he])
      have HBL := Lib.hid (show blkAt L (rank L k) = e.b by unfold blkAt; rw [he])
      have H8 := Lib.hid (HH5.out.store.hi e (List.mem_of_getElem? he))
      have n12 := (HH5.out.nd he).c12
      have HPO := Lib.hid (show ∀ i, IsSk.Own s h L i → P ≠ i from fun i hi e' => by have := HH.out.own_lt hi; have := HP4.out; omega)
      clear he hk HX HX4 HA8
      go_wp2_with fail
      go_loopw [38] (fun i wr => EraL s h L x nx (rank L k) P w5 i wr) (fun i _ => e.hi - (intOf i).toNat)
      case atStart => exact ⟨0, rfl, Nat.zero_le _, DelI.zero HH5.out _, HA5.out, KeepS.refl _ _⟩
      case round =>
        obtain ⟨j, rfl, hj, hI, hA, hK⟩ := hrel
        rw [HHI.out] at hj
        have HI := Lib.hid hI; have HAj := Lib.hid hA; have HKj := Lib.hid hK
        clear hI hA hK n12
        by_cases hlt : j < e.hi
        · have hm := rank_le L k
          have hp : pre L j (rank L k) ≤ L.length := Nat.le_trans (pre_le L j _) hm
          have hj8 : j < 8 := Nat.lt_of_lt_of_le hlt H8.out.2
          have hzp := (HI.out.nds _ hp).z (4 + j)
          have hcp := (HI.out.nds _ hp).next hj8
          have hat := (HI.out.nds (rank L k + 1) HL.out).next hj8
          rw [delJ_at] at hat
          have eb : adr h L (rank L k + 1) = e.b := HBL.out
          rw [eb] at hat
          have a1 : wr.cell? ⟨P, j, none⟩ = some (.pointer (some ⟨adr h L (pre L j (rank L k)), 0, none⟩)) := by
            have := ptrArr_get (fun l => some (adr h L (pre L l (rank L k)))) hj8
            simp [World.cell?, HAj.out, this, np]
          have HST := Lib.hid ((HI.out.move (w' := wr.drew) (fun _ _ => rfl)).step HH5.out.apart HH5.out.sne HL.out (by rw [HHI.out]; exact hlt) (by rw [HHI.out]; exact H8.out.2))
          rw [HBL.out] at HST
          have HOW := Lib.hid (IsSk.own_adr s h L hp)
          obtain ⟨pa, hpa⟩ : ∃ pa, adr h L (pre L j (rank L k)) = pa := ⟨_, rfl⟩
          rw [hpa] at hzp hcp a1 HST HOW
          obtain ⟨nv, hnv⟩ : ∃ nv, np (nx e.b j) = .pointer nv := np_ptr _
          rw [hnv] at hat HST
          obtain ⟨ov, hov⟩ : ∃ ov, np (delJ nx h L (rank L k) j pa j) = ov := ⟨_, rfl⟩
          rw [hov] at hcp
          have g0 : (0 : Int) ≤ (j : Int) := by omega
          have g8 : (j : Int) < 8 := by omega
          have gl : (j : Int) < (e.hi : Int) := by omega
          clear hm hp hnv hov hpa eb
          go_wp2_with fail
          refine wp_region_still_tail 13 (by kernel_rfl) (by kernel_rfl) ?_
          simp only [List.take_succ_cons, List.take_zero, List.drop_succ_cons, List.drop_zero]
          iterate 13 still_step
          refine wpStill_nil ?_
          change wpList _ _ _ _ _ wr.drew
          go_wp2_with fail
          go_roundw
          case rel =>
            refine ⟨j + 1, by go_num, by rw [HHI.out]; exact hlt, ?_, ?_, ?_⟩
            · exact HST.out
            · exact (Below.heap_setCell _ _ _ P (by exact HPO.out pa HOW.out)).trans HAj.out
            · exact HKj.out.drew.set (p := ⟨pa, 4 + j, none⟩) (.inl HOW.out) _
          case measure => simp [intOf]; omega
        · have hjg : j = e.hi := by omega
          subst hjg
          have hlt' : decide ((e.hi : Int) < (e.hi : Int)) = false := decide_eq_false (by omega)
          have s1 : wr.cell? ⟨s, 1, none⟩ = some (.int .i64 L.length) := by simp [World.cell?, HI.out.sh]
          have zs : wr.frozen? ⟨s, 1, none⟩ = false := by simp [World.frozen?, HI.out.sh]
          clear hlt hj
          go_wp2_with fail
          go_ret
          have hI2 := HI.out
          rw [← HHI.out] at hI2
          have hd := DelI.done hI2 HH5.out.links HH5.out.apart HH5.out.store HH5.out.sne HL.out
          have hcast : ((L.length - 1 : Nat) : Int) = (L.length : Int) - 1 := by have := HL.out; omega
          rw [hcast] at hd
          have hget : getL L k = some e.c := by unfold getL; rw [HE.out]; simp only; rw [if_pos HK.out]
          obtain ⟨e1, e2⟩ := era_yes hget
          refine ⟨delJ nx h L (rank L k) (hiAt L (rank L k)), by rw [e2]; rfl, by rw [e1]; exact hd, ?_, ?_⟩
          · exact KeepS.set (HK5.out.trans HKj.out) (p := ⟨s, 1, none⟩) (.inl (.inl rfl)) _
          · intro i hi
            rw [e1] at hi
            rcases hi with hi | hi
            · exact .inl (.inl hi)
            · rcases List.mem_cons.1 hi with hi | hi
              · exact .inl (.inr (hi ▸ List.mem_cons_self))
              · exact .inl (.inr (List.mem_cons_of_mem _ (((del_sublist L (rank L k)).map _).subset hi)))
end Go.Proofs.Ytdolmkiiflhehaa.M
end

section
-- Written by a program of this session's (wip/gprint.py over the kit's printer).
namespace Go.Proofs.Ytdolmkiiflhehaa.G
open Go.RowKit Go.Proofs.YtdolmkiiflhehaaW.PrintWords Go.Proofs.YtdolmkiiflhehaaW.PrintLast Go.Proofs.YtdolmkiiflhehaaW.PrintMore
attribute [local go_sem] max2_int min2_int max_two min_two max_three min_three max_four min_four   -- for this text's walks alone
set_option linter.unusedVariables false
set_option linter.unusedSimpArgs false
def errW : Option Int → Value
  | none => .nilIface
  | some c => .iface 0 (.int .i64 c)
theorem errW_none : errW none = .nilIface := rfl
theorem errW_some (c : Int) : errW (some c) = .iface 0 (.int .i64 c) := rfl
theorem info5 : (Try.prog.info? 5).map (fun i => (i.zero, i.size, i.bytes)) = some (some (.int .u8 0), 1, 1) := by kernel_rfl
-- the values' own types
end Go.Proofs.Ytdolmkiiflhehaa.G
end

section
-- Written by a program of this session's (wip/gprint.py over the kit's printer).
namespace Go.Proofs.Ytdolmkiiflhehaa.G
open Go.RowKit Go.Proofs.YtdolmkiiflhehaaW.PrintWords Go.Proofs.YtdolmkiiflhehaaW.PrintLast Go.Proofs.YtdolmkiiflhehaaW.PrintMore
attribute [local go_sem] max2_int min2_int max_two min_two max_three min_three max_four min_four   -- for this text's walks alone
set_option linter.unusedVariables false
set_option linter.unusedSimpArgs false
def shape_low.l0 : Nat → Int → List Int → Option (List Int)
  | 0, _, _ => none
  | k + 1, x0, x3 => if x0 > 0 then (if x3.length < 140737488355328 then (shape_low.l0 k (x0 / 256) (x3 ++ [(x0) % 256])) else (none)) else (some x3)
def shape_low.f (k : Nat) (a0 : Int) : Option (List Int) := shape_low.l0 k a0 ([] : List Int)
set_option maxHeartbeats 8000000 in
set_option maxRecDepth 100000 in
theorem shape_low.calls (k : Nat) (a0 : Int) (r : List Int) (w : World) (h : shape_low.f k a0 = some r) :
    Calls Try.prog 78 #[.int .u64 a0] w fun e w' => ∃ v0_ : Value, e = .returned (v0_) ∧ Kd.R (Kd.int .u8) 5 w' w.heap.size (fun _ => True) v0_ r ∧ Below w.heap.size w w' := by
  have HB := Aside0.mk (Below.refl w.heap.size w)
  have H : (shape_low.l0 k a0 ([] : List Int)) = some r := h
  clear h
  have H' := Aside0.mk H
  clear H
  go_enter Try.func78, Try.ntmps78
  go_wp2
  go_loopg [0, 3] k (fun kq v0 v3 w' => ∃ (x0_1 : Int) (x3_1 : List Int), v0 = .int .u64 x0_1 ∧ Aside0 (shape_low.l0 kq x0_1 x3_1 = some r) ∧ Aside0 (kq ≤ k) ∧ Aside0 (Kd.R (Kd.int .u8) 5 w' w.heap.size (fun _ => True) v3 x3_1) ∧ Aside0 (Below w.heap.size w w'))
  case atStart => exact ⟨(a0), (([] : List Int)), (by first | rfl | (simp; done) | (simp [*]; done)), H', ⟨Nat.le_refl _⟩, ⟨by first | exact Kd.R_nil _ _ _ _ _ | exact Kd.N_nil _ _ _ _ _ | exact Kd.V_nil _ _ _ _ _ | exact Kd.Q_nil _ _ _ _ _ | exact Kd.S_nil _ _ _ _ _⟩, ⟨by repeat (first | (with_reducible first | exact HB.out | apply below_alloc | apply pw_below_drewN | apply below_drew1) | exact HB.out)⟩⟩
  case round =>
    clear H'
    obtain ⟨x0_1, x3_1, rfl, HA, HK1, HO_3, HB⟩ := hrel
    cases gk with
    | zero => exact absurd HA.out (by simp [shape_low.l0])
    | succ k1 =>
      have H := HA.out
      clear HA
      simp only [shape_low.l0] at H
      by_cases c2 : x0_1 > 0
      · rw [if_pos c2] at H
        have c2b0 : decide (0 < x0_1) = true := decide_eq_true c2
        clear c2
        by_cases c3 : x3_1.length < 140737488355328
        · rw [if_pos c3] at H
          have LMc3 := Aside0.mk c3
          clear c3
          obtain ⟨y101, hy101⟩ : ∃ y_ : List Int, y_ = (x3_1 ++ [(x0_1) % 256]) := ⟨_, rfl⟩
          replace H : (shape_low.l0 k1 (x0_1 / 256) y101) = some r := by first | (rw [hy101]; with_reducible exact H) | (have H2_ := (Option.bind_some _ _).symm.trans H; rw [hy101]; with_reducible exact H2_) | (have H2_ := (Option.bind_some _ _).symm.trans H; with_reducible exact H2_) | with_reducible exact H | (rw [hy101]; exact H) | exact H
          have Ny101 := Aside0.mk hy101
          clear hy101
          have H' := Aside0.mk H
          clear H
          go_wp2_with (first | ((with_reducible refine gate_builtin (b := .append) (xs := #[.tmp 8, .tmp 11]) rfl ?_); at_builtin; refine Kd.R_append (Kd.int .u8) (w0 := w) w.heap.size rfl (.tmp 8) (.tmp 11) 61 5 (.int .u8 0) 1 rfl Try.underlying61 info5 rfl (by decide) (by omega) u3 x3_1 ((x0_1) % 256) [.int .u8 ((x0_1) % 256)] (fun _ => True) (fun _ => False) rfl rfl ?aP (fun _ hk => hk.elim) ?aF ?aO ?aB ?aS ?aL ?_; (case aP => exact rfl); (case aB => exact (by repeat (first | (with_reducible first | exact HB.out | apply below_alloc | apply pw_below_drewN | apply below_drew1) | exact HB.out))); (case aF => exact (fun _ _ => trivial)); (case aO => exact (by (with_reducible repeat (first|apply Kd.R_alloc | apply Kd.R_drewN | apply Kd.R_drew)); exact HO_3.out)); (case aS => exact (below_size (by repeat (first | (with_reducible first | exact HB.out | apply below_alloc | apply pw_below_drewN | apply below_drew1) | exact HB.out)))); (case aL => have := LMc3.out; omega); intro v102 w4 ho hb hg hat; rw [← Ny101.out] at ho; have n0_ := Aside0.mk (hb); have n1_ := Aside0.mk (ho); clear HB; clear HO_3; have HB := n0_; have HO103 := n1_; clear n0_ n1_; clear ho hb hg hat))
          go_roundg k1
          case measure => have := HK1.out; omega
          case rel => exact ⟨(x0_1 / 256), (y101), (by first | rfl | (simp; done) | (simp [*]; done)), H', ⟨by have := HK1.out; omega⟩, ⟨by (with_reducible repeat (first|apply Kd.R_alloc | apply Kd.R_drewN | apply Kd.R_drew)); exact HO103.out⟩, ⟨by repeat (first | (with_reducible first | exact HB.out | apply below_alloc | apply pw_below_drewN | apply below_drew1) | exact HB.out)⟩⟩
        · rw [if_neg c3] at H
          exact absurd H (by simp)
      · rw [if_neg c2] at H
        have c2b0 : decide (0 < x0_1) = false := decide_eq_false c2
        clear c2
        obtain rfl := Option.some.inj H
        go_wp2
        go_ret
        exact ⟨_, by first | rfl | (simp [errW_none, errW_some] <;> rfl) | (simp [*, errW_none, errW_some] <;> rfl), by (with_reducible repeat (first|apply Kd.R_alloc | apply Kd.R_drewN | apply Kd.R_drew)); exact HO_3.out, by repeat (first | (with_reducible first | exact HB.out | apply below_alloc | apply pw_below_drewN | apply below_drew1) | exact HB.out)⟩
mutual
def trivetref01_Num.j0 : Nat → Int → Int → Option (List Int)
  | 0, _, _ => none
  | k + 1, x3, x4 => trivetref01_Num.l0 k x3 x4 ([] : List Int)
def trivetref01_Num.l0 : Nat → Int → Int → List Int → Option (List Int)
  | 0, _, _, _ => none
  | k + 1, x3, x4, x5 => if x3 > 0 then (if x5.length < 140737488355328 then (trivetref01_Num.l0 k (IntKind.u64.wrap (Int.tdiv x3 256)) x4 (x5 ++ [(Int.tmod x3 256) % 256])) else (none)) else ((some (([(((wrap64 (2 * (x5.length : Int))) % 256) + x4) % 256] : List Int) : List Int)).bind fun y107 => (if y107.length + x5.length < 140737488355328 then (some (y107 ++ x5)) else (none)))
end
def trivetref01_Num.f (k : Nat) (a0 : Int) : Option (List Int) := if a0 < 0 then (trivetref01_Num.j0 k (IntKind.u64.wrap ((IntKind.u64.wrap (wrap64 (-(wrap64 (a0 + 1))))) + 1)) 1) else (trivetref01_Num.j0 k (IntKind.u64.wrap (a0)) 0)
set_option maxHeartbeats 8000000 in
set_option maxRecDepth 100000 in
theorem trivetref01_Num.calls (k : Nat) (a0 : Int) (r : List Int) (w : World) (h : trivetref01_Num.f k a0 = some r) :
    Calls Try.prog 60 #[.int .i64 a0] w fun e w' => ∃ v0_ : Value, e = .returned (v0_) ∧ Kd.R (Kd.int .u8) 5 w' w.heap.size (fun _ => True) v0_ r ∧ Below w.heap.size w w' := by
  have HB := Aside0.mk (Below.refl w.heap.size w)
  have H : (if a0 < 0 then (trivetref01_Num.j0 k (IntKind.u64.wrap ((IntKind.u64.wrap (wrap64 (-(wrap64 (a0 + 1))))) + 1)) 1) else (trivetref01_Num.j0 k (IntKind.u64.wrap (a0)) 0)) = some r := h
  clear h
  have HC2 := Aside0.mk H
  clear H
  go_enter Try.func60, Try.ntmps60
  go_upto_if 10 with (fail)
  go_cut [3, 4] (fun v3 v4 wc => ∃ (kq : Nat) (x3_1 : Int) (x4_1 : Int), v3 = .int .u64 x3_1 ∧ v4 = .int .u8 x4_1 ∧ Aside0 (trivetref01_Num.j0 kq x3_1 x4_1 = some r) ∧ Aside0 (kq ≤ k) ∧ Aside0 (Below w.heap.size w wc))
  case first =>
    have H := HC2.out
    clear HC2
    by_cases c3 : a0 < 0
    · rw [if_pos c3] at H
      have c3b0 : decide (a0 < 0) = true := decide_eq_true c3
      clear c3
      (first | rw [c3b0] | (simp only [i64_w, i32_w]; rw [c3b0]) | skip)
      have H' := Aside0.mk H
      clear H
      go_wp2
      go_meet
      case rel => exact ⟨_, (IntKind.u64.wrap ((IntKind.u64.wrap (wrap64 (-(wrap64 (a0 + 1))))) + 1)), (1), (by first | rfl | (simp; done) | (simp [*]; done)), (by first | rfl | (simp; done) | (simp [*]; done)), H', ⟨by first | omega | exact Nat.le_refl _⟩, ⟨by repeat (first | (with_reducible first | exact HB.out | apply below_alloc | apply pw_below_drewN | apply below_drew1) | exact HB.out)⟩⟩
    · rw [if_neg c3] at H
      have c3b0 : decide (a0 < 0) = false := decide_eq_false c3
      clear c3
      (first | rw [c3b0] | (simp only [i64_w, i32_w]; rw [c3b0]) | skip)
      have H' := Aside0.mk H
      clear H
      go_wp2
      go_meet
      case rel => exact ⟨_, (IntKind.u64.wrap (a0)), (0), (by first | rfl | (simp; done) | (simp [*]; done)), (by first | rfl | (simp; done) | (simp [*]; done)), H', ⟨by first | omega | exact Nat.le_refl _⟩, ⟨by repeat (first | (with_reducible first | exact HB.out | apply below_alloc | apply pw_below_drewN | apply below_drew1) | exact HB.out)⟩⟩
  case rest =>
    clear HC2
    try clear p2
    try clear c3
    try clear c3b0
    obtain ⟨kq, x3_1, x4_1, rfl, rfl, HA, HJ1, HB⟩ := hcut
    cases kq with
    | zero => exact absurd HA.out (by simp [trivetref01_Num.j0])
    | succ kj1 =>
      have H := HA.out
      clear HA
      simp only [trivetref01_Num.j0] at H
      have H' := Aside0.mk H
      clear H
      go_wp2
      go_loopg [3, 5] kj1 (fun kq v3 v5 w' => ∃ (x3_2 : Int) (x5_2 : List Int), v3 = .int .u64 x3_2 ∧ Aside0 (trivetref01_Num.l0 kq x3_2 x4_1 x5_2 = some r) ∧ Aside0 (kq ≤ kj1) ∧ Aside0 (Kd.R (Kd.int .u8) 5 w' w.heap.size (fun _ => True) v5 x5_2) ∧ Aside0 (Below w.heap.size w w'))
      case atStart => exact ⟨(x3_1), (([] : List Int)), (by first | rfl | (simp; done) | (simp [*]; done)), H', ⟨Nat.le_refl _⟩, ⟨by first | exact Kd.R_nil _ _ _ _ _ | exact Kd.N_nil _ _ _ _ _ | exact Kd.V_nil _ _ _ _ _ | exact Kd.Q_nil _ _ _ _ _ | exact Kd.S_nil _ _ _ _ _⟩, ⟨by repeat (first | (with_reducible first | exact HB.out | apply below_alloc | apply pw_below_drewN | apply below_drew1) | exact HB.out)⟩⟩
      case round =>
        clear H'
        try clear p2
        try clear c3
        try clear c3b0
        try clear p2
        obtain ⟨x3_2, x5_2, rfl, HA, HK2, HO_5, HB⟩ := hrel
        cases gk with
        | zero => exact absurd HA.out (by simp [trivetref01_Num.l0])
        | succ k2 =>
          have H := HA.out
          clear HA
          simp only [trivetref01_Num.l0] at H
          by_cases c4 : x3_2 > 0
          · rw [if_pos c4] at H
            have c4b0 : decide (0 < x3_2) = true := decide_eq_true c4
            clear c4
            by_cases c5 : x5_2.length < 140737488355328
            · rw [if_pos c5] at H
              have LMc5 := Aside0.mk c5
              clear c5
              obtain ⟨y104, hy104⟩ : ∃ y_ : List Int, y_ = (x5_2 ++ [(Int.tmod x3_2 256) % 256]) := ⟨_, rfl⟩
              replace H : (trivetref01_Num.l0 k2 (IntKind.u64.wrap (Int.tdiv x3_2 256)) x4_1 y104) = some r := by first | (rw [hy104]; with_reducible exact H) | (have H2_ := (Option.bind_some _ _).symm.trans H; rw [hy104]; with_reducible exact H2_) | (have H2_ := (Option.bind_some _ _).symm.trans H; with_reducible exact H2_) | with_reducible exact H | (rw [hy104]; exact H) | exact H
              have Ny104 := Aside0.mk hy104
              clear hy104
              have H' := Aside0.mk H
              clear H
              go_wp2_with (first | ((with_reducible refine gate_builtin (b := .append) (xs := #[.tmp 18, .tmp 22]) rfl ?_); at_builtin; refine Kd.R_append (Kd.int .u8) (w0 := w) w.heap.size rfl (.tmp 18) (.tmp 22) 61 5 (.int .u8 0) 1 rfl Try.underlying61 info5 rfl (by decide) (by omega) u5 x5_2 ((Int.tmod x3_2 256) % 256) [.int .u8 ((Int.tmod x3_2 256) % 256)] (fun _ => True) (fun _ => False) rfl rfl ?aP (fun _ hk => hk.elim) ?aF ?aO ?aB ?aS ?aL ?_; (case aP => exact rfl); (case aB => exact (by repeat (first | (with_reducible first | exact HB.out | apply below_alloc | apply pw_below_drewN | apply below_drew1) | exact HB.out))); (case aF => exact (fun _ _ => trivial)); (case aO => exact (by (with_reducible repeat (first|apply Kd.R_alloc | apply Kd.R_drewN | apply Kd.R_drew)); exact HO_5.out)); (case aS => exact (below_size (by repeat (first | (with_reducible first | exact HB.out | apply below_alloc | apply pw_below_drewN | apply below_drew1) | exact HB.out)))); (case aL => have := LMc5.out; omega); intro v105 w6 ho hb hg hat; rw [← Ny104.out] at ho; have n0_ := Aside0.mk (hb); have n1_ := Aside0.mk (ho); clear HB; clear HO_5; have HB := n0_; have HO106 := n1_; clear n0_ n1_; clear ho hb hg hat))
              go_roundg k2
              case measure => have := HJ1.out; have := HK2.out; omega
              case rel => exact ⟨(IntKind.u64.wrap (Int.tdiv x3_2 256)), (y104), (by first | rfl | (simp; done) | (simp [*]; done)), H', ⟨by have := HJ1.out; have := HK2.out; omega⟩, ⟨by (with_reducible repeat (first|apply Kd.R_alloc | apply Kd.R_drewN | apply Kd.R_drew)); exact HO106.out⟩, ⟨by repeat (first | (with_reducible first | exact HB.out | apply below_alloc | apply pw_below_drewN | apply below_drew1) | exact HB.out)⟩⟩
            · rw [if_neg c5] at H
              exact absurd H (by simp)
          · rw [if_neg c4] at H
            have c4b0 : decide (0 < x3_2) = false := decide_eq_false c4
            clear c4
            obtain ⟨y107, hy107⟩ : ∃ y_ : List Int, y_ = (([(((wrap64 (2 * (x5_2.length : Int))) % 256) + x4_1) % 256] : List Int)) := ⟨_, rfl⟩
            replace H : (if y107.length + x5_2.length < 140737488355328 then (some (y107 ++ x5_2)) else (none)) = some r := by first | (rw [hy107]; with_reducible exact H) | (have H2_ := (Option.bind_some _ _).symm.trans H; rw [hy107]; with_reducible exact H2_) | (have H2_ := (Option.bind_some _ _).symm.trans H; with_reducible exact H2_) | with_reducible exact H | (rw [hy107]; exact H) | exact H
            have Ny107 := Aside0.mk hy107
            clear hy107
            by_cases c7 : y107.length + x5_2.length < 140737488355328
            · rw [if_pos c7] at H
              have LMc7 := Aside0.mk c7
              clear c7
              obtain ⟨y110, hy110⟩ : ∃ y_ : List Int, y_ = (y107 ++ x5_2) := ⟨_, rfl⟩
              replace H : (some y110) = some r := by first | (rw [hy110]; with_reducible exact H) | (have H2_ := (Option.bind_some _ _).symm.trans H; rw [hy110]; with_reducible exact H2_) | (have H2_ := (Option.bind_some _ _).symm.trans H; with_reducible exact H2_) | with_reducible exact H | (rw [hy110]; exact H) | exact H
              have Ny110 := Aside0.mk hy110
              clear hy110
              obtain rfl := Option.some.inj H
              obtain ⟨Ao8, co8, eo8⟩ := Kd.R_slice HO_5.out
              subst eo8
              go_wp2_with (first | ((with_reducible refine gate_dst (N := 32) rfl ?_); refine Kd.R_lit (Kd.int .u8) _ 5 ?hg (N := 32) ?hd (xs := ([(((wrap64 (2 * (x5_2.length : Int))) % 256) + x4_1) % 256] : List Int)) (inner := [.int .u8 ((((wrap64 (2 * (x5_2.length : Int))) % 256) + x4_1) % 256)]) (ok := fun _ => True) (okp := fun _ => True) ?hr ?hp (fun _ hk => hk) trivial (Below.refl _ _) (Nat.le_refl _) (by simp) ?_; (case hd => rfl); (case hg => rfl); (case hr => first | (go_simp; done) | (go_simp; rfl)); (case hp => exact (Reps.one (show Kd.M (Kd.int .u8) _ _ _ ((((wrap64 (2 * (x5_2.length : Int))) % 256) + x4_1) % 256) [.int .u8 ((((wrap64 (2 * (x5_2.length : Int))) % 256) + x4_1) % 256)] from rfl) (Reps.none _ _))); intro v108 w9 ho10 hb hg_ hnew_; clear hg_ hnew_; (first | rw [← Ny107.out] at ho10 | (simp only [Int.reduceToNat] at ho10; rw [← Ny107.out] at ho10)); have n0_ := Aside0.mk (Kd.R_elder' (by (with_reducible repeat (first|apply Kd.R_alloc | apply Kd.R_drewN | apply Kd.R_drew)); exact HO_5.out) (Kd.R_base ho10) hb); have n1_ := Aside0.mk (Kd.R_lower (Kd.R_new' ho10 (Kd.R_lt (by (with_reducible repeat (first|apply Kd.R_alloc | apply Kd.R_drewN | apply Kd.R_drew)); exact HO_5.out))) (below_size (by repeat (first | (with_reducible first | exact HB.out | apply below_alloc | apply pw_below_drewN | apply below_drew1) | exact HB.out)))); have n2_ := Aside0.mk (below_step (by repeat (first | (with_reducible first | exact HB.out | apply below_alloc | apply pw_below_drewN | apply below_drew1) | exact HB.out)) hb); clear HO_5; clear HB; have HO_5 := n0_; have HO109 := n1_; have HB := n2_; clear n0_ n1_ n2_; clear hb ho10) | ((with_reducible refine gate_builtin (b := .append) (xs := #[.tmp 33, .tmp 34]) rfl ?_); at_builtin; refine Kd.R_append_rows (Kd.int .u8) (w0 := w) w.heap.size rfl (.tmp 33) (.tmp 34) 61 5 (.int .u8 0) 1 rfl Try.underlying61 info5 rfl (by decide) (by omega) v108 y107 x5_2 _ _ _ (fun k_ => some k_ ≠ (.slice Ao8 x5_2.length co8 : Value).ownBlock) (fun _ => False) rfl rfl ?aO ?aR (fun _ _ h => h) (fun _ h => h.elim) ?aF ?aB ?aS ?aL ?_; (case aR => repeat (first | exact (Kd.R_reads' HO_5.out).2.2 | (with_reducible refine Kd.C_alloc ?_ _) | (with_reducible refine Kd.C_drewN ?_ _) | (with_reducible refine Kd.C_drew ?_))); (case aB => exact (by repeat (first | (with_reducible first | exact HB.out | apply below_alloc | apply pw_below_drewN | apply below_drew1) | exact HB.out))); (case aF => exact (fun k_ hk => Kd.fresh' (Kd.R_lt (by (with_reducible repeat (first|apply Kd.R_alloc | apply Kd.R_drewN | apply Kd.R_drew)); exact HO_5.out)) k_ hk)); (case aO => exact (by (with_reducible repeat (first|apply Kd.R_alloc | apply Kd.R_drewN | apply Kd.R_drew)); exact Kd.R_mono HO109.out (fun _ hk => hk.2))); (case aS => exact (below_size (by repeat (first | (with_reducible first | exact HB.out | apply below_alloc | apply pw_below_drewN | apply below_drew1) | exact HB.out)))); (case aL => have := LMc7.out; omega); intro v111 w11 ho hb hg hat; rw [← Ny110.out] at ho; have n0_ := Aside0.mk (Kd.R_after (ok := (fun _ => True)) (by (with_reducible repeat (first|apply Kd.R_alloc | apply Kd.R_drewN | apply Kd.R_drew)); exact HO_5.out) hg hat); have n1_ := Aside0.mk (hb); have n2_ := Aside0.mk (ho); clear HO_5; clear HB; clear HO109; have HO_5 := n0_; have HB := n1_; have HO112 := n2_; clear n0_ n1_ n2_; clear ho hb hg hat))
              go_ret
              exact ⟨_, by first | rfl | (simp [errW_none, errW_some] <;> rfl) | (simp [*, errW_none, errW_some] <;> rfl), by (with_reducible repeat (first|apply Kd.R_alloc | apply Kd.R_drewN | apply Kd.R_drew)); exact Kd.R_mono HO112.out (fun _ hk => trivial), by repeat (first | (with_reducible first | exact HB.out | apply below_alloc | apply pw_below_drewN | apply below_drew1) | exact HB.out)⟩
            · rw [if_neg c7] at H
              exact absurd H (by simp)
end Go.Proofs.Ytdolmkiiflhehaa.G
end

section
/- Numbers' bytes as lists of whole numbers: what trivet/shape's functions come to. No program here. -/
set_option maxRecDepth 100000
set_option linter.unusedVariables false
set_option linter.unusedSimpArgs false
namespace Go.Proofs.Ytdolmkiiflhehaa.M
open Go.RowKit Go.Proofs.YtdolmkiiflhehaaW.PrintWords
def lowB (n : Nat) : List Int := if h : n = 0 then [] else ((n % 256 : Nat) : Int) :: lowB (n / 256)
decreasing_by omega
theorem lowB_zero : lowB 0 = [] := by rw [lowB]; rfl
theorem lowB_pos {n : Nat} (h : n ≠ 0) : lowB n = ((n % 256 : Nat) : Int) :: lowB (n / 256) := by rw [lowB, dif_neg h]
theorem lowB_len (n j : Nat) (h : n < 256 ^ j) : (lowB n).length ≤ j := by
  induction j generalizing n with
  | zero => simp at h; subst h; simp [lowB_zero]
  | succ j ih =>
    by_cases h0 : n = 0
    · subst h0; simp [lowB_zero]
    · rw [lowB_pos h0, List.length_cons]
      have := ih (n / 256) (by rw [Nat.pow_succ] at h; omega)
      omega
def mag (n : Int) : Nat := n.natAbs
def numB (n : Int) : List Int := (2 * ((lowB (mag n)).length : Int) + if n < 0 then 1 else 0) :: lowB (mag n)
def numsB (l : List Int) : List Int := l.flatMap numB
def isI64 (n : Int) : Prop := -9223372036854775808 ≤ n ∧ n ≤ 9223372036854775807
instance (n : Int) : Decidable (isI64 n) := by unfold isI64; infer_instance
def okI (l : List Int) : Bool := l.all fun n => decide (isI64 n)
theorem okI_mem {l : List Int} (h : okI l = true) {x : Int} (hx : x ∈ l) : isI64 x := by
  unfold okI at h
  rw [List.all_eq_true] at h
  simpa using h x hx
theorem mag_lt {n : Int} (h : isI64 n) : mag n < 256 ^ 8 := by unfold mag; unfold isI64 at h; omega
theorem numB_len {n : Int} (h : isI64 n) : 1 ≤ (numB n).length ∧ (numB n).length ≤ 9 := by
  have := lowB_len _ 8 (mag_lt h)
  unfold numB
  rw [List.length_cons]
  omega
theorem numsB_len {l : List Int} (h : okI l = true) : (numsB l).length ≤ 9 * l.length := by
  induction l with
  | nil => simp [numsB]
  | cons x r ih =>
    have hx := numB_len (okI_mem h (List.mem_cons_self ..))
    have hr : okI r = true := by unfold okI at h ⊢; rw [List.all_cons, Bool.and_eq_true] at h; exact h.2
    have := ih hr
    simp only [numsB, List.flatMap_cons, List.length_append, List.length_cons] at this ⊢
    omega
theorem numsB_snoc (l : List Int) (x : Int) : numsB (l ++ [x]) = numsB l ++ numB x := by simp [numsB]
theorem take_snoc_int (l : List Int) (i : Nat) (h : i < l.length) : l.take (i + 1) = l.take i ++ [rd l (i : Int)] := by
  rw [List.take_succ_eq_append_getElem h]
  simp [rd, List.getD_eq_getElem?_getD, List.getElem?_eq_getElem h]
end Go.Proofs.Ytdolmkiiflhehaa.M
end

section
/- Contracts of trivet/shape's inner functions that give up by a panic, and of try, which catches it. -/
set_option maxRecDepth 100000
set_option linter.unusedVariables false
set_option linter.unusedSimpArgs false
namespace Go.Proofs.Ytdolmkiiflhehaa.M
open Go.RowKit
structure Keep2 (b : Nat) (w w' : World) : Prop where
  os : w'.os = w.os
  tape : w'.tape = w.tape
  output : w'.output = w.output
  size : w.heap.size ≤ w'.heap.size
  block : ∀ i, i < w.heap.size → i ≠ b + 1 → i ≠ b + 2 → w'.heap[i]? = w.heap[i]?
theorem Keep2.refl (b : Nat) (w : World) : Keep2 b w w := ⟨rfl, rfl, rfl, Nat.le_refl _, fun _ _ _ _ => rfl⟩
theorem Keep2.trans {b : Nat} {x y z : World} (h : Keep2 b x y) (k : Keep2 b y z) : Keep2 b x z :=
  ⟨k.os.trans h.os, k.tape.trans h.tape, k.output.trans h.output, Nat.le_trans h.size k.size, fun i hi h1 h2 => (k.block i (Nat.lt_of_lt_of_le hi h.size) h1 h2).trans (h.block i hi h1 h2)⟩
theorem Keep2.of_below {b : Nat} {x y : World} (h : Below x.heap.size x y) : Keep2 b x y := ⟨h.os, h.tape, h.output, h.size, fun i hi _ _ => h.block i hi⟩
theorem Keep2.alloc {b : Nat} {x y : World} (h : Keep2 b x y) (o : Obj) : Keep2 b x (y.alloc o) := h.trans (Keep2.of_below ((Below.refl _ y).alloc (Nat.le_refl _) o))
theorem Keep2.drew {b : Nat} {x y : World} (h : Keep2 b x y) : Keep2 b x y.drew := ⟨h.os, h.tape, h.output, h.size, h.block⟩
theorem Keep2.drewN {b : Nat} {x y : World} (h : Keep2 b x y) (n : Nat) : Keep2 b x (y.drewN n) := ⟨h.os, h.tape, h.output, h.size, h.block⟩
theorem Keep2.cell {b : Nat} {x y : World} (h : Keep2 b x y) {p : Addr} (hp : p.block < x.heap.size) (h1 : p.block ≠ b + 1) (h2 : p.block ≠ b + 2) : y.cell? p = x.cell? p := World.cell?_of_block (h.block p.block hp h1 h2)
theorem Keep2.frozen {b : Nat} {x y : World} (h : Keep2 b x y) {p : Addr} (hp : p.block < x.heap.size) (h1 : p.block ≠ b + 1) (h2 : p.block ≠ b + 2) : y.frozen? p = x.frozen? p := World.frozen?_of_block (h.block p.block hp h1 h2)
theorem Keep2.below {b B : Nat} {x y : World} (h : Keep2 b x y) (hB : B ≤ b + 1) (hs : B ≤ x.heap.size) : Below B x y := ⟨h.os, h.tape, h.output, h.size, fun i hi => h.block i (by omega) (by omega) (by omega)⟩
theorem _root_.Go.World.grownBy.alloc {a w : World} {row : Option Nat} (h : a.grownBy w row) (o : Obj) : a.grownBy (w.alloc o) row :=
  ⟨h.os, h.tape, h.output, Nat.le_trans h.size (by simp), fun i hi hne => (Below.heap_alloc w o i (Nat.lt_of_lt_of_le hi h.size)).trans (h.block i hi hne)⟩
end Go.Proofs.Ytdolmkiiflhehaa.M
end

section
/- Contracts of slices.Clone and bytes.Clone of bytes, slices.Clip, slices.Grow and trivet/shape.eight. -/
set_option maxRecDepth 100000
set_option linter.unusedVariables false
set_option linter.unusedSimpArgs false
namespace Go.Proofs.Ytdolmkiiflhehaa.M
open Go.RowKit Go.Proofs.YtdolmkiiflhehaaW.PrintWords Go.Proofs.YtdolmkiiflhehaaW.PrintLast Go.Proofs.YtdolmkiiflhehaaW.PrintMore
theorem infoU8 : (Try.prog.info? 5).map (fun i => (i.zero, i.size, i.bytes)) = some (some (.int .u8 0), 1, 1) := by kernel_rfl
theorem C_none {w : World} {k : IntKind} {n : Nat} {xs : List Int} (h : Kd.C (Kd.int k) w none n xs) : n = 0 ∧ xs = [] := by
  have hn : n = 0 := by
    rcases Nat.eq_zero_or_pos n with h0 | h0
    · exact h0
    · obtain ⟨ad, e, _⟩ := h.2.2 h0
      cases e
  exact ⟨hn, List.eq_nil_of_length_eq_zero (h.1.trans hn)⟩
def Own (w : World) (base : Nat) (v : Value) (l : List Int) : Prop := Kd.R (Kd.int .u8) 5 w base (fun _ => True) v l
theorem own_empty (w : World) : Own (w.alloc (.cells #[] 5)) w.heap.size (.slice (some ⟨w.heap.size, 0, none⟩) 0 0) [] :=
  Kd.R_of_own (by
    exact ⟨rfl, .inr ⟨w.heap.size, 0, #[], rfl, Nat.le_refl _, heap_alloc_new w _, Nat.le_refl _, Nat.zero_le _, rfl, rfl⟩⟩) (fun _ _ => trivial)
theorem clone_calls (A : Option Addr) (c : Nat) (l : List Int) (w : World) (hr : Kd.C (Kd.int .u8) w A l.length l) (hc : l.length ≤ c) (hl : l.length < 140737488355328) :
    Calls Try.prog 67 #[.slice A l.length c] w fun e w' => ∃ v0_ : Value, e = .returned v0_ ∧ Own w' w.heap.size v0_ l ∧ Below w.heap.size w w' := by
  have qT : ∀ (w : World) (a : Option Addr) (n c n' c' : Nat), (binOp .eql 61 (.slice a n c) (.slice none n' c')).run Try.prog w = .ok (.bool a.isNone) w := fun w a n c n' c' => Lib.run_eql_slice_nil w _ _ a n c n' c' Try.underlying61
  have HR := Aside0.mk hr
  have HL := Aside0.mk hl
  clear hr hl
  rcases A with _ | ad
  · obtain ⟨_, rfl⟩ := C_none HR.out
    go_enter Try.func67, Try.ntmps67
    go_wp2
    go_ret
    exact ⟨_, rfl, Kd.R_nil _ _ _ _ _, Below.refl _ _⟩
  · go_enter Try.func67, Try.ntmps67
    have HE := Aside0.mk (show Own (w.alloc (.cells #[] 5)) w.heap.size (.slice (some ⟨w.heap.size, 0, none⟩) 0 0) [] from own_empty w)
    go_wp2_with ((with_reducible refine gate_builtin (b := .append) (xs := #[.tmp 5, .tmp 6]) rfl ?_); at_builtin; refine Kd.R_append_rows (Kd.int .u8) (w0 := w) w.heap.size rfl (.tmp 5) (.tmp 6) 61 5 (.int .u8 0) 1 rfl Try.underlying61 infoU8 rfl (by decide) (by omega) _ ([] : List Int) l _ _ _ (fun _ => True) (fun _ => False) rfl rfl HE.out (Kd.C_alloc HR.out _) (fun _ _ h => h) (fun _ h => h.elim) (fun _ _ => trivial) ((Below.refl _ _).alloc (Nat.le_refl _) _) (by simp) (by have := HL.out; simp; omega) ?_; intro v1 w1 ho hb _ _)
    go_ret
    exact ⟨_, rfl, ho, hb⟩
theorem own_one (w : World) (x : Int) : Own (w.alloc (.cells #[.int .u8 x] 5)) w.heap.size (.slice (some ⟨w.heap.size, 0, none⟩) 1 1) [x] :=
  Kd.R_of_own (by
    exact ⟨rfl, .inr ⟨w.heap.size, 1, #[.int .u8 x], rfl, Nat.le_refl _, heap_alloc_new w _, Nat.le_refl _, by decide, rfl, rfl⟩⟩) (fun _ _ => trivial)
end Go.Proofs.Ytdolmkiiflhehaa.M
namespace Go.Proofs.Ytdolmkiiflhehaa.G
open Go.RowKit Go.Proofs.YtdolmkiiflhehaaW.PrintWords Go.Proofs.Ytdolmkiiflhehaa.M
def slices_Clone_byte_byte.f (l0 : List Int) : Option (List Int) := if l0.length < 140737488355328 then some l0 else none
theorem slices_Clone_byte_byte.calls (A0 : Option Addr) (c0 : Nat) (l0 : List Int) (r : List Int) (w : World) (hr0 : Kd.C (Kd.int .u8) w A0 l0.length l0) (hc0 : l0.length ≤ c0) (h : slices_Clone_byte_byte.f l0 = some r) :
    Calls Try.prog 67 #[.slice A0 l0.length c0] w fun e w' => ∃ v0_ : Value, e = .returned v0_ ∧ Kd.R (Kd.int .u8) 5 w' w.heap.size (fun _ => True) v0_ r ∧ Below w.heap.size w w' := by
  unfold slices_Clone_byte_byte.f at h
  split at h
  · obtain rfl := Option.some.inj h
    exact clone_calls A0 c0 l0 w hr0 hc0 (by assumption)
  · cases h
end Go.Proofs.Ytdolmkiiflhehaa.G
end

section
/- Contract of trivet/shape.Num. -/
set_option maxRecDepth 100000
set_option linter.unusedVariables false
set_option linter.unusedSimpArgs false
namespace Go.Proofs.Ytdolmkiiflhehaa.M
open Go.RowKit Go.Proofs.YtdolmkiiflhehaaW.PrintWords Go.Proofs.YtdolmkiiflhehaaW.PrintLast Go.Proofs.YtdolmkiiflhehaaW.PrintMore Go.Proofs.Ytdolmkiiflhehaa.G
theorem low_l0 (j : Nat) : ∀ (k n : Nat) (acc : List Int), n < 256 ^ j → j < k → acc.length + j < 140737488355328 → shape_low.l0 k (n : Int) acc = some (acc ++ lowB n) := by
  induction j with
  | zero =>
    intro k n acc hn hk _
    obtain ⟨k, rfl⟩ : ∃ m, k = m + 1 := ⟨k - 1, by omega⟩
    have : n = 0 := by simpa using hn
    subst this
    simp only [shape_low.l0]
    rw [if_neg (by simp), lowB_zero, List.append_nil]
  | succ j ih =>
    intro k n acc hn hk ha
    obtain ⟨k, rfl⟩ : ∃ m, k = m + 1 := ⟨k - 1, by omega⟩
    by_cases h0 : n = 0
    · subst h0
      simp only [shape_low.l0]
      rw [if_neg (by simp), lowB_zero, List.append_nil]
    · simp only [shape_low.l0]
      rw [if_pos (by omega), if_pos (by omega), lowB_pos h0]
      have := ih k (n / 256) (acc ++ [((n % 256 : Nat) : Int)]) (by rw [Nat.pow_succ] at hn; omega) (by omega) (by simp; omega)
      have e1 : ((n / 256 : Nat) : Int) = (n : Int) / 256 := by omega
      have e2 : ((n % 256 : Nat) : Int) = (n : Int) % 256 := by omega
      rw [e1, e2] at this
      rw [this, e2, List.append_assoc]
      rfl
theorem low_f (n : Nat) (hn : n < 256 ^ 8) (k : Nat) (hk : 8 < k) : shape_low.f k (n : Int) = some (lowB n) := by
  unfold shape_low.f
  rw [low_l0 8 k n [] hn hk (by simp)]
  rfl
theorem number_calls (n : Int) (w : World) (hn : isI64 n) :
    Calls Try.prog 66 #[.int .i64 n] w fun e w' => ∃ v0_ : Value, e = .returned v0_ ∧ Own w' w.heap.size v0_ (numB n) ∧ Below w.heap.size w w' := by
  have hl := lowB_len _ 8 (mag_lt hn)
  have HL := Aside0.mk (low_f (mag n) (mag_lt hn) 9 (by omega))
  have HN := Aside0.mk hn
  unfold isI64 at hn
  by_cases h : n < 0
  · have HU := Aside0.mk (show shape_low.f 9 (IntKind.u64.wrap (-(IntKind.u64.wrap n))) = some (lowB (mag n)) by
      rw [← HL.out]; congr 1; simp only [IntKind.wrap_u64]; unfold mag; omega)
    have HB := Aside0.mk (show numB n = [2 * ((lowB (mag n)).length : Int) + 1] ++ lowB (mag n) by unfold numB; rw [if_pos h]; rfl)
    go_enter Try.func66, Try.ntmps66
    go_wp2_with fail
    refine (shape_low.calls 9 _ _ _ HU.out).mono ?_
    rintro e w1 ⟨v1, rfl, ho, hb⟩
    obtain ⟨A1, c1, rfl, hc1, hr1⟩ := Kd.R_reads ho
    have HO := Aside0.mk hr1
    have HBL := Aside0.mk hb
    clear ho hr1 hb
    go_wp2_with ((with_reducible refine gate_builtin (b := .append) (xs := #[.tmp 20, .tmp 21]) rfl ?_); at_builtin; refine Kd.R_append_rows (Kd.int .u8) (w0 := w) w.heap.size rfl (.tmp 20) (.tmp 21) 61 5 (.int .u8 0) 1 rfl Try.underlying61 infoU8 rfl (by decide) (by omega) _ _ (lowB (mag n)) _ _ _ (fun _ => True) (fun _ => False) rfl rfl (Kd.R_lower (own_one _ (2 * ((lowB (mag n)).length : Int) + 1)) HBL.out.size) (Kd.C_alloc HO.out _) (fun _ _ h => h) (fun _ h => h.elim) (fun _ _ => trivial) (HBL.out.alloc HBL.out.size _) (by have := HBL.out.size; simp; omega) (by simp; omega) ?_; intro v2 w2 ho2 hb2 _ _)
    go_ret
    exact ⟨_, rfl, by rw [HB.out]; exact ho2, hb2⟩
  · have HU := Aside0.mk (show shape_low.f 9 n = some (lowB (mag n)) by
      rw [← HL.out]; congr 1; unfold mag; omega)
    have HB := Aside0.mk (show numB n = [2 * ((lowB (mag n)).length : Int)] ++ lowB (mag n) by unfold numB; rw [if_neg h, Int.add_zero]; rfl)
    go_enter Try.func66, Try.ntmps66
    go_wp2_with fail
    refine (shape_low.calls 9 _ _ _ HU.out).mono ?_
    rintro e w1 ⟨v1, rfl, ho, hb⟩
    obtain ⟨A1, c1, rfl, hc1, hr1⟩ := Kd.R_reads ho
    have HO := Aside0.mk hr1
    have HBL := Aside0.mk hb
    clear ho hr1 hb
    go_wp2_with ((with_reducible refine gate_builtin (b := .append) (xs := #[.tmp 20, .tmp 21]) rfl ?_); at_builtin; refine Kd.R_append_rows (Kd.int .u8) (w0 := w) w.heap.size rfl (.tmp 20) (.tmp 21) 61 5 (.int .u8 0) 1 rfl Try.underlying61 infoU8 rfl (by decide) (by omega) _ _ (lowB (mag n)) _ _ _ (fun _ => True) (fun _ => False) rfl rfl (Kd.R_lower (own_one _ (2 * ((lowB (mag n)).length : Int))) HBL.out.size) (Kd.C_alloc HO.out _) (fun _ _ h => h) (fun _ h => h.elim) (fun _ _ => trivial) (HBL.out.alloc HBL.out.size _) (by have := HBL.out.size; simp; omega) (by simp; omega) ?_; intro v2 w2 ho2 hb2 _ _)
    go_ret
    exact ⟨_, rfl, by rw [HB.out]; exact ho2, hb2⟩
end Go.Proofs.Ytdolmkiiflhehaa.M
namespace Go.Proofs.Ytdolmkiiflhehaa.M
open Go.RowKit Go.Proofs.YtdolmkiiflhehaaW.PrintWords Go.Proofs.YtdolmkiiflhehaaW.PrintLast Go.Proofs.YtdolmkiiflhehaaW.PrintMore Go.Proofs.Ytdolmkiiflhehaa.G
theorem clip_calls (A : Option Addr) (n c : Nat) (w : World) (hc : n ≤ c) (hm : (n : Int) ≤ 9223372036854775807) :
    Calls Try.prog 65 #[.slice A n c] w fun e w' => e = .returned (.slice A n n) ∧ w = w' := by
  have hc' : (n : Int) ≤ (c : Int) := by omega
  have h0 : (0 : Int) ≤ (n : Int) := by omega
  go_enter Try.func65, Try.ntmps65
  go_wp2
  go_ret
  exact ⟨rfl, rfl⟩
theorem C_cells {w : World} {k : IntKind} {A : Option Addr} {n : Nat} {xs : List Int} (h : Kd.C (Kd.int k) w A n xs) (ad : Addr) (hA : A = some ad) (j : Nat) (u : Value) (hj : (xs.map (Value.int k))[j]? = some u) : w.cell? (ad.add j) = some u := by
  rw [List.getElem?_map, Option.map_eq_some_iff] at hj
  obtain ⟨x, hx, rfl⟩ := hj
  have hl : j < xs.length := (List.getElem?_eq_some_iff.1 hx).1
  have hn := h.1
  obtain ⟨ad', hA', hc⟩ := Kd.at_int h (j : Int) (by omega) (by omega)
  rw [hA] at hA'
  obtain rfl : ad = ad' := by injection hA'
  rw [Int.toNat_natCast] at hc
  rw [hc]
  simp [rd, List.getD_eq_getElem?_getD, hx]
theorem own_of_ints {w : World} {base : Nat} {v : Value} {xs : List Int} (h : w.ownsRow base 5 1 v xs.length (xs.map (Value.int .u8))) {base' : Nat} (hb : base' ≤ base) : Own w base' v xs :=
  Kd.R_lower (Kd.R_of_own (enc := Value.int .u8) (by simpa [encs] using h) (fun _ _ => trivial)) hb
set_option maxHeartbeats 1000000 in
theorem num_calls (A : Option Addr) (c : Nat) (l0 : List Int) (B : Option Addr) (c1 : Nat) (l1 : List Int) (w : World) (hr0 : Kd.C (Kd.int .u8) w A l0.length l0) (hc0 : l0.length ≤ c)
    (hr1 : Kd.C (Kd.int .i64) w B l1.length l1) (hi : okI l1 = true) (hs : l0.length + 9 * l1.length < 140737488355328) :
    Calls Try.prog 46 #[.slice A l0.length c, .slice B l1.length c1] w fun e w' => ∃ v0_ : Value, e = .returned v0_ ∧ Own w' w.heap.size v0_ (l0 ++ numsB l1) ∧ Below w.heap.size w w' := by
  have HR0 := Aside0.mk hr0
  have HR1 := Aside0.mk hr1
  have HI := Aside0.mk hi
  have hl1 : l1.length * 8 ≤ 9223372036854775807 := by omega
  have hm0 : (l0.length : Int) ≤ 9223372036854775807 := by omega
  clear hr0 hr1 hi
  go_enter Try.func46, Try.ntmps46
  go_wp2_with (go_at_call 65; refine (clip_calls A l0.length c w hc0 hm0).mono ?_; rintro e w' ⟨rfl, rfl⟩)
  go_loopw [0, 11] (fun b i wr => ∃ j : Nat, j ≤ l1.length ∧ i = .int .i64 (j : Int) ∧ Aside0 (Below w.heap.size w wr) ∧ Aside0 ((j = 0 ∧ b = .slice A l0.length l0.length) ∨ (0 < j ∧ Own wr w.heap.size b (l0 ++ numsB (l1.take j))))) (fun _ i _ => l1.length - (intOf i).toNat)
  case atStart => exact ⟨0, Nat.zero_le _, rfl, ⟨Below.refl _ _⟩, ⟨.inl ⟨rfl, rfl⟩⟩⟩
  case round =>
    obtain ⟨j, hj, rfl, HB, HC⟩ := hrel
    by_cases hlt : j < l1.length
    · have hlt' : (j : Int) < (l1.length : Int) := by omega
      have hj0 : (0 : Int) ≤ (j : Int) := by omega
      obtain ⟨bd, hB, hx⟩ := Kd.at_int (Kd.C_below HR1.out HB.out) (j : Int) hj0 hlt'
      subst hB
      rw [Int.toNat_natCast] at hx
      have hw : isI64 (rd l1 j) := okI_mem HI.out (by simp [rd, List.getD_eq_getElem?_getD, List.getElem?_eq_getElem hlt])
      have HW := Aside0.mk hw
      have HT := Aside0.mk (show l0 ++ numsB (l1.take (j + 1)) = (l0 ++ numsB (l1.take j)) ++ numB (rd l1 j) by rw [take_snoc_int l1 j hlt, numsB_snoc, List.append_assoc])
      have hle : (numsB (l1.take j)).length ≤ 9 * j := by
        have := numsB_len (l := l1.take j) (by have := HI.out; unfold okI at this ⊢; rw [List.all_eq_true] at this ⊢; exact fun x hx => this x (List.mem_of_mem_take hx))
        rw [List.length_take] at this; omega
      have hnl := numB_len hw
      clear hw
      have hB0 := HB.out.size
      rcases HC.out with ⟨rfl, rfl⟩ | ⟨hjp, hown⟩
      · clear HC
        rw [Addr.add_zero'] at hx
        obtain ⟨i0, hi, hz0, hz1, hz2⟩ := info_parts infoU8
        have HI0 := Aside0.mk hi
        have HI1 := Aside0.mk hz0
        have HI2 := Aside0.mk hz1
        have HI3 := Aside0.mk hz2
        clear hi hz0 hz1 hz2
        go_wp2_with fail
        refine (number_calls (rd l1 (0 : Nat)) _ HW.out).mono ?_
        rintro e w1 ⟨v1, rfl, ho, hb⟩
        obtain ⟨A1, c1', rfl, hc1, hr1⟩ := Kd.R_reads ho
        have HO := Aside0.mk hr1
        have HBL := Aside0.mk (below_step HB.out hb)
        have HBS := Aside0.mk hb
        clear ho hr1 hb
        have hA1 : ∃ ad1, A1 = some ad1 := by
          obtain ⟨ad, e, _⟩ := HO.out.2.2 (by omega)
          exact ⟨ad, e⟩
        obtain ⟨ad1, rfl⟩ := hA1
        go_wp2_with ((with_reducible refine gate_builtin (b := .append) (xs := #[.tmp 15, .tmp 17]) rfl ?_); at_builtin; refine wpList_append_grows _ rfl (.tmp 15) (.tmp 17) 61 rfl 5 i0 (.int .u8 0) 1 1 Try.underlying61 HI0.out HI1.out HI2.out HI3.out rfl (by decide) A l0.length l0.length (l0.map (Value.int .u8)) rfl (fun h => by subst h; exact ⟨(C_none HR0.out).1, (C_none HR0.out).1⟩) (by simp) (fun b hb => C_cells (Kd.C_below (Kd.C_below HR0.out HB.out) HBS.out) b hb) ad1 (numB (rd l1 (0 : Nat))).length c1' ((numB (rd l1 (0 : Nat))).map (Value.int .u8)) rfl (by simp) (C_cells HO.out ad1 rfl) (ints_oneCell .u8 _) (by omega) (by unfold maxLen; omega) (by omega) ?_; intro v2 w2 ho2 hg2)
        go_roundw
        case rel =>
          refine ⟨1, by omega, by go_num, ⟨?_⟩, ⟨.inr ⟨by omega, ?_⟩⟩⟩
          · exact HBL.out.grown hg2 HBL.out.size (by simp)
          · rw [HT.out]
            simp only [List.take_zero]
            refine own_of_ints (by simpa [numsB] using ho2) HBL.out.size
        case measure => simp [intOf]; omega
      · clear HC
        have HOW := Aside0.mk hown
        clear hown
        go_wp2_with fail
        refine (number_calls (rd l1 j) _ HW.out).mono ?_
        rintro e w1 ⟨v1, rfl, ho, hb⟩
        obtain ⟨A1, c1', rfl, hc1, hr1⟩ := Kd.R_reads ho
        have HO := Aside0.mk hr1
        have HBL := Aside0.mk (below_step HB.out hb)
        have HBS := Aside0.mk hb
        clear ho hr1 hb
        go_wp2_with ((with_reducible refine gate_builtin (b := .append) (xs := #[.tmp 15, .tmp 17]) rfl ?_); at_builtin; refine Kd.R_append_rows (Kd.int .u8) (w0 := w) w.heap.size rfl (.tmp 15) (.tmp 17) 61 5 (.int .u8 0) 1 rfl Try.underlying61 infoU8 rfl (by decide) (by omega) _ _ (numB (rd l1 j)) _ _ _ (fun _ => True) (fun _ => False) rfl rfl (Kd.R_below HOW.out HBS.out) HO.out (fun _ _ h => h) (fun _ h => h.elim) (fun _ _ => trivial) HBL.out HBL.out.size (by simp; omega) ?_; intro v2 w2 ho2 hb2 _ _)
        go_roundw
        case rel => exact ⟨j + 1, by omega, by go_num, ⟨hb2⟩, ⟨.inr ⟨by omega, by rw [HT.out]; exact ho2⟩⟩⟩
        case measure => simp [intOf]; omega
    · obtain rfl : j = l1.length := by omega
      have hB0 := HB.out.size
      rcases HC.out with ⟨hz, rfl⟩ | ⟨hjp, hown⟩
      · have HZ := Aside0.mk (show l0 ++ numsB l1 = l0 by rw [List.eq_nil_of_length_eq_zero hz]; simp [numsB])
        clear HC hz
        go_wp2_with fail
        refine (clone_calls A l0.length l0 _ (Kd.C_below HR0.out HB.out) (Nat.le_refl _) (by omega)).mono ?_
        rintro e w1 ⟨v1, rfl, ho, hb⟩
        have HO := Aside0.mk ho
        have HBL := Aside0.mk (below_step HB.out hb)
        clear ho hb
        go_wp2
        go_ret
        exact ⟨_, rfl, by rw [HZ.out]; exact Kd.R_lower HO.out hB0, HBL.out⟩
      · clear HC
        have hlen : (l0 ++ numsB (l1.take l1.length)).length < 140737488355328 := by
          have := numsB_len HI.out
          rw [List.take_length, List.length_append]; omega
        obtain ⟨L, hL⟩ : ∃ L, l0 ++ numsB (l1.take l1.length) = L := ⟨_, rfl⟩
        rw [hL] at hown hlen
        obtain ⟨A1, c1', rfl, hc1, hr1⟩ := Kd.R_reads hown
        have HO := Aside0.mk hr1
        have HZ := Aside0.mk (show L = l0 ++ numsB l1 by rw [← hL, List.take_length])
        clear hL
        clear hown hr1
        go_wp2_with fail
        refine (clone_calls A1 _ _ _ HO.out hc1 hlen).mono ?_
        rintro e w1 ⟨v1, rfl, ho, hb⟩
        have HO2 := Aside0.mk ho
        have HBL := Aside0.mk (below_step HB.out hb)
        clear ho hb
        go_wp2
        go_ret
        exact ⟨_, rfl, by rw [← HZ.out]; exact Kd.R_lower HO2.out hB0, HBL.out⟩
end Go.Proofs.Ytdolmkiiflhehaa.M
namespace Go.Proofs.Ytdolmkiiflhehaa.G
open Go.RowKit Go.Proofs.YtdolmkiiflhehaaW.PrintWords Go.Proofs.Ytdolmkiiflhehaa.M
def shape_number.f (a0 : Int) : Option (List Int) := if isI64 a0 then some (numB a0) else none
theorem shape_number.calls (a0 : Int) (r : List Int) (w : World) (h : shape_number.f a0 = some r) :
    Calls Try.prog 66 #[.int .i64 a0] w fun e w' => ∃ v0_ : Value, e = .returned (v0_) ∧ Kd.R (Kd.int .u8) 5 w' w.heap.size (fun _ => True) v0_ r ∧ Below w.heap.size w w' := by
  unfold shape_number.f at h
  split at h
  · obtain rfl := Option.some.inj h
    exact number_calls a0 w (by assumption)
  · cases h
def shape_Num.f (l0 l1 : List Int) : Option (List Int) := if okI l1 = true ∧ l0.length + 9 * l1.length < 140737488355328 then some (l0 ++ numsB l1) else none
theorem shape_Num.calls (A0 : Option Addr) (c0 : Nat) (l0 : List Int) (A1 : Option Addr) (c1 : Nat) (l1 : List Int) (r : List Int) (w : World) (hr0 : Kd.C (Kd.int .u8) w A0 l0.length l0) (hc0 : l0.length ≤ c0) (hr1 : Kd.C (Kd.int .i64) w A1 l1.length l1) (_hc1 : l1.length ≤ c1) (h : shape_Num.f l0 l1 = some r) :
    Calls Try.prog 46 #[.slice A0 l0.length c0, .slice A1 l1.length c1] w fun e w' => ∃ v0_ : Value, e = .returned (v0_) ∧ Kd.R (Kd.int .u8) 5 w' w.heap.size (fun _ => True) v0_ r ∧ Below w.heap.size w w' := by
  unfold shape_Num.f at h
  split at h
  · rename_i hh
    obtain rfl := Option.some.inj h
    exact num_calls A0 c0 l0 A1 c1 l1 w hr0 hc0 hr1 hh.1 hh.2
  · cases h
end Go.Proofs.Ytdolmkiiflhehaa.G
end

section
/- What trivet/trivetref01's Num and Put come to, in plain Lean. -/
set_option maxRecDepth 100000
set_option linter.unusedVariables false
set_option linter.unusedSimpArgs false
namespace Go.Proofs.Ytdolmkiiflhehaa.M
open Go.RowKit Go.Proofs.YtdolmkiiflhehaaW.PrintWords Go.Proofs.Ytdolmkiiflhehaa.G
theorem ref_num_l0 (j : Nat) : ∀ (k m : Nat) (acc : List Int) (z : Int), m < 256 ^ j → j < k → acc.length + j ≤ 8 → (z = 0 ∨ z = 1) →
    trivetref01_Num.l0 k (m : Int) z acc = some ((2 * ((acc ++ lowB m).length : Int) + z) :: (acc ++ lowB m)) := by
  induction j with
  | zero =>
    intro k m acc z hm hk ha hz
    obtain ⟨k, rfl⟩ : ∃ q, k = q + 1 := ⟨k - 1, by omega⟩
    obtain rfl : m = 0 := by simpa using hm
    simp only [trivetref01_Num.l0]
    rw [if_neg (by simp), lowB_zero, List.append_nil, Option.bind_some, if_pos (by simp; omega)]
    congr 1
    simp only [List.singleton_append]
    congr 1
    unfold wrap64
    omega
  | succ j ih =>
    intro k m acc z hm hk ha hz
    obtain ⟨k, rfl⟩ : ∃ q, k = q + 1 := ⟨k - 1, by omega⟩
    by_cases h0 : m = 0
    · subst h0
      simp only [trivetref01_Num.l0]
      rw [if_neg (by simp), lowB_zero, List.append_nil, Option.bind_some, if_pos (by simp; omega)]
      congr 1
      simp only [List.singleton_append]
      congr 1
      unfold wrap64
      omega
    · have hj : m < 256 ^ 8 := Nat.lt_of_lt_of_le hm (Nat.pow_le_pow_right (by omega) (by omega))
      simp only [trivetref01_Num.l0]
      rw [if_pos (by omega), if_pos (by omega)]
      have e1 : IntKind.u64.wrap (Int.tdiv (m : Int) 256) = ((m / 256 : Nat) : Int) := by
        rw [Int.tdiv_eq_ediv_of_nonneg (by omega), IntKind.wrap_u64]; omega
      have e2 : Int.tmod (m : Int) 256 % 256 = ((m % 256 : Nat) : Int) := by
        rw [Int.tmod_eq_emod_of_nonneg (by omega)]; omega
      rw [e1, e2, ih k (m / 256) _ z (by rw [Nat.pow_succ] at hm; omega) (by omega) (by simp; omega) hz, lowB_pos h0]
      simp only [List.append_assoc, List.singleton_append]
theorem ref_num {n : Int} (h : isI64 n) (k : Nat) (hk : 10 ≤ k) : trivetref01_Num.f k n = some (numB n) := by
  have hm := mag_lt h
  obtain ⟨k, rfl⟩ : ∃ q, k = q + 1 := ⟨k - 1, by omega⟩
  unfold isI64 at h
  unfold trivetref01_Num.f
  by_cases h0 : n < 0
  · rw [if_pos h0]
    have e : IntKind.u64.wrap (IntKind.u64.wrap (wrap64 (-wrap64 (n + 1))) + 1) = (mag n : Int) := by
      simp only [IntKind.wrap_u64]; unfold wrap64 mag; omega
    rw [e]
    simp only [trivetref01_Num.j0]
    rw [ref_num_l0 8 k _ _ _ hm (by omega) (by simp) (.inr rfl)]
    unfold numB
    rw [if_pos h0]
    simp
  · rw [if_neg h0]
    have e : IntKind.u64.wrap n = (mag n : Int) := by
      simp only [IntKind.wrap_u64]; unfold mag; omega
    rw [e]
    simp only [trivetref01_Num.j0]
    rw [ref_num_l0 8 k _ _ _ hm (by omega) (by simp) (.inl rfl)]
    unfold numB
    rw [if_neg h0]
    simp
end Go.Proofs.Ytdolmkiiflhehaa.M
end

section
/- A store's bytes. -/
set_option linter.unusedVariables false
set_option linter.unusedSimpArgs false
set_option maxRecDepth 100000
attribute [local irreducible] Go.wpStill
namespace Go.Proofs.Ytdolmkiiflhehaa.M
open Go.RowKit Go.Proofs.YtdolmkiiflhehaaW.PrintWords Go.Proofs.YtdolmkiiflhehaaW.PrintLast Go.Proofs.YtdolmkiiflhehaaW.PrintMore Go.Proofs.Ytdolmkiiflhehaa.G
def fourC (c : CellD) : List Int := [c.table, c.row, c.value, c.slot]
def cellsB (L : List Nd) : List Int := L.flatMap (fun e => numsB (fourC e.c))
def bytesL (L : List Nd) : List Int := numsB [(L.length : Int)] ++ cellsB L
structure WfC (c : CellD) : Prop where
  t : -2147483648 ≤ c.table ∧ c.table ≤ 2147483647
  r : isI64 c.row
  v : isI64 c.value
  s : isI64 c.slot
def WfL (L : List Nd) : Prop := ∀ e, e ∈ L → WfC e.c
theorem WfC.ok {c : CellD} (h : WfC c) : okI (fourC c) = true := by
  have h1 := h.t; have h2 := h.r; have h3 := h.v; have h4 := h.s
  have h5 : isI64 c.table := by unfold isI64; omega
  unfold okI fourC
  simp only [List.all_cons, List.all_nil, Bool.and_true, Bool.and_eq_true, decide_eq_true_eq]
  exact ⟨h5, h2, h3, h4⟩
theorem cellsB_snoc {L : List Nd} {p : Nat} {e : Nd} (h : L[p]? = some e) : cellsB (L.take (p + 1)) = cellsB (L.take p) ++ numsB (fourC e.c) := by
  unfold cellsB
  rw [List.take_add_one, h, List.flatMap_append]
  simp
theorem cellsB_len {L : List Nd} (h : WfL L) : ∀ p, (cellsB (L.take p)).length ≤ 36 * p
  | 0 => by simp [cellsB]
  | p + 1 => by
    have h1 := cellsB_len h p
    cases he : L[p]? with
    | none =>
      have h2 : L.length ≤ p := List.getElem?_eq_none_iff.1 he
      rw [List.take_of_length_le (by omega)] at h1 ⊢
      omega
    | some e =>
      rw [cellsB_snoc he, List.length_append]
      have := numsB_len (h e (List.mem_of_getElem? he)).ok
      have h3 : (fourC e.c).length = 4 := rfl
      omega
theorem own_i1 (w : World) (a : Int) : Kd.C (Kd.int .i64) (w.alloc (.cells #[.int .i64 a] 2)) (some ⟨w.heap.size, 0, none⟩) 1 [a] :=
  (Kd.R_reads' (Kd.R_of_own (ok := fun _ => True) (xs := [a]) (base := w.heap.size) (v := .slice (some ⟨w.heap.size, 0, none⟩) 1 1) (e := 2) (by
    exact ⟨rfl, .inr ⟨w.heap.size, 1, #[.int .i64 a], rfl, Nat.le_refl _, heap_alloc_new w _, Nat.le_refl _, by decide, rfl, rfl⟩⟩) (fun _ _ => trivial))).2.2
theorem own_i4 (w : World) (a b c d : Int) : Kd.C (Kd.int .i64) (w.alloc (.cells #[.int .i64 a, .int .i64 b, .int .i64 c, .int .i64 d] 2)) (some ⟨w.heap.size, 0, none⟩) 4 [a, b, c, d] :=
  (Kd.R_reads' (Kd.R_of_own (ok := fun _ => True) (xs := [a, b, c, d]) (base := w.heap.size) (v := .slice (some ⟨w.heap.size, 0, none⟩) 4 4) (e := 2) (by
    exact ⟨rfl, .inr ⟨w.heap.size, 4, #[.int .i64 a, .int .i64 b, .int .i64 c, .int .i64 d], rfl, Nat.le_refl _, heap_alloc_new w _, Nat.le_refl _, by decide, rfl, rfl⟩⟩) (fun _ _ => trivial))).2.2
def BytI (w : World) (L : List Nd) (b x : Value) (wr : World) : Prop :=
  ∃ (p : Nat) (A : Option Addr) (cc m : Nat), p ≤ L.length ∧ x = ptrAt L p ∧ b = .slice A m cc ∧ m = (numsB [(L.length : Int)] ++ cellsB (L.take p)).length ∧ Own wr w.heap.size (.slice A m cc) (numsB [(L.length : Int)] ++ cellsB (L.take p)) ∧ Below w.heap.size w wr
set_option maxHeartbeats 2000000 in
theorem bytes_is {w : World} {s h : Nat} {L : List Nd} {x : Int} {nx : Nat → Nat → Option Nat} (H : IsSk w s h L x nx) (hL : L.length ≤ 1048576) (hw : WfL L) :
    Calls Try.prog 24 #[.pointer (some ⟨s, 0, none⟩)] w fun e w' => ∃ v : Value, e = .returned v ∧ Own w' w.heap.size v (bytesL L) ∧ Below w.heap.size w w' := by
  have HH := Lib.hid H
  have HWF := Lib.hid hw
  have HLN := Lib.hid hL
  have c1 := H.c1
  clear H hw
  go_enter Try.func24, Try.ntmps24
  go_wp2_with fail
  refine (none_is HH.out).mono ?_
  rintro e w' ⟨rfl, rfl⟩
  go_wp2_with fail
  refine (num_calls none 0 [] _ 1 [(L.length : Int)] _ (Kd.C_nil _ _) (Nat.le_refl _) (own_i1 w' L.length) (by unfold okI isI64; simp; omega) (by simp)).mono ?_
  rintro e w1 ⟨v, rfl, ho, hb⟩
  rw [List.nil_append] at ho
  have HB1 := Lib.hid (show Below w'.heap.size w' w1 from ((Below.refl _ w').alloc (Nat.le_refl _) _).trans (hb.mono (by simp)))
  obtain ⟨A1, cc1, rfl⟩ := Kd.R_slice ho
  have HO1 := Lib.hid (Kd.R_lower ho (by simp : w'.heap.size ≤ _))
  have HH1 := Lib.hid (HH.out.below HB1.out)
  have c0 := HH1.out.c0
  have n0 := (HH1.out.nds 0 (Nat.zero_le _)).next (l := 0) (by omega)
  rw [HH1.out.links 0 (Nat.zero_le _) 0 (by show 0 < 8; omega), nxt_at HH1.out.store (Nat.zero_le _)] at n0
  have n0' : w1.cell? ⟨h, 4, none⟩ = some (ptrAt L 0) := n0
  obtain ⟨r, hr⟩ : ∃ r, ptrAt L 0 = r := ⟨_, rfl⟩
  rw [hr] at n0'
  have HRr := Lib.hid hr
  clear ho hb n0 hr c1
  go_wp2_with fail
  go_loopw [3, 4] (fun b x wr => BytI w' L b x wr) (fun b _ _ => 40000000 - lenOf b)
  case atStart => exact ⟨0, A1, cc1, _, Nat.zero_le _, HRr.out.symm, rfl, by rw [List.take_zero]; simp [cellsB], by rw [List.take_zero]; simpa [cellsB, Own] using HO1.out, HB1.out⟩
  case round =>
    obtain ⟨p, A, cc, m, hp, rfl, rfl, hm, hO, hB⟩ := hrel
    have HB := Lib.hid hB; have HO := Lib.hid hO; have HM := Lib.hid hm
    have HHr := Lib.hid (HH.out.below hB)
    have hlen := cellsB_len HWF.out p
    have hn1 := numsB_len (l := [(L.length : Int)]) (by unfold okI isI64; simp; omega)
    have hml : m ≤ 9 + 36 * p := by rw [hm, List.length_append]; simp at hn1; omega
    have HML := Lib.hid hml
    clear hO hB hm hlen hn1 n0' c0
    rcases Nat.lt_or_ge p L.length with hlt | hge
    · obtain ⟨e, he⟩ : ∃ e, L[p]? = some e := ⟨_, List.getElem?_eq_getElem hlt⟩
      have HLT := Lib.hid hlt
      have hnd := HHr.out.nd he
      have HND := Lib.hid hnd
      have n0 := hnd.c0; have n1 := hnd.c1; have n2 := hnd.c2; have n3 := hnd.c3
      have n4 := hnd.next (l := 0) (by omega)
      have hx : nx e.b 0 = (L[p + 1]?).map (·.b) := by
        have eb : adr h L (p + 1) = e.b := by show blkAt L p = _; unfold blkAt; rw [he]
        rw [← eb, HHr.out.links (p + 1) (by omega) 0 (by show 0 < hiAt L p; have := (HHr.out.store.hi e (List.mem_of_getElem? he)).1; simp only [hiAt, he]; omega), nxt_at HHr.out.store (by omega)]
      have n4' : wr.cell? ⟨e.b, 4, none⟩ = some (ptrAt L (p + 1)) := by rw [hx] at n4; exact n4
      have hp0 : ptrAt L p = .pointer (some ⟨e.b, 0, none⟩) := by unfold ptrAt; rw [he]; rfl
      rw [hp0]
      obtain ⟨r2, hr2⟩ : ∃ r, ptrAt L (p + 1) = r := ⟨_, rfl⟩
      rw [hr2] at n4'
      have HRr2 := Lib.hid hr2
      have HSN := Lib.hid (cellsB_snoc he)
      have HWE := Lib.hid (HWF.out e (List.mem_of_getElem? he)).ok
      obtain ⟨U, hU⟩ : ∃ U, numsB [(L.length : Int)] ++ cellsB (L.take p) = U := ⟨_, rfl⟩
      rw [hU] at HO HM
      have HUU := Lib.hid hU
      have HN4 := Lib.hid n4'
      have hwt : IntKind.i64.wrap e.c.table = e.c.table := by have := (HWF.out e (List.mem_of_getElem? he)).t; rw [IntKind.wrap_i64]; omega
      have HC := Lib.hid (show Kd.C (Kd.int .u8) wr A U.length U from (Kd.R_reads' HO.out).2.2)
      have HCC := Lib.hid (show U.length ≤ cc by have := (Kd.R_reads' HO.out).2.1; have := HM.out; omega)
      have HSZ := Lib.hid hml
      clear n4 n4' hx hnd he hp0 hr2 hU hml
      rw [HM.out]
      go_wp2_with fail
      go_region_held3 (fun w' => w'.cell? ⟨e.b, 0, none⟩ = some (.int .i32 e.c.table) ∧ w'.cell? ⟨e.b, 1, none⟩ = some (.int .i64 e.c.row) ∧ w'.cell? ⟨e.b, 2, none⟩ = some (.int .i64 e.c.value) ∧ w'.cell? ⟨e.b, 3, none⟩ = some (.int .i64 e.c.slot)) (go_keep) ((go_at_call 46; refine (num_calls A cc U _ 4 (fourC e.c) _ (Kd.C_below HC.out (((Below.refl _ wr).alloc (Nat.le_refl _) _).drew)) HCC.out (Kd.C_drew (own_i4 wr _ _ _ _)) HWE.out (by have h1 : (fourC e.c).length = 4 := rfl; have := HSZ.out; have := HM.out; have := HLN.out; have := HLT.out; omega)).mono ?_; rintro e2 w3 ⟨v3, rfl, ho, hb⟩; obtain ⟨A3, cc3, rfl⟩ := Kd.R_slice ho; have HB3 := Lib.hid (show Below wr.heap.size wr w3 from (((Below.refl _ wr).alloc (Nat.le_refl _) _).drew).trans (hb.mono (by simp))); have HO3 := Lib.hid (show Own w3 wr.heap.size _ _ from Kd.R_lower ho (by simp)); have p0 := (HB3.out.cell (World.block_lt_of_cell? _ _ n0)).trans n0; have p1 := (HB3.out.cell (World.block_lt_of_cell? _ _ n1)).trans n1; have p2 := (HB3.out.cell (World.block_lt_of_cell? _ _ n2)).trans n2; have p3 := (HB3.out.cell (World.block_lt_of_cell? _ _ n3)).trans n3; clear ho hb))
      have n5 : w3.cell? ⟨e.b, 4, none⟩ = some r2 := (HB3.out.cell (p := ⟨e.b, 4, none⟩) HND.out.lt).trans HN4.out
      go_wp2_with fail
      go_roundw
      case rel =>
        have hlx : U.length + (numsB (fourC e.c)).length = (numsB [(L.length : Int)] ++ cellsB (L.take (p + 1))).length := by rw [HSN.out, ← List.append_assoc, HUU.out, List.length_append]
        have hO3 := HO3.out
        rw [List.length_append] at hO3
        exact ⟨p + 1, A3, cc3, _, HLT.out, HRr2.out.symm, rfl, hlx, by rw [HSN.out, ← List.append_assoc, HUU.out]; exact Kd.R_lower hO3 HB.out.size, HB.out.trans (HB3.out.mono HB.out.size)⟩
      case measure =>
        have h1 : 1 ≤ (numsB (fourC e.c)).length := by simp [numsB, fourC, numB]
        have h2 := HSZ.out; have h3 := HLT.out; have h4 := HLN.out; have h5 := HM.out
        simp [lenOf]
        omega
    · have hp0 : ptrAt L p = .pointer none := by unfold ptrAt; rw [List.getElem?_eq_none hge]; rfl
      have HP := Lib.hid (show L.take p = L by rw [List.take_of_length_le hge])
      rw [hp0]
      clear hp0 hml hge
      go_wp2_with fail
      go_ret
      have ho := HO.out
      have hm := HM.out
      rw [HP.out] at ho hm
      subst hm
      exact ⟨_, rfl, ho, HB.out⟩
end Go.Proofs.Ytdolmkiiflhehaa.M
end

section
/- The reference's Bytes. -/
set_option linter.unusedVariables false
set_option linter.unusedSimpArgs false
set_option maxRecDepth 100000
namespace Go.Proofs.Ytdolmkiiflhehaa.M
open Go.RowKit Go.Proofs.YtdolmkiiflhehaaW.PrintWords Go.Proofs.YtdolmkiiflhehaaW.PrintLast Go.Proofs.YtdolmkiiflhehaaW.PrintMore Go.Proofs.Ytdolmkiiflhehaa.G
theorem WfC.i {c : CellD} (h : WfC c) : isI64 c.table ∧ isI64 c.row ∧ isI64 c.value ∧ isI64 c.slot := ⟨by have := h.t; unfold isI64; omega, h.r, h.v, h.s⟩
theorem four_numB (c : CellD) : numsB (fourC c) = numB c.table ++ numB c.row ++ numB c.value ++ numB c.slot := by unfold numsB fourC; simp [List.append_assoc]
def RBytI (w : World) (L : List Nd) (b i : Value) (wr : World) : Prop :=
  ∃ (p : Nat) (A : Option Addr) (cc m : Nat), p ≤ L.length ∧ i = .int .i64 (p : Int) ∧ b = .slice A m cc ∧ m = (numsB [(L.length : Int)] ++ cellsB (L.take p)).length ∧ Own wr w.heap.size (.slice A m cc) (numsB [(L.length : Int)] ++ cellsB (L.take p)) ∧ Below w.heap.size w wr
set_option maxHeartbeats 4000000 in
theorem rbytes_is {w : World} {q : Nat} {S : Nat → Prop} {L : List Nd} {x : Int} (H : IsRk w q S L x) (hL : L.length ≤ 1048576) (hw : WfL L) :
    Calls Try.prog 34 #[.pointer (some ⟨q, 0, none⟩)] w fun e w' => ∃ v : Value, e = .returned v ∧ Own w' w.heap.size v (bytesL L) ∧ Below w.heap.size w w' := by
  have HR := Lib.hid H
  have HWF := Lib.hid hw
  have HLN := Lib.hid hL
  obtain ⟨A0, a0, B0, b0, ⟨c0, _, _⟩, _, _, _, _⟩ := H.cells
  clear H hw
  go_enter Try.func34, Try.ntmps34
  go_upto_region 2 with (go_at_call 60; refine (trivetref01_Num.calls 10 (L.length : Int) _ _ (ref_num (by unfold isI64; omega) 10 (Nat.le_refl _))).mono ?_; rintro e w1 ⟨v, rfl, ho, hb⟩; obtain ⟨A1, cc1, rfl⟩ := Kd.R_slice ho; have HO1 := Lib.hid ho; have HB1 := Lib.hid hb; clear ho hb)
  clear c0
  go_wp2_with fail
  go_loopw [3, 4] (fun b i wr => RBytI w L b i wr) (fun _ i _ => L.length - (intOf i).toNat)
  case atStart => exact ⟨0, A1, cc1, _, Nat.zero_le _, rfl, rfl, by rw [List.take_zero]; simp [cellsB, numsB], by rw [List.take_zero]; simpa [cellsB, numsB, Own] using HO1.out, HB1.out⟩
  case round =>
    obtain ⟨p, A, cc, m, hp, rfl, rfl, hm, hO, hB⟩ := hrel
    have HB := Lib.hid hB; have HO := Lib.hid hO; have HM := Lib.hid hm
    obtain ⟨Ar, a, Br, b, ⟨c0, _, _⟩, la, lb, hC, hD⟩ := (HR.out.below hB).cells
    have hlen := cellsB_len HWF.out p
    have hn1 := numsB_len (l := [(L.length : Int)]) (by unfold okI isI64; simp; omega)
    have hml : m ≤ 9 + 36 * p := by rw [hm, List.length_append]; simp at hn1; omega
    clear hO hB hm hlen hn1 hD lb
    rcases Nat.lt_or_ge p L.length with hlt | hge
    · obtain ⟨e, he⟩ : ∃ e, L[p]? = some e := ⟨_, List.getElem?_eq_getElem hlt⟩
      obtain ⟨ad, rfl, d0, d1, d2, d3⟩ := cell_get hC (cellsL_get he)
      change wr.cell? _ = some (.int .i32 e.c.table) at d0
      change wr.cell? _ = some (.int .i64 e.c.row) at d1
      change wr.cell? _ = some (.int .i64 e.c.value) at d2
      change wr.cell? _ = some (.int .i64 e.c.slot) at d3
      have HLT := Lib.hid hlt
      have HI := Lib.hid (HWF.out e (List.mem_of_getElem? he)).i
      have hwt : IntKind.i64.wrap e.c.table = e.c.table := by have := (HWF.out e (List.mem_of_getElem? he)).t; rw [IntKind.wrap_i64]; omega
      have HSN := Lib.hid (cellsB_snoc he)
      obtain ⟨U, hU⟩ : ∃ U, numsB [(L.length : Int)] ++ cellsB (L.take p) = U := ⟨_, rfl⟩
      rw [hU] at HO HM
      have HUU := Lib.hid hU
      have HUL := Lib.hid (show U.length ≤ 40000000 by have := HM.out; omega)
      have HNL := Lib.hid (show (numB e.c.table).length ≤ 9 ∧ (numB e.c.row).length ≤ 9 ∧ (numB e.c.value).length ≤ 9 ∧ (numB e.c.slot).length ≤ 9 from ⟨(numB_len HI.out.1).2, (numB_len HI.out.2.1).2, (numB_len HI.out.2.2.1).2, (numB_len HI.out.2.2.2).2⟩)
      obtain ⟨n, hn⟩ : ∃ n, L.length = n := ⟨_, rfl⟩
      have HN := Lib.hid hn
      rw [hn] at c0 hlt la hL
      have q1 : decide ((p : Int) < (n : Int)) = true := decide_eq_true (by omega)
      have q2 : decide (p < n) = true := decide_eq_true hlt
      have i0 : (0 : Int) ≤ (p : Int) := by omega
      have i1 : (p : Int) < (n : Int) := by omega
      clear he hC hU hml hp hn la
      rw [HM.out]
      go_upto_region 6 with fail
      have HXb := Lib.hid (heap_alloc_new wr (.cells #[.int .i32 e.c.table, .int .i64 e.c.row, .int .i64 e.c.value, .int .i64 e.c.slot] 31))
      have HBb := Lib.hid (HB.out.alloc HB.out.size (.cells #[.int .i32 e.c.table, .int .i64 e.c.row, .int .i64 e.c.value, .int .i64 e.c.slot] 31))
      have HOb := Lib.hid (show Own (wr.alloc (.cells #[.int .i32 e.c.table, .int .i64 e.c.row, .int .i64 e.c.value, .int .i64 e.c.slot] 31)) w.heap.size (.slice A U.length cc) U from Kd.R_alloc (HM.out ▸ HO.out) _)
      obtain ⟨wb, hwb⟩ : ∃ W, wr.alloc (.cells #[.int .i32 e.c.table, .int .i64 e.c.row, .int .i64 e.c.value, .int .i64 e.c.slot] 31) = W := ⟨_, rfl⟩
      rw [hwb] at HXb HBb HOb ⊢
      clear hwb c0 d0 d1 d2 d3
      have y0 : wb.cell? ⟨wr.heap.size, 0, none⟩ = some (.int .i32 e.c.table) := (blk_cell HXb.out 0).trans rfl
      go_upto_region 7 with (first | (go_at_call 60; refine (trivetref01_Num.calls 10 (e.c.table) _ _ (ref_num HI.out.1 10 (Nat.le_refl _))).mono ?_; rintro e2 wn0 ⟨v2, rfl, ho, hb⟩; obtain ⟨An0, cn0, rfl⟩ := Kd.R_slice ho; have HN0 := Lib.hid (Kd.R_reads' ho).2.2; have HBn0 := Lib.hid (HBb.out.trans (hb.mono HBb.out.size)); have HOn0 := Lib.hid (Kd.R_below HOb.out hb); have HXn0 := Lib.hid ((hb.block wr.heap.size (blk_lt HXb.out)).trans HXb.out); clear ho hb) | ((with_reducible refine gate_builtin (b := .append) (xs := #[.tmp 28, .tmp 33]) rfl ?_); at_builtin; refine Kd.R_append_rows (Kd.int .u8) (Rr := Kd.K (Kd.int .u8) wn0) (w0 := w) w.heap.size rfl (.tmp 28) (.tmp 33) 61 5 (.int .u8 0) 1 rfl Try.underlying61 infoU8 rfl (by decide) (by omega) _ (U) (numB (e.c.table)) _ _ _ (fun _ => True) (fun _ => False) rfl rfl HOn0.out HN0.out (fun _ _ h => h) (fun _ h => h.elim) (fun _ _ => trivial) HBn0.out HBn0.out.size (by have h1 := (numB_len HI.out.1).2; have h2 := HUL.out; have h3 := HNL.out; (try simp only [List.length_append]); omega) ?_; intro v3 wp0 ho hb hg hat; obtain ⟨Ap0, cp0, rfl⟩ := Kd.R_slice ho; obtain ⟨kl0, hkl⟩ : ∃ k_, (U ++ numB (e.c.table)).length = k_ := ⟨_, rfl⟩; rw [hkl] at ho; rw [hkl]; have HK0 := Lib.hid hkl; clear hkl; have HOp0 := Lib.hid ho; have HBp0 := Lib.hid hb; have HXp0 := Lib.hid ((hg.block wr.heap.size (blk_lt HXn0.out) (Kd.R_ne HOn0.out HXn0.out (by decide))).trans HXn0.out); clear ho hb hg hat))
      clear y0
      have y1 : wp0.cell? ⟨wr.heap.size, 1, none⟩ = some (.int .i64 e.c.row) := (blk_cell HXp0.out 1).trans rfl
      go_upto_region 8 with (first | (go_at_call 60; refine (trivetref01_Num.calls 10 (e.c.row) _ _ (ref_num HI.out.2.1 10 (Nat.le_refl _))).mono ?_; rintro e2 wn1 ⟨v2, rfl, ho, hb⟩; obtain ⟨An1, cn1, rfl⟩ := Kd.R_slice ho; have HN1 := Lib.hid (Kd.R_reads' ho).2.2; have HBn1 := Lib.hid (HBp0.out.trans (hb.mono HBp0.out.size)); have HOn1 := Lib.hid (Kd.R_below HOp0.out hb); have HXn1 := Lib.hid ((hb.block wr.heap.size (blk_lt HXp0.out)).trans HXp0.out); clear ho hb) | ((with_reducible refine gate_builtin (b := .append) (xs := #[.tmp 35, .tmp 39]) rfl ?_); at_builtin; refine Kd.R_append_rows (Kd.int .u8) (Rr := Kd.K (Kd.int .u8) wn1) (w0 := w) w.heap.size rfl (.tmp 35) (.tmp 39) 61 5 (.int .u8 0) 1 rfl Try.underlying61 infoU8 rfl (by decide) (by omega) _ (U ++ numB (e.c.table)) (numB (e.c.row)) _ _ _ (fun _ => True) (fun _ => False) rfl rfl HOn1.out HN1.out (fun _ _ h => h) (fun _ h => h.elim) (fun _ _ => trivial) HBn1.out HBn1.out.size (by have h1 := (numB_len HI.out.2.1).2; have h2 := HUL.out; have h3 := HNL.out; (try simp only [List.length_append]); omega) ?_; intro v3 wp1 ho hb hg hat; obtain ⟨Ap1, cp1, rfl⟩ := Kd.R_slice ho; obtain ⟨kl1, hkl⟩ : ∃ k_, (U ++ numB (e.c.table) ++ numB (e.c.row)).length = k_ := ⟨_, rfl⟩; rw [hkl] at ho; rw [hkl]; have HK1 := Lib.hid hkl; clear hkl; have HOp1 := Lib.hid ho; have HBp1 := Lib.hid hb; have HXp1 := Lib.hid ((hg.block wr.heap.size (blk_lt HXn1.out) (Kd.R_ne HOn1.out HXn1.out (by decide))).trans HXn1.out); clear ho hb hg hat))
      clear y1
      have y2 : wp1.cell? ⟨wr.heap.size, 2, none⟩ = some (.int .i64 e.c.value) := (blk_cell HXp1.out 2).trans rfl
      go_upto_region 9 with (first | (go_at_call 60; refine (trivetref01_Num.calls 10 (e.c.value) _ _ (ref_num HI.out.2.2.1 10 (Nat.le_refl _))).mono ?_; rintro e2 wn2 ⟨v2, rfl, ho, hb⟩; obtain ⟨An2, cn2, rfl⟩ := Kd.R_slice ho; have HN2 := Lib.hid (Kd.R_reads' ho).2.2; have HBn2 := Lib.hid (HBp1.out.trans (hb.mono HBp1.out.size)); have HOn2 := Lib.hid (Kd.R_below HOp1.out hb); have HXn2 := Lib.hid ((hb.block wr.heap.size (blk_lt HXp1.out)).trans HXp1.out); clear ho hb) | ((with_reducible refine gate_builtin (b := .append) (xs := #[.tmp 41, .tmp 44]) rfl ?_); at_builtin; refine Kd.R_append_rows (Kd.int .u8) (Rr := Kd.K (Kd.int .u8) wn2) (w0 := w) w.heap.size rfl (.tmp 41) (.tmp 44) 61 5 (.int .u8 0) 1 rfl Try.underlying61 infoU8 rfl (by decide) (by omega) _ (U ++ numB (e.c.table) ++ numB (e.c.row)) (numB (e.c.value)) _ _ _ (fun _ => True) (fun _ => False) rfl rfl HOn2.out HN2.out (fun _ _ h => h) (fun _ h => h.elim) (fun _ _ => trivial) HBn2.out HBn2.out.size (by have h1 := (numB_len HI.out.2.2.1).2; have h2 := HUL.out; have h3 := HNL.out; (try simp only [List.length_append]); omega) ?_; intro v3 wp2 ho hb hg hat; obtain ⟨Ap2, cp2, rfl⟩ := Kd.R_slice ho; obtain ⟨kl2, hkl⟩ : ∃ k_, (U ++ numB (e.c.table) ++ numB (e.c.row) ++ numB (e.c.value)).length = k_ := ⟨_, rfl⟩; rw [hkl] at ho; rw [hkl]; have HK2 := Lib.hid hkl; clear hkl; have HOp2 := Lib.hid ho; have HBp2 := Lib.hid hb; have HXp2 := Lib.hid ((hg.block wr.heap.size (blk_lt HXn2.out) (Kd.R_ne HOn2.out HXn2.out (by decide))).trans HXn2.out); clear ho hb hg hat))
      clear y2
      have y3 : wp2.cell? ⟨wr.heap.size, 3, none⟩ = some (.int .i64 e.c.slot) := (blk_cell HXp2.out 3).trans rfl
      go_wp2_with (first | (go_at_call 60; refine (trivetref01_Num.calls 10 (e.c.slot) _ _ (ref_num HI.out.2.2.2 10 (Nat.le_refl _))).mono ?_; rintro e2 wn3 ⟨v2, rfl, ho, hb⟩; obtain ⟨An3, cn3, rfl⟩ := Kd.R_slice ho; have HN3 := Lib.hid (Kd.R_reads' ho).2.2; have HBn3 := Lib.hid (HBp2.out.trans (hb.mono HBp2.out.size)); have HOn3 := Lib.hid (Kd.R_below HOp2.out hb); have HXn3 := Lib.hid ((hb.block wr.heap.size (blk_lt HXp2.out)).trans HXp2.out); clear ho hb) | ((with_reducible refine gate_builtin (b := .append) (xs := #[.tmp 46, .tmp 49]) rfl ?_); at_builtin; refine Kd.R_append_rows (Kd.int .u8) (Rr := Kd.K (Kd.int .u8) wn3) (w0 := w) w.heap.size rfl (.tmp 46) (.tmp 49) 61 5 (.int .u8 0) 1 rfl Try.underlying61 infoU8 rfl (by decide) (by omega) _ (U ++ numB (e.c.table) ++ numB (e.c.row) ++ numB (e.c.value)) (numB (e.c.slot)) _ _ _ (fun _ => True) (fun _ => False) rfl rfl HOn3.out HN3.out (fun _ _ h => h) (fun _ h => h.elim) (fun _ _ => trivial) HBn3.out HBn3.out.size (by have h1 := (numB_len HI.out.2.2.2).2; have h2 := HUL.out; have h3 := HNL.out; (try simp only [List.length_append]); omega) ?_; intro v3 wp3 ho hb hg hat; obtain ⟨Ap3, cp3, rfl⟩ := Kd.R_slice ho; obtain ⟨kl3, hkl⟩ : ∃ k_, (U ++ numB (e.c.table) ++ numB (e.c.row) ++ numB (e.c.value) ++ numB (e.c.slot)).length = k_ := ⟨_, rfl⟩; rw [hkl] at ho; rw [hkl]; have HK3 := Lib.hid hkl; clear hkl; have HOp3 := Lib.hid ho; have HBp3 := Lib.hid hb; have HXp3 := Lib.hid ((hg.block wr.heap.size (blk_lt HXn3.out) (Kd.R_ne HOn3.out HXn3.out (by decide))).trans HXn3.out); clear ho hb hg hat))
      go_roundw
      case rel =>
        have hO := HOp3.out
        exact ⟨p + 1, Ap3, cp3, _, HLT.out, by go_num, rfl, by rw [HSN.out, ← List.append_assoc, HUU.out, four_numB, ← HK3.out]; simp only [List.append_assoc], by rw [HSN.out, ← List.append_assoc, HUU.out, four_numB]; simpa only [Own, List.append_assoc] using hO, HBp3.out⟩
      case measure => have := HLT.out; simp [intOf]; omega
    · have q1 : decide ((p : Int) < (L.length : Int)) = false := decide_eq_false (by omega)
      have q2 : decide (p < L.length) = false := decide_eq_false (by omega)
      have HP := Lib.hid (show L.take p = L by rw [List.take_of_length_le hge])
      clear hml hge hC la hp
      go_wp2_with fail
      go_ret
      have ho := HO.out
      have hm := HM.out
      rw [HP.out] at ho hm
      subst hm
      exact ⟨_, rfl, ho, HB.out⟩
end Go.Proofs.Ytdolmkiiflhehaa.M
end

section
/- A store and the reference's side by side. -/
set_option linter.unusedVariables false
set_option linter.unusedSimpArgs false
namespace Go.Proofs.Ytdolmkiiflhehaa.M
open Go.RowKit Go.Proofs.YtdolmkiiflhehaaW.PrintWords
structure Pk (w : World) (s q : Nat) (T : Nat → Prop) (L : List Nd) (x : Int) : Prop where
  st : ∃ (h : Nat) (nx : Nat → Nat → Option Nat) (S : Nat → Prop), IsSk w s h L x nx ∧ IsRk w q S L x ∧ (∀ i, IsSk.Own s h L i → T i ∧ ¬ S i) ∧ ∀ i, S i → T i
  lt : ∀ i, T i → i < w.heap.size
  len : L.length ≤ 1048576
  wf : WfL L
namespace Pk
variable {w w' : World} {s q : Nat} {T T' : Nat → Prop} {L L' : List Nd} {x x' : Int}
theorem move (h : Pk w s q T L x) (hs : w.heap.size ≤ w'.heap.size) (hb : ∀ i, T i → w'.heap[i]? = w.heap[i]?) : Pk w' s q T L x := by
  obtain ⟨hh, nx, S, h1, h2, h3, h4⟩ := h.st
  exact ⟨⟨hh, nx, S, h1.move (fun i hi => hb i (h3 i hi).1), h2.move (fun i hi _ => hb i (h4 i hi)), h3, h4⟩, fun i hi => Nat.lt_of_lt_of_le (h.lt i hi) hs, h.len, h.wf⟩
theorem below (h : Pk w s q T L x) (hb : Below w.heap.size w w') : Pk w' s q T L x := h.move hb.size (fun i hi => hb.block i (h.lt i hi))
theorem keep {S1 : Nat → Prop} (h : Pk w s q T L x) (hk : KeepS S1 w w') (hs : ∀ i, T i → ¬ S1 i) : Pk w' s q T L x := h.move hk.size (fun i hi => hk.block i (h.lt i hi) (hs i hi))
theorem new {h0 : Nat} {nx : Nat → Nat → Option Nat} {S : Nat → Prop} (h1 : IsSk w s h0 [] x nx) (h2 : IsRk w q S [] x) (h3 : ∀ i, IsSk.Own s h0 [] i → ¬ S i) (h4 : ∀ i, S i → i < w.heap.size) : Pk w s q (fun i => IsSk.Own s h0 [] i ∨ S i) [] x :=
  ⟨⟨h0, nx, S, h1, h2, fun i hi => ⟨.inl hi, h3 i hi⟩, fun i hi => .inr hi⟩, fun i hi => by rcases hi with hi | hi; exact h1.own_lt hi; exact h4 i hi, by simp, fun e he => by cases he⟩
theorem step {w2 w3 : World} {h h' : Nat} {nx nx' : Nat → Nat → Option Nat} {S S' : Nat → Prop} (hP : Pk w s q T L x) (h1 : IsSk w s h L x nx) (h3 : ∀ i, IsSk.Own s h L i → T i ∧ ¬ S i) (h4 : ∀ i, S i → T i)
    (k1 : IsSk w2 s h' L' x' nx') (k2 : KeepS (IsSk.Own s h L) w w2) (k3 : ∀ i, IsSk.Own s h' L' i → IsSk.Own s h L i ∨ w.heap.size ≤ i)
    (r1 : IsRk w3 q S' L' x') (r2 : KeepS S w2 w3) (r3 : ∀ i, S' i → S i ∨ w2.heap.size ≤ i) (hS : ∀ i, S' i → i < w3.heap.size) (hl : L'.length ≤ 1048576) (hw : WfL L') :
    Pk w3 s q (fun i => IsSk.Own s h' L' i ∨ S' i) L' x' ∧ KeepS T w w3 ∧ ∀ i, (IsSk.Own s h' L' i ∨ S' i) → T i ∨ w.heap.size ≤ i := by
  have hn : ∀ i, IsSk.Own s h' L' i → ¬ S i := fun i hi hs => by
    rcases k3 i hi with h | h
    · exact (h3 i h).2 hs
    · have := hP.lt i (h4 i hs); omega
  have k4 : IsSk w3 s h' L' x' nx' := k1.keep r2 hn
  refine ⟨⟨⟨h', nx', S', k4, r1, fun i hi => ⟨.inl hi, fun hs => ?_⟩, fun i hi => .inr hi⟩, fun i hi => ?_, hl, hw⟩, ?_, fun i hi => ?_⟩
  · rcases r3 i hs with h | h
    · exact hn i hi h
    · have := k1.own_lt hi; omega
  · rcases hi with hi | hi
    · exact k4.own_lt hi
    · exact hS i hi
  · exact (k2.mono (fun i hi => (h3 i hi).1)).trans (r2.mono h4)
  · rcases hi with hi | hi
    · rcases k3 i hi with h | h
      · exact .inl (h3 i h).1
      · exact .inr h
    · rcases r3 i hi with h | h
      · exact .inl (h4 i h)
      · exact .inr (Nat.le_trans k2.size h)
end Pk
theorem IsRk.bounded {w : World} {q : Nat} {S : Nat → Prop} {L : List Nd} {x : Int} (h : IsRk w q S L x) : IsRk w q (fun i => S i ∧ i < w.heap.size) L x := by
  obtain ⟨A, a, B, b, hV⟩ := h.toV
  exact hV.bound.toK rfl rfl h.store
theorem putL_alike (L : List Nd) (c : CellD) (x : Int) (b b' : Nat) : cellsL (putL L c x b) = cellsL (putL L c x b') ∧ hisL (putL L c x b) = hisL (putL L c x b') := by
  unfold putL
  split
  · split
    · exact ⟨rfl, rfl⟩
    · split
      · rw [cells_ins, cells_ins, his_ins, his_ins]; exact ⟨rfl, rfl⟩
      · exact ⟨rfl, rfl⟩
  · exact ⟨rfl, rfl⟩
theorem putL_len (L : List Nd) (c : CellD) (x : Int) (b : Nat) (h : L.length ≤ 1048576) : (putL L c x b).length ≤ 1048576 := by
  unfold putL
  split
  · split
    · rw [setC_length]; exact h
    · split
      · rw [ins_length (rank_le _ _)]; omega
      · exact h
  · exact h
theorem putL_wf {L : List Nd} {c : CellD} (x : Int) (b : Nat) (h : WfL L) (hc : WfC c) : WfL (putL L c x b) := by
  unfold putL
  split
  · split
    · intro e he
      unfold setC at he
      split at he
      · rcases List.mem_or_eq_of_mem_set he with h1 | h1
        · exact h e h1
        · rw [h1]; exact hc
      · exact h e he
    · split
      · intro e he
        rcases ins_mem.1 he with h1 | h1
        · rw [h1]; exact hc
        · exact h e h1
      · exact h
  · exact h
theorem eraL_len (L : List Nd) (k : Int × Int) (h : L.length ≤ 1048576) : (eraL L k).length ≤ 1048576 := by
  unfold eraL
  split
  · exact Nat.le_trans (del_sublist L _).length_le h
  · exact h
theorem eraL_wf {L : List Nd} (k : Int × Int) (h : WfL L) : WfL (eraL L k) := by
  unfold eraL
  split
  · exact fun e he => h e ((del_sublist L _).subset he)
  · exact h
end Go.Proofs.Ytdolmkiiflhehaa.M
end

section
/- An operation of a script, read. -/
set_option linter.unusedVariables false
set_option linter.unusedSimpArgs false
set_option maxRecDepth 100000
namespace Go.Proofs.Ytdolmkiiflhehaa.M
open Go.RowKit Go.Proofs.YtdolmkiiflhehaaW.PrintWords
structure OpD where
  Do : Int
  c : CellD
  tk : Int × Int
  seed : Int
  stop : Int
def keyK2 : Kd (Int × Int) := Kd.iso (Kd.pair (Kd.int .i32) (Kd.int .i64)) (fun x => x)
def celK2 : Kd CellD := Kd.iso (Kd.pair keyK2 (Kd.pair (Kd.int .i64) (Kd.int .i64))) (fun c => (c.key, c.value, c.slot))
def opT : Kd (Int × CellD × (Int × Int) × Int × Int) := Kd.pair (Kd.int .i64) (Kd.pair celK2 (Kd.pair keyK2 (Kd.pair (Kd.int .u64) (Kd.int .i64))))
def OpD.t (o : OpD) : Int × CellD × (Int × Int) × Int × Int := (o.Do, o.c, o.tk, o.seed, o.stop)
def opK : Kd OpD := Kd.iso opT OpD.t
abbrev I64 (x : Int) : Prop := (Lit.int .i64 x).wf = true
abbrev I32 (x : Int) : Prop := (Lit.int .i32 x).wf = true
abbrev U64 (x : Int) : Prop := (Lit.int .u64 x).wf = true
def okKey (k : Int × Int) : Prop := I32 k.1 ∧ I64 k.2
def okCel (c : CellD) : Prop := okKey c.key ∧ I64 c.value ∧ I64 c.slot
def okOp (o : OpD) : Prop := I64 o.Do ∧ okCel o.c ∧ okKey o.tk ∧ U64 o.seed ∧ I64 o.stop
theorem opens_i64 : Opens Try.prog 3 (Kd.int .i64) I64 (fun _ => 1) := opens_int Try.underlying3 (by kernel_rfl)
theorem opens_j64 : Opens Try.prog 2 (Kd.int .i64) I64 (fun _ => 1) := opens_int Try.underlying2 (by kernel_rfl)
theorem opens_i32 : Opens Try.prog 21 (Kd.int .i32) I32 (fun _ => 1) := opens_int Try.underlying21 (by kernel_rfl)
theorem opens_u64 : Opens Try.prog 22 (Kd.int .u64) U64 (fun _ => 1) := opens_int Try.underlying22 (by kernel_rfl)
theorem opens_key : Opens Try.prog 29 keyK2 okKey (fun _ => 1 + 1 + 1) := by
  have h := opens_struct (d := Kd.pair (Kd.int .i32) (Kd.int .i64)) (fun x => x) (fun x => (x.1, x.2)) (fun _ => rfl) Try.underlying29 (by kernel_rfl) (opensL_cons rfl opens_i32 (opensL_one rfl opens_j64))
  exact h
theorem opens_cel : Opens Try.prog 31 celK2 okCel (fun _ => (1 + 1 + 1) + (1 + 1) + 1) := by
  have h := opens_struct (d := Kd.pair keyK2 (Kd.pair (Kd.int .i64) (Kd.int .i64))) (fun c : CellD => (c.key, c.value, c.slot)) (fun x => ⟨x.1.1, x.1.2, x.2.1, x.2.2⟩) (fun _ => rfl) Try.underlying31 (by kernel_rfl) (opensL_cons rfl opens_key (opensL_cons rfl opens_j64 (opensL_one rfl opens_j64)))
  exact h
theorem opens_op : Opens Try.prog 33 opK okOp (fun _ => 1 + (((1 + 1 + 1) + (1 + 1) + 1) + ((1 + 1 + 1) + (1 + 1))) + 1) := by
  have h := opens_struct (d := opT) OpD.t (fun x => ⟨x.1, x.2.1, x.2.2.1, x.2.2.2.1, x.2.2.2.2⟩) (fun _ => rfl) Try.underlying33 (by kernel_rfl)
    (opensL_cons rfl opens_i64 (opensL_cons rfl opens_cel (opensL_cons rfl opens_key (opensL_cons rfl opens_u64 (opensL_one rfl opens_i64)))))
  exact h
theorem opens_ops : Opens Try.prog 23 (Kd.slice 33 opK) (fun l => l.length ≤ 9223372036854775807 ∧ ∀ x ∈ l, okOp x) (szL (fun _ => 1 + (((1 + 1 + 1) + (1 + 1) + 1) + ((1 + 1 + 1) + (1 + 1))) + 1)) := opens_slice Try.underlying23 (by kernel_rfl) opens_op
def zOp : OpD := ⟨0, ⟨0, 0, 0, 0⟩, (0, 0), 0, 0⟩
theorem op_cells {W : World} {o : OpD} {c : List Value} (h : opK.K W o c) : c = [.int .i64 o.Do, .int .i32 o.c.table, .int .i64 o.c.row, .int .i64 o.c.value, .int .i64 o.c.slot, .int .i32 o.tk.1, .int .i64 o.tk.2, .int .u64 o.seed, .int .i64 o.stop] := by
  obtain ⟨c0, d0, rfl, rfl, c1, d1, rfl, ⟨a0, b0, rfl, ⟨p0, q0, rfl, rfl, rfl⟩, ⟨p1, q1, rfl, rfl, rfl⟩⟩, c2, d2, rfl, ⟨p2, q2, rfl, rfl, rfl⟩, c3, d3, rfl, rfl, rfl⟩ := h
  rfl
theorem op_get {W : World} {ok : Nat → Prop} {A : Option Addr} {n : Nat} {l : List OpD} (h : Kd.F opK W ok A n l) {k : Nat} {o : OpD} (hk : l[k]? = some o) :
    ∃ ad, A = some ad ∧ W.cell? (ad.add (k * 9)) = some (.int .i64 o.Do) ∧ W.cell? ⟨(ad.add (k * 9)).block, (ad.add (k * 9)).off + 1, none⟩ = some (.int .i32 o.c.table) ∧ W.cell? ⟨(ad.add (k * 9)).block, (ad.add (k * 9)).off + 2, none⟩ = some (.int .i64 o.c.row) ∧ W.cell? ⟨(ad.add (k * 9)).block, (ad.add (k * 9)).off + 3, none⟩ = some (.int .i64 o.c.value) ∧ W.cell? ⟨(ad.add (k * 9)).block, (ad.add (k * 9)).off + 4, none⟩ = some (.int .i64 o.c.slot) ∧ W.cell? ⟨(ad.add (k * 9)).block, (ad.add (k * 9)).off + 5, none⟩ = some (.int .i32 o.tk.1) ∧ W.cell? ⟨(ad.add (k * 9)).block, (ad.add (k * 9)).off + 6, none⟩ = some (.int .i64 o.tk.2) ∧ W.cell? ⟨(ad.add (k * 9)).block, (ad.add (k * 9)).off + 7, none⟩ = some (.int .u64 o.seed) ∧ W.cell? ⟨(ad.add (k * 9)).block, (ad.add (k * 9)).off + 8, none⟩ = some (.int .i64 o.stop) := by
  have hlt : k < n := by
    have := (List.getElem?_eq_some_iff.1 hk).1
    have := Kd.F_len h
    omega
  obtain ⟨ad, c, rfl, hcl, hK, hcc, _⟩ := Kd.F_get h zOp (k : Int) (by omega) (by omega)
  have e : l.getD (k : Int).toNat zOp = o := by rw [Int.toNat_natCast, List.getD_eq_getElem?_getD, hk]; rfl
  rw [e] at hK
  rw [Int.toNat_natCast] at hcc
  obtain rfl := op_cells (Foot.now hK)
  have hs : opK.sz = 9 := rfl
  rw [hs] at hcc
  refine ⟨ad, rfl, by simpa using hcc 0 _ rfl, ?_, ?_, ?_, ?_, ?_, ?_, ?_, ?_⟩
  · rw [← add_field ad (k * 9) 1 (by omega)]; exact hcc 1 _ rfl
  · rw [← add_field ad (k * 9) 2 (by omega)]; exact hcc 2 _ rfl
  · rw [← add_field ad (k * 9) 3 (by omega)]; exact hcc 3 _ rfl
  · rw [← add_field ad (k * 9) 4 (by omega)]; exact hcc 4 _ rfl
  · rw [← add_field ad (k * 9) 5 (by omega)]; exact hcc 5 _ rfl
  · rw [← add_field ad (k * 9) 6 (by omega)]; exact hcc 6 _ rfl
  · rw [← add_field ad (k * 9) 7 (by omega)]; exact hcc 7 _ rfl
  · rw [← add_field ad (k * 9) 8 (by omega)]; exact hcc 8 _ rfl
end Go.Proofs.Ytdolmkiiflhehaa.M
end

section
/- step: Put, Erase, Get. -/
set_option linter.unusedVariables false
set_option linter.unusedSimpArgs false
set_option maxRecDepth 100000
attribute [local irreducible] Go.wpStill
namespace Go.Proofs.Ytdolmkiiflhehaa.M
open Go.RowKit Go.Proofs.YtdolmkiiflhehaaW.PrintWords Go.Proofs.YtdolmkiiflhehaaW.PrintLast
def StepK (w : World) (s q : Nat) (T : Nat → Prop) (e : Ending) (w' : World) : Prop := ∃ T' L' x', e = .returned (.tuple #[.pointer (some ⟨s, 0, none⟩), .pointer (some ⟨q, 0, none⟩), .bool true]) ∧ Pk w' s q T' L' x' ∧ KeepS T w w' ∧ ∀ i, T' i → T i ∨ w.heap.size ≤ i
set_option maxHeartbeats 2000000 in
theorem step_put {w : World} {s q : Nat} {T : Nat → Prop} {L : List Nd} {x : Int} (hP : Pk w s q T L x) (o : OpD) (hc : WfC o.c) :
    Calls Try.prog 32 #[.pointer (some ⟨s, 0, none⟩), .pointer (some ⟨q, 0, none⟩), .agg #[.int .i64 0, .int .i32 o.c.table, .int .i64 o.c.row, .int .i64 o.c.value, .int .i64 o.c.slot, .int .i32 o.tk.1, .int .i64 o.tk.2, .int .u64 o.seed, .int .i64 o.stop]] w fun e w' => StepK w s q T e w' := by
  have hb1 := (Below.refl w.heap.size w).alloc (Nat.le_refl _) (.cells #[.int .i64 0, .int .i32 o.c.table, .int .i64 o.c.row, .int .i64 o.c.value, .int .i64 o.c.slot, .int .i32 o.tk.1, .int .i64 o.tk.2, .int .u64 o.seed, .int .i64 o.stop] 33)
  have HX := Lib.hid (heap_alloc_new w (.cells #[.int .i64 0, .int .i32 o.c.table, .int .i64 o.c.row, .int .i64 o.c.value, .int .i64 o.c.slot, .int .i32 o.tk.1, .int .i64 o.tk.2, .int .u64 o.seed, .int .i64 o.stop] 33))
  have HP := Lib.hid (hP.below hb1)
  have HV := Lib.hid hb1
  have HLT := Lib.hid hP.lt
  have HC := Lib.hid hc
  obtain ⟨w1, hw1⟩ : ∃ V, w.alloc (.cells #[.int .i64 0, .int .i32 o.c.table, .int .i64 o.c.row, .int .i64 o.c.value, .int .i64 o.c.slot, .int .i32 o.tk.1, .int .i64 o.tk.2, .int .u64 o.seed, .int .i64 o.stop] 33) = V := ⟨_, rfl⟩
  rw [hw1] at HX HP HV
  have HW := Lib.hid hw1
  have HP1 := Lib.hid (HP.out.below (Below.refl _ w1).drew)
  obtain ⟨h, nx, S, k1, k2, k3, k4⟩ := HP1.out.st
  have HS1 := Lib.hid k1; have HR1 := Lib.hid k2; have H3 := Lib.hid k3; have H4 := Lib.hid k4
  have HXd := Lib.hid (show w1.drew.heap[w.heap.size]? = some (.cells #[.int .i64 0, .int .i32 o.c.table, .int .i64 o.c.row, .int .i64 o.c.value, .int .i64 o.c.slot, .int .i32 o.tk.1, .int .i64 o.tk.2, .int .u64 o.seed, .int .i64 o.stop] 33) from HX.out)
  have HLEN := Lib.hid hP.len
  obtain ⟨z, hz⟩ : ∃ z, putE L o.c = z := ⟨_, rfl⟩
  have HZ := Lib.hid hz
  have qz : (z == z) = true := by simp
  clear hP hw1 hb1 hc hz k1 k2 k3 k4
  go_enter Try.func32, Try.ntmps32
  go_upto_region 1 with fail
  rw [HW.out]
  have x0 : w1.cell? ⟨w.heap.size, 0, none⟩ = some (.int .i64 0) := (blk_cell HX.out 0).trans rfl
  have y1 : w1.cell? ⟨w.heap.size, 1, none⟩ = some (.int .i32 o.c.table) := (blk_cell HX.out 1).trans rfl; have y2 : w1.cell? ⟨w.heap.size, 2, none⟩ = some (.int .i64 o.c.row) := (blk_cell HX.out 2).trans rfl; have y3 : w1.cell? ⟨w.heap.size, 3, none⟩ = some (.int .i64 o.c.value) := (blk_cell HX.out 3).trans rfl; have y4 : w1.cell? ⟨w.heap.size, 4, none⟩ = some (.int .i64 o.c.slot) := (blk_cell HX.out 4).trans rfl
  go_wp2_with fail
  go_region_held3 (fun w' => w'.cell? ⟨w.heap.size, 1, none⟩ = some (.int .i32 o.c.table) ∧ w'.cell? ⟨w.heap.size, 2, none⟩ = some (.int .i64 o.c.row) ∧ w'.cell? ⟨w.heap.size, 3, none⟩ = some (.int .i64 o.c.value) ∧ w'.cell? ⟨w.heap.size, 4, none⟩ = some (.int .i64 o.c.slot)) (go_keep) (first
    | (go_at_call 12; refine (put_isX HS1.out HLEN.out o.c).mono ?_; rintro e w2 ⟨b, nx', rfl, h1, h2, h3⟩; rw [HZ.out]; have HS2 := Lib.hid h1; have HK2 := Lib.hid h2; have HF2 := Lib.hid h3; have HR2 := Lib.hid (HR1.out.keep h2 (fun i hi ho => (H3.out i ho).2 hi)); have HX2 := Lib.hid ((h2.block w.heap.size (blk_lt HXd.out) (fun ho => by have := HLT.out _ (H3.out _ ho).1; omega)).trans HXd.out); have p1 : w2.cell? ⟨w.heap.size, 1, none⟩ = some (.int .i32 o.c.table) := (blk_cell HX2.out 1).trans rfl; have p2 : w2.cell? ⟨w.heap.size, 2, none⟩ = some (.int .i64 o.c.row) := (blk_cell HX2.out 2).trans rfl; have p3 : w2.cell? ⟨w.heap.size, 3, none⟩ = some (.int .i64 o.c.value) := (blk_cell HX2.out 3).trans rfl; have p4 : w2.cell? ⟨w.heap.size, 4, none⟩ = some (.int .i64 o.c.slot) := (blk_cell HX2.out 4).trans rfl; clear h1 h2 h3)
    | (go_at_call 52; refine (rput_is HR2.out HLEN.out o.c).mono ?_; rintro e w3 ⟨rfl, h2, S', h1, h3⟩; rw [HZ.out]; have HR3 := Lib.hid h1; have HK3 := Lib.hid h2; have HF3 := Lib.hid h3; have HX3 := Lib.hid ((h2.block w.heap.size (blk_lt HX2.out) (fun ho => by have := HLT.out _ (H4.out _ ho); omega)).trans HX2.out); have r1 : w3.cell? ⟨w.heap.size, 1, none⟩ = some (.int .i32 o.c.table) := (blk_cell HX3.out 1).trans rfl; have r2 : w3.cell? ⟨w.heap.size, 2, none⟩ = some (.int .i64 o.c.row) := (blk_cell HX3.out 2).trans rfl; have r3 : w3.cell? ⟨w.heap.size, 3, none⟩ = some (.int .i64 o.c.value) := (blk_cell HX3.out 3).trans rfl; have r4 : w3.cell? ⟨w.heap.size, 4, none⟩ = some (.int .i64 o.c.slot) := (blk_cell HX3.out 4).trans rfl; clear h1 h2 h3))
  go_wp2_with fail
  (try simp only [Exit.inBlock, Exit.then])
  have hr3 := HR3.out.bounded |>.alike (putL_alike L o.c x b 0).1 (putL_alike L o.c x b 0).2 HS2.out.store
  have hst := HP1.out.step HS1.out H3.out H4.out HS2.out HK2.out HF2.out hr3 HK3.out (fun i hi => HF3.out i hi.1) (fun i hi => hi.2) (putL_len L o.c x b HLEN.out) (putL_wf x b HP1.out.wf HC.out)
  refine bodyPost_ret (v := .tuple #[.pointer (some ⟨s, 0, none⟩), .pointer (some ⟨q, 0, none⟩), .bool true]) (by simp [results, Try.results32, go_sem]) rfl ⟨_, _, _, rfl, hst.1, (KeepS.of_below T HV.out).trans (((KeepS.refl T w1).drew).trans hst.2.1), fun i hi => ?_⟩
  rcases hst.2.2 i hi with h | h
  · exact .inl h
  · exact .inr (Nat.le_trans HV.out.size h)
set_option maxHeartbeats 2000000 in
theorem step_erase {w : World} {s q : Nat} {T : Nat → Prop} {L : List Nd} {x : Int} (hP : Pk w s q T L x) (o : OpD) (hc : WfC o.c) :
    Calls Try.prog 32 #[.pointer (some ⟨s, 0, none⟩), .pointer (some ⟨q, 0, none⟩), .agg #[.int .i64 1, .int .i32 o.c.table, .int .i64 o.c.row, .int .i64 o.c.value, .int .i64 o.c.slot, .int .i32 o.tk.1, .int .i64 o.tk.2, .int .u64 o.seed, .int .i64 o.stop]] w fun e w' => StepK w s q T e w' := by
  have hb1 := (Below.refl w.heap.size w).alloc (Nat.le_refl _) (.cells #[.int .i64 1, .int .i32 o.c.table, .int .i64 o.c.row, .int .i64 o.c.value, .int .i64 o.c.slot, .int .i32 o.tk.1, .int .i64 o.tk.2, .int .u64 o.seed, .int .i64 o.stop] 33)
  have HX := Lib.hid (heap_alloc_new w (.cells #[.int .i64 1, .int .i32 o.c.table, .int .i64 o.c.row, .int .i64 o.c.value, .int .i64 o.c.slot, .int .i32 o.tk.1, .int .i64 o.tk.2, .int .u64 o.seed, .int .i64 o.stop] 33))
  have HP := Lib.hid (hP.below hb1)
  have HV := Lib.hid hb1
  have HLT := Lib.hid hP.lt
  have HC := Lib.hid hc
  obtain ⟨w1, hw1⟩ : ∃ V, w.alloc (.cells #[.int .i64 1, .int .i32 o.c.table, .int .i64 o.c.row, .int .i64 o.c.value, .int .i64 o.c.slot, .int .i32 o.tk.1, .int .i64 o.tk.2, .int .u64 o.seed, .int .i64 o.stop] 33) = V := ⟨_, rfl⟩
  rw [hw1] at HX HP HV
  have HW := Lib.hid hw1
  have HP1 := Lib.hid (HP.out.below (Below.refl _ w1).drew)
  obtain ⟨h, nx, S, k1, k2, k3, k4⟩ := HP1.out.st
  have HS1 := Lib.hid k1; have HR1 := Lib.hid k2; have H3 := Lib.hid k3; have H4 := Lib.hid k4
  have HXd := Lib.hid (show w1.drew.heap[w.heap.size]? = some (.cells #[.int .i64 1, .int .i32 o.c.table, .int .i64 o.c.row, .int .i64 o.c.value, .int .i64 o.c.slot, .int .i32 o.tk.1, .int .i64 o.tk.2, .int .u64 o.seed, .int .i64 o.stop] 33) from HX.out)
  have HLEN := Lib.hid hP.len
  obtain ⟨z, hz⟩ : ∃ z, eraE L o.c.key = z := ⟨_, rfl⟩
  have HZ := Lib.hid hz
  have qz : (z == z) = true := by simp
  clear hP hw1 hb1 hc hz k1 k2 k3 k4
  go_enter Try.func32, Try.ntmps32
  go_upto_region 1 with fail
  rw [HW.out]
  have x0 : w1.cell? ⟨w.heap.size, 0, none⟩ = some (.int .i64 1) := (blk_cell HX.out 0).trans rfl
  have y1 : w1.cell? ⟨w.heap.size, 1, none⟩ = some (.int .i32 o.c.table) := (blk_cell HX.out 1).trans rfl; have y2 : w1.cell? ⟨w.heap.size, 2, none⟩ = some (.int .i64 o.c.row) := (blk_cell HX.out 2).trans rfl
  go_wp2_with fail
  go_region_held3 (fun w' => w'.cell? ⟨w.heap.size, 1, none⟩ = some (.int .i32 o.c.table) ∧ w'.cell? ⟨w.heap.size, 2, none⟩ = some (.int .i64 o.c.row)) (go_keep) (first
    | (go_at_call 11; refine (erase_isX HS1.out HLEN.out o.c.key).mono ?_; rintro e w2 ⟨nx', rfl, h1, h2, h3⟩; rw [HZ.out]; have HS2 := Lib.hid h1; have HK2 := Lib.hid h2; have HF2 := Lib.hid h3; have HR2 := Lib.hid (HR1.out.keep h2 (fun i hi ho => (H3.out i ho).2 hi)); have HX2 := Lib.hid ((h2.block w.heap.size (blk_lt HXd.out) (fun ho => by have := HLT.out _ (H3.out _ ho).1; omega)).trans HXd.out); have p1 : w2.cell? ⟨w.heap.size, 1, none⟩ = some (.int .i32 o.c.table) := (blk_cell HX2.out 1).trans rfl; have p2 : w2.cell? ⟨w.heap.size, 2, none⟩ = some (.int .i64 o.c.row) := (blk_cell HX2.out 2).trans rfl; clear h1 h2 h3)
    | (go_at_call 58; refine (rerase_is HR2.out HLEN.out o.c.key).mono ?_; rintro e w3 ⟨rfl, h2, S', h1, h3⟩; rw [HZ.out]; have HR3 := Lib.hid h1; have HK3 := Lib.hid h2; have HF3 := Lib.hid h3; have HX3 := Lib.hid ((h2.block w.heap.size (blk_lt HX2.out) (fun ho => by have := HLT.out _ (H4.out _ ho); omega)).trans HX2.out); have r1 : w3.cell? ⟨w.heap.size, 1, none⟩ = some (.int .i32 o.c.table) := (blk_cell HX3.out 1).trans rfl; have r2 : w3.cell? ⟨w.heap.size, 2, none⟩ = some (.int .i64 o.c.row) := (blk_cell HX3.out 2).trans rfl; clear h1 h2 h3))
  go_wp2_with fail
  (try simp only [Exit.inBlock, Exit.then])
  have hr3 := HR3.out.bounded
  have hst := HP1.out.step HS1.out H3.out H4.out HS2.out HK2.out HF2.out hr3 HK3.out (fun i hi => HF3.out i hi.1) (fun i hi => hi.2) (eraL_len L o.c.key HLEN.out) (eraL_wf o.c.key HP1.out.wf)
  refine bodyPost_ret (v := .tuple #[.pointer (some ⟨s, 0, none⟩), .pointer (some ⟨q, 0, none⟩), .bool true]) (by simp [results, Try.results32, go_sem]) rfl ⟨_, _, _, rfl, hst.1, (KeepS.of_below T HV.out).trans (((KeepS.refl T w1).drew).trans hst.2.1), fun i hi => ?_⟩
  rcases hst.2.2 i hi with h | h
  · exact .inl h
  · exact .inr (Nat.le_trans HV.out.size h)
end Go.Proofs.Ytdolmkiiflhehaa.M
end

section
/- step: Get; a step that is neither a clone nor the bytes. -/
set_option linter.unusedVariables false
set_option linter.unusedSimpArgs false
set_option maxRecDepth 100000
namespace Go.Proofs.Ytdolmkiiflhehaa.M
open Go.RowKit Go.Proofs.YtdolmkiiflhehaaW.PrintWords Go.Proofs.YtdolmkiiflhehaaW.PrintLast
theorem getV_eq (g : Option CellD) : ∃ d b, getV g = .tuple #[celV d, .bool b] := by cases g <;> exact ⟨_, _, rfl⟩
set_option maxHeartbeats 2000000 in
theorem step_get {w : World} {s q : Nat} {T : Nat → Prop} {L : List Nd} {x : Int} (hP : Pk w s q T L x) (o : OpD) (hd : o.Do ≠ 0 ∧ o.Do ≠ 1 ∧ o.Do ≠ 3 ∧ o.Do ≠ 4) :
    Calls Try.prog 32 #[.pointer (some ⟨s, 0, none⟩), .pointer (some ⟨q, 0, none⟩), .agg #[.int .i64 o.Do, .int .i32 o.c.table, .int .i64 o.c.row, .int .i64 o.c.value, .int .i64 o.c.slot, .int .i32 o.tk.1, .int .i64 o.tk.2, .int .u64 o.seed, .int .i64 o.stop]] w fun e w' => StepK w s q T e w' := by
  have hb1 := (Below.refl w.heap.size w).alloc (Nat.le_refl _) (.cells #[.int .i64 o.Do, .int .i32 o.c.table, .int .i64 o.c.row, .int .i64 o.c.value, .int .i64 o.c.slot, .int .i32 o.tk.1, .int .i64 o.tk.2, .int .u64 o.seed, .int .i64 o.stop] 33)
  have HX := Lib.hid (heap_alloc_new w (.cells #[.int .i64 o.Do, .int .i32 o.c.table, .int .i64 o.c.row, .int .i64 o.c.value, .int .i64 o.c.slot, .int .i32 o.tk.1, .int .i64 o.tk.2, .int .u64 o.seed, .int .i64 o.stop] 33))
  have HP := Lib.hid (hP.below hb1)
  have HV := Lib.hid hb1
  have HLEN := Lib.hid hP.len
  obtain ⟨w1, hw1⟩ : ∃ V, w.alloc (.cells #[.int .i64 o.Do, .int .i32 o.c.table, .int .i64 o.c.row, .int .i64 o.c.value, .int .i64 o.c.slot, .int .i32 o.tk.1, .int .i64 o.tk.2, .int .u64 o.seed, .int .i64 o.stop] 33) = V := ⟨_, rfl⟩
  rw [hw1] at HX HP HV
  obtain ⟨dd, hdd⟩ : ∃ d, o.Do = d := ⟨_, rfl⟩
  rw [hdd] at HX hd hw1
  rw [hdd]
  have HW := Lib.hid hw1
  have p0 : (dd == 0) = false := beq_eq_false_iff_ne.2 hd.1
  have p1 : (dd == 1) = false := beq_eq_false_iff_ne.2 hd.2.1
  have p3 : (dd == 3) = false := beq_eq_false_iff_ne.2 hd.2.2.1
  have p4 : (dd == 4) = false := beq_eq_false_iff_ne.2 hd.2.2.2
  obtain ⟨d, b, hgv⟩ := getV_eq (getL L o.c.key)
  have HG := Lib.hid hgv
  have qb : (b == b) = true := by simp
  have hq : ∀ W : World, (Op.equalIn 10000 31 (.agg #[.int .i32 d.table, .int .i64 d.row, .int .i64 d.value, .int .i64 d.slot]) (.agg #[.int .i32 d.table, .int .i64 d.row, .int .i64 d.value, .int .i64 d.slot])).run Try.prog W = .ok true W := fun W => eqc_self d W
  clear hP hw1 hb1 hd hgv hdd
  go_enter Try.func32, Try.ntmps32
  go_upto_region 1 with fail
  rw [HW.out]
  have x0 : w1.cell? ⟨w.heap.size, 0, none⟩ = some (.int .i64 dd) := (blk_cell HX.out 0).trans rfl
  have x1 : w1.cell? ⟨w.heap.size, 1, none⟩ = some (.int .i32 o.c.table) := (blk_cell HX.out 1).trans rfl
  have x2 : w1.cell? ⟨w.heap.size, 2, none⟩ = some (.int .i64 o.c.row) := (blk_cell HX.out 2).trans rfl
  obtain ⟨h, nx, S, k1, k2, k3, k4⟩ := HP.out.st
  have HS1 := Lib.hid k1; have HR1 := Lib.hid k2
  clear k1 k2 k3 k4
  go_wp2_with fail
  refine (get_is HS1.out HLEN.out o.c.key).mono ?_
  rintro e w2 ⟨rfl, hb⟩
  rw [HG.out]
  unfold celV
  have HB2 := Lib.hid hb
  clear hb x0 x1 x2 p0 p1 p3 p4
  go_upto_region 18 with fail
  have HX3 := Lib.hid ((Below.heap_alloc w2 (.cells #[.int .i32 d.table, .int .i64 d.row, .int .i64 d.value, .int .i64 d.slot] 31) w.heap.size (Nat.lt_of_lt_of_le (blk_lt HX.out) HB2.out.size)).trans ((HB2.out.block w.heap.size (blk_lt HX.out)).trans HX.out))
  have HB3 := Lib.hid (HB2.out.alloc HB2.out.size (.cells #[.int .i32 d.table, .int .i64 d.row, .int .i64 d.value, .int .i64 d.slot] 31))
  have HY3 := Lib.hid (heap_alloc_new w2 (.cells #[.int .i32 d.table, .int .i64 d.row, .int .i64 d.value, .int .i64 d.slot] 31))
  obtain ⟨b1, hb1⟩ : ∃ g, w2.heap.size = g := ⟨_, rfl⟩
  obtain ⟨w3, hw3⟩ : ∃ V, w2.alloc (.cells #[.int .i32 d.table, .int .i64 d.row, .int .i64 d.value, .int .i64 d.slot] 31) = V := ⟨_, rfl⟩
  rw [hb1] at HY3 ⊢
  rw [hw3] at HX3 HB3 HY3 ⊢
  have HR3 := Lib.hid (HR1.out.below HB3.out)
  have x1 : w3.cell? ⟨w.heap.size, 1, none⟩ = some (.int .i32 o.c.table) := (blk_cell HX3.out 1).trans rfl
  have x2 : w3.cell? ⟨w.heap.size, 2, none⟩ = some (.int .i64 o.c.row) := (blk_cell HX3.out 2).trans rfl
  clear hb1 hw3
  go_wp2_with fail
  refine (rget_is HR3.out HLEN.out o.c.key).mono ?_
  rintro e w4 ⟨rfl, hb⟩
  rw [HG.out]
  unfold celV
  have HB4 := Lib.hid hb
  clear hb x1 x2
  go_upto_region 19 with fail
  have HY5 := Lib.hid ((Below.heap_alloc w4 (.cells #[.int .i32 d.table, .int .i64 d.row, .int .i64 d.value, .int .i64 d.slot] 31) b1 (Nat.lt_of_lt_of_le (blk_lt HY3.out) HB4.out.size)).trans ((HB4.out.block b1 (blk_lt HY3.out)).trans HY3.out))
  have HZ5 := Lib.hid (heap_alloc_new w4 (.cells #[.int .i32 d.table, .int .i64 d.row, .int .i64 d.value, .int .i64 d.slot] 31))
  have HB5 := Lib.hid (HB4.out.alloc HB4.out.size (.cells #[.int .i32 d.table, .int .i64 d.row, .int .i64 d.value, .int .i64 d.slot] 31))
  obtain ⟨b2, hb2⟩ : ∃ g, w4.heap.size = g := ⟨_, rfl⟩
  obtain ⟨w5, hw5⟩ : ∃ V, w4.alloc (.cells #[.int .i32 d.table, .int .i64 d.row, .int .i64 d.value, .int .i64 d.slot] 31) = V := ⟨_, rfl⟩
  rw [hb2] at HZ5 ⊢
  rw [hw5] at HY5 HZ5 HB5 ⊢
  clear hb2 hw5
  have y0 : w5.cell? ⟨b1, 0, none⟩ = some (.int .i32 d.table) := (blk_cell HY5.out 0).trans rfl
  have y1 : w5.cell? ⟨b1, 1, none⟩ = some (.int .i64 d.row) := (blk_cell HY5.out 1).trans rfl
  have y2 : w5.cell? ⟨b1, 2, none⟩ = some (.int .i64 d.value) := (blk_cell HY5.out 2).trans rfl
  have y3 : w5.cell? ⟨b1, 3, none⟩ = some (.int .i64 d.slot) := (blk_cell HY5.out 3).trans rfl
  have z0 : w5.cell? ⟨b2, 0, none⟩ = some (.int .i32 d.table) := (blk_cell HZ5.out 0).trans rfl
  have z1 : w5.cell? ⟨b2, 1, none⟩ = some (.int .i64 d.row) := (blk_cell HZ5.out 1).trans rfl
  have z2 : w5.cell? ⟨b2, 2, none⟩ = some (.int .i64 d.value) := (blk_cell HZ5.out 2).trans rfl
  have z3 : w5.cell? ⟨b2, 3, none⟩ = some (.int .i64 d.slot) := (blk_cell HZ5.out 3).trans rfl
  have HBB := Lib.hid (HV.out.trans ((HB3.out.trans (HB5.out.mono HB3.out.size)).mono HV.out.size))
  have HPE := Lib.hid (HP.out.below (HB3.out.trans (HB5.out.mono HB3.out.size)))
  go_wp2_with fail
  (try simp only [Exit.inBlock, Exit.then])
  refine bodyPost_ret (v := .tuple #[.pointer (some ⟨s, 0, none⟩), .pointer (some ⟨q, 0, none⟩), .bool true]) (by simp [results, Try.results32, go_sem]) rfl ⟨_, _, _, rfl, HPE.out, KeepS.of_below T HBB.out, fun i hi => .inl hi⟩
theorem step_low {w : World} {s q : Nat} {T : Nat → Prop} {L : List Nd} {x : Int} (hP : Pk w s q T L x) (o : OpD) (hc : WfC o.c) (hd : o.Do ≠ 3 ∧ o.Do ≠ 4) :
    Calls Try.prog 32 #[.pointer (some ⟨s, 0, none⟩), .pointer (some ⟨q, 0, none⟩), .agg #[.int .i64 o.Do, .int .i32 o.c.table, .int .i64 o.c.row, .int .i64 o.c.value, .int .i64 o.c.slot, .int .i32 o.tk.1, .int .i64 o.tk.2, .int .u64 o.seed, .int .i64 o.stop]] w fun e w' => StepK w s q T e w' := by
  by_cases h0 : o.Do = 0
  · rw [h0]; exact step_put hP o hc
  by_cases h1 : o.Do = 1
  · rw [h1]; exact step_erase hP o hc
  exact step_get hP o ⟨h0, h1, hd.1, hd.2⟩
end Go.Proofs.Ytdolmkiiflhehaa.M
end

section
/- bytes.Equal of two rows of bytes that read alike: it is true. -/
set_option linter.unusedVariables false
set_option linter.unusedSimpArgs false
set_option maxRecDepth 100000
namespace Go.Proofs.Ytdolmkiiflhehaa.M
open Go.RowKit Go.Proofs.YtdolmkiiflhehaaW.PrintWords
theorem equal_same {w : World} (A B : Option Addr) (n m c d : Nat) (l : List Int) (h1 : Kd.C (Kd.int .u8) w A n l) (h2 : Kd.C (Kd.int .u8) w B m l) :
    Calls Try.prog 30 #[.slice A n c, .slice B m d] w fun e w' => e = .returned (.bool true) ∧ w = w' := by
  have g1 := Kd.C_string (P := Try.prog) (src := 61) (e := 5) (dst := 9) (c := c) Try.underlying61 Try.underlying5 Try.underlying9 h1
  have g2 := Kd.C_string (P := Try.prog) (src := 61) (e := 5) (dst := 9) (c := d) Try.underlying61 Try.underlying5 Try.underlying9 h2
  obtain ⟨s, hs⟩ : ∃ s, strOfNums l = s := ⟨_, rfl⟩
  rw [hs] at g1 g2
  clear hs h1 h2
  go_enter Try.func30, Try.ntmps30
  go_wp2
  go_ret
  exact ⟨by simp, rfl⟩
end Go.Proofs.Ytdolmkiiflhehaa.M
end

section
/- Maps of the call's own as partial functions: keys of any type, elements as the values they are. -/
set_option linter.unusedVariables false
set_option linter.unusedSimpArgs false
namespace Go.Proofs.Ytdolmkiiflhehaa.M
open Go.RowKit Go.Maps
def idE (v : Value) : Option (DataW Value × List MemPlace) := some (.held v, [])
structure KeyT {α : Type} (P : Program) (k : TypeId) (mk : α → Value) (wf : α → Prop) : Prop where
  K : Keyed P k
  toK : ∀ x, wf x → ∃ kl, keyOf P k (mk x) = some kl
  from_ : ∀ v kl, keyOf P k v = some kl → ∃ x, wf x ∧ v = mk x
  inj : ∀ x y, mk x = mk y → x = y
def IsM {α : Type} (P : Program) (k : TypeId) (mk : α → Value) (w : World) (b n : Nat) (M : α → Option Value) (sz : Nat) : Prop :=
  ∃ D : DataW Value, w.ownsMap P k idE b n D ∧ Maps.size D = sz ∧ ∀ x kl, keyOf P k (mk x) = some kl → (∀ z, D.atKey kl (.held z) = .held ((M x).getD z)) ∧ Maps.has D kl = (M x).isSome
section
variable {α : Type} {P : Program} {k e t : TypeId} {mk : α → Value} {wf : α → Prop} {w w' : World} {b n sz : Nat} {M : α → Option Value}
theorem IsM.lt (h : IsM P k mk w b n M sz) : b < w.heap.size := by obtain ⟨D, h1, _⟩ := h; exact h1.lt
theorem IsM.move (h : IsM P k mk w b n M sz) (hb : w'.heap[b]? = w.heap[b]?) : IsM P k mk w' b n M sz := by
  obtain ⟨D, ⟨es, clock, h1, h2⟩, h3⟩ := h
  exact ⟨D, ⟨es, clock, hb.trans h1, h2⟩, h3⟩
theorem IsM.below (h : IsM P k mk w b n M sz) (hb : Below w.heap.size w w') : IsM P k mk w' b n M sz := h.move (hb.block b h.lt)
theorem IsM.alloc (h : IsM P k mk w b n M sz) (o : Obj) : IsM P k mk (w.alloc o) b n M sz := h.move (Below.heap_alloc w o b h.lt)
theorem IsM.mono (h : IsM P k mk w b n M sz) {n' : Nat} (hn : n ≤ n') : IsM P k mk w b n' M sz := by obtain ⟨D, h1, h2⟩ := h; exact ⟨D, h1.mono hn, h2⟩
theorem KeyT.ne (hk : KeyT P k mk wf) {x y : α} {a c : Lit} (ha : keyOf P k (mk x) = some a) (hc : keyOf P k (mk y) = some c) (hne : x ≠ y) : a ≠ c := by
  rintro rfl
  exact hne (hk.inj x y (hk.K.inj ha hc))
theorem IsM.put [DecidableEq α] (h : IsM P k mk w b n M sz) (hk : KeyT P k mk wf) (ht : P.underlying t = some (.map k e)) (hn : n < maxLen) {x : α} (hx : wf x) (v : Value) :
    ∃ w', (Instr.mapUpdate t (.map (some b)) (mk x) v).run P w = .ok () w' ∧ IsM P k mk w' b (n + 1) (fun y => if y = x then some v else M y) (if (M x).isSome then sz else sz + 1) ∧ w.grownBy w' (some b) := by
  obtain ⟨D, h1, h2, h3⟩ := h
  obtain ⟨kl, hkl⟩ := hk.toK x hx
  obtain ⟨w', hrun, h4, h5⟩ := h1.update hk.K ht hn hkl (val := v) (d := .held v) (ps := []) rfl
  refine ⟨w', hrun, ⟨_, h4, ?_, fun y kl' hy => ?_⟩, h5⟩
  · rw [Maps.size_put (h1.tidy hk.K), (h3 x kl hkl).2, h2]
  · by_cases e : y = x
    · subst e
      rw [hkl] at hy
      cases hy
      simp only [if_true]
      exact ⟨fun z => Maps.atKey_put_same h1.isMap (hk.K.key hkl) _ _, Maps.has_put_same h1.isMap (hk.K.key hkl) _⟩
    · simp only [if_neg e]
      have hne := hk.ne hy hkl e
      exact ⟨fun z => by rw [Maps.atKey_put_other hne]; exact (h3 y kl' hy).1 z, by rw [Maps.has_put_other hne]; exact (h3 y kl' hy).2⟩
theorem IsM.del [DecidableEq α] (h : IsM P k mk w b n M sz) (hk : KeyT P k mk wf) (ht : P.underlying t = some (.map k e)) {x : α} (hx : wf x) (ty : TypeId) :
    ∃ w', (Builtin.delete_ #[t, k] ty #[.map (some b), mk x]).run P w = .ok (.tuple #[]) w' ∧ IsM P k mk w' b n (fun y => if y = x then none else M y) (if (M x).isSome then sz - 1 else sz) ∧ w.grownBy w' (some b) := by
  obtain ⟨D, h1, h2, h3⟩ := h
  obtain ⟨kl, hkl⟩ := hk.toK x hx
  obtain ⟨w', hrun, h4, h5⟩ := h1.drop hk.K ht hkl ty
  refine ⟨w', hrun, ⟨_, h4, ?_, fun y kl' hy => ?_⟩, h5.grown⟩
  · have := Maps.size_del (k := kl) (h1.tidy hk.K)
    rw [(h3 x kl hkl).2, h2] at this
    split <;> simp_all <;> omega
  · by_cases e : y = x
    · subst e
      rw [hkl] at hy
      cases hy
      simp only [if_true]
      exact ⟨fun z => Maps.atKey_del_same _, Maps.has_del_same⟩
    · simp only [if_neg e]
      have hne := hk.ne hy hkl e
      exact ⟨fun z => by rw [Maps.atKey_del_other hne]; exact (h3 y kl' hy).1 z, by rw [Maps.has_del_other hne]; exact (h3 y kl' hy).2⟩
theorem IsM.len (h : IsM P k mk w b n M sz) (ht : P.underlying t = some (.map k e)) (ty : TypeId) : (Builtin.len_ #[t] ty #[.map (some b)]).run P w = .ok (.int .i64 sz) w := by
  obtain ⟨D, h1, rfl, h3⟩ := h
  exact h1.len ht ty
end
section
variable {α : Type} {P : Program} {k e : TypeId} {mk : α → Value} {wf : α → Prop} {b n sz : Nat} {M : α → Option Value} (w : World) {ops : Array Oper} {rest : List Oper} {o : Oper} {a : Act} {Q : Exit → Act → World → Prop}
end
def IsMR {α : Type} (P : Program) (k : TypeId) (mk : α → Value) (w : World) (b r n : Nat) (M : α → Option Value) (sz : Nat) (L : α → Bool) (cnt : Nat) : Prop :=
  ∃ (D : DataW Value) (left : Lit → Bool), w.ranges P k idE b r n D left cnt ∧ Maps.size D = sz ∧ ∀ x kl, keyOf P k (mk x) = some kl → ((∀ z, D.atKey kl (.held z) = .held ((M x).getD z)) ∧ Maps.has D kl = (M x).isSome) ∧ left kl = L x
section
variable {α : Type} {P : Program} {k e : TypeId} {mk : α → Value} {wf : α → Prop} {b r n sz cnt : Nat} {M : α → Option Value} {L : α → Bool} {w w' : World}
theorem IsMR.map (h : IsMR P k mk w b r n M sz L cnt) : IsM P k mk w b n M sz := by
  obtain ⟨D, left, h1, h2, h3⟩ := h
  exact ⟨D, h1.owns, h2, fun x kl hx => (h3 x kl hx).1⟩
theorem IsMR.lt (h : IsMR P k mk w b r n M sz L cnt) : r < w.heap.size := by obtain ⟨D, left, h1, _⟩ := h; exact h1.lt
theorem IsMR.ne (h : IsMR P k mk w b r n M sz L cnt) : r ≠ b := by obtain ⟨D, left, h1, _⟩ := h; exact h1.ne
theorem IsMR.kept (h : IsMR P k mk w b r n M sz L cnt) {row : Option Nat} (hg : w.grownBy w' row) (hb : some b ≠ row) (hr : some r ≠ row) : IsMR P k mk w' b r n M sz L cnt := by
  obtain ⟨D, left, h1, h2⟩ := h
  exact ⟨D, left, h1.kept hg hb hr, h2⟩
theorem IsMR.below (h : IsMR P k mk w b r n M sz L cnt) (hb : Below w.heap.size w w') : IsMR P k mk w' b r n M sz L cnt :=
  h.kept (row := none) ⟨hb.os, hb.tape, hb.output, hb.size, fun i hi _ => hb.block i hi⟩ (by simp) (by simp)
end
section
variable {α : Type} {P : Program} {k e : TypeId} {mk : α → Value} {wf : α → Prop} {b r n sz cnt : Nat} {M : α → Option Value} {L : α → Bool} (w : World) {ops : Array Oper} {rest : List Oper} {o : Oper} {a : Act} {Q : Exit → Act → World → Prop}
end
end Go.Proofs.Ytdolmkiiflhehaa.M
end

section
/- Keys of two numbers: arrays [2]int, structs of two numbers. -/
set_option linter.unusedVariables false
set_option linter.unusedSimpArgs false
namespace Go.Proofs.Ytdolmkiiflhehaa.M
open Go.RowKit Go.Maps
def mk2 (p q : IntKind) (x : Int × Int) : Value := .agg #[.int p x.1, .int q x.2]
def wf2 (p q : IntKind) (x : Int × Int) : Prop := (Lit.int p x.1).wf = true ∧ (Lit.int q x.2).wf = true
end Go.Proofs.Ytdolmkiiflhehaa.M
end

section
/- The map's keys; its elements' zero. -/
set_option linter.unusedVariables false
set_option linter.unusedSimpArgs false
set_option maxRecDepth 100000
namespace Go.Proofs.Ytdolmkiiflhehaa.M
open Go.RowKit Go.Maps Go.Proofs.YtdolmkiiflhehaaW.PrintWords
end Go.Proofs.Ytdolmkiiflhehaa.M
end

section
/- rising. -/
set_option linter.unusedVariables false
set_option linter.unusedSimpArgs false
set_option maxRecDepth 100000
namespace Go.Proofs.Ytdolmkiiflhehaa.M
open Go.RowKit Go.Shelf Go.Maps Go.Proofs.YtdolmkiiflhehaaW.PrintWords
attribute [local go_sem] Oper.semAt_some
abbrev S4 := { x : T4 // wf2 .i32 .i64 x.1 }
def mapV (L : List Nd) (k : Int × Int) : Option Value := (getL L k).map celV
def Good (L : List Nd) (pre : List S4) : Prop := (∀ x, x ∈ pre → (getL L x.1.1).map t4 = some x.1) ∧ pre.Pairwise (fun x y => kLt x.1.1 y.1.1 = true)
def lastT (pre : List S4) : T4 := match pre.getLast? with | some x => x.1 | none => ((0, 0), (0, 0))
theorem lastT_snoc (pre : List S4) (x : S4) : lastT (pre ++ [x]) = x.1 := by unfold lastT; simp
structure RiI (B mp : Nat) (L : List Nd) (n0 : Nat) (w5 : World) (pre : List S4) (W : World) : Prop where
  mb : W.heap[B]? = some (.cells #[.map (some mp)] 27)
  rb : W.heap[B + 1]? = some (.cells #[.bool false] 4)
  lb : W.heap[B + 2]? = some (.cells #[.int .i32 (lastT pre).1.1, .int .i64 (lastT pre).1.2, .int .i64 (lastT pre).2.1, .int .i64 (lastT pre).2.2] 31)
  nb : W.heap[B + 3]? = some (.cells #[.int .i64 pre.length] 3)
  m : IsM Try.prog 29 (mk2 .i32 .i64) W mp n0 (mapV L) L.length
  good : Good L pre
theorem RiI.below {B mp n0 : Nat} {L : List Nd} {w5 : World} {pre : List S4} {W W' : World} (h : RiI B mp L n0 w5 pre W) (hb : Below W.heap.size W W') : RiI B mp L n0 w5 pre W' :=
  ⟨(hb.block _ (Array.getElem?_eq_some_iff.1 h.mb).1).trans h.mb, (hb.block _ (Array.getElem?_eq_some_iff.1 h.rb).1).trans h.rb, (hb.block _ (Array.getElem?_eq_some_iff.1 h.lb).1).trans h.lb, (hb.block _ (Array.getElem?_eq_some_iff.1 h.nb).1).trans h.nb, h.m.below hb, h.good⟩
def set5 (W : World) (B : Nat) (x : S4) (v : Int) : World := ((((W.setCell ⟨B + 1 + 1, 0, none⟩ (.int .i32 x.1.1.1)).setCell ⟨B + 1 + 1, 1, none⟩ (.int .i64 x.1.1.2)).setCell ⟨B + 1 + 1, 2, none⟩ (.int .i64 x.1.2.1)).setCell ⟨B + 1 + 1, 3, none⟩ (.int .i64 x.1.2.2)).setCell ⟨B + 1 + 1 + 1, 0, none⟩ (.int .i64 v)
theorem set5_keep (W : World) (B : Nat) (x : S4) (v : Int) : KeepS (fun i => i = B + 2 ∨ i = B + 3) W (set5 W B x v) :=
  (((((KeepS.refl (fun i => i = B + 2 ∨ i = B + 3) W).set (p := ⟨B + 1 + 1, 0, none⟩) (.inl (.inl rfl)) _).set (p := ⟨B + 1 + 1, 1, none⟩) (.inl (.inl rfl)) _).set (p := ⟨B + 1 + 1, 2, none⟩) (.inl (.inl rfl)) _).set (p := ⟨B + 1 + 1, 3, none⟩) (.inl (.inl rfl)) _).set (p := ⟨B + 1 + 1 + 1, 0, none⟩) (.inl (.inr rfl)) _
theorem RiI.next {B mp n0 : Nat} {L : List Nd} {w5 : World} {pre : List S4} {W : World} (h : RiI B mp L n0 w5 pre W) {x : S4} (hg : Good L (pre ++ [x])) (hm : mp < B) (v : Int) (hv : v = (pre.length + 1 : Nat)) : RiI B mp L n0 w5 (pre ++ [x]) (set5 W B x v) := by
  have hk := set5_keep W B x v
  have hlt : ∀ {i : Nat} {o : Obj}, W.heap[i]? = some o → i < W.heap.size := fun h => (Array.getElem?_eq_some_iff.1 h).1
  refine ⟨(hk.block B (hlt h.mb) (by omega)).trans h.mb, (hk.block (B + 1) (hlt h.rb) (by omega)).trans h.rb, ?_, ?_, h.m.move (hk.block mp h.m.lt (by omega)), hg⟩
  · have h1 := heap_same (a := ⟨B + 1 + 1, 0, none⟩) (v := .int .i32 x.1.1.1) h.lb rfl
    have h2 := heap_same (a := ⟨B + 1 + 1, 1, none⟩) (v := .int .i64 x.1.1.2) h1 rfl
    have h3 := heap_same (a := ⟨B + 1 + 1, 2, none⟩) (v := .int .i64 x.1.2.1) h2 rfl
    have h4 := heap_same (a := ⟨B + 1 + 1, 3, none⟩) (v := .int .i64 x.1.2.2) h3 rfl
    have h5 := (Below.heap_setCell _ ⟨B + 1 + 1 + 1, 0, none⟩ (.int .i64 v) (B + 2) (by show B + 2 ≠ B + 1 + 1 + 1; omega)).trans h4
    rw [lastT_snoc]
    exact h5
  · unfold set5
    have h6 : ((((W.setCell ⟨B + 1 + 1, 0, none⟩ (.int .i32 x.1.1.1)).setCell ⟨B + 1 + 1, 1, none⟩ (.int .i64 x.1.1.2)).setCell ⟨B + 1 + 1, 2, none⟩ (.int .i64 x.1.2.1)).setCell ⟨B + 1 + 1, 3, none⟩ (.int .i64 x.1.2.2)).heap[B + 1 + 1 + 1]? = some (.cells #[.int .i64 pre.length] 3) := by
      rw [Below.heap_setCell _ _ _ _ (by show B + 1 + 1 + 1 ≠ B + 1 + 1; omega), Below.heap_setCell _ _ _ _ (by show B + 1 + 1 + 1 ≠ B + 1 + 1; omega), Below.heap_setCell _ _ _ _ (by show B + 1 + 1 + 1 ≠ B + 1 + 1; omega), Below.heap_setCell _ _ _ _ (by show B + 1 + 1 + 1 ≠ B + 1 + 1; omega)]
      exact h.nb
    have h7 := heap_same (a := ⟨B + 1 + 1 + 1, 0, none⟩) (v := .int .i64 v) h6 rfl
    rw [List.length_append, List.length_singleton, ← hv]
    exact h7
end Go.Proofs.Ytdolmkiiflhehaa.M
end

section
/- SkipMap: the walk (under way). -/
set_option linter.unusedVariables false
set_option linter.unusedSimpArgs false
set_option maxRecDepth 100000
namespace Go.Proofs.Ytdolmkiiflhehaa.M
open Go.RowKit Go.Maps Go.Proofs.YtdolmkiiflhehaaW.PrintWords Go.Proofs.YtdolmkiiflhehaaW.PrintMore Go.Proofs.YtdolmkiiflhehaaW.PrintLast
structure MSt (s h mp n : Nat) (w3 wr : World) (L : List Nd) (x : Int) (nx : Nat → Nat → Option Nat) (M : Int × Int → Option Value) (sz : Nat) : Prop where
  sk : IsSk wr s h L x nx
  m : IsM Try.prog 29 (mk2 .i32 .i64) wr mp n M sz
  own : ∀ i, IsSk.Own s h L i → i = s ∨ i = h ∨ w3.heap.size ≤ i
  keep : KeepS (fun i => i = s ∨ i = h ∨ i = mp) w3 wr
  ne : mp ≠ s ∧ mp ≠ h ∧ mp < w3.heap.size
namespace MSt
variable {s h mp n : Nat} {w3 wr w' : World} {L L' : List Nd} {x x' : Int} {nx nx' : Nat → Nat → Option Nat} {M M' : Int × Int → Option Value} {sz sz' : Nat}
theorem notOwn (H : MSt s h mp n w3 wr L x nx M sz) : ¬ IsSk.Own s h L mp := fun ho => by
  rcases H.own mp ho with r | r | r
  · exact H.ne.1 r
  · exact H.ne.2.1 r
  · have := H.ne.2.2; omega
theorem below (H : MSt s h mp n w3 wr L x nx M sz) (hb : Below wr.heap.size wr w') : MSt s h mp n w3 w' L x nx M sz :=
  ⟨H.sk.below hb, H.m.below hb, H.own, H.keep.then_below hb, H.ne⟩
theorem put (H : MSt s h mp n w3 wr L x nx M sz) {n' : Nat} (h1 : IsM Try.prog 29 (mk2 .i32 .i64) w' mp n' M' sz') (h2 : wr.grownBy w' (some mp)) : MSt s h mp n' w3 w' L x nx M' sz' :=
  ⟨H.sk.move fun i hi => h2.block i (H.sk.own_lt hi) (fun e => by cases e; exact H.notOwn hi), h1, H.own, H.keep.trans (KeepS.of_grown h2 (fun i e => by cases e; exact .inr (.inr rfl))), H.ne⟩
end MSt
def OpBox (W : World) (b : Nat) (o : OpD) : Prop := W.heap[b]? = some (.cells #[.int .i64 o.Do, .int .i32 o.c.table, .int .i64 o.c.row, .int .i64 o.c.value, .int .i64 o.c.slot, .int .i32 o.tk.1, .int .i64 o.tk.2, .int .u64 o.seed, .int .i64 o.stop] 33)
theorem OpBox.cell {W : World} {b : Nat} {o : OpD} (h : OpBox W b o) : W.cell? ⟨b, 0, none⟩ = some (.int .i64 o.Do) ∧ W.cell? ⟨b, 1, none⟩ = some (.int .i32 o.c.table) ∧ W.cell? ⟨b, 2, none⟩ = some (.int .i64 o.c.row) ∧ W.cell? ⟨b, 3, none⟩ = some (.int .i64 o.c.value) ∧ W.cell? ⟨b, 4, none⟩ = some (.int .i64 o.c.slot) ∧ W.cell? ⟨b, 5, none⟩ = some (.int .i32 o.tk.1) ∧ W.cell? ⟨b, 6, none⟩ = some (.int .i64 o.tk.2) ∧ W.cell? ⟨b, 7, none⟩ = some (.int .u64 o.seed) ∧ W.cell? ⟨b, 8, none⟩ = some (.int .i64 o.stop) := by
  unfold OpBox at h
  simp [World.cell?, h]
theorem OpBox.lt {W : World} {b : Nat} {o : OpD} (h : OpBox W b o) : b < W.heap.size := (Array.getElem?_eq_some_iff.1 h).1
theorem OpBox.move {W W' : World} {b : Nat} {o : OpD} (h : OpBox W b o) (hb : W'.heap[b]? = W.heap[b]?) : OpBox W' b o := hb.trans h
theorem OpBox.below {W W' : World} {b : Nat} {o : OpD} (h : OpBox W b o) (hb : Below W.heap.size W W') : OpBox W' b o := h.move (hb.block b h.lt)
end Go.Proofs.Ytdolmkiiflhehaa.M
end
