/- RecordWritesSaid: contracts of the functions that the law goes through, put together in build order (part 7 of 7). -/
import Derived.Test.YtgiefblcckikeaaGreatPart5
set_option linter.unusedVariables false
set_option linter.unusedSimpArgs false
set_option maxRecDepth 100000
section
/- TakeEntry (printed by gentake04.py). -/
attribute [local irreducible] Go.wpStill
namespace Go.Proofs.YtgiefblcckikeaaGreat.M
open Go.RowKit Go.Proofs.YtgiefblcckikeaaGreatW.PrintWords Go.Proofs.YtgiefblcckikeaaGreatW.PrintLast Go.Proofs.YtgiefblcckikeaaGreatW.PrintMore Go.Proofs.YtgiefblcckikeaaGreat.G
def eEnds (s : EyeS) (may all : Bool) : Int := if ¬ s.e = 0 then s.e else if all = true ∧ 0 < s.l.length then 13 else if s.o = true ∨ may = false then 40 else 0
theorem eEnds_is {w0 w : World} {x : Nat} {s : EyeS} (hI : IsEye w0 w x s) (may all : Bool) :
  Calls Tryz.prog 55 #[.pointer (some ⟨x, 0, none⟩), .bool may, .bool all] w fun e w' => e = .returned (.int .i64 (eEnds s may all)) ∧ w' = w := by
 obtain ⟨A, c, h1, h2, h3, h4⟩ := hI
 have c0 : w.cell? ⟨x, 0, none⟩ = some (.slice A s.l.length c) := by simp [World.cell?, h1]
 have c1 : w.cell? ⟨x, 1, none⟩ = some (.int .i64 s.e) := by simp [World.cell?, h1]
 have c2 : w.cell? ⟨x, 2, none⟩ = some (.bool s.o) := by simp [World.cell?, h1]
 clear h1 h2 h3 h4
 obtain ⟨l, e, o⟩ := s
 simp only at c0 c1 c2
 by_cases he : e = 0
 ·have hq : (e != 0) = false := by rw [he]; rfl
  cases all with
  | true =>
   by_cases hl : 0 < l.length
   ·have hq2 : decide (0 < l.length) = true := decide_eq_true (by omega)
    have HF := Lib.hid (show eEnds ⟨l, e, o⟩ may true = 13 by unfold eEnds; rw [if_neg (fun h => h he), if_pos ⟨rfl, hl⟩])
    clear he hl
    go_enter Tryz.func55, Tryz.ntmps55
    go_wp2_with fail
    go_ret
    exact ⟨by rw [HF.out]; rfl, rfl⟩
   ·have hq2 : decide (0 < l.length) = false := decide_eq_false (by omega)
    have HF := Lib.hid (show eEnds ⟨l, e, o⟩ may true = if o = true ∨ may = false then 40 else 0 by unfold eEnds; rw [if_neg (fun h => h he), if_neg (fun h => hl h.2)])
    clear he hl
    cases o <;> cases may <;> (go_enter Tryz.func55, Tryz.ntmps55; go_wp2_with fail; go_ret; exact ⟨by rw [HF.out]; rfl, rfl⟩)
  | false =>
   have HF := Lib.hid (show eEnds ⟨l, e, o⟩ may false = if o = true ∨ may = false then 40 else 0 by unfold eEnds; rw [if_neg (fun h => h he), if_neg (fun h => by cases h.1)])
   clear he
   cases o <;> cases may <;> (go_enter Tryz.func55, Tryz.ntmps55; go_wp2_with fail; go_ret; exact ⟨by rw [HF.out]; rfl, rfl⟩)
 ·have hq : (e != 0) = true := bne_iff_ne.2 he
  have HF := Lib.hid (show eEnds ⟨l, e, o⟩ may all = e by unfold eEnds; rw [if_pos he])
  clear he
  go_enter Tryz.func55, Tryz.ntmps55
  go_wp2_with fail
  go_ret
  exact ⟨by rw [HF.out]; rfl, rfl⟩
def takeEn (l : List Int) : EnD × Int :=
 if eEnds (eEntry ⟨l, 0, false⟩).2 (mayE (eEntry ⟨l, 0, false⟩).1.1 (eEntry ⟨l, 0, false⟩).1.2.1 (eEntry ⟨l, 0, false⟩).1.2.2.1 (eEntry ⟨l, 0, false⟩).1.2.2.2) true = 0 then ((eEntry ⟨l, 0, false⟩).1, 0)
 else ((0, 0, 0, []), eEnds (eEntry ⟨l, 0, false⟩).2 (mayE (eEntry ⟨l, 0, false⟩).1.1 (eEntry ⟨l, 0, false⟩).1.2.1 (eEntry ⟨l, 0, false⟩).1.2.2.1 (eEntry ⟨l, 0, false⟩).1.2.2.2) true)
abbrev oEye (A : Option Addr) (n c : Nat) : Obj := .cells #[.slice A n c, .int .i64 0, .bool false] 81
set_option maxHeartbeats 4000000 in
theorem takeEn_is (A : Option Addr) (c : Nat) (l : List Int) (w : World) (hr : Kd.C (Kd.int .u8) w A l.length l) (hc : l.length ≤ c) (hb : okB l = true) (hl : l.length < 140737488355328) :
  Calls Tryz.prog 23 #[.slice A l.length c] w fun e w' => ∃ v : Value, e = .returned (.tuple #[.agg #[.int .i64 (takeEn l).1.1, .int .i64 (takeEn l).1.2.1, .int .i64 (takeEn l).1.2.2.1, v], .int .i64 (takeEn l).2]) ∧ Kd.S G.k26 26 w' w.heap.size (fun _ => True) v (takeEn l).1.2.2.2 ∧ Below w.heap.size w w' := by
 have h0 := heap_alloc_new w zEnt
 have s1 : (w.alloc zEnt).heap.size = w.heap.size + 1 := by simp
 have h1 := heap_alloc_new (w.alloc zEnt) (oEye A l.length c)
 have s2 : ((w.alloc zEnt).alloc (oEye A l.length c)).heap.size = w.heap.size + 1 + 1 := by simp
 have b1 := ((Below.refl _ w).alloc (Nat.le_refl _) zEnt).alloc (by simp) (oEye A l.length c)
 have g1 : ((w.alloc zEnt).alloc (oEye A l.length c)).heap[w.heap.size]? = some zEnt := by
  have := (Below.refl _ (w.alloc zEnt)).alloc (Nat.le_refl _) (oEye A l.length c)
  exact (this.block w.heap.size (by omega)).trans h0
 rw [s1] at h1
 go_enter Tryz.func23, Tryz.ntmps23
 go_wp2_with fail
 obtain ⟨w2, hw2⟩ : ∃ w2, (w.alloc zEnt).alloc (oEye A l.length c) = w2 := ⟨_, rfl⟩
 obtain ⟨x, hx⟩ : ∃ x, w.heap.size + 1 = x := ⟨_, rfl⟩
 rw [hw2] at h1 s2 b1 g1 ⊢
 rw [hx] at h1 s1 s2 ⊢
 have HI := Lib.hid (show IsEye w w2 x ⟨l, 0, false⟩ from ⟨A, c, h1, by omega, hc, hr⟩)
 have HX := Lib.hid hx; have HS2 := Lib.hid s2; have HB2 := Lib.hid b1; have HG2 := Lib.hid g1
 have HN := Lib.hid (eEntry_is HI.out HB2.out (s := ⟨l, 0, false⟩) ⟨hb, hl⟩)
 obtain ⟨r, hr1⟩ : ∃ r, takeEn l = r := ⟨_, rfl⟩
 have hr2 := hr1
 unfold takeEn at hr2
 obtain ⟨y, hy⟩ : ∃ y, (eEntry ⟨l, 0, false⟩).1 = y := ⟨_, rfl⟩
 obtain ⟨s', hs'⟩ : ∃ s', (eEntry ⟨l, 0, false⟩).2 = s' := ⟨_, rfl⟩
 rw [hy, hs'] at hr2 HN
 obtain ⟨k, f, n, t⟩ := y
 simp only at hr2
 obtain ⟨er, her⟩ : ∃ er, eEnds s' (mayE k f n t) true = er := ⟨_, rfl⟩
 rw [her] at hr2
 have HER := Lib.hid her; have HR1 := Lib.hid hr1; have HR2 := Lib.hid hr2
 clear h0 s1 h1 s2 b1 g1 hw2 hx hy hs' hr2 hr1 her hr hc hb hl
 refine HN.out.mono ?_
 rintro e w3 ⟨v, rfl, hv, h1, h2, h3⟩
 obtain ⟨At, ct, rfl, htc, hC⟩ := Kd.S_reads hv
 simp only at hv hC htc
 have HZ2 := Lib.hid (show w.heap.size < w2.heap.size by have := HS2.out; have := HX.out; omega)
 have HV := Lib.hid (show Kd.S G.k26 26 w3 w.heap.size (fun k => k ≠ w.heap.size ∧ k < w3.heap.size) (.slice At t.length ct) t from Kd.S_mono (Kd.S_lower (Kd.S_bound hv) (Nat.le_of_lt HZ2.out)) (fun k hk => ⟨by have h7 := hk.2.1; have := HZ2.out; omega, hk.2.2.1⟩))
 have HC := Lib.hid hC
 have HI3 := Lib.hid h1; have HB3 := Lib.hid h2
 have HG3 := Lib.hid ((h3.block w.heap.size HZ2.out (by have := HX.out; omega)).trans HG2.out)
 have HZ3 := Lib.hid (Nat.lt_of_lt_of_le HZ2.out h3.size)
 clear hv hC htc h1 h2 h3 HN HI HB2 HG2
 go_wp2_with fail
 have hby := heap_alloc_new w3 (.cells #[.int .i64 k, .int .i64 f, .int .i64 n, .slice At t.length ct] 29)
 have hay := (Below.refl _ w3).alloc (Nat.le_refl _) (.cells #[.int .i64 k, .int .i64 f, .int .i64 n, .slice At t.length ct] 29)
 have hzy : (w3.alloc (.cells #[.int .i64 k, .int .i64 f, .int .i64 n, .slice At t.length ct] 29)).heap.size = w3.heap.size + 1 := by simp
 obtain ⟨w4, hw4⟩ : ∃ w4, w3.alloc (.cells #[.int .i64 k, .int .i64 f, .int .i64 n, .slice At t.length ct] 29) = w4 := ⟨_, rfl⟩
 rw [hw4] at hby hay hzy ⊢
 have HM := Lib.hid (mayEn_is k f n At ct t w4 (Kd.C_below HC.out hay))
 have HI4 := Lib.hid (HI3.out.below hay)
 have HB4 := Lib.hid (HB3.out.trans (hay.mono HB3.out.size))
 have HG4 := Lib.hid ((hay.block w.heap.size HZ3.out).trans HG3.out)
 have HV4 := Lib.hid (Kd.S_below HV.out hay)
 obtain ⟨g, hg⟩ : ∃ g, w3.heap.size = g := ⟨_, rfl⟩
 rw [hg] at hby hzy HV4 HZ3 ⊢
 have HY4 := Lib.hid hby
 have HZ4 := Lib.hid (show w.heap.size < g ∧ g < w4.heap.size ∧ x < w4.heap.size from ⟨HZ3.out, by omega, HI4.out.lt⟩)
 have d0 : w4.cell? ⟨g, 0, none⟩ = some (.int .i64 k) := by simp [World.cell?, HY4.out]
 have d1 : w4.cell? ⟨g, 1, none⟩ = some (.int .i64 f) := by simp [World.cell?, HY4.out]
 have d2 : w4.cell? ⟨g, 2, none⟩ = some (.int .i64 n) := by simp [World.cell?, HY4.out]
 have d3 : w4.cell? ⟨g, 3, none⟩ = some (.slice At t.length ct) := by simp [World.cell?, HY4.out]
 clear hw4 hg hby hay hzy HI3 HB3 HG3 HV HC
 go_wp2_with fail
 refine HM.out.mono ?_
 rintro e w5 ⟨rfl, hb5⟩
 have HI5 := Lib.hid (HI4.out.below hb5)
 have HE := Lib.hid (eEnds_is HI5.out (mayE k f n t) true)
 rw [HER.out] at HE
 have HB5 := Lib.hid (HB4.out.trans (hb5.mono HB4.out.size))
 have HG5 := Lib.hid ((hb5.block w.heap.size (by have := HZ4.out; omega)).trans HG4.out)
 have HY5 := Lib.hid ((hb5.block g HZ4.out.2.1).trans HY4.out)
 have HV5 := Lib.hid (Kd.S_below HV4.out hb5)
 clear hb5 d0 d1 d2 d3 HI4 HB4 HG4 HY4 HV4 HM
 go_wp2_with fail
 refine HE.out.mono ?_
 rintro e w6 ⟨rfl, rfl⟩
 have d0 : w6.cell? ⟨g, 0, none⟩ = some (.int .i64 k) := by simp [World.cell?, HY5.out]
 have d1 : w6.cell? ⟨g, 1, none⟩ = some (.int .i64 f) := by simp [World.cell?, HY5.out]
 have d2 : w6.cell? ⟨g, 2, none⟩ = some (.int .i64 n) := by simp [World.cell?, HY5.out]
 have d3 : w6.cell? ⟨g, 3, none⟩ = some (.slice At t.length ct) := by simp [World.cell?, HY5.out]
 have x0 : w6.cell? ⟨w.heap.size, 0, none⟩ = some (.int .i64 0) := by simp [World.cell?, HG5.out]
 have x1 : w6.cell? ⟨w.heap.size, 1, none⟩ = some (.int .i64 0) := by simp [World.cell?, HG5.out]
 have x2 : w6.cell? ⟨w.heap.size, 2, none⟩ = some (.int .i64 0) := by simp [World.cell?, HG5.out]
 have x3 : w6.cell? ⟨w.heap.size, 3, none⟩ = some (.slice none 0 0) := by simp [World.cell?, HG5.out]
 obtain ⟨y0, y1, y2, y3⟩ := bf4 HG5.out
 have HGN : w.heap.size ≠ g := by have := HZ4.out; omega
 by_cases he : er = 0
 ·have hq : (er != 0) = false := by rw [he]; rfl
  have HR := Lib.hid (show takeEn l = ((k, f, n, t), 0) by rw [HR1.out, ← HR2.out, if_pos he])
  clear he
  go_wp2_with fail
  have HEB := Lib.hid (blk_put (cs := #[.int .i64 k, .int .i64 f, .int .i64 n, .slice none 0 0]) (blk_put (cs := #[.int .i64 k, .int .i64 f, .int .i64 0, .slice none 0 0]) (blk_put (cs := #[.int .i64 k, .int .i64 0, .int .i64 0, .slice none 0 0]) (blk_put (cs := #[.int .i64 0, .int .i64 0, .int .i64 0, .slice none 0 0]) (HG5.out) 0 (.int .i64 k) rfl) 1 (.int .i64 f) rfl) 2 (.int .i64 n) rfl) 3 (.slice At t.length ct) rfl)
  have HKS := Lib.hid ((((((KeepS.refl (fun i => i = w.heap.size) w6)).set (p := ⟨w.heap.size, 0, none⟩) (.inl rfl) (.int .i64 k)).set (p := ⟨w.heap.size, 1, none⟩) (.inl rfl) (.int .i64 f)).set (p := ⟨w.heap.size, 2, none⟩) (.inl rfl) (.int .i64 n)).set (p := ⟨w.heap.size, 3, none⟩) (.inl rfl) (.slice At t.length ct))
  obtain ⟨W, hW⟩ : ∃ W, ((((w6).setCell ⟨w.heap.size, 0, none⟩ (.int .i64 k)).setCell ⟨w.heap.size, 1, none⟩ (.int .i64 f)).setCell ⟨w.heap.size, 2, none⟩ (.int .i64 n)).setCell ⟨w.heap.size, 3, none⟩ (.slice At t.length ct) = W := ⟨_, rfl⟩
  rw [hW] at HEB HKS ⊢
  clear hW
  refine bodyPost_ret (results_ct rfl _ _ w.heap.size 29 #[.int .i64 k, .int .i64 f, .int .i64 n, .slice At t.length ct] (0, 0) _ rfl HEB.out Tryz.underlying29 rfl (by kernel_rfl)) rfl ?_
  rw [HR.out]
  refine ⟨_, rfl, Kd.S_mono (Kd.S_step HV5.out (fun k hk hlt => HKS.out.block k hlt hk.1)) (fun _ _ => trivial), HB5.out.trans (HKS.out.below (B := w.heap.size) HB5.out.size (by rintro i rfl; exact Nat.le_refl _))⟩
 ·have hq : (er != 0) = true := bne_iff_ne.2 he
  have HR := Lib.hid (show takeEn l = ((0, 0, 0, []), er) by rw [HR1.out, ← HR2.out, if_neg he])
  clear he
  go_wp2_with fail
  have HEB := Lib.hid (blk_put (cs := #[.int .i64 0, .int .i64 0, .int .i64 0, .slice none 0 0]) (blk_put (cs := #[.int .i64 0, .int .i64 0, .int .i64 0, .slice none 0 0]) (blk_put (cs := #[.int .i64 0, .int .i64 0, .int .i64 0, .slice none 0 0]) (blk_put (cs := #[.int .i64 0, .int .i64 0, .int .i64 0, .slice none 0 0]) (HG5.out) 0 (.int .i64 0) rfl) 1 (.int .i64 0) rfl) 2 (.int .i64 0) rfl) 3 (.slice none 0 0) rfl)
  have HKS := Lib.hid ((((((KeepS.refl (fun i => i = w.heap.size) w6)).set (p := ⟨w.heap.size, 0, none⟩) (.inl rfl) (.int .i64 0)).set (p := ⟨w.heap.size, 1, none⟩) (.inl rfl) (.int .i64 0)).set (p := ⟨w.heap.size, 2, none⟩) (.inl rfl) (.int .i64 0)).set (p := ⟨w.heap.size, 3, none⟩) (.inl rfl) (.slice none 0 0))
  obtain ⟨W, hW⟩ : ∃ W, ((((w6).setCell ⟨w.heap.size, 0, none⟩ (.int .i64 0)).setCell ⟨w.heap.size, 1, none⟩ (.int .i64 0)).setCell ⟨w.heap.size, 2, none⟩ (.int .i64 0)).setCell ⟨w.heap.size, 3, none⟩ (.slice none 0 0) = W := ⟨_, rfl⟩
  rw [hW] at HEB HKS ⊢
  clear hW
  refine bodyPost_ret (results_ct rfl _ _ w.heap.size 29 #[.int .i64 0, .int .i64 0, .int .i64 0, .slice none 0 0] (0, 0) _ rfl HEB.out Tryz.underlying29 rfl (by kernel_rfl)) rfl ?_
  rw [HR.out]
  refine ⟨_, rfl, Kd.S_nil _ _ _ _ _, HB5.out.trans (HKS.out.below (B := w.heap.size) HB5.out.size (by rintro i rfl; exact Nat.le_refl _))⟩
end Go.Proofs.YtgiefblcckikeaaGreat.M
namespace Go.Proofs.YtgiefblcckikeaaGreat.G
open Go.RowKit Go.Proofs.YtgiefblcckikeaaGreatW.PrintWords Go.Proofs.YtgiefblcckikeaaGreat.M
def record_TakeEntry.f (l0 : List Int) : Option (Int × Int × Int × List S26 × Int) := if okB l0 = true ∧ l0.length < 140737488355328 then some ((takeEn l0).1.1, (takeEn l0).1.2.1, (takeEn l0).1.2.2.1, (takeEn l0).1.2.2.2, (takeEn l0).2) else none
theorem record_TakeEntry.calls (A0 : Option Addr) (c0 : Nat) (l0 : List Int) (r1 r2 r3 : Int) (r4 : List S26) (r5 : Int) (w : World) (hr0 : Kd.C (Kd.int .u8) w A0 l0.length l0) (hc0 : l0.length ≤ c0) (h : record_TakeEntry.f l0 = some (r1, r2, r3, r4, r5)) :
  Calls Tryz.prog 23 #[.slice A0 l0.length c0] w fun e w' => ∃ v3_ : Value, e = .returned (.tuple #[.agg #[.int .i64 r1, .int .i64 r2, .int .i64 r3, v3_], .int .i64 r5]) ∧ Kd.S k26 26 w' w.heap.size (fun _ => True) v3_ r4 ∧ Below w.heap.size w w' := by
 unfold record_TakeEntry.f at h
 split at h
 ·next hq =>
  simp only [Option.some.injEq, Prod.mk.injEq] at h
  obtain ⟨rfl, rfl, rfl, rfl, rfl⟩ := h
  exact takeEn_is A0 c0 l0 w hr0 hc0 hq.1 hq.2
 ·cases h
end Go.Proofs.YtgiefblcckikeaaGreat.G
end

section
-- Written by a program of this session's (wip/gprint.py over the kit's printer).
namespace Go.Proofs.YtgiefblcckikeaaGreat.G
open Go.RowKit Go.Proofs.YtgiefblcckikeaaGreatW.PrintWords Go.Proofs.YtgiefblcckikeaaGreatW.PrintLast Go.Proofs.YtgiefblcckikeaaGreatW.PrintMore
attribute [local go_sem] max2_int min2_int max_two min_two max_three min_three max_four min_four   -- for this text's walks alone
def trivetlaw04_simple.f  : Option (Int × Int × Int × (List (S26)) × List Int) := some (1, 2, 5, (([(⟨1, 3, ([] : List Int), ([] : List Int), ([] : List (S101)), ([] : List (S101))⟩ : S26)] : List (S26))), (([2, 1, 2, 2, 2, 5, 2, 1, 2, 1, 2, 3, 0, 0, 0, 0] : List Int)))
set_option maxHeartbeats 8000000 in
set_option maxRecDepth 100000 in
theorem trivetlaw04_simple.calls  (r1 : Int) (r2 : Int) (r3 : Int) (r4 : List (S26)) (r5 : List Int) (w : World) (h : trivetlaw04_simple.f  = some (r1, r2, r3, r4, r5)) :
  Calls Tryz.prog 37 #[] w fun e w' => ∃ v3_ v4_ : Value, e = .returned (.tuple #[.agg #[.int .i64 r1, .int .i64 r2, .int .i64 r3, v3_], v4_]) ∧ Kd.S k26 26 w' w.heap.size (fun k_ => some k_ ≠ (v4_ : Value).ownBlock) v3_ r4 ∧ Kd.R (Kd.int .u8) 5 w' w.heap.size (fun _ => True) v4_ r5 ∧ Below w.heap.size w w' := by
 have hu29 := Tryz.underlying29
 have hu26 := Tryz.underlying26
 have HB := Aside0.mk (Below.refl w.heap.size w)
 have H : (some (1, 2, 5, (([(⟨1, 3, ([] : List Int), ([] : List Int), ([] : List (S101)), ([] : List (S101))⟩ : S26)] : List (S26))), (([2, 1, 2, 2, 2, 5, 2, 1, 2, 1, 2, 3, 0, 0, 0, 0] : List Int)))) = some (r1, r2, r3, r4, r5) := h
 clear h
 obtain ⟨y153, hy153⟩ : ∃ y_ : List (S26), y_ = (([(⟨1, 3, ([] : List Int), ([] : List Int), ([] : List (S101)), ([] : List (S101))⟩ : S26)] : List (S26))) := ⟨_, rfl⟩
 replace H : (some (1, 2, 5, y153, (([2, 1, 2, 2, 2, 5, 2, 1, 2, 1, 2, 3, 0, 0, 0, 0] : List Int)))) = some (r1, r2, r3, r4, r5) := by first | (rw [hy153]; with_reducible exact H) | (have H2_ := (Option.bind_some _ _).symm.trans H; rw [hy153]; with_reducible exact H2_) | (have H2_ := (Option.bind_some _ _).symm.trans H; with_reducible exact H2_) | with_reducible exact H | (rw [hy153]; exact H) | exact H
 have Ny153 := Aside0.mk hy153
 clear hy153
 obtain ⟨y156, hy156⟩ : ∃ y_ : List Int, y_ = (([2, 1, 2, 2, 2, 5, 2, 1, 2, 1, 2, 3, 0, 0, 0, 0] : List Int)) := ⟨_, rfl⟩
 replace H : (some (1, 2, 5, y153, y156)) = some (r1, r2, r3, r4, r5) := by first | (rw [hy156]; with_reducible exact H) | (have H2_ := (Option.bind_some _ _).symm.trans H; rw [hy156]; with_reducible exact H2_) | (have H2_ := (Option.bind_some _ _).symm.trans H; with_reducible exact H2_) | with_reducible exact H | (rw [hy156]; exact H) | exact H
 have Ny156 := Aside0.mk hy156
 clear hy156
 simp only [Option.some.injEq, Prod.mk.injEq] at H
 obtain ⟨rfl, rfl, rfl, rfl, rfl⟩ := H
 go_enter Tryz.func37, Tryz.ntmps37
 go_wp2_with (first | ((with_reducible refine gate_dst (N := 0) rfl ?_); refine box_event ?hg (N := 0) ?hd (cs := #[.int .i64 0, .int .i64 0, .int .i64 0, .slice none 0 0]) (t := 29) ?hr ?_; (case hd => rfl); (case hg => rfl); (case hr => first | (go_simp; done) | (go_simp; rfl)); intro gb152 hg w1 hbox hb; have n0_ := Aside0.mk (below_step (stB HB.out) hb); have n1_ := Aside0.mk (hbox); have n2_ := Aside0.mk ((by rw [hg]; exact (below_size (stB HB.out)) : w.heap.size ≤ gb152)); have n3_ := Aside0.mk ((by rw [hg]; exact (below_size (stB HB.out)) : w.heap.size ≤ gb152)); clear HB; have HB := n0_; have BK152 := n1_; have GW152 := n2_; have GE152 := n3_; clear n0_ n1_ n2_ n3_; clear hb hbox hg) | ((with_reducible refine gate_dst (N := 3) rfl ?_); refine Kd.S_lit k26 _ 26 ?hg (N := 3) ?hd (xs := ([(⟨1, 3, ([] : List Int), ([] : List Int), ([] : List (S101)), ([] : List (S101))⟩ : S26)] : List (S26))) (inner := [.int .i64 1, .int .i64 3, .slice none 0 0, .slice none 0 0, .slice none 0 0, .slice none 0 0]) (ok := fun _ => True) (okp := fun _ => True) ?hr ?hp (fun _ hk => hk) trivial (Below.refl _ _) (Nat.le_refl _) (by simp) ?_; (case hd => rfl); (case hg => rfl); (case hr => first | (go_simp; done) | (go_simp; rfl)); (case hp => exact (Reps.c6 (show Kd.M k26 _ _ _ (⟨1, 3, ([] : List Int), ([] : List Int), ([] : List (S101)), ([] : List (S101))⟩ : S26) [.int .i64 1, .int .i64 3, .slice none 0 0, .slice none 0 0, .slice none 0 0, .slice none 0 0] from (k26_mkM _ _ _ (⟨1, 3, ([] : List Int), ([] : List Int), ([] : List (S101)), ([] : List (S101))⟩ : S26) (Kd.R_nil _ _ _ _ _) (Kd.R_nil _ _ _ _ _) (Kd.R_nil _ _ _ _ _) (Kd.R_nil _ _ _ _ _))) (Reps.none _ _))); intro v154 w2 ho3 hb hg_ hnew_; clear hg_ hnew_; (first | rw [← Ny153.out] at ho3 | (simp only [Int.reduceToNat] at ho3; rw [← Ny153.out] at ho3)); have n0_ := Aside0.mk (Kd.S_lower ho3 (below_size (by repeat (first | (with_reducible first | exact HB.out | apply below_alloc | apply pw_below_drewN | apply below_drew1 | refine below_set ?_ GE152.out) | exact HB.out)))); have n1_ := Aside0.mk (blk_below (g := gb152) (o := .cells #[.int .i64 0, .int .i64 0, .int .i64 0, .slice none 0 0] 29 (0, 0)) (stK BK152.out) hb); have n2_ := Aside0.mk (below_step (by repeat (first | (with_reducible first | exact HB.out | apply below_alloc | apply pw_below_drewN | apply below_drew1 | refine below_set ?_ GE152.out) | exact HB.out)) hb); clear BK152; clear HB; have HO155 := n0_; have BK152 := n1_; have HB := n2_; clear n0_ n1_ n2_; clear hb ho3; obtain ⟨Ao4, co4, eo4⟩ := Kd.S_slice HO155.out; subst eo4) | ((with_reducible refine gate_dst (N := 5) rfl ?_); refine Kd.R_lit (Kd.int .u8) _ 5 ?hg (N := 5) ?hd (xs := ([2, 1, 2, 2, 2, 5, 2, 1, 2, 1, 2, 3, 0, 0, 0, 0] : List Int)) (inner := [.int .u8 2, .int .u8 1, .int .u8 2, .int .u8 2, .int .u8 2, .int .u8 5, .int .u8 2, .int .u8 1, .int .u8 2, .int .u8 1, .int .u8 2, .int .u8 3, .int .u8 0, .int .u8 0, .int .u8 0, .int .u8 0]) (ok := fun _ => True) (okp := fun _ => True) ?hr ?hp (fun _ hk => hk) trivial (Below.refl _ _) (Nat.le_refl _) (by simp) ?_; (case hd => rfl); (case hg => rfl); (case hr => first | (go_simp; done) | (go_simp; rfl)); (case hp => exact (Reps.one (show Kd.M (Kd.int .u8) _ _ _ 2 [.int .u8 2] from rfl) (Reps.one (show Kd.M (Kd.int .u8) _ _ _ 1 [.int .u8 1] from rfl) (Reps.one (show Kd.M (Kd.int .u8) _ _ _ 2 [.int .u8 2] from rfl) (Reps.one (show Kd.M (Kd.int .u8) _ _ _ 2 [.int .u8 2] from rfl) (Reps.one (show Kd.M (Kd.int .u8) _ _ _ 2 [.int .u8 2] from rfl) (Reps.one (show Kd.M (Kd.int .u8) _ _ _ 5 [.int .u8 5] from rfl) (Reps.one (show Kd.M (Kd.int .u8) _ _ _ 2 [.int .u8 2] from rfl) (Reps.one (show Kd.M (Kd.int .u8) _ _ _ 1 [.int .u8 1] from rfl) (Reps.one (show Kd.M (Kd.int .u8) _ _ _ 2 [.int .u8 2] from rfl) (Reps.one (show Kd.M (Kd.int .u8) _ _ _ 1 [.int .u8 1] from rfl) (Reps.one (show Kd.M (Kd.int .u8) _ _ _ 2 [.int .u8 2] from rfl) (Reps.one (show Kd.M (Kd.int .u8) _ _ _ 3 [.int .u8 3] from rfl) (Reps.one (show Kd.M (Kd.int .u8) _ _ _ 0 [.int .u8 0] from rfl) (Reps.one (show Kd.M (Kd.int .u8) _ _ _ 0 [.int .u8 0] from rfl) (Reps.one (show Kd.M (Kd.int .u8) _ _ _ 0 [.int .u8 0] from rfl) (Reps.one (show Kd.M (Kd.int .u8) _ _ _ 0 [.int .u8 0] from rfl) (Reps.none _ _)))))))))))))))))); intro v157 w5 ho6 hb hg_ hnew_; clear hg_ hnew_; (first | rw [← Ny156.out] at ho6 | (simp only [Int.reduceToNat] at ho6; rw [← Ny156.out] at ho6)); have n0_ := Aside0.mk (Kd.S_elder' (stS HO155.out) (Kd.R_base ho6) hb); have n1_ := Aside0.mk (Kd.R_lower ho6 (below_size (by repeat (first | (with_reducible first | exact HB.out | apply below_alloc | apply pw_below_drewN | apply below_drew1 | refine below_set ?_ GE152.out) | exact HB.out)))); have n2_ := Aside0.mk (blk_below (g := gb152) (o := .cells #[.int .i64 0, .int .i64 0, .int .i64 0, .slice none 0 0] 29 (0, 0)) (stK BK152.out) hb); have n3_ := Aside0.mk (below_step (by repeat (first | (with_reducible first | exact HB.out | apply below_alloc | apply pw_below_drewN | apply below_drew1 | refine below_set ?_ GE152.out) | exact HB.out)) hb); clear HO155; clear BK152; clear HB; have HO155 := n0_; have HO158 := n1_; have BK152 := n2_; have HB := n3_; clear n0_ n1_ n2_ n3_; clear hb ho6; obtain ⟨hcz7_0, hcz7_1, hcz7_2, hcz7_3⟩ := bc4 BK152.out; obtain ⟨hfz7_0, hfz7_1, hfz7_2, hfz7_3⟩ := bf4 BK152.out))
 refine bodyPost_ret (results_ct rfl _ _ gb152 29 #[.int .i64 1, .int .i64 2, .int .i64 5, .slice Ao4 y153.length co4] (0, 0) _ rfl (by (with_reducible repeat (first | refine blk_drewN ?_ _ | refine blk_drew ?_ | refine blk_alloc ?_ _)); refine blk_put (cs := #[.int .i64 1, .int .i64 2, .int .i64 5, .slice none 0 0]) ?_ 3 _ rfl; (with_reducible repeat (first | refine blk_drewN ?_ _ | refine blk_drew ?_ | refine blk_alloc ?_ _)); refine blk_put (cs := #[.int .i64 1, .int .i64 2, .int .i64 0, .slice none 0 0]) ?_ 2 _ rfl; (with_reducible repeat (first | refine blk_drewN ?_ _ | refine blk_drew ?_ | refine blk_alloc ?_ _)); refine blk_put (cs := #[.int .i64 1, .int .i64 0, .int .i64 0, .slice none 0 0]) ?_ 1 _ rfl; (with_reducible repeat (first | refine blk_drewN ?_ _ | refine blk_drew ?_ | refine blk_alloc ?_ _)); refine blk_put (cs := #[.int .i64 0, .int .i64 0, .int .i64 0, .slice none 0 0]) ?_ 0 _ rfl; (with_reducible repeat (first | refine blk_drewN ?_ _ | refine blk_drew ?_ | refine blk_alloc ?_ _)); exact BK152.out) Tryz.underlying29 rfl (by kernel_rfl)) rfl ?_
 exact ⟨_, _, by first | rfl | (simp [errW_none, errW_some] <;> rfl) | (simp [*, errW_none, errW_some] <;> rfl), by (with_reducible repeat (first|apply Kd.S_alloc | apply Kd.S_drewN | apply Kd.S_drew)); exact Kd.S_mono (Kd.S_far (p := ⟨gb152, 3, none⟩) (Kd.S_far (p := ⟨gb152, 2, none⟩) (Kd.S_far (p := ⟨gb152, 1, none⟩) (Kd.S_far (p := ⟨gb152, 0, none⟩) (Kd.S_types HO155.out BK152.out (by decide)) (fun _ hk => hk.2) (.int .i64 1)) (fun _ hk => hk.2) (.int .i64 2)) (fun _ hk => hk.2) (.int .i64 5)) (fun _ hk => hk.2) (.slice Ao4 y153.length co4)) (fun _ hk => hk.1.2), by (with_reducible repeat (first|apply Kd.R_alloc | apply Kd.R_drewN | apply Kd.R_drew)); exact Kd.R_mono (Kd.R_far (p := ⟨gb152, 3, none⟩) (Kd.R_far (p := ⟨gb152, 2, none⟩) (Kd.R_far (p := ⟨gb152, 1, none⟩) (Kd.R_far (p := ⟨gb152, 0, none⟩) (Kd.R_types HO158.out BK152.out (by decide)) (fun _ hk => hk.2) (.int .i64 1)) (fun _ hk => hk.2) (.int .i64 2)) (fun _ hk => hk.2) (.int .i64 5)) (fun _ hk => hk.2) (.slice Ao4 y153.length co4)) (fun _ hk => trivial), by repeat (first | (with_reducible first | exact HB.out | apply below_alloc | apply pw_below_drewN | apply below_drew1 | refine below_set ?_ GE152.out) | exact HB.out)⟩
end Go.Proofs.YtgiefblcckikeaaGreat.G
end

section
/- law04's begun returns true (by hand: the printed walk is long). -/
attribute [local irreducible] Go.wpStill
namespace Go.Proofs.YtgiefblcckikeaaGreat.M
open Go.RowKit Go.Proofs.YtgiefblcckikeaaGreatW.PrintWords Go.Proofs.YtgiefblcckikeaaGreatW.PrintLast Go.Proofs.YtgiefblcckikeaaGreatW.PrintMore Go.Proofs.YtgiefblcckikeaaGreat.G
abbrev bgT : List TxD := [(⟨1, 3, [], [], [], []⟩ : TxD)]
abbrev bgB : List Int := [2, 1, 2, 2, 2, 5, 2, 1, 2, 1, 2, 3, 0, 0, 0, 0]
theorem bg_entF : entF 1 2 5 bgT = (bgB, 0) := by decide +kernel
theorem bg_take : takeEn bgB = ((1, 2, 5, bgT), 0) := by kernel_rfl
theorem bg_same : ∃ k, G.trivetref04_SameEntry.f k 1 2 5 bgT 1 2 5 bgT = some true := by
 refine ⟨20, ?_⟩
 rw [sameEn_r 20 1 2 5 bgT 1 2 5 bgT (fun t ht => by rw [List.mem_singleton.1 ht]; decide) (by decide) (by decide) (fun t ht => by rw [List.mem_singleton.1 ht]; exact ⟨by decide, by decide, by decide, by decide⟩)]
 have : eqEn 1 2 5 bgT 1 2 5 bgT = true := by kernel_rfl
 rw [this]
set_option maxHeartbeats 1000000 in
theorem begun_is (w : World) : Calls Tryz.prog 9 #[] w fun e w' => e = .returned (.bool true) ∧ Below w.heap.size w w' := by
 go_enter Tryz.func9, Tryz.ntmps9
 go_wp2_with fail
 refine (G.trivetlaw04_simple.calls 1 2 5 bgT bgB w rfl).mono ?_
 rintro e w1 ⟨v3, v4, rfl, hs, hr, hb⟩
 obtain ⟨A, c, rfl, hc, hC⟩ := Kd.S_reads hs
 obtain ⟨B, d, rfl⟩ := Kd.R_slice hr
 obtain ⟨-, hd, hD⟩ := Kd.R_reads' hr
 obtain ⟨l, hl⟩ : ∃ l, bgT = l := ⟨_, rfl⟩
 obtain ⟨bs, hbs⟩ : ∃ bs, bgB = bs := ⟨_, rfl⟩
 have hEF := bg_entF; have hTK := bg_take; obtain ⟨K, hSM⟩ := bg_same
 have ho : okE 1 2 5 bgT = true := by kernel_rfl
 have hok : okB bgB = true := by decide
 have hbl : bgB.length < 140737488355328 := by decide
 rw [hl, hbs] at hEF hTK
 rw [hl] at hSM ho hc hC
 rw [hbs] at hok hbl hd hD
 rw [show (bgT).length = l.length by rw [hl], show (bgB).length = bs.length by rw [hbs]]
 have HC := Lib.hid hC; have HD := Lib.hid hD; have HB := Lib.hid hb; have HCC := Lib.hid (And.intro hc hd)
 have HEF := Lib.hid hEF; have HTK := Lib.hid hTK; have HSM := Lib.hid hSM; have HO := Lib.hid (And.intro ho (And.intro hok hbl))
 clear hs hr hb hC hD hc hd hl hbs hEF hTK hSM ho hok hbl
 go_wp2_with fail
 have hbx := heap_alloc_new w1 (.cells #[.int .i64 1, .int .i64 2, .int .i64 5, .slice A l.length c] 29)
 have hay := (Below.refl _ w1).alloc (Nat.le_refl _) (.cells #[.int .i64 1, .int .i64 2, .int .i64 5, .slice A l.length c] 29)
 have hz : (w1.alloc (.cells #[.int .i64 1, .int .i64 2, .int .i64 5, .slice A l.length c] 29)).heap.size = w1.heap.size + 1 := by simp
 obtain ⟨w2, hw2⟩ : ∃ w2, w1.alloc (.cells #[.int .i64 1, .int .i64 2, .int .i64 5, .slice A l.length c] 29) = w2 := ⟨_, rfl⟩
 rw [hw2] at hbx hay hz ⊢
 obtain ⟨g, hg⟩ : ∃ g, w1.heap.size = g := ⟨_, rfl⟩
 have HC2 := Lib.hid (Kd.C_below HC.out hay); have HD2 := Lib.hid (Kd.C_below HD.out hay); have HB2 := Lib.hid (HB.out.trans (hay.mono HB.out.size))
 rw [hg] at hbx hz ⊢
 have HX2 := Lib.hid (And.intro hbx (show g < w2.heap.size by omega))
 clear hw2 hbx hay hz hg HC HD HB
 have a0 : w2.cell? ⟨g, 0, none⟩ = some (.int .i64 1) := by simp [World.cell?, HX2.out.1]
 have a1 : w2.cell? ⟨g, 1, none⟩ = some (.int .i64 2) := by simp [World.cell?, HX2.out.1]
 have a2 : w2.cell? ⟨g, 2, none⟩ = some (.int .i64 5) := by simp [World.cell?, HX2.out.1]
 have a3 : w2.cell? ⟨g, 3, none⟩ = some (.slice A l.length c) := by simp [World.cell?, HX2.out.1]
 go_wp2_with fail
 refine (entry_is 1 2 5 A c l w2 HC2.out HO.out.1).mono ?_
 rw [HEF.out]
 rintro e w3 ⟨v, rfl, hv, hb⟩
 obtain ⟨V, cv, rfl⟩ := Kd.R_slice hv
 obtain ⟨-, hvl, hV⟩ := Kd.R_reads' hv
 have HV := Lib.hid (show Kd.C (Kd.int .u8) w3 V bs.length bs from hV); have HVL := Lib.hid (show bs.length ≤ cv from hvl)
 have HC3 := Lib.hid (Kd.C_below HC2.out hb); have HD3 := Lib.hid (Kd.C_below HD2.out hb); have HB3 := Lib.hid (HB2.out.trans (hb.mono HB2.out.size))
 have HX3 := Lib.hid (And.intro ((hb.block g HX2.out.2).trans HX2.out.1) (Nat.lt_of_lt_of_le HX2.out.2 hb.size))
 clear hv hvl hV hb a0 a1 a2 a3 HC2 HD2 HB2 HX2
 go_wp2_with fail
 refine (takeEn_is B d bs w3 HD3.out HCC.out.2 HO.out.2.1 HO.out.2.2).mono ?_
 rw [HTK.out]
 rintro e w4 ⟨v, rfl, hv, hb⟩
 obtain ⟨Y, cy, rfl, hyc, hY⟩ := Kd.S_reads hv
 have HY := Lib.hid (show Kd.C G.k26 w4 Y l.length l from hY); have HYC := Lib.hid (show l.length ≤ cy from hyc)
 have HC4 := Lib.hid (Kd.C_below HC3.out hb); have HD4 := Lib.hid (Kd.C_below HD3.out hb); have HV4 := Lib.hid (Kd.C_below HV.out hb); have HB4 := Lib.hid (HB3.out.trans (hb.mono HB3.out.size))
 have HX4 := Lib.hid (And.intro ((hb.block g HX3.out.2).trans HX3.out.1) (Nat.lt_of_lt_of_le HX3.out.2 hb.size))
 clear hv hyc hY hb HC3 HD3 HB3 HX3 HV
 go_wp2_with fail
 have hbx := heap_alloc_new w4 (.cells #[.int .i64 1, .int .i64 2, .int .i64 5, .slice Y l.length cy] 29)
 have hay := (Below.refl _ w4).alloc (Nat.le_refl _) (.cells #[.int .i64 1, .int .i64 2, .int .i64 5, .slice Y l.length cy] 29)
 obtain ⟨w5, hw5⟩ : ∃ w5, w4.alloc (.cells #[.int .i64 1, .int .i64 2, .int .i64 5, .slice Y l.length cy] 29) = w5 := ⟨_, rfl⟩
 rw [hw5] at hbx hay ⊢
 obtain ⟨g2, hg2⟩ : ∃ g2, w4.heap.size = g2 := ⟨_, rfl⟩
 have HC5 := Lib.hid (Kd.C_below HC4.out hay); have HD5 := Lib.hid (Kd.C_below HD4.out hay); have HV5 := Lib.hid (Kd.C_below HV4.out hay); have HY5 := Lib.hid (Kd.C_below HY.out hay); have HB5 := Lib.hid (HB4.out.trans (hay.mono HB4.out.size))
 have HX5 := Lib.hid ((hay.block g HX4.out.2).trans HX4.out.1)
 rw [hg2] at hbx ⊢
 have HG5 := Lib.hid hbx
 clear hw5 hbx hay hg2 HC4 HD4 HB4 HX4 HV4 HY
 have a0 : w5.cell? ⟨g, 0, none⟩ = some (.int .i64 1) := by simp [World.cell?, HX5.out]
 have a1 : w5.cell? ⟨g, 1, none⟩ = some (.int .i64 2) := by simp [World.cell?, HX5.out]
 have a2 : w5.cell? ⟨g, 2, none⟩ = some (.int .i64 5) := by simp [World.cell?, HX5.out]
 have a3 : w5.cell? ⟨g, 3, none⟩ = some (.slice A l.length c) := by simp [World.cell?, HX5.out]
 have b0 : w5.cell? ⟨g2, 0, none⟩ = some (.int .i64 1) := by simp [World.cell?, HG5.out]
 have b1 : w5.cell? ⟨g2, 1, none⟩ = some (.int .i64 2) := by simp [World.cell?, HG5.out]
 have b2 : w5.cell? ⟨g2, 2, none⟩ = some (.int .i64 5) := by simp [World.cell?, HG5.out]
 have b3 : w5.cell? ⟨g2, 3, none⟩ = some (.slice Y l.length cy) := by simp [World.cell?, HG5.out]
 go_wp2_with fail
 refine (G.bytes_Equal.calls V cv bs B d bs true w5 HV5.out HVL.out HD5.out HCC.out.2 (by unfold G.bytes_Equal.f; simp)).mono ?_
 rintro e w6 ⟨rfl, ⟨n, rfl⟩⟩
 go_wp2_with fail
 refine (G.trivetref04_SameEntry.calls K 1 2 5 A c l 1 2 5 Y cy l true _ (Kd.C_drewN HC5.out n) HCC.out.1 (Kd.C_drewN HY5.out n) HYC.out HSM.out).mono ?_
 rintro e w7 ⟨rfl, hb⟩
 have HB7 := Lib.hid (below_then (pw_below_drewN HB5.out n) hb)
 clear hb
 go_wp2_with fail
 go_ret
 exact ⟨rfl, HB7.out⟩
end Go.Proofs.YtgiefblcckikeaaGreat.M
namespace Go.Proofs.YtgiefblcckikeaaGreat.G
open Go.RowKit Go.Proofs.YtgiefblcckikeaaGreatW.PrintWords Go.Proofs.YtgiefblcckikeaaGreat.M
def trivetlaw04_begun.f : Option Bool := some true
theorem trivetlaw04_begun.calls (r : Bool) (w : World) (h : trivetlaw04_begun.f = some r) :
  Calls Tryz.prog 9 #[] w fun e w' => e = .returned (.bool r) ∧ Below w.heap.size w w' := by
 obtain rfl := Option.some.inj h
 exact begun_is w
end Go.Proofs.YtgiefblcckikeaaGreat.G
end

section
/- RecordWrites returns true, given what both Seals write. -/
attribute [local irreducible] Go.wpStill
namespace Go.Proofs.YtgiefblcckikeaaGreat.M
open Go.RowKit Go.Proofs.YtgiefblcckikeaaGreatW.PrintWords Go.Proofs.YtgiefblcckikeaaGreatW.PrintLast Go.Proofs.YtgiefblcckikeaaGreatW.PrintMore Go.Proofs.YtgiefblcckikeaaGreat.G
theorem refEntry_is {w : World} (x : EntD) {E : Option Addr} {ce : Nat} (hr : Kd.C G.k26 w E x.f3.length x.f3) (hc : x.f3.length ≤ ce) (ho : okE x.f0 x.f1 x.f2 x.f3 = true) :
  Calls Tryz.prog 19 #[.agg #[.int .i64 x.f0, .int .i64 x.f1, .int .i64 x.f2, .slice E x.f3.length ce]] w fun e w' => BytesP w (entF x.f0 x.f1 x.f2 x.f3).1 (entF x.f0 x.f1 x.f2 x.f3).2 e w' := by
 obtain ⟨M, hM⟩ := bound_T x.f3
 refine G.trivetref04_Entry.calls (M + x.f3.length + 203) x.f0 x.f1 x.f2 E ce x.f3 _ _ w hr hc ?_
 unfold G.trivetref04_Entry.f entF
 rw [mayE_r _ x.f0 x.f1 x.f2 x.f3 (fun t ht => by have := hM t ht; omega) (by omega) hr.2.1 (fun t ht => ?_), Option.bind_some]
 ·cases hm : mayE x.f0 x.f1 x.f2 x.f3 with
  | false => rw [if_neg (by simp), if_neg (by simp)]
  | true =>
   rw [if_pos rfl, if_pos rfl, entform_f _ _ _ _ _ ho hm (by omega), Option.bind_some]
   by_cases h : 1048576 < (entB x.f0 x.f1 x.f2 x.f3).length
   ·rw [if_pos (by omega), if_pos h]
   ·rw [if_neg (by omega), if_neg h]
 ·obtain ⟨i, hi⟩ := List.getElem?_of_mem ht
  obtain ⟨ad, A2, c2, A3, c3, A4, c4, A5, c5, _, _, hX⟩ := tx_get hr hi
  exact hX.ls
set_option maxHeartbeats 8000000 in
theorem writes_walk (w : World) (x : EntD) (m : MsgD) {E : Option Addr} {ce : Nat} {A8 A12 A16 : Option Addr} {c8 c12 c16 : Nat} (he : Kd.C G.k26 w E x.f3.length x.f3) (hel : x.f3.length ≤ ce) (hoe : okE x.f0 x.f1 x.f2 x.f3 = true) (hm : MsgC w m A8 c8 A12 c12 A16 c16) (ho : OkM m) (S : List Int → List Int) (hS : SealC S) (hR : ∀ l : List Int, l.length ≤ 1048576 → ∃ k, G.trivetref01_Seal.f k l = some (S l, 0)) :
  Calls Tryz.prog 4 #[.agg #[.int .i64 x.f0, .int .i64 x.f1, .int .i64 x.f2, .slice E x.f3.length ce], .agg #[.int .i64 m.f0, .int .i64 m.f1, .int .i64 m.f2, .int .i64 m.f3, .int .i64 m.f4, .int .i64 m.f5, .int .i64 m.f6, .bool m.f7, .slice A8 m.f8.length c8, .int .i64 m.f9.f0, .int .i64 m.f9.f1, .int .i64 m.f9.f2, .slice A12 m.f9.f3.length c12, .int .i64 m.f10.f0, .int .i64 m.f10.f1, .int .i64 m.f10.f2, .slice A16 m.f10.f3.length c16]] w fun e w' => e = .returned (.bool true) ∧ Below w.heap.size w w' := by
 have b1 := (Below.refl _ w).alloc (Nat.le_refl _) (.cells #[.int .i64 x.f0, .int .i64 x.f1, .int .i64 x.f2, .slice E x.f3.length ce] 29)
 have x1 := heap_alloc_new w (.cells #[.int .i64 x.f0, .int .i64 x.f1, .int .i64 x.f2, .slice E x.f3.length ce] 29)
 obtain ⟨u, hu⟩ : ∃ u, w.alloc (.cells #[.int .i64 x.f0, .int .i64 x.f1, .int .i64 x.f2, .slice E x.f3.length ce] 29) = u := ⟨_, rfl⟩
 have hz : (w.alloc (.cells #[.int .i64 x.f0, .int .i64 x.f1, .int .i64 x.f2, .slice E x.f3.length ce] 29)).heap.size = w.heap.size + 1 := by simp
 have HU := Lib.hid hu
 rw [hu] at b1 x1 hz
 have b2 := (Below.refl _ u).alloc (Nat.le_refl _) (.cells #[.int .i64 m.f0, .int .i64 m.f1, .int .i64 m.f2, .int .i64 m.f3, .int .i64 m.f4, .int .i64 m.f5, .int .i64 m.f6, .bool m.f7, .slice A8 m.f8.length c8, .int .i64 m.f9.f0, .int .i64 m.f9.f1, .int .i64 m.f9.f2, .slice A12 m.f9.f3.length c12, .int .i64 m.f10.f0, .int .i64 m.f10.f1, .int .i64 m.f10.f2, .slice A16 m.f10.f3.length c16] 34)
 have x2 := heap_alloc_new u (.cells #[.int .i64 m.f0, .int .i64 m.f1, .int .i64 m.f2, .int .i64 m.f3, .int .i64 m.f4, .int .i64 m.f5, .int .i64 m.f6, .bool m.f7, .slice A8 m.f8.length c8, .int .i64 m.f9.f0, .int .i64 m.f9.f1, .int .i64 m.f9.f2, .slice A12 m.f9.f3.length c12, .int .i64 m.f10.f0, .int .i64 m.f10.f1, .int .i64 m.f10.f2, .slice A16 m.f10.f3.length c16] 34)
 obtain ⟨v0, hv0⟩ : ∃ v, u.alloc (.cells #[.int .i64 m.f0, .int .i64 m.f1, .int .i64 m.f2, .int .i64 m.f3, .int .i64 m.f4, .int .i64 m.f5, .int .i64 m.f6, .bool m.f7, .slice A8 m.f8.length c8, .int .i64 m.f9.f0, .int .i64 m.f9.f1, .int .i64 m.f9.f2, .slice A12 m.f9.f3.length c12, .int .i64 m.f10.f0, .int .i64 m.f10.f1, .int .i64 m.f10.f2, .slice A16 m.f10.f3.length c16] 34) = v := ⟨_, rfl⟩
 rw [hv0] at b2 x2
 rw [hz] at x2
 have hb := b1.trans (b2.mono b1.size)
 have HE0 := Lib.hid (show v0.heap[w.heap.size]? = some (.cells #[.int .i64 x.f0, .int .i64 x.f1, .int .i64 x.f2, .slice E x.f3.length ce] 29) from (b2.block _ (by omega)).trans x1); have HX0 := Lib.hid (show MsBox v0 (w.heap.size + 1) m A8 c8 A12 c12 A16 c16 from x2); have HB0 := Lib.hid hb; have HC0 := Lib.hid (Kd.C_below he hb); have HM0 := Lib.hid (hm.below hb)
 have HW0 := Lib.hid (show (w.alloc (.cells #[.int .i64 x.f0, .int .i64 x.f1, .int .i64 x.f2, .slice E x.f3.length ce] 29)).alloc (.cells #[.int .i64 m.f0, .int .i64 m.f1, .int .i64 m.f2, .int .i64 m.f3, .int .i64 m.f4, .int .i64 m.f5, .int .i64 m.f6, .bool m.f7, .slice A8 m.f8.length c8, .int .i64 m.f9.f0, .int .i64 m.f9.f1, .int .i64 m.f9.f2, .slice A12 m.f9.f3.length c12, .int .i64 m.f10.f0, .int .i64 m.f10.f1, .int .i64 m.f10.f2, .slice A16 m.f10.f3.length c16] 34) = v0 by rw [HU.out, hv0])
 have HL := Lib.hid hel; have HOE := Lib.hid hoe; have HO := Lib.hid ho; have HS := Lib.hid hS; have HR := Lib.hid hR
 clear he hm hel hoe ho hS hR b1 b2 x1 x2 hb hu hv0 HU hz u
 go_enter Tryz.func4, Tryz.ntmps4
 go_upto_region 1 with fail
 rw [HW0.out]
 obtain ⟨g, hg⟩ : ∃ g, w.heap.size = g := ⟨_, rfl⟩
 have HG := Lib.hid hg
 rw [hg] at HE0 HX0 ⊢
 clear hg HW0
 obtain ⟨r1, s1, hr1⟩ : ∃ a b, entF x.f0 x.f1 x.f2 x.f3 = (a, b) := ⟨_, _, rfl⟩
 obtain ⟨r2, s2, hr2⟩ : ∃ a b, marF S m = (a, b) := ⟨_, _, rfl⟩
 have HE := Lib.hid (fun W (h : Kd.C G.k26 W E x.f3.length x.f3) => entry_is x.f0 x.f1 x.f2 E ce x.f3 W h HOE.out)
 have HF := Lib.hid (fun W (h : Kd.C G.k26 W E x.f3.length x.f3) => refEntry_is x h HL.out HOE.out)
 have HP := Lib.hid (fun W (h : MsgC W m A8 c8 A12 c12 A16 c16) => mar_is m h HO.out S HS.out)
 have HQ := Lib.hid (fun W (h : MsgC W m A8 c8 A12 c12 A16 c16) => refMar_is m h HO.out S HR.out)
 rw [hr1] at HE HF
 rw [hr2] at HP HQ
 clear hr1 hr2
 refine wp_region_list ?_
 refine wpList_load_row rfl 29 (.tmp 2) rfl (g) rfl 29 #[.int .i64 x.f0, .int .i64 x.f1, .int .i64 x.f2, .slice E x.f3.length ce] (0, 0) _ HE0.out Tryz.underlying29 rfl (by kernel_rfl) ?_
 go_wp2_with fail
 refine (HE.out v0 HC0.out).mono ?_
 rintro e v1 ⟨v_, rfl, hv, hb⟩
 obtain ⟨B1, cB1, rfl⟩ := Kd.R_slice hv
 have HV1 := Lib.hid (Kd.R_reads' hv); have HB1 := Lib.hid (HB0.out.trans (hb.mono HB0.out.size)); have HE1 := Lib.hid (show v1.heap[g]? = some (.cells #[.int .i64 x.f0, .int .i64 x.f1, .int .i64 x.f2, .slice E x.f3.length ce] 29) from (hb.block _ (Array.getElem?_eq_some_iff.1 HE0.out).1).trans HE0.out); have HX1 := Lib.hid (HX0.out.below hb); have HC1 := Lib.hid (Kd.C_below HC0.out hb); have HM1 := Lib.hid (HM0.out.below hb); have HD0 := Lib.hid hb
 clear hv hb
 go_upto_region 2 with fail
 refine wp_region_list ?_
 refine wpList_load_row rfl 29 (.tmp 2) rfl (g) rfl 29 #[.int .i64 x.f0, .int .i64 x.f1, .int .i64 x.f2, .slice E x.f3.length ce] (0, 0) _ HE1.out Tryz.underlying29 rfl (by kernel_rfl) ?_
 go_wp2_with fail
 refine (HF.out v1 HC1.out).mono ?_
 rintro e v2 ⟨v_, rfl, hv, hb⟩
 obtain ⟨B2, cB2, rfl⟩ := Kd.R_slice hv
 have HV2 := Lib.hid (Kd.R_reads' hv); have HB2 := Lib.hid (HB1.out.trans (hb.mono HB1.out.size)); have HE2 := Lib.hid (show v2.heap[g]? = some (.cells #[.int .i64 x.f0, .int .i64 x.f1, .int .i64 x.f2, .slice E x.f3.length ce] 29) from (hb.block _ (Array.getElem?_eq_some_iff.1 HE1.out).1).trans HE1.out); have HX2 := Lib.hid (HX1.out.below hb); have HC2 := Lib.hid (Kd.C_below HC1.out hb); have HM2 := Lib.hid (HM1.out.below hb); have HD1 := Lib.hid hb
 clear hv hb
 go_upto_region 3 with fail
 refine wp_region_list ?_
 refine wpList_load_row rfl 34 (.tmp 3) rfl (g + 1) rfl 34 #[.int .i64 m.f0, .int .i64 m.f1, .int .i64 m.f2, .int .i64 m.f3, .int .i64 m.f4, .int .i64 m.f5, .int .i64 m.f6, .bool m.f7, .slice A8 m.f8.length c8, .int .i64 m.f9.f0, .int .i64 m.f9.f1, .int .i64 m.f9.f2, .slice A12 m.f9.f3.length c12, .int .i64 m.f10.f0, .int .i64 m.f10.f1, .int .i64 m.f10.f2, .slice A16 m.f10.f3.length c16] (0, 0) _ HX2.out Tryz.underlying34 rfl (by kernel_rfl) ?_
 go_wp2_with fail
 refine (HP.out v2 HM2.out).mono ?_
 rintro e v3 ⟨v_, rfl, hv, hb⟩
 obtain ⟨B3, cB3, rfl⟩ := Kd.R_slice hv
 have HV3 := Lib.hid (Kd.R_reads' hv); have HB3 := Lib.hid (HB2.out.trans (hb.mono HB2.out.size)); have HE3 := Lib.hid (show v3.heap[g]? = some (.cells #[.int .i64 x.f0, .int .i64 x.f1, .int .i64 x.f2, .slice E x.f3.length ce] 29) from (hb.block _ (Array.getElem?_eq_some_iff.1 HE2.out).1).trans HE2.out); have HX3 := Lib.hid (HX2.out.below hb); have HC3 := Lib.hid (Kd.C_below HC2.out hb); have HM3 := Lib.hid (HM2.out.below hb); have HD2 := Lib.hid hb
 clear hv hb
 go_upto_region 4 with fail
 refine wp_region_list ?_
 refine wpList_load_row rfl 34 (.tmp 3) rfl (g + 1) rfl 34 #[.int .i64 m.f0, .int .i64 m.f1, .int .i64 m.f2, .int .i64 m.f3, .int .i64 m.f4, .int .i64 m.f5, .int .i64 m.f6, .bool m.f7, .slice A8 m.f8.length c8, .int .i64 m.f9.f0, .int .i64 m.f9.f1, .int .i64 m.f9.f2, .slice A12 m.f9.f3.length c12, .int .i64 m.f10.f0, .int .i64 m.f10.f1, .int .i64 m.f10.f2, .slice A16 m.f10.f3.length c16] (0, 0) _ HX3.out Tryz.underlying34 rfl (by kernel_rfl) ?_
 go_wp2_with fail
 refine (HQ.out v3 HM3.out).mono ?_
 rintro e v4 ⟨v_, rfl, hv, hb⟩
 obtain ⟨B4, cB4, rfl⟩ := Kd.R_slice hv
 have HV4 := Lib.hid (Kd.R_reads' hv); have HB4 := Lib.hid (HB3.out.trans (hb.mono HB3.out.size)); have HE4 := Lib.hid (show v4.heap[g]? = some (.cells #[.int .i64 x.f0, .int .i64 x.f1, .int .i64 x.f2, .slice E x.f3.length ce] 29) from (hb.block _ (Array.getElem?_eq_some_iff.1 HE3.out).1).trans HE3.out); have HX4 := Lib.hid (HX3.out.below hb); have HC4 := Lib.hid (Kd.C_below HC3.out hb); have HM4 := Lib.hid (HM3.out.below hb); have HD3 := Lib.hid hb
 clear hv hb
 have q1 : (s1 == s1) = true := by simp
 have q2 : (s2 == s2) = true := by simp
 go_wp2_with fail
 refine (begun_is v4).mono ?_
 rintro e v5 ⟨rfl, hb⟩
 have HB5 := Lib.hid (HB4.out.trans (hb.mono HB4.out.size)); have HD4 := Lib.hid hb
 clear hb
 have K1 := Lib.hid (Kd.C_below (Kd.C_below (Kd.C_below (Kd.C_below HV1.out.2.2 HD1.out) HD2.out) HD3.out) HD4.out); have K2 := Lib.hid (Kd.C_below (Kd.C_below (Kd.C_below HV2.out.2.2 HD2.out) HD3.out) HD4.out); have K3 := Lib.hid (Kd.C_below (Kd.C_below HV3.out.2.2 HD3.out) HD4.out); have K4 := Lib.hid (Kd.C_below HV4.out.2.2 HD4.out)
 go_wp2_with fail
 have h4 := bEqual_is B1 cB1 r1 B2 cB2 r1 K1.out HV1.out.2.1 K2.out HV2.out.2.1
 rw [eqS_refl] at h4
 refine h4.mono ?_
 rintro e v6 ⟨rfl, hb⟩
 have HB6 := Lib.hid (HB5.out.trans (hb.mono HB5.out.size)); have K3 := Lib.hid (Kd.C_below K3.out hb); have K4 := Lib.hid (Kd.C_below K4.out hb)
 clear hb h4
 go_wp2_with fail
 have h4 := bEqual_is B3 cB3 r2 B4 cB4 r2 K3.out HV3.out.2.1 K4.out HV4.out.2.1
 rw [eqS_refl] at h4
 refine h4.mono ?_
 rintro e v7 ⟨rfl, hb⟩
 have HB7 := Lib.hid (HB6.out.trans (hb.mono HB6.out.size))
 clear hb h4
 go_wp2_with fail
 go_ret
 exact ⟨rfl, HB7.out⟩
end Go.Proofs.YtgiefblcckikeaaGreat.M
end

section
/- Seals, in plain Lean: what both Seals write (printed by genseal04.py out of law01's rows). -/
namespace Go.Proofs.YtgiefblcckikeaaGreat.M
open Go.RowKit Go.Proofs.YtgiefblcckikeaaGreatW.PrintWords Go.Proofs.YtgiefblcckikeaaGreatW.PrintLast Go.Proofs.YtgiefblcckikeaaGreatW.PrintMore Go.Proofs.YtgiefblcckikeaaGreat.G
def chkFrom (h : Int) (l : List Int) : Int := l.foldl (fun h c => IntKind.u64.wrap ((Go.bits .xor .u64 h (IntKind.u64.wrap c)) * 1099511628211)) h
def chk (l : List Int) : Int := chkFrom 14695981039346656037 l
theorem chkFrom_cons (h c : Int) (l : List Int) : chkFrom h (c :: l) = chkFrom (IntKind.u64.wrap ((Go.bits .xor .u64 h (IntKind.u64.wrap c)) * 1099511628211)) l := rfl
theorem chkFrom_append (h : Int) (l m : List Int) : chkFrom h (l ++ m) = chkFrom (chkFrom h l) m := List.foldl_append ..
theorem check_l1 (d : Nat) : ∀ (k : Nat) (h : Int) (L : List (List Int)) (n i : Int) (x : List Int) (j : Nat), x.length - j = d → j ≤ x.length → (x.length : Int) ≤ 140737488355328 → d < k →
  shape_Check.l1 k h L n i x (x.length : Int) (j : Int) = shape_Check.l0 (k - d - 1) (chkFrom h (x.drop j)) L n (wrap64 (i + 1)) := by
 induction d with
 | zero =>
  intro k h L n i x j hd hj hx hk
  obtain ⟨k, rfl⟩ : ∃ m, k = m + 1 := ⟨k - 1, by omega⟩
  simp only [shape_Check.l1]
  rw [if_neg (by omega), List.drop_eq_nil_of_le (by omega)]
  rfl
 | succ d ih =>
  intro k h L n i x j hd hj hx hk
  obtain ⟨k, rfl⟩ : ∃ m, k = m + 1 := ⟨k - 1, by omega⟩
  have hlt : j < x.length := by omega
  simp only [shape_Check.l1]
  rw [if_pos (by omega), if_pos (by omega), if_pos (by omega)]
  have hw : wrap64 ((j : Int) + 1) = ((j + 1 : Nat) : Int) := by unfold wrap64; omega
  rw [hw, ih k _ L n i x (j + 1) (by omega) (by omega) hx (by omega), List.drop_eq_getElem_cons hlt, chkFrom_cons]
  have hr : rd x (j : Int) = x[j] := by simp [rd, List.getD_eq_getElem?_getD, List.getElem?_eq_getElem hlt]
  rw [hr]
  congr 1
  omega
theorem check_l0 (L : List (List Int)) (hL : (L.length : Int) ≤ 140737488355328) (hx : ∀ x ∈ L, (x.length : Int) ≤ 140737488355328) (d : Nat) : ∀ (i : Nat) (h : Int), L.length - i = d → i ≤ L.length →
  ∃ K, ∀ k, K ≤ k → shape_Check.l0 k h L (L.length : Int) (i : Int) = some (chkFrom h (L.drop i).flatten) := by
 induction d with
 | zero =>
  intro i h hd hi
  refine ⟨1, fun k hk => ?_⟩
  obtain ⟨k, rfl⟩ : ∃ m, k = m + 1 := ⟨k - 1, by omega⟩
  simp only [shape_Check.l0]
  rw [if_neg (by omega), List.drop_eq_nil_of_le (by omega)]
  rfl
 | succ d ih =>
  intro i h hd hi
  have hlt : i < L.length := by omega
  have hr : rd_L4 L (i : Int) = L[i] := by simp [rd_L4, List.getD_eq_getElem?_getD, List.getElem?_eq_getElem hlt]
  obtain ⟨K, hK⟩ := ih (i + 1) (chkFrom h L[i]) (by omega) (by omega)
  refine ⟨K + L[i].length + 2, fun k hk => ?_⟩
  obtain ⟨k, rfl⟩ : ∃ m, k = m + 1 := ⟨k - 1, by omega⟩
  simp only [shape_Check.l0]
  rw [if_pos (by omega), if_pos (by omega), if_pos (by omega), hr]
  have h1 := check_l1 L[i].length k h L (L.length : Int) (i : Int) L[i] 0 (by omega) (by omega) (hx _ (List.getElem_mem hlt)) (by omega)
  rw [show ((0 : Nat) : Int) = 0 from rfl] at h1
  rw [h1]
  have hw : wrap64 ((i : Int) + 1) = ((i + 1 : Nat) : Int) := by unfold wrap64; omega
  rw [hw, List.drop_zero, hK _ (by omega), List.drop_eq_getElem_cons hlt, List.flatten_cons, chkFrom_append]
theorem chk_f (L : List (List Int)) (hL : (L.length : Int) ≤ 140737488355328) (hx : ∀ x ∈ L, (x.length : Int) ≤ 140737488355328) : ∃ K, ∀ k, K ≤ k → shape_Check.f k L = some (chk L.flatten) := by
 obtain ⟨K, hK⟩ := check_l0 L hL hx L.length 0 14695981039346656037 (by omega) (by omega)
 exact ⟨K, fun k hk => by unfold shape_Check.f; exact hK k hk⟩
theorem chkFrom_range (h : Int) (l : List Int) (hh : 0 ≤ h ∧ h ≤ 18446744073709551615) : 0 ≤ chkFrom h l ∧ chkFrom h l ≤ 18446744073709551615 := by
 induction l generalizing h with
 | nil => exact hh
 | cons c l ih => rw [chkFrom_cons]; exact ih _ (by rw [IntKind.wrap_u64]; omega)
theorem chk_range (l : List Int) : 0 ≤ chk l ∧ chk l ≤ 18446744073709551615 := chkFrom_range _ l (by decide)
def sealB (l : List Int) : List Int := eightB (chk l).toNat
theorem sealB_len (l : List Int) : (sealB l).length = 8 := by
 have h := chk_range l
 have := lowB_len (chk l).toNat 8 (by omega)
 unfold sealB eightB pad8
 rw [List.length_append, List.length_replicate]
 omega
def blobB (l d : List Int) : List Int := l ++ numB (d.length : Int) ++ d
theorem isI64_len {d : List Int} (h : d.length < 140737488355328) : isI64 (d.length : Int) := by unfold isI64; omega
theorem blob_f (l d : List Int) (h : l.length + d.length + 9 < 140737488355328) : shape_Blob.f l d = some (blobB l d) := by
 have hi := isI64_len (d := d) (by omega)
 have hn := numB_len hi
 unfold shape_Blob.f shape_Num.f
 rw [if_pos ⟨by simp [okI]; exact hi, by simp; omega⟩, Option.bind_some]
 simp only [numsB, List.flatMap_cons, List.flatMap_nil, List.append_nil]
 rw [if_pos (by simp only [List.length_append]; omega)]
 rfl
theorem ref_blob (l d : List Int) (h : l.length + d.length + 9 < 140737488355328) (k : Nat) (hk : 11 ≤ k) : trivetref01_Blob.f k l d = some (blobB l d) := by
 have hi := isI64_len (d := d) (by omega)
 have hn := numB_len hi
 unfold trivetref01_Blob.f
 rw [ref_put l [(d.length : Int)] (by simp [okI]; exact hi) (by simp; omega) k (by simpa using hk), Option.bind_some]
 simp only [numsB, List.flatMap_cons, List.flatMap_nil, List.append_nil]
 rw [if_pos (by simp only [List.length_append]; omega)]
 rfl
def sealedB (l : List Int) : List Int := blobB [] l ++ sealB l
theorem blob_len (l : List Int) : (blobB [] l).length = (numB (l.length : Int)).length + l.length := by unfold blobB; simp
theorem shape_seal (l : List Int) (hl : l.length ≤ 1048576) : ∃ K, ∀ k, K ≤ k → shape_Seal.f k l = some (sealedB l, 0) := by
 obtain ⟨K, hK⟩ := chk_f [l] (by simp) (by simp; omega)
 rw [show ([l] : List (List Int)).flatten = l by simp] at hK
 refine ⟨K, fun k hk => ?_⟩
 have hb := blob_f [] l (by simp; omega)
 have hc := hK k hk
 have he : shape_eight.f (chk l) = some (sealB l) := by unfold shape_eight.f sealB; rw [if_pos (chk_range _)]
 have hn := numB_len (isI64_len (d := l) (by omega))
 have hx := sealB_len l
 have hy := blob_len l
 unfold shape_Seal.f
 rw [if_neg (by omega), hb, Option.bind_some, hc, Option.bind_some, he, Option.bind_some, if_pos (by omega)]
 rfl
theorem ref_check_l0 (l : List Int) (hl : l.length < 140737488355328) (d : Nat) : ∀ (k j : Nat) (h : Int), l.length - j = d → j ≤ l.length → d < k → trivetref01_Check.l0 k l h (j : Int) = some (chkFrom h (l.drop j)) := by
 induction d with
 | zero =>
  intro k j h hd hj hk
  obtain ⟨k, rfl⟩ : ∃ q, k = q + 1 := ⟨k - 1, by omega⟩
  simp only [trivetref01_Check.l0]
  rw [if_neg (by omega), List.drop_eq_nil_of_le (by omega)]
  rfl
 | succ d ih =>
  intro k j h hd hj hk
  obtain ⟨k, rfl⟩ : ∃ q, k = q + 1 := ⟨k - 1, by omega⟩
  have hlt : j < l.length := by omega
  have hr : rd l (j : Int) = l[j] := by simp [rd, List.getD_eq_getElem?_getD, List.getElem?_eq_getElem hlt]
  have hw : wrap64 ((j : Int) + 1) = ((j + 1 : Nat) : Int) := by unfold wrap64; omega
  simp only [trivetref01_Check.l0]
  rw [if_pos (by omega), if_pos (by omega), hw, ih k (j + 1) _ (by omega) (by omega) (by omega), hr, List.drop_eq_getElem_cons hlt, chkFrom_cons]
theorem ref_check (l : List Int) (hl : l.length < 140737488355328) (k : Nat) (hk : l.length < k) : trivetref01_Check.f k l = some (chk l) := by
 unfold trivetref01_Check.f
 have := ref_check_l0 l hl l.length k 0 14695981039346656037 (by omega) (by omega) hk
 rw [show ((0 : Nat) : Int) = 0 from rfl, List.drop_zero] at this
 exact this
def padN : Nat → Nat → List Int
 | 0, _ => []
 | k + 1, n => ((n % 256 : Nat) : Int) :: padN k (n / 256)
theorem padN_low (k : Nat) : ∀ n, n < 256 ^ k → padN k n = lowB n ++ List.replicate (k - (lowB n).length) 0 := by
 induction k with
 | zero =>
  intro n hn
  obtain rfl : n = 0 := by simpa using hn
  simp [padN, lowB_zero]
 | succ k ih =>
  intro n hn
  have hi := ih (n / 256) (by rw [Nat.pow_succ] at hn; omega)
  by_cases h0 : n = 0
  ·subst h0
   simp only [padN, Nat.zero_mod, Nat.zero_div] at hi ⊢
   rw [hi, lowB_zero]
   simp [List.replicate_succ]
  ·rw [lowB_pos h0, padN, hi, List.length_cons, List.cons_append, Nat.add_sub_add_right]
theorem ref_low_l0 (n : Nat) (d : Nat) : ∀ (k j : Nat) (acc : List Int), 8 - j = d → j ≤ 8 → acc.length = j → d < k → trivetref01_low.l0 k (n : Int) acc (j : Int) = some (acc ++ padN d (n / 256 ^ j)) := by
 induction d with
 | zero =>
  intro k j acc hd hj ha hk
  obtain ⟨k, rfl⟩ : ∃ q, k = q + 1 := ⟨k - 1, by omega⟩
  simp only [trivetref01_low.l0]
  rw [if_neg (by omega)]
  simp [padN]
 | succ d ih =>
  intro k j acc hd hj ha hk
  obtain ⟨k, rfl⟩ : ∃ q, k = q + 1 := ⟨k - 1, by omega⟩
  have hw : wrap64 ((j : Int) + 1) = ((j + 1 : Nat) : Int) := by unfold wrap64; omega
  have hw8 : wrap64 (8 * (j : Int)) = ((8 * j : Nat) : Int) := by unfold wrap64; omega
  have hs : shr .u64 (n : Int) ((8 * j : Nat) : Int) % 256 = ((n / 256 ^ j % 256 : Nat) : Int) := by
   unfold shr
   have hb : IntKind.u64.bits = 64 := rfl
   have hp : (2 : Int) ^ (8 * j) = ((256 ^ j : Nat) : Int) := by
    rw [show (2 : Int) = ((2 : Nat) : Int) from rfl, ← Int.natCast_pow, Nat.pow_mul]
   rw [hb, Int.toNat_natCast, Nat.min_eq_left (by omega), hp]
   first | rfl | norm_cast
  simp only [trivetref01_low.l0]
  rw [if_pos (by omega), hw8, if_pos (by omega), if_pos (by omega), hs, hw, ih k (j + 1) _ (by omega) (by omega) (by simp; omega) (by omega), padN, List.append_assoc, List.singleton_append, Nat.div_div_eq_div_mul, Nat.pow_succ]
theorem ref_low (n : Int) (h : 0 ≤ n ∧ n ≤ 18446744073709551615) (k : Nat) (hk : 8 < k) : trivetref01_low.f k n = some (eightB n.toNat) := by
 unfold trivetref01_low.f
 have := ref_low_l0 n.toNat 8 k 0 [] (by omega) (by omega) rfl hk
 rw [show ((0 : Nat) : Int) = 0 from rfl, show ((n.toNat : Nat) : Int) = n from by omega] at this
 rw [this, Nat.pow_zero, Nat.div_one, padN_low 8 _ (by omega)]
 rfl
theorem ref_seal (l : List Int) (hl : l.length < 140737488355328) (k : Nat) (hk : l.length + 20 < k) : trivetref01_Seal.f k l = if 1048576 < l.length then some ([], 3) else some (sealedB l, 0) := by
 unfold trivetref01_Seal.f
 by_cases h : 1048576 < l.length
 ·rw [if_pos (by omega), if_pos h]
 ·have hb := ref_blob [] l (by simp; omega) k (by omega)
  have hc := ref_check l hl k (by omega)
  have he : trivetref01_low.f k (chk l) = some (sealB l) := ref_low _ (chk_range l) k (by omega)
  have hn := numB_len (isI64_len (d := l) (by omega))
  have hx := sealB_len l
  have hy := blob_len l
  rw [if_neg (by omega), if_neg h, hb, Option.bind_some, hc, Option.bind_some, he, Option.bind_some, if_pos (by omega)]
  rfl
end Go.Proofs.YtgiefblcckikeaaGreat.M
end

section
/- RecordWrites returns true, whatever it is handed. -/
namespace Go.Proofs.YtgiefblcckikeaaGreat.M
open Go.RowKit Go.Proofs.YtgiefblcckikeaaGreatW.PrintWords Go.Proofs.YtgiefblcckikeaaGreatW.PrintLast Go.Proofs.YtgiefblcckikeaaGreatW.PrintMore Go.Proofs.YtgiefblcckikeaaGreat.G
theorem okM_of {m : MsgD} (h : okMd m) : OkM m := by
 obtain ⟨h0, h1, h2, h3, h4, h5, h6, _, h8, h9, h10⟩ := h
 refine ⟨?_, ?_, ?_, (okE_of h9).1, fun x hx => ?_⟩
 ·exact okI_cons.2 ⟨i64_of h0, okI_cons.2 ⟨i64_of h1, okI_cons.2 ⟨i64_of h2, rfl⟩⟩⟩
 ·exact okI_cons.2 ⟨i64_of h3, okI_cons.2 ⟨i64_of h4, okI_cons.2 ⟨i64_of h5, okI_cons.2 ⟨i64_of h6, rfl⟩⟩⟩⟩
 ·exact okI_cons.2 ⟨i64_of h10.1, okI_cons.2 ⟨i64_of h10.2.1, okI_cons.2 ⟨i64_of h10.2.2.1, rfl⟩⟩⟩
 ·have hx := h8.2 x hx
  exact ⟨i64_of hx.1, (okE_of hx.2).1⟩
theorem sealC : SealC sealedB := by
 intro ok A c l w hr hl
 obtain ⟨K, hK⟩ := shape_seal l hl
 refine (G.shape_Seal.calls K ok A c l (sealedB l) 0 w hr (hK K (Nat.le_refl _))).mono ?_
 rintro e w' ⟨v, rfl, h1, h2⟩
 exact ⟨v, rfl, Kd.R_mono h1 (fun _ _ => trivial), h2⟩
theorem refSealC (l : List Int) (hl : l.length ≤ 1048576) : ∃ k, G.trivetref01_Seal.f k l = some (sealedB l, 0) :=
 ⟨l.length + 21, by rw [ref_seal l (by omega) _ (by omega), if_neg (by omega)]⟩
theorem writes_all (w : World) (x : EntD) (m : MsgD) {E : Option Addr} {ce : Nat} {A8 A12 A16 : Option Addr} {c8 c12 c16 : Nat} (he : Kd.C G.k26 w E x.f3.length x.f3) (hel : x.f3.length ≤ ce) (hx : okEd x) (hm : MsgC w m A8 c8 A12 c12 A16 c16) (ho : okMd m) :
  Calls Tryz.prog 4 #[.agg #[.int .i64 x.f0, .int .i64 x.f1, .int .i64 x.f2, .slice E x.f3.length ce], .agg #[.int .i64 m.f0, .int .i64 m.f1, .int .i64 m.f2, .int .i64 m.f3, .int .i64 m.f4, .int .i64 m.f5, .int .i64 m.f6, .bool m.f7, .slice A8 m.f8.length c8, .int .i64 m.f9.f0, .int .i64 m.f9.f1, .int .i64 m.f9.f2, .slice A12 m.f9.f3.length c12, .int .i64 m.f10.f0, .int .i64 m.f10.f1, .int .i64 m.f10.f2, .slice A16 m.f10.f3.length c16]] w fun e w' => e = .returned (.bool true) ∧ Below w.heap.size w w' :=
 writes_walk w x m he hel (okE_of hx).1 hm (okM_of ho) sealedB sealC refSealC
end Go.Proofs.YtgiefblcckikeaaGreat.M
end
