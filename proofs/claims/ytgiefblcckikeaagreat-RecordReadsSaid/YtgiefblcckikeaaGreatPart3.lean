/- RecordReadsSaid: contracts of the functions that the law goes through, put together in build order (part 4 of 7). -/
import Derived.Test.YtgiefblcckikeaaGreatPart2
import Derived.Laws.Rows
import Derived.WalkKit
import Derived.BigRegion
import Derived.Laws.Tables
import Derived.Deep.RegionHeld3
set_option linter.unusedVariables false
set_option linter.unusedSimpArgs false
set_option maxRecDepth 100000
section
/- The pen writes a transaction. -/
attribute [local irreducible] Go.wpStill
namespace Go.Proofs.YtgiefblcckikeaaGreat.M
open Go.RowKit Go.Proofs.YtgiefblcckikeaaGreatW.PrintWords Go.Proofs.YtgiefblcckikeaaGreatW.PrintLast Go.Proofs.YtgiefblcckikeaaGreatW.PrintMore Go.Proofs.YtgiefblcckikeaaGreat.G
def TxBox (W : World) (b : Nat) (x : TxD) (A2 : Option Addr) (c2 : Nat) (A3 : Option Addr) (c3 : Nat) (A4 : Option Addr) (c4 : Nat) (A5 : Option Addr) (c5 : Nat) : Prop := W.heap[b]? = some (.cells #[.int .i64 x.f0, .int .i64 x.f1, .slice A2 x.f2.length c2, .slice A3 x.f3.length c3, .slice A4 x.f4.length c4, .slice A5 x.f5.length c5] 26)
theorem TxBox.cell {W : World} {b : Nat} {x : TxD} {A2 A3 A4 A5 : Option Addr} {c2 c3 c4 c5 : Nat} (h : TxBox W b x A2 c2 A3 c3 A4 c4 A5 c5) : W.cell? ⟨b, 0, none⟩ = some (.int .i64 x.f0) ∧ W.cell? ⟨b, 1, none⟩ = some (.int .i64 x.f1) ∧ W.cell? ⟨b, 2, none⟩ = some (.slice A2 x.f2.length c2) ∧ W.cell? ⟨b, 3, none⟩ = some (.slice A3 x.f3.length c3) ∧ W.cell? ⟨b, 4, none⟩ = some (.slice A4 x.f4.length c4) ∧ W.cell? ⟨b, 5, none⟩ = some (.slice A5 x.f5.length c5) ∧ b < W.heap.size := by
 unfold TxBox at h
 exact ⟨by simp [World.cell?, h], by simp [World.cell?, h], by simp [World.cell?, h], by simp [World.cell?, h], by simp [World.cell?, h], by simp [World.cell?, h], (Array.getElem?_eq_some_iff.1 h).1⟩
theorem TxBox.keep {W W' : World} {b p : Nat} {x : TxD} {A2 A3 A4 A5 : Option Addr} {c2 c3 c4 c5 : Nat} (h : TxBox W b x A2 c2 A3 c3 A4 c4 A5 c5) (hk : KeepS (fun i => i = p) W W') (hb : b ≠ p) : TxBox W' b x A2 c2 A3 c3 A4 c4 A5 c5 := (hk.block b h.cell.2.2.2.2.2.2 hb).trans h
theorem okT_parts {x : TxD} (h : okT x = true) : okI [x.f0, x.f1] = true ∧ okB x.f2 = true ∧ okI x.f3 = true ∧ x.f4.all okK = true ∧ x.f5.all okK = true := by
 unfold okT at h
 simp only [Bool.and_eq_true, decide_eq_true_eq] at h
 obtain ⟨h1, h2, h3, h4, h5, h6⟩ := h
 exact ⟨by simp [okI, h1, h2], h3, h4, h5, h6⟩
theorem mayT_parts {x : TxD} (h : mayT x = true) : x.f2.length ≤ 512 ∧ x.f3.length ≤ 8 ∧ x.f4.length ≤ 16 ∧ x.f5.length ≤ 16 := by
 unfold mayT mayK at h
 simp only [Bool.and_eq_true, decide_eq_true_eq] at h
 exact ⟨h.2.1, h.2.2.1, h.2.2.2.1.1, h.2.2.2.2.1⟩
theorem txB_len {x : TxD} (h : okT x = true) (hm : mayT x = true) : (txB x).length ≤ 1300 := by
 obtain ⟨h1, h2, h3, h4, h5⟩ := okT_parts h
 obtain ⟨m2, m3, m4, m5⟩ := mayT_parts hm
 have e1 := numsB2_len h1
 have e2 := (numB_len (n := (x.f2.length : Int)) (by unfold isI64; omega)).2
 have e3 := (numB_len (n := (x.f3.length : Int)) (by unfold isI64; omega)).2
 have e4 := numsB_len h3
 have e5 := keysB_len h4 (by omega)
 have e6 := keysB_len h5 (by omega)
 unfold txB
 simp only [List.length_append]
 omega
set_option maxHeartbeats 2000000 in
theorem penTxn_is {w0 w : World} {p : Nat} {l : List Int} (hI : IsPen w w0.heap.size p l) (hB : Below w0.heap.size w0 w) (hp : w0.heap.size ≤ p) (x : TxD) {A2 A3 A4 A5 : Option Addr} {c2 c3 c4 c5 : Nat} (hX : TxC w0 x A2 c2 A3 c3 A4 c4 A5 c5) (hok : okT x = true) (hm : mayT x = true) (hs : l.length + 2000 < 140737488355328) :
  Calls Tryz.prog 96 #[.pointer (some ⟨p, 0, none⟩), .agg #[.int .i64 x.f0, .int .i64 x.f1, .slice A2 x.f2.length c2, .slice A3 x.f3.length c3, .slice A4 x.f4.length c4, .slice A5 x.f5.length c5]] w fun e w' => PenP w0 w p (l ++ txB x) e w' := by
 obtain ⟨o1, o2, o3, o4, o5⟩ := okT_parts hok
 obtain ⟨m2, m3, m4, m5⟩ := mayT_parts hm
 have e1 := numsB2_len o1
 have e2 := (numB_len (n := (x.f2.length : Int)) (by unfold isI64; omega)).2
 have e3 := (numB_len (n := (x.f3.length : Int)) (by unfold isI64; omega)).2
 have e4 := numsB_len o3
 have e5 := keysB_len o4 (by omega)
 have e6 := keysB_len o5 (by omega)
 have i2 : isI64 (x.f3.length : Int) := by unfold isI64; omega
 have HE := Lib.hid (And.intro e1 (And.intro e2 (And.intro e3 (And.intro e4 (And.intro e5 e6)))))
 have HO := Lib.hid (And.intro o1 (And.intro o2 (And.intro o3 (And.intro o4 o5))))
 have HM := Lib.hid (And.intro m2 (And.intro m3 (And.intro m4 m5)))
 have HI2 := Lib.hid i2
 have HP := Lib.hid hp; have HS := Lib.hid hs
 have HX := Lib.hid hX
 have HNE := Lib.hid (show w.heap.size ≠ p by have := hI.lt; omega)
 have H0 := Lib.hid (hI.below ((Below.refl _ w).alloc (Nat.le_refl _) (.cells #[.int .i64 x.f0, .int .i64 x.f1, .slice A2 x.f2.length c2, .slice A3 x.f3.length c3, .slice A4 x.f4.length c4, .slice A5 x.f5.length c5] 26)))
 have HB0 := Lib.hid (hB.alloc hB.size (.cells #[.int .i64 x.f0, .int .i64 x.f1, .slice A2 x.f2.length c2, .slice A3 x.f3.length c3, .slice A4 x.f4.length c4, .slice A5 x.f5.length c5] 26))
 have HK0 := Lib.hid ((KeepS.refl (fun i => i = p) w).alloc (.cells #[.int .i64 x.f0, .int .i64 x.f1, .slice A2 x.f2.length c2, .slice A3 x.f3.length c3, .slice A4 x.f4.length c4, .slice A5 x.f5.length c5] 26))
 have HT0 := Lib.hid (show TxBox (w.alloc (.cells #[.int .i64 x.f0, .int .i64 x.f1, .slice A2 x.f2.length c2, .slice A3 x.f3.length c3, .slice A4 x.f4.length c4, .slice A5 x.f5.length c5] 26)) w.heap.size x A2 c2 A3 c3 A4 c4 A5 c5 from heap_alloc_new w _)
 clear hI hB hp hX hok hm hs o1 o2 o3 o4 o5 m2 m3 m4 m5 e1 e2 e3 e4 e5 e6 i2
 go_enter Tryz.func96, Tryz.ntmps96
 go_wp2_with fail
 obtain ⟨b, hb⟩ : ∃ b, w.heap.size = b := ⟨_, rfl⟩
 obtain ⟨v0, hv0⟩ : ∃ v0, w.alloc (.cells #[.int .i64 x.f0, .int .i64 x.f1, .slice A2 x.f2.length c2, .slice A3 x.f3.length c3, .slice A4 x.f4.length c4, .slice A5 x.f5.length c5] 26) = v0 := ⟨_, rfl⟩
 rw [hv0] at H0 HB0 HK0 HT0 ⊢
 rw [hb] at HNE HT0 ⊢
 clear hb hv0
 obtain ⟨d0, d1, d2, d3, d4, d5, dz⟩ := HT0.out.cell
 have HD := Lib.hid (show Below v0.heap.size v0 (v0.alloc (.cells #[.int .i64 x.f0, .int .i64 x.f1] 2)).drew from ((Below.refl _ v0).alloc (Nat.le_refl _) (.cells #[.int .i64 x.f0, .int .i64 x.f1] 2)).drew)
 have HN := Lib.hid (nums_is (H0.out.below HD.out) ((HB0.out.alloc HB0.out.size _).drew) HP.out _ 2 [x.f0, x.f1] (Kd.C_drew (C_lit v0 [x.f0, x.f1] (by simp))) HO.out.1 (by have := HS.out; simp only [List.length_append, List.length_cons, List.length_nil]; omega))
 go_region_held3 (fun w' => w'.cell? ⟨b, 0, none⟩ = some (.int .i64 x.f0) ∧ w'.cell? ⟨b, 1, none⟩ = some (.int .i64 x.f1)) (go_keep) (((refine HN.out.mono ?_; rintro e v1 ⟨rfl, h1, h2, h3⟩; have H1 := Lib.hid h1; have HB1 := Lib.hid h2; have HK1 := Lib.hid (((HK0.out.alloc (.cells #[.int .i64 x.f0, .int .i64 x.f1] 2)).drew).trans h3); have HT1 := Lib.hid (HT0.out.keep ((((KeepS.refl (fun i => i = p) v0).alloc (.cells #[.int .i64 x.f0, .int .i64 x.f1] 2)).drew).trans h3) HNE.out); clear h1 h2 h3; have qh0 : v1.cell? ⟨b, 0, none⟩ = some (.int .i64 x.f0) := HT1.out.cell.1; have qh1 : v1.cell? ⟨b, 1, none⟩ = some (.int .i64 x.f1) := HT1.out.cell.2.1)))
 clear HN HD d0 d1 d2 d3 d4 d5 dz qh0 qh1
 obtain ⟨d0, d1, d2, d3, d4, d5, dz⟩ := HT1.out.cell
 have HD := Lib.hid (show Below v1.heap.size v1 v1.drew from (Below.refl v1.heap.size v1).drew)
 have HN := Lib.hid (data_is (H1.out.below HD.out) HB1.out.drew HP.out _ c2 x.f2 (Kd.C_below HX.out.g2 HB1.out.drew) HX.out.l2 (by have := HS.out; have := HE.out; have := HM.out; simp only [List.length_append]; omega))
 go_wp2_with fail
 go_region_held3 (fun w' => w'.cell? ⟨b, 2, none⟩ = some (.slice A2 x.f2.length c2)) (go_keep) (((refine HN.out.mono ?_; rintro e v2 ⟨rfl, h1, h2, h3⟩; have H2 := Lib.hid h1; have HB2 := Lib.hid h2; have HK2 := Lib.hid ((HK1.out.drew).trans h3); have HT2 := Lib.hid (HT1.out.keep (((KeepS.refl (fun i => i = p) v1).drew).trans h3) HNE.out); clear h1 h2 h3; have qh2 : v2.cell? ⟨b, 2, none⟩ = some (.slice A2 x.f2.length c2) := HT2.out.cell.2.2.1)))
 clear HN HD d0 d1 d2 d3 d4 d5 dz qh2
 obtain ⟨d0, d1, d2, d3, d4, d5, dz⟩ := HT2.out.cell
 have HD := Lib.hid (show Below v2.heap.size v2 v2.drew from (Below.refl v2.heap.size v2).drew)
 have HN := Lib.hid (many_is (H2.out.below HD.out) HB2.out.drew HP.out x.f3.length HI2.out (by have := HS.out; have := HE.out; have := HM.out; simp only [List.length_append]; omega))
 go_wp2_with fail
 go_region_held3 (fun w' => w'.cell? ⟨b, 3, none⟩ = some (.slice A3 x.f3.length c3)) (go_keep) (((refine HN.out.mono ?_; rintro e v3 ⟨rfl, h1, h2, h3⟩; have H3 := Lib.hid h1; have HB3 := Lib.hid h2; have HK3 := Lib.hid ((HK2.out.drew).trans h3); have HT3 := Lib.hid (HT2.out.keep (((KeepS.refl (fun i => i = p) v2).drew).trans h3) HNE.out); clear h1 h2 h3; have qh3 : v3.cell? ⟨b, 3, none⟩ = some (.slice A3 x.f3.length c3) := HT3.out.cell.2.2.2.1)))
 clear HN HD d0 d1 d2 d3 d4 d5 dz qh3
 obtain ⟨d0, d1, d2, d3, d4, d5, dz⟩ := HT3.out.cell
 have HD := Lib.hid (show Below v3.heap.size v3 v3.drew from (Below.refl v3.heap.size v3).drew)
 have HN := Lib.hid (nums_is (H3.out.below HD.out) HB3.out.drew HP.out _ c3 x.f3 (Kd.C_below HX.out.g3 HB3.out.drew) HO.out.2.2.1 (by have := HS.out; have := HE.out; have := HM.out; simp only [List.length_append]; omega))
 go_wp2_with fail
 go_region_held3 (fun w' => w'.cell? ⟨b, 3, none⟩ = some (.slice A3 x.f3.length c3)) (go_keep) (((refine HN.out.mono ?_; rintro e v4 ⟨rfl, h1, h2, h3⟩; have H4 := Lib.hid h1; have HB4 := Lib.hid h2; have HK4 := Lib.hid ((HK3.out.drew).trans h3); have HT4 := Lib.hid (HT3.out.keep (((KeepS.refl (fun i => i = p) v3).drew).trans h3) HNE.out); clear h1 h2 h3; have qh3 : v4.cell? ⟨b, 3, none⟩ = some (.slice A3 x.f3.length c3) := HT4.out.cell.2.2.2.1)))
 clear HN HD d0 d1 d2 d3 d4 d5 dz qh3
 obtain ⟨d0, d1, d2, d3, d4, d5, dz⟩ := HT4.out.cell
 go_wp2_with fail
 refine (penKeys_is H4.out HB4.out HP.out _ c4 x.f4 HX.out.g4 HO.out.2.2.2.1 (by have := HM.out; omega) (by have := HS.out; have := HE.out; have := HM.out; simp only [List.length_append]; omega)).mono ?_
 rintro e v5 ⟨rfl, h1, h2, h3⟩
 have H5 := Lib.hid h1; have HB5 := Lib.hid h2; have HK5 := Lib.hid (HK4.out.trans h3); have HT5 := Lib.hid (HT4.out.keep h3 HNE.out)
 clear h1 h2 h3 d0 d1 d2 d3 d4 d5 dz
 obtain ⟨d0, d1, d2, d3, d4, d5, dz⟩ := HT5.out.cell
 go_wp2_with fail
 refine (penKeys_is H5.out HB5.out HP.out _ c5 x.f5 HX.out.g5 HO.out.2.2.2.2 (by have := HM.out; omega) (by have := HS.out; have := HE.out; have := HM.out; simp only [List.length_append]; omega)).mono ?_
 rintro e v6 ⟨rfl, h1, h2, h3⟩
 have H6 := Lib.hid h1; have HB6 := Lib.hid h2; have HK6 := Lib.hid (HK5.out.trans h3); have HT6 := Lib.hid (HT5.out.keep h3 HNE.out)
 clear h1 h2 h3 d0 d1 d2 d3 d4 d5 dz
 go_wp2_with fail
 go_end0
 refine ⟨rfl, ?_, HB6.out, HK6.out⟩
 have := H6.out
 unfold txB
 simp only [List.append_assoc] at this ⊢
 exact this
end Go.Proofs.YtgiefblcckikeaaGreat.M
end

section
/- The pen writes an entry. -/
attribute [local irreducible] Go.wpStill
namespace Go.Proofs.YtgiefblcckikeaaGreat.M
open Go.RowKit Go.Proofs.YtgiefblcckikeaaGreatW.PrintWords Go.Proofs.YtgiefblcckikeaaGreatW.PrintLast Go.Proofs.YtgiefblcckikeaaGreatW.PrintMore Go.Proofs.YtgiefblcckikeaaGreat.G
theorem EnBox.keep {W W' : World} {b p : Nat} {k f n : Int} {A : Option Addr} {m c : Nat} (h : EnBox W b k f n A m c) (hk : KeepS (fun i => i = p) W W') (hb : b ≠ p) : EnBox W' b k f n A m c := (hk.block b h.cell.2.2.2.2 hb).trans h
theorem mayE_one {k f n : Int} {l : List TxD} (h : mayE k f n l = true) (hk : k ≠ 0) : k = 1 ∧ l.length ≤ 16 ∧ l.all mayT = true := by
 unfold mayE at h
 rw [if_neg hk] at h
 simp only [Bool.and_eq_true, beq_iff_eq] at h
 obtain ⟨h1, _, _, h4, h5⟩ := h
 unfold inB at h4
 simp only [List.all_cons, List.all_nil, Bool.and_true, Bool.and_eq_true, decide_eq_true_eq] at h4
 exact ⟨h1, by omega, h5⟩
theorem okE_parts {k f n : Int} {l : List TxD} (h : okE k f n l = true) : isI64 k ∧ okI [f, n] = true ∧ l.all okT = true := by
 unfold okE at h
 simp only [Bool.and_eq_true, decide_eq_true_eq] at h
 exact ⟨h.1, by simp [okI, h.2.1, h.2.2.1], h.2.2.2⟩
theorem TxAt.below {w w' : World} {p : Addr} {x : TxD} {A2 A3 A4 A5 : Option Addr} {c2 c3 c4 c5 : Nat} (h : TxAt w p x A2 c2 A3 c3 A4 c4 A5 c5) (hb : Below w.heap.size w w') : TxAt w' p x A2 c2 A3 c3 A4 c4 A5 c5 := by
 have hz : p.block < w.heap.size := World.block_lt_of_cell? _ _ h.e0
 exact ⟨(hb.cell (p := p) hz).trans h.e0, (hb.cell (p := ⟨p.block, _, none⟩) hz).trans h.e1, (hb.cell (p := ⟨p.block, _, none⟩) hz).trans h.e2, (hb.cell (p := ⟨p.block, _, none⟩) hz).trans h.e3, (hb.cell (p := ⟨p.block, _, none⟩) hz).trans h.e4, (hb.cell (p := ⟨p.block, _, none⟩) hz).trans h.e5⟩
def EnL (w0 w : World) (p : Nat) (l0 : List Int) (l : List TxD) (i : Value) (wr : World) : Prop := ∃ j : Nat, i = .int .i64 j ∧ j ≤ l.length ∧ IsPen wr w0.heap.size p (l0 ++ (l.take j).flatMap txB) ∧ Below w0.heap.size w0 wr ∧ KeepS (fun i => i = p) w wr
set_option maxHeartbeats 2000000 in
theorem penEntry_is {w0 w : World} {p : Nat} {l0 : List Int} (hI : IsPen w w0.heap.size p l0) (hB : Below w0.heap.size w0 w) (hp : w0.heap.size ≤ p) (k f n : Int) (A : Option Addr) (c : Nat) (l : List TxD) (hC : Kd.C G.k26 w0 A l.length l) (hok : okE k f n l = true) (hm : mayE k f n l = true) (hs : l0.length + 30000 < 140737488355328) :
  Calls Tryz.prog 47 #[.pointer (some ⟨p, 0, none⟩), .agg #[.int .i64 k, .int .i64 f, .int .i64 n, .slice A l.length c]] w fun e w' => PenP w0 w p (l0 ++ entB k f n l) e w' := by
 obtain ⟨o1, o2, o3⟩ := okE_parts hok
 have e1 := (numB_len o1).2
 have e2 := numsB2_len o2
 have HE := Lib.hid (And.intro e1 e2)
 have HO := Lib.hid (And.intro o1 (And.intro o2 o3))
 have HM := Lib.hid hm
 have HC := Lib.hid hC
 have HP := Lib.hid hp; have HS := Lib.hid hs
 have hlm : l.length ≤ 9223372036854775807 := hC.2.1
 have HNE := Lib.hid (show w.heap.size ≠ p by have := hI.lt; omega)
 have H0 := Lib.hid (hI.below ((Below.refl _ w).alloc (Nat.le_refl _) (.cells #[.int .i64 k, .int .i64 f, .int .i64 n, .slice A l.length c] 29)))
 have HB0 := Lib.hid (hB.alloc hB.size (.cells #[.int .i64 k, .int .i64 f, .int .i64 n, .slice A l.length c] 29))
 have HK0 := Lib.hid ((KeepS.refl (fun i => i = p) w).alloc (.cells #[.int .i64 k, .int .i64 f, .int .i64 n, .slice A l.length c] 29))
 have HT0 := Lib.hid (show EnBox (w.alloc (.cells #[.int .i64 k, .int .i64 f, .int .i64 n, .slice A l.length c] 29)) w.heap.size k f n A l.length c from heap_alloc_new w _)
 clear hI hB hp hC hok hm hs o1 o2 o3 e1 e2
 go_enter Tryz.func47, Tryz.ntmps47
 go_wp2_with fail
 obtain ⟨b, hb⟩ : ∃ b, w.heap.size = b := ⟨_, rfl⟩
 obtain ⟨v0, hv0⟩ : ∃ v0, w.alloc (.cells #[.int .i64 k, .int .i64 f, .int .i64 n, .slice A l.length c] 29) = v0 := ⟨_, rfl⟩
 rw [hv0] at H0 HB0 HK0 HT0 ⊢
 rw [hb] at HNE HT0 ⊢
 clear hb hv0
 obtain ⟨d0, d1, d2, d3, dz⟩ := HT0.out.cell
 have HD := Lib.hid (show Below v0.heap.size v0 v0.drew from (Below.refl _ _).drew)
 have HN := Lib.hid (many_is (H0.out.below HD.out) HB0.out.drew HP.out k HO.out.1 (by have := HS.out; omega))
 go_region_held3 (fun w' => w'.cell? ⟨b, 0, none⟩ = some (.int .i64 k)) (go_keep) (((refine HN.out.mono ?_; rintro e v1 ⟨rfl, h1, h2, h3⟩; have H1 := Lib.hid h1; have HB1 := Lib.hid h2; have HK1 := Lib.hid (HK0.out.drew.trans h3); have HT1 := Lib.hid (HT0.out.keep (((KeepS.refl (fun i => i = p) v0).drew).trans h3) HNE.out); clear h1 h2 h3; have qh0 : v1.cell? ⟨b, 0, none⟩ = some (.int .i64 k) := HT1.out.cell.1)))
 clear HN HD d0 d1 d2 d3 dz
 cases hk : (k == 0) with
 | true =>
  have hk0 : k = 0 := by simpa using hk
  have HF := Lib.hid (show IsPen v1 w0.heap.size p (l0 ++ entB k f n l) by unfold entB; rw [if_pos hk0, ← hk0]; exact H1.out)
  clear hk0
  go_wp2_with fail
  go_end0
  exact ⟨rfl, HF.out, HB1.out, HK1.out⟩
 | false =>
  have hk0 : k ≠ 0 := by simpa using hk
  obtain ⟨m1, m2, m3⟩ := mayE_one HM.out hk0
  have HMM := Lib.hid (And.intro m2 m3)
  have HK0 := Lib.hid hk0
  have i2 : isI64 (l.length : Int) := by unfold isI64; omega
  have HI2 := Lib.hid i2
  have e3 := (numB_len i2).2
  have HE3 := Lib.hid e3
  clear hk0 m1 m2 m3 i2 e3
  go_wp2_with fail
  obtain ⟨d0, d1, d2, d3, dz⟩ := HT1.out.cell
  have HD := Lib.hid (show Below v1.heap.size v1 (v1.alloc (.cells #[.int .i64 f, .int .i64 n] 2)).drew from ((Below.refl _ v1).alloc (Nat.le_refl _) _).drew)
  have HN := Lib.hid (nums_is (H1.out.below HD.out) ((HB1.out.alloc HB1.out.size _).drew) HP.out _ 2 [f, n] (Kd.C_drew (C_lit v1 [f, n] (by simp))) HO.out.2.1 (by have := HS.out; have := HE.out; simp only [List.length_append, List.length_cons, List.length_nil]; omega))
  go_region_held3 (fun w' => w'.cell? ⟨b, 1, none⟩ = some (.int .i64 f) ∧ w'.cell? ⟨b, 2, none⟩ = some (.int .i64 n)) (go_keep) (((refine HN.out.mono ?_; rintro e v2 ⟨rfl, h1, h2, h3⟩; have H2 := Lib.hid h1; have HB2 := Lib.hid h2; have HK2 := Lib.hid (((HK1.out.alloc (.cells #[.int .i64 f, .int .i64 n] 2)).drew).trans h3); have HT2 := Lib.hid (HT1.out.keep ((((KeepS.refl (fun i => i = p) v1).alloc (.cells #[.int .i64 f, .int .i64 n] 2)).drew).trans h3) HNE.out); clear h1 h2 h3; have qh1 : v2.cell? ⟨b, 1, none⟩ = some (.int .i64 f) := HT2.out.cell.2.1; have qh2 : v2.cell? ⟨b, 2, none⟩ = some (.int .i64 n) := HT2.out.cell.2.2.1)))
  clear HN HD d0 d1 d2 d3 dz qh1 qh2 qh0
  obtain ⟨d0, d1, d2, d3, dz⟩ := HT2.out.cell
  have HD := Lib.hid (show Below v2.heap.size v2 v2.drew from (Below.refl _ _).drew)
  have HN := Lib.hid (many_is (H2.out.below HD.out) HB2.out.drew HP.out l.length HI2.out (by have := HS.out; have := HE.out; simp only [List.length_append]; omega))
  go_wp2_with fail
  go_region_held3 (fun w' => w'.cell? ⟨b, 3, none⟩ = some (.slice A l.length c)) (go_keep) (((refine HN.out.mono ?_; rintro e v3 ⟨rfl, h1, h2, h3⟩; have H3 := Lib.hid h1; have HB3 := Lib.hid h2; have HK3 := Lib.hid (HK2.out.drew.trans h3); have HT3 := Lib.hid (HT2.out.keep (((KeepS.refl (fun i => i = p) v2).drew).trans h3) HNE.out); clear h1 h2 h3; have qh3 : v3.cell? ⟨b, 3, none⟩ = some (.slice A l.length c) := HT3.out.cell.2.2.2.1)))
  clear HN HD d0 d1 d2 d3 dz
  obtain ⟨la, hla⟩ : ∃ la, l0 ++ numB k ++ numsB [f, n] ++ numB l.length = la := ⟨_, rfl⟩
  rw [hla] at H3
  have HLA := Lib.hid hla
  have HLL := Lib.hid (show la.length ≤ l0.length + 40 by rw [← hla]; have := HE.out; have := HE3.out; simp only [List.length_append]; omega)
  clear hla
  go_wp2_with fail
  go_loopw [34] (fun i wr => EnL w0 w p la l i wr) (fun i _ => l.length - (intOf i).toNat)
  case atStart => exact ⟨0, rfl, Nat.zero_le _, by simpa using H3.out, HB3.out, HK3.out⟩
  case round =>
   obtain ⟨j, rfl, hj, hI, hB, hK⟩ := hrel
   have HI := Lib.hid hI; have HB := Lib.hid hB; have HKj := Lib.hid hK
   clear hI hB hK
   by_cases hlt : j < l.length
   ·obtain ⟨x, hx⟩ : ∃ x, l[j]? = some x := ⟨_, List.getElem?_eq_getElem hlt⟩
    obtain ⟨ad, A2, c2, A3, c3, A4, c4, A5, c5, rfl, hAt, hTC⟩ := tx_get HC.out hx
    obtain ⟨x0, x1, x2, x3, x4, x5⟩ := hAt.below HB.out
    have HTC := Lib.hid hTC
    have HX := Lib.hid (show l.take (j + 1) = l.take j ++ [x] by rw [List.take_add_one, hx]; rfl)
    have HOX := Lib.hid (And.intro (List.all_eq_true.1 HO.out.2.2 x (List.mem_of_getElem? hx)) (List.all_eq_true.1 HMM.out.2 x (List.mem_of_getElem? hx)))
    have HLJ := Lib.hid (show (la ++ (l.take j).flatMap txB).length + 2000 < 140737488355328 by
     have h1 := flat_len txB 1300 (l.take j) (fun y hy => txB_len (List.all_eq_true.1 HO.out.2.2 y (List.mem_of_mem_take hy)) (List.all_eq_true.1 HMM.out.2 y (List.mem_of_mem_take hy)))
     have h2 := HMM.out.1; have h3 := HLL.out; have h4 := HS.out
     rw [List.length_take] at h1
     rw [List.length_append]
     omega)
    have HI5 := Lib.hid (HI.out.below ((Below.refl _ wr).alloc (Nat.le_refl _) (.cells #[.int .i64 x.f0, .int .i64 x.f1, .slice A2 x.f2.length c2, .slice A3 x.f3.length c3, .slice A4 x.f4.length c4, .slice A5 x.f5.length c5] 26)))
    have HB5 := Lib.hid (HB.out.alloc HB.out.size (.cells #[.int .i64 x.f0, .int .i64 x.f1, .slice A2 x.f2.length c2, .slice A3 x.f3.length c3, .slice A4 x.f4.length c4, .slice A5 x.f5.length c5] 26))
    have HK5 := Lib.hid (HKj.out.alloc (.cells #[.int .i64 x.f0, .int .i64 x.f1, .slice A2 x.f2.length c2, .slice A3 x.f3.length c3, .slice A4 x.f4.length c4, .slice A5 x.f5.length c5] 26))
    clear hx hAt hTC
    go_wp2_with fail
    refine (penTxn_is HI5.out HB5.out HP.out x HTC.out HOX.out.1 HOX.out.2 HLJ.out).mono ?_
    rintro e w6 ⟨rfl, h1, h2, h3⟩
    have H6 := Lib.hid h1; have HB6 := Lib.hid h2; have HK6 := Lib.hid (HK5.out.trans h3)
    clear h1 h2 h3 x0 x1 x2 x3 x4 x5
    go_wp2_with fail
    go_roundw
    case rel =>
     refine ⟨j + 1, by go_num, hlt, ?_, HB6.out, HK6.out⟩
     have h1 := H6.out
     rw [HX.out, List.flatMap_append, List.flatMap_cons, List.flatMap_nil, List.append_nil, ← List.append_assoc]
     exact h1
    case measure => simp [intOf]; omega
   ·have hjn : j = l.length := by omega
    have HF := Lib.hid (show IsPen wr w0.heap.size p (l0 ++ entB k f n l) by
     have := HI.out
     rw [hjn, List.take_length, ← HLA.out] at this
     unfold entB
     rw [if_neg HK0.out]
     simp only [List.append_assoc] at this ⊢
     exact this)
    clear hjn
    go_wp2_with fail
    go_end0
    exact ⟨rfl, HF.out, HB.out, HKj.out⟩
end Go.Proofs.YtgiefblcckikeaaGreat.M
end

section
/- record.Entry. -/
namespace Go.Proofs.YtgiefblcckikeaaGreat.M
open Go.RowKit Go.Proofs.YtgiefblcckikeaaGreatW.PrintWords Go.Proofs.YtgiefblcckikeaaGreatW.PrintLast Go.Proofs.YtgiefblcckikeaaGreatW.PrintMore Go.Proofs.YtgiefblcckikeaaGreat.G
def BytesP (w : World) (l : List Int) (x : Int) (e : Ending) (w' : World) : Prop := ∃ v0_ : Value, e = .returned (.tuple #[v0_, .int .i64 x]) ∧ Kd.R (Kd.int .u8) 5 w' w.heap.size (fun _ => True) v0_ l ∧ Below w.heap.size w w'
theorem fits_is {w0 w : World} {ok : Nat → Prop} {v : Value} {l : List Int} (hB : Below w0.heap.size w0 w) (hv : Kd.R (Kd.int .u8) 5 w w0.heap.size ok v l) :
  Calls Tryz.prog 48 #[v] w fun e w' => BytesP w0 (if 1048576 < l.length then [] else l) (if 1048576 < l.length then 3 else 0) e w' := by
 refine (G.record_fits.calls ok v l (if 1048576 < l.length then [] else l) (if 1048576 < l.length then 3 else 0) w0 w hB hv ?_).mono ?_
 ·unfold G.record_fits.f
  by_cases h : 1048576 < l.length
  ·rw [if_pos (by omega), if_pos h, if_pos h]
  ·rw [if_neg (by omega), if_neg h, if_neg h]
 ·rintro e w' ⟨v0, rfl, h1, h2, _⟩
  exact ⟨v0, rfl, Kd.R_mono h1 (fun _ _ => trivial), h2⟩
def entF (k f n : Int) (l : List TxD) : List Int × Int := if mayE k f n l = true then (if 1048576 < (entB k f n l).length then ([], 3) else (entB k f n l, 0)) else ([], 40)
set_option maxHeartbeats 1000000 in
theorem entry_is (k f n : Int) (A : Option Addr) (c : Nat) (l : List TxD) (w : World) (hr : Kd.C G.k26 w A l.length l) (ho : okE k f n l = true) :
  Calls Tryz.prog 18 #[.agg #[.int .i64 k, .int .i64 f, .int .i64 n, .slice A l.length c]] w fun e w' => BytesP w (entF k f n l).1 (entF k f n l).2 e w' := by
 have HO := Lib.hid ho
 have HB1 := Lib.hid (show Below w.heap.size w (w.alloc (.cells #[.int .i64 k, .int .i64 f, .int .i64 n, .slice A l.length c] 29)) from (Below.refl _ _).alloc (Nat.le_refl _) _)
 have HX1 := Lib.hid (show EnBox (w.alloc (.cells #[.int .i64 k, .int .i64 f, .int .i64 n, .slice A l.length c] 29)) w.heap.size k f n A l.length c from heap_alloc_new w _)
 have HR1 := Lib.hid (Kd.C_below hr HB1.out)
 have HR := Lib.hid hr
 clear hr ho
 go_enter Tryz.func18, Tryz.ntmps18
 go_wp2_with fail
 refine (mayEn_is k f n A c l _ HR1.out).mono ?_
 rintro e w2 ⟨rfl, hb⟩
 have HB2 := Lib.hid (below_then HB1.out hb); have HX2 := Lib.hid (HX1.out.below hb)
 clear hb
 cases hm : mayE k f n l with
 | false =>
  have HF := Lib.hid (show entF k f n l = ([], 40) by unfold entF; rw [if_neg (by rw [hm]; simp)])
  clear hm
  go_wp2_with fail
  go_ret2
  refine ⟨.slice none 0 0, by rw [HF.out]; rfl, by rw [HF.out]; exact Kd.R_nil _ _ _ _ _, HB2.out⟩
 | true =>
  have HM := Lib.hid hm
  have HF := Lib.hid (show entF k f n l = (if 1048576 < (entB k f n l).length then [] else entB k f n l, if 1048576 < (entB k f n l).length then 3 else 0) by
   unfold entF
   rw [if_pos hm]
   split <;> rfl)
  clear hm
  go_wp2_with fail
  refine (newPen_is none 0 [] w2 (Kd.C_nil _ _) (by simp) (by simp)).mono ?_
  rintro e w3 ⟨p, rfl, hI, hb⟩
  have HB3 := Lib.hid (below_then HB2.out hb); have HX3 := Lib.hid (HX2.out.below hb)
  have HI3 := Lib.hid (show IsPen w3 w.heap.size p [] by
   obtain ⟨A', c', h1, h2, h3, h4⟩ := hI
   have hz := HB2.out.size
   exact ⟨A', c', h1, by omega, h3, Kd.R_lower h4 hz⟩)
  obtain ⟨d0, d1, d2, d3, dz⟩ := HX3.out.cell
  clear hI hb
  go_wp2_with fail
  refine (penEntry_is HI3.out HB3.out HI3.out.ge k f n A c l HR.out HO.out HM.out (by simp)).mono ?_
  rintro e w4 ⟨rfl, h1, h2, h3⟩
  have HB4 := Lib.hid h2
  obtain ⟨A', c', hh, _, hc', hR⟩ := h1
  have HRR := Lib.hid hR
  rw [List.nil_append] at hh HRR
  obtain ⟨bs, hbs⟩ : ∃ bs, entB k f n l = bs := ⟨_, rfl⟩
  rw [hbs] at hh HRR HF
  have p0 : w4.cell? ⟨p, 0, none⟩ = some (.slice A' bs.length c') := by simp [World.cell?, hh]
  clear h2 h3 hh hc' hR hbs d0 d1 d2 d3 dz
  go_wp2_with fail
  refine (fits_is HB4.out HRR.out).mono ?_
  rintro e w5 ⟨v, rfl, hv, hb⟩
  have HV := Lib.hid hv; have HB5 := Lib.hid hb
  clear hv hb
  obtain ⟨q, hq⟩ : ∃ q : Int, (if 1048576 < bs.length then 3 else 0) = q := ⟨_, rfl⟩
  rw [hq] at HF ⊢
  clear hq
  go_wp2_with fail
  go_ret2
  exact ⟨v, by rw [HF.out]; rfl, by rw [HF.out]; exact HV.out, HB5.out⟩
end Go.Proofs.YtgiefblcckikeaaGreat.M
namespace Go.Proofs.YtgiefblcckikeaaGreat.G
open Go.RowKit Go.Proofs.YtgiefblcckikeaaGreatW.PrintWords Go.Proofs.YtgiefblcckikeaaGreat.M
def record_Entry.f (a0_0 a0_1 a0_2 : Int) (l0_3 : List S26) : Option (List Int × Int) := if okE a0_0 a0_1 a0_2 l0_3 = true then some (entF a0_0 a0_1 a0_2 l0_3) else none
theorem record_Entry.calls (a0_0 a0_1 a0_2 : Int) (A0_3 : Option Addr) (c0_3 : Nat) (l0_3 : List S26) (r1 : List Int) (r2 : Int) (w : World) (hr0_3 : Kd.C k26 w A0_3 l0_3.length l0_3) (hc0_3 : l0_3.length ≤ c0_3) (h : record_Entry.f a0_0 a0_1 a0_2 l0_3 = some (r1, r2)) :
  Calls Tryz.prog 18 #[.agg #[.int .i64 a0_0, .int .i64 a0_1, .int .i64 a0_2, .slice A0_3 l0_3.length c0_3]] w fun e w' => ∃ v0_ : Value, e = .returned (.tuple #[v0_, .int .i64 r2]) ∧ Kd.R (Kd.int .u8) 5 w' w.heap.size (fun _ => True) v0_ r1 ∧ Below w.heap.size w w' := by
 unfold record_Entry.f at h
 split at h
 ·rename_i ho
  have h := Option.some.inj h
  have := entry_is a0_0 a0_1 a0_2 A0_3 c0_3 l0_3 w hr0_3 ho
  rw [h] at this
  exact this
 ·cases h
end Go.Proofs.YtgiefblcckikeaaGreat.G
end

section
/- Entries' and transactions' bytes in plain Lean: from the front of them they are known. -/
namespace Go.Proofs.YtgiefblcckikeaaGreat.M
open Go.RowKit Go.Proofs.YtgiefblcckikeaaGreatW.PrintWords Go.Proofs.YtgiefblcckikeaaGreatW.PrintLast Go.Proofs.YtgiefblcckikeaaGreatW.PrintMore Go.Proofs.YtgiefblcckikeaaGreat.G
theorem bound_T (l : List TxD) : ∃ M, ∀ t ∈ l, mT t ≤ M := by
 induction l with
 | nil => exact ⟨0, fun t h => by cases h⟩
 | cons a l ih =>
  obtain ⟨M, hM⟩ := ih
  refine ⟨mT a + M, fun t h => ?_⟩
  rcases List.mem_cons.1 h with rfl | h
  ·omega
  ·have := hM t h; omega
end Go.Proofs.YtgiefblcckikeaaGreat.M
end

section
/- The arguments of law04's statements, opened. -/
namespace Go.Proofs.YtgiefblcckikeaaGreat.M
open Go.RowKit Go.Proofs.YtgiefblcckikeaaGreatW.PrintWords Go.Proofs.YtgiefblcckikeaaGreatW.PrintLast Go.Proofs.YtgiefblcckikeaaGreatW.PrintMore Go.Proofs.YtgiefblcckikeaaGreat.G
abbrev U8 (x : Int) : Prop := (Lit.int .u8 x).wf = true
abbrev LenP {α : Type} (ok : α → Prop) (l : List α) : Prop := l.length ≤ 9223372036854775807 ∧ ∀ x ∈ l, ok x
abbrev szN (l : List Int) : Nat := szL (fun _ : Int => 1) l
theorem opens_u8 : Opens Tryz.prog 5 (Kd.int .u8) U8 (fun _ => 1) := opens_int Tryz.underlying5 (by kernel_rfl)
theorem opens_bytes : Opens Tryz.prog 23 (Kd.slice 5 (Kd.int .u8)) (LenP U8) szN := opens_slice Tryz.underlying23 (by kernel_rfl) opens_u8
end Go.Proofs.YtgiefblcckikeaaGreat.M
end

section
/- Messages as Lean data. -/
namespace Go.Proofs.YtgiefblcckikeaaGreat.M
open Go.RowKit Go.Proofs.YtgiefblcckikeaaGreatW.PrintWords Go.Proofs.YtgiefblcckikeaaGreatW.PrintLast Go.Proofs.YtgiefblcckikeaaGreatW.PrintMore Go.Proofs.YtgiefblcckikeaaGreat.G
abbrev EntD := G.S29
abbrev TrD := G.S63
structure PartD where
 f0 : Int
 f1 : Int
 f2 : Int
 f3 : List Int
structure MsgD where
 f0 : Int
 f1 : Int
 f2 : Int
 f3 : Int
 f4 : Int
 f5 : Int
 f6 : Int
 f7 : Bool
 f8 : List TrD
 f9 : EntD
 f10 : PartD
def eqTr (a b : TrD) : Bool := a.f0 == b.f0 && eqEn a.f1.f0 a.f1.f1 a.f1.f2 a.f1.f3 b.f1.f0 b.f1.f1 b.f1.f2 b.f1.f3
def eqTrs : List TrD → List TrD → Bool
 | [], [] => true
 | a :: l, b :: m => eqTr a b && eqTrs l m
 | _, _ => false
theorem eqTrs_len : ∀ {a b : List TrD}, a.length ≠ b.length → eqTrs a b = false
 | [], [], h => absurd rfl h
 | [], _ :: _, _ => rfl
 | _ :: _, [], _ => rfl
 | _ :: _, _ :: _, h => by
  unfold eqTrs
  rw [eqTrs_len (by simpa using h), Bool.and_false]
theorem eqTrs_take {a b : List TrD} {i : Nat} {x y : TrD} (hx : a[i]? = some x) (hy : b[i]? = some y) : eqTrs (a.drop i) (b.drop i) = (eqTr x y && eqTrs (a.drop (i + 1)) (b.drop (i + 1))) := by
 rw [drop_cons hx, drop_cons hy]; rfl
def eqPt (a b : PartD) : Bool := a.f0 == b.f0 && (a.f1 == b.f1 && (a.f2 == b.f2 && eqS a.f3 b.f3))
def eqMs (m n : MsgD) : Bool := m.f0 == n.f0 && (m.f1 == n.f1 && (m.f2 == n.f2 && (m.f3 == n.f3 && (m.f4 == n.f4 && (m.f5 == n.f5 && (m.f6 == n.f6 && (m.f7 == n.f7 && (eqTrs m.f8 n.f8 && (eqEn m.f9.f0 m.f9.f1 m.f9.f2 m.f9.f3 n.f9.f0 n.f9.f1 n.f9.f2 n.f9.f3 && eqPt m.f10 n.f10)))))))))
abbrev msgCells (m : MsgD) (A8 : Option Addr) (c8 : Nat) (A12 : Option Addr) (c12 : Nat) (A16 : Option Addr) (c16 : Nat) : Array Value := #[.int .i64 m.f0, .int .i64 m.f1, .int .i64 m.f2, .int .i64 m.f3, .int .i64 m.f4, .int .i64 m.f5, .int .i64 m.f6, .bool m.f7, .slice A8 m.f8.length c8, .int .i64 m.f9.f0, .int .i64 m.f9.f1, .int .i64 m.f9.f2, .slice A12 m.f9.f3.length c12, .int .i64 m.f10.f0, .int .i64 m.f10.f1, .int .i64 m.f10.f2, .slice A16 m.f10.f3.length c16]
structure MsgC (w : World) (m : MsgD) (A8 : Option Addr) (c8 : Nat) (A12 : Option Addr) (c12 : Nat) (A16 : Option Addr) (c16 : Nat) : Prop where
 l8 : m.f8.length ≤ c8
 g8 : G.k63.C w A8 m.f8.length m.f8
 l12 : m.f9.f3.length ≤ c12
 g12 : G.k26.C w A12 m.f9.f3.length m.f9.f3
 l16 : m.f10.f3.length ≤ c16
 g16 : (Kd.int .u8).C w A16 m.f10.f3.length m.f10.f3
section
variable {w w' : World} {m : MsgD} {A8 A12 A16 : Option Addr} {c8 c12 c16 : Nat}
theorem MsgC.below (h : MsgC w m A8 c8 A12 c12 A16 c16) (hb : Below w.heap.size w w') : MsgC w' m A8 c8 A12 c12 A16 c16 :=
 ⟨h.l8, Kd.C_below h.g8 hb, h.l12, Kd.C_below h.g12 hb, h.l16, Kd.C_below h.g16 hb⟩
end
def MsBox (W : World) (b : Nat) (m : MsgD) (A8 : Option Addr) (c8 : Nat) (A12 : Option Addr) (c12 : Nat) (A16 : Option Addr) (c16 : Nat) : Prop := W.heap[b]? = some (.cells (msgCells m A8 c8 A12 c12 A16 c16) 34)
end Go.Proofs.YtgiefblcckikeaaGreat.M
end

section
/- A function that reads with a state at x into a struct variable g, its result's box being the first new one; what it has read stays. -/
namespace Go.Proofs.YtgiefblcckikeaaGreat.M
open Go.RowKit Go.Proofs.YtgiefblcckikeaaGreatW.PrintWords Go.Proofs.YtgiefblcckikeaaGreatW.PrintLast Go.Proofs.YtgiefblcckikeaaGreatW.PrintMore Go.Proofs.YtgiefblcckikeaaGreat.G
def Held (S : Nat → Prop) (W : World) (P : World → Prop) : Prop := ∀ W' : World, W.heap.size ≤ W'.heap.size → (∀ k, k < W.heap.size → ¬ S k → W'.heap[k]? = W.heap[k]?) → P W'
theorem Held.now {S : Nat → Prop} {W : World} {P : World → Prop} (h : Held S W P) : P W := h W (Nat.le_refl _) (fun _ _ _ => rfl)
theorem Held.step {S : Nat → Prop} {W W' : World} {P : World → Prop} (h : Held S W P) (hz : W.heap.size ≤ W'.heap.size) (hm : ∀ k, k < W.heap.size → ¬ S k → W'.heap[k]? = W.heap[k]?) : Held S W' P :=
 fun V hV hk => h V (Nat.le_trans hz hV) (fun k h1 h2 => (hk k (Nat.lt_of_lt_of_le h1 hz) h2).trans (hm k h1 h2))
theorem Held.keep {S S' : Nat → Prop} {W W' : World} {P : World → Prop} (h : Held S W P) (k : KeepS S' W W') (hs : ∀ i, S' i → S i) : Held S W' P := h.step k.size (fun i h1 h2 => k.block i h1 (fun e => h2 (hs i e)))
theorem Held.set {S : Nat → Prop} {W : World} {P : World → Prop} (h : Held S W P) (p : Addr) (hp : S p.block) (v : Value) : Held S (W.setCell p v) P :=
 h.step (by rw [World.size_setCell]; exact Nat.le_refl _) (fun k _ h2 => Below.heap_setCell W p v k (fun e => h2 (e ▸ hp)))
theorem Held.and {S : Nat → Prop} {W : World} {P Q : World → Prop} (h : Held S W P) (k : Held S W Q) : Held S W (fun V => P V ∧ Q V) := fun V h1 h2 => ⟨h V h1 h2, k V h1 h2⟩
theorem Held.true (S : Nat → Prop) (W : World) : Held S W (fun _ => True) := fun _ _ _ => trivial
abbrev Iv {α : Type} (d : Kd α) (e : Nat) (w : World) (lo hi : Nat) (v : Value) (l : List α) (W : World) : Prop := Kd.R d e W w.heap.size (fun k => lo ≤ k ∧ k < hi) v l
theorem Iv.of {α : Type} {d : Kd α} {e : Nat} {w W : World} {base : Nat} {ok : Nat → Prop} {v : Value} {l : List α} (h : Kd.R d e W base ok v l) (hb : w.heap.size ≤ base) : Iv d e w base W.heap.size v l W :=
 Kd.R_mono (Kd.R_lower (Kd.R_bound h) hb) (fun k hk => ⟨hk.2.1, hk.2.2.1⟩)
theorem Iv.held {α : Type} {d : Kd α} {e : Nat} {w W : World} {lo hi : Nat} {v : Value} {l : List α} {S : Nat → Prop} (h : Iv d e w lo hi v l W) (hS : ∀ k, S k → k < lo ∨ hi ≤ k) : Held S W (Iv d e w lo hi v l) :=
 fun V _ hk => Kd.R_step h (fun k h1 h2 => hk k h2 (fun e => by have := hS k e; omega))
abbrev Sv {α : Type} (d : Kd α) (e : Nat) (w : World) (lo hi : Nat) (v : Value) (l : List α) (W : World) : Prop := Kd.S d e W w.heap.size (fun k => lo ≤ k ∧ k < hi) v l
theorem Sv.of {α : Type} {d : Kd α} {e : Nat} {w W : World} {base : Nat} {ok : Nat → Prop} {v : Value} {l : List α} (h : Kd.S d e W base ok v l) (hb : w.heap.size ≤ base) : Sv d e w base W.heap.size v l W :=
 Kd.S_mono (Kd.S_lower (Kd.S_bound h) hb) (fun k hk => ⟨hk.2.1, hk.2.2.1⟩)
theorem Sv.held {α : Type} {d : Kd α} {e : Nat} {w W : World} {lo hi : Nat} {v : Value} {l : List α} {S : Nat → Prop} (h : Sv d e w lo hi v l W) (hS : ∀ k, S k → k < lo ∨ hi ≤ k) : Held S W (Sv d e w lo hi v l) :=
 fun V _ hk => Kd.S_step h (fun k h1 h2 => hk k h2 (fun e => by have := hS k e; omega))
structure Fr (I : World → EyeS → Prop) (w0 w : World) (x g T : Nat) (zs cs : Array Value) (s : EyeS) (P : World → Prop) (W : World) : Prop where
 g0 : W.heap[w.heap.size]? = some (.cells zs T)
 y : W.heap[g]? = some (.cells cs T)
 i : I W s
 d : Below w0.heap.size w0 W
 q : KeepS (fun i => i = x) w W
 hg : w.heap.size < g
 hz : g < W.heap.size
 hx : x < w.heap.size
 hw : w0.heap.size ≤ x
 h : Held (fun k => k = x ∨ k = w.heap.size ∨ k = g) W P
 at_ : ∀ (W W' : World) (s : EyeS), W'.heap[x]? = W.heap[x]? → I W s → I W' s
section
variable {I : World → EyeS → Prop} {w0 w W W' : World} {x g T : Nat} {zs cs : Array Value} {s s' : EyeS} {P Q : World → Prop}
theorem Fr.lt (h : Fr I w0 w x g T zs cs s P W) : w.heap.size < W.heap.size := Nat.lt_trans h.hg h.hz
theorem Fr.hxg (h : Fr I w0 w x g T zs cs s P W) : x < g := Nat.lt_trans h.hx h.hg
theorem Fr.call (h : Fr I w0 w x g T zs cs s P W) (i : I W' s') (d : Below w0.heap.size w0 W') (k : KeepS (fun i => i = x) W W') : Fr I w0 w x g T zs cs s' P W' :=
 ⟨(k.block _ h.lt (by have := h.hx; omega)).trans h.g0, (k.block _ h.hz (by have := h.hxg; omega)).trans h.y, i, d, h.q.trans k, h.hg, Nat.lt_of_lt_of_le h.hz k.size, h.hx, h.hw, h.h.keep k (fun _ e => .inl e), h.at_⟩
theorem Fr.and (h : Fr I w0 w x g T zs cs s P W) (k : Held (fun k => k = x ∨ k = w.heap.size ∨ k = g) W Q) : Fr I w0 w x g T zs cs s (fun V => P V ∧ Q V) W := ⟨h.g0, h.y, h.i, h.d, h.q, h.hg, h.hz, h.hx, h.hw, h.h.and k, h.at_⟩
theorem Fr.callR {α : Type} {d : Kd α} {e : Nat} {ok : Nat → Prop} {v : Value} {l : List α} (h : Fr I w0 w x g T zs cs s P W) (i : I W' s') (b : Below w0.heap.size w0 W') (k : KeepS (fun i => i = x) W W') (hv : Kd.R d e W' W.heap.size ok v l) :
  Fr I w0 w x g T zs cs s' (fun V => P V ∧ Iv d e w W.heap.size W'.heap.size v l V) W' :=
 (h.call i b k).and ((Iv.of hv (Nat.le_of_lt h.lt)).held (fun k hk => by have h1 := h.hx; have h2 := h.hg; have h3 := h.hz; rcases hk with rfl | rfl | rfl <;> omega))
theorem Fr.callS {α : Type} {d : Kd α} {e : Nat} {ok : Nat → Prop} {v : Value} {l : List α} (h : Fr I w0 w x g T zs cs s P W) (i : I W' s') (b : Below w0.heap.size w0 W') (k : KeepS (fun i => i = x) W W') (hv : Kd.S d e W' W.heap.size ok v l) :
  Fr I w0 w x g T zs cs s' (fun V => P V ∧ Sv d e w W.heap.size W'.heap.size v l V) W' :=
 (h.call i b k).and ((Sv.of hv (Nat.le_of_lt h.lt)).held (fun k hk => by have h1 := h.hx; have h2 := h.hg; have h3 := h.hz; rcases hk with rfl | rfl | rfl <;> omega))
theorem Fr.set (h : Fr I w0 w x g T zs cs s P W) (j : Nat) (v : Value) (cs' : Array Value) (hy : (W.setCell ⟨g, j, none⟩ v).heap[g]? = some (.cells cs' T)) : Fr I w0 w x g T zs cs' s P (W.setCell ⟨g, j, none⟩ v) := by
 have h1 := h.hg; have h2 := h.hx; have h3 := h.hw
 exact ⟨(Below.heap_setCell W ⟨g, j, none⟩ v w.heap.size (by show w.heap.size ≠ g; omega)).trans h.g0, hy, h.at_ _ _ _ (Below.heap_setCell W ⟨g, j, none⟩ v x (by show x ≠ g; omega)) h.i, h.d.setCell (p := ⟨g, j, none⟩) (by show w0.heap.size ≤ g; omega) v, h.q.set (p := ⟨g, j, none⟩) (.inr (by show w.heap.size ≤ g; omega)) v, h1, by rw [World.size_setCell]; exact h.hz, h2, h3, h.h.set ⟨g, j, none⟩ (.inr (.inr rfl)) v, h.at_⟩
theorem Fr.put (h : Fr I w0 w x g T zs cs s P W) (j : Nat) (v : Value) : Fr I w0 w x g T zs (cs.setIfInBounds j v) s P (W.setCell ⟨g, j, none⟩ v) := h.set j v _ (blk_put h.y j v rfl)
theorem Fr.drew (h : Fr I w0 w x g T zs cs s P W) : Fr I w0 w x g T zs cs s P W.drew := ⟨h.g0, h.y, h.at_ W W.drew s rfl h.i, h.d.drew, h.q.drew, h.hg, h.hz, h.hx, h.hw, h.h.step (Nat.le_refl _) (fun _ _ _ => rfl), h.at_⟩
theorem Fr.done (h : Fr I w0 w x g T zs cs s P W) (hk : KeepS (fun k => k = w.heap.size ∨ k = g) W W') : P W' ∧ I W' s ∧ Below w0.heap.size w0 W' ∧ KeepS (fun i => i = x) w W' := by
 have h1 := h.hg; have h2 := h.hx; have h3 := h.hw; have h4 := h.hz
 refine ⟨(h.h.keep hk (fun i e => by rcases e with e | e; exact .inr (.inl e); exact .inr (.inr e))).now, h.at_ _ _ _ (hk.block x (by omega) (by omega)) h.i, h.d.trans (hk.below (B := w0.heap.size) h.d.size (fun i e => by omega)), h.q.then_base (hk.below (B := w.heap.size) h.q.size (fun i e => by omega))⟩
theorem Iv.apart {α β : Type} {d : Kd α} {d' : Kd β} {e e' : Nat} {w W : World} {lo hi lo' hi' : Nat} {v v' : Value} {l : List α} {l' : List β} (h : Iv d e w lo hi v l W) (h' : Iv d' e' w lo' hi' v' l' W) (hh : hi ≤ lo' ∨ hi' ≤ lo) : Kd.R d e W w.heap.size (fun k => some k ≠ v'.ownBlock) v l :=
 Kd.R_mono h (fun k hk e => by have := h'.1 k e.symm; omega)
theorem Fr.grow {W1 : World} (h : Fr I w0 w x g T zs cs s P W) (h1 : Held (fun k => k = x ∨ k = w.heap.size ∨ k = g) W1 P) (hk : KeepS (fun k => k = x ∨ k = g) W1 W) (hg : g < W1.heap.size) (hb : Below W1.heap.size W W') : Fr I w0 w x g T zs cs s P W' := by
 have h2 := h.hg; have h3 := h.hx; have h4 := h.hw
 refine ⟨(hb.block _ (by omega)).trans h.g0, (hb.block _ hg).trans h.y, h.at_ _ _ _ (hb.block x (by omega)) h.i, h.d.trans (hb.mono (by omega)), h.q.then_base (hb.mono (by omega)), h2, Nat.lt_of_lt_of_le h.hz hb.size, h3, h4, ?_, h.at_⟩
 exact h1.step (Nat.le_trans hk.size hb.size) (fun k h5 h6 => (hb.block k h5).trans (hk.block k h5 (fun e => h6 (by rcases e with e | e; exact .inl e; exact .inr (.inr e)))))
end
end Go.Proofs.YtgiefblcckikeaaGreat.M
end

section
/- A function that turns its parameter's box g and answers it out of the result's box r; what it has made stays. -/
namespace Go.Proofs.YtgiefblcckikeaaGreat.M
open Go.RowKit Go.Proofs.YtgiefblcckikeaaGreatW.PrintWords Go.Proofs.YtgiefblcckikeaaGreatW.PrintLast Go.Proofs.YtgiefblcckikeaaGreatW.PrintMore Go.Proofs.YtgiefblcckikeaaGreat.G
structure Bx (w : World) (g r T : Nat) (zs cs : Array Value) (P : World → Prop) (W : World) : Prop where
 g0 : W.heap[r]? = some (.cells zs T)
 y : W.heap[g]? = some (.cells cs T)
 d : Below w.heap.size w W
 hr : w.heap.size ≤ r
 hg : w.heap.size ≤ g
 ne : r ≠ g
 hz : g < W.heap.size
 hz2 : r < W.heap.size
 h : Held (fun k => k = r ∨ k = g) W P
section
variable {w W W' : World} {g r T : Nat} {zs cs : Array Value} {P Q : World → Prop}
theorem Bx.below (h : Bx w g r T zs cs P W) (hb : Below W.heap.size W W') : Bx w g r T zs cs P W' :=
 ⟨(hb.block r h.hz2).trans h.g0, (hb.block g h.hz).trans h.y, h.d.trans (hb.mono h.d.size), h.hr, h.hg, h.ne, Nat.lt_of_lt_of_le h.hz hb.size, Nat.lt_of_lt_of_le h.hz2 hb.size, h.h.step hb.size (fun k h1 _ => hb.block k h1)⟩
theorem Bx.drew (h : Bx w g r T zs cs P W) : Bx w g r T zs cs P W.drew := ⟨h.g0, h.y, h.d.drew, h.hr, h.hg, h.ne, h.hz, h.hz2, h.h.step (Nat.le_refl _) (fun _ _ _ => rfl)⟩
theorem Bx.and (h : Bx w g r T zs cs P W) (k : Held (fun k => k = r ∨ k = g) W Q) : Bx w g r T zs cs (fun V => P V ∧ Q V) W := ⟨h.g0, h.y, h.d, h.hr, h.hg, h.ne, h.hz, h.hz2, h.h.and k⟩
theorem Bx.lt (h : Bx w g r T zs cs P W) : w.heap.size ≤ W.heap.size := h.d.size
theorem Bx.callR {α : Type} {d : Kd α} {e : Nat} {ok : Nat → Prop} {v : Value} {l : List α} (h : Bx w g r T zs cs P W) (b : Below W.heap.size W W') (hv : Kd.R d e W' W.heap.size ok v l) :
  Bx w g r T zs cs (fun V => P V ∧ Iv d e w W.heap.size W'.heap.size v l V) W' :=
 (h.below b).and ((Iv.of hv h.lt).held (fun k hk => by have h1 := h.hz; have h2 := h.hz2; rcases hk with rfl | rfl <;> omega))
theorem Bx.callS {α : Type} {d : Kd α} {e : Nat} {ok : Nat → Prop} {v : Value} {l : List α} (h : Bx w g r T zs cs P W) (b : Below W.heap.size W W') (hv : Kd.S d e W' W.heap.size ok v l) :
  Bx w g r T zs cs (fun V => P V ∧ Sv d e w W.heap.size W'.heap.size v l V) W' :=
 (h.below b).and ((Sv.of hv h.lt).held (fun k hk => by have h1 := h.hz; have h2 := h.hz2; rcases hk with rfl | rfl <;> omega))
theorem Bx.set (h : Bx w g r T zs cs P W) (j : Nat) (v : Value) (cs' : Array Value) (hy : (W.setCell ⟨g, j, none⟩ v).heap[g]? = some (.cells cs' T)) : Bx w g r T zs cs' P (W.setCell ⟨g, j, none⟩ v) :=
 ⟨(Below.heap_setCell W ⟨g, j, none⟩ v r h.ne).trans h.g0, hy, h.d.setCell (p := ⟨g, j, none⟩) h.hg v, h.hr, h.hg, h.ne, by rw [World.size_setCell]; exact h.hz, by rw [World.size_setCell]; exact h.hz2, h.h.set ⟨g, j, none⟩ (.inr rfl) v⟩
theorem Bx.put (h : Bx w g r T zs cs P W) (j : Nat) (v : Value) : Bx w g r T zs (cs.setIfInBounds j v) P (W.setCell ⟨g, j, none⟩ v) := h.set j v _ (blk_put h.y j v rfl)
theorem Bx.done (h : Bx w g r T zs cs P W) (hk : KeepS (fun k => k = r ∨ k = g) W W') : P W' ∧ Below w.heap.size w W' := by
 have h1 := h.hg; have h2 := h.hr; have h3 := h.lt
 exact ⟨(h.h.keep hk (fun _ e => e)).now, h.d.trans (hk.below (B := w.heap.size) h3 (fun i e => by omega))⟩
end
theorem Bx.start (w : World) (T : Nat) (zs cs : Array Value) : Bx w w.heap.size (w.heap.size + 1) T zs cs (fun _ => True) ((w.alloc (.cells cs T)).alloc (.cells zs T)) := by
 have hz1 : (w.alloc (.cells cs T)).heap.size = w.heap.size + 1 := by simp
 have hz2 : ((w.alloc (.cells cs T)).alloc (.cells zs T)).heap.size = w.heap.size + 1 + 1 := by simp
 have hy := heap_alloc_new (w.alloc (.cells cs T)) (.cells zs T)
 rw [hz1] at hy
 exact ⟨hy, (((Below.refl _ (w.alloc (.cells cs T))).alloc (Nat.le_refl _) _).block w.heap.size (by omega)).trans (heap_alloc_new w _), ((Below.refl _ _).alloc (Nat.le_refl _) _).alloc (by simp) _, by omega, Nat.le_refl _, by omega, by omega, by omega, Held.true _ _⟩
end Go.Proofs.YtgiefblcckikeaaGreat.M
end

section
-- Written by a program of this session's (wip/gprint.py over the kit's printer).
namespace Go.Proofs.YtgiefblcckikeaaGreat.G
open Go.RowKit Go.Proofs.YtgiefblcckikeaaGreatW.PrintWords Go.Proofs.YtgiefblcckikeaaGreatW.PrintLast Go.Proofs.YtgiefblcckikeaaGreatW.PrintMore
attribute [local go_sem] max2_int min2_int max_two min_two max_three min_three max_four min_four   -- for this text's walks alone
def trivetref04_MayPart.f (a0_0 : Int) (a0_1 : Int) (a0_2 : Int) (l0_3 : List Int) : Option (Bool) := (trivetref04_count.f a0_0).bind fun t259 => (if t259 = true then (if a0_2 ≥ 1 then (if a0_2 ≤ 4096 then (if a0_1 ≥ 0 then (if a0_1 < a0_2 then (some (decide ((l0_3.length : Int) ≤ 16384))) else (some false)) else (some false)) else (some false)) else (some false)) else (some false))
set_option maxHeartbeats 8000000 in
set_option maxRecDepth 100000 in
theorem trivetref04_MayPart.calls (a0_0 : Int) (a0_1 : Int) (a0_2 : Int) (A0_3 : Option Addr) (c0_3 : Nat) (l0_3 : List Int) (r : Bool) (w : World) (hr0_3 : Kd.C (Kd.int .u8) w A0_3 l0_3.length l0_3) (hc0_3 : l0_3.length ≤ c0_3) (h : trivetref04_MayPart.f a0_0 a0_1 a0_2 l0_3 = some r) :
  Calls Tryz.prog 70 #[.agg #[.int .i64 a0_0, .int .i64 a0_1, .int .i64 a0_2, .slice A0_3 l0_3.length c0_3]] w fun e w' => e = .returned (.bool r) ∧ Below w.heap.size w w' := by
 have hu32 := Tryz.underlying32
 have HR0_3 := Aside0.mk hr0_3
 have HC0_3 := Aside0.mk hc0_3
 clear hr0_3 hc0_3
 have HB := Aside0.mk (Below.refl w.heap.size w)
 have H : ((trivetref04_count.f a0_0).bind fun t259 => (if t259 = true then (if a0_2 ≥ 1 then (if a0_2 ≤ 4096 then (if a0_1 ≥ 0 then (if a0_1 < a0_2 then (some (decide ((l0_3.length : Int) ≤ 16384))) else (some false)) else (some false)) else (some false)) else (some false)) else (some false))) = some r := h
 clear h
 replace H := Option.bind_eq_some_iff.mp H
 obtain ⟨t259, A20, H⟩ := H
 replace H : (if t259 = true then (if a0_2 ≥ 1 then (if a0_2 ≤ 4096 then (if a0_1 ≥ 0 then (if a0_1 < a0_2 then (some (decide ((l0_3.length : Int) ≤ 16384))) else (some false)) else (some false)) else (some false)) else (some false)) else (some false)) = some r := H
 have A2 := Aside0.mk A20
 clear A20
 by_cases c3 : t259 = true
 ·subst c3
  have H1 : (if a0_2 ≥ 1 then (if a0_2 ≤ 4096 then (if a0_1 ≥ 0 then (if a0_1 < a0_2 then (some (decide ((l0_3.length : Int) ≤ 16384))) else (some false)) else (some false)) else (some false)) else (some false)) = some r := by rw [if_pos rfl] at H; exact H
  clear H
  have H := H1
  clear H1
  by_cases c4 : a0_2 ≥ 1
  ·rw [if_pos c4] at H
   have c4b0 : decide (1 ≤ a0_2) = true := decide_eq_true c4
   clear c4
   by_cases c5 : a0_2 ≤ 4096
   ·rw [if_pos c5] at H
    have c5b0 : decide (a0_2 ≤ 4096) = true := decide_eq_true c5
    clear c5
    by_cases c6 : a0_1 ≥ 0
    ·rw [if_pos c6] at H
     have c6b0 : decide (0 ≤ a0_1) = true := decide_eq_true c6
     clear c6
     by_cases c7 : a0_1 < a0_2
     ·rw [if_pos c7] at H
      have c7b0 : decide (a0_1 < a0_2) = true := decide_eq_true c7
      clear c7
      obtain rfl := Option.some.inj H
      go_enter Tryz.func70, Tryz.ntmps70
      go_wp2_with (first | ((with_reducible refine gate_dst (N := 1) rfl ?_); (try (refine gate_guard (by rfl) ?_; dsimp only)); refine box_event ?hg (N := 1) ?hd (cs := #[.int .i64 a0_0, .int .i64 a0_1, .int .i64 a0_2, .slice A0_3 l0_3.length c0_3]) (t := 32) ?hr ?_; (case hd => rfl); (case hg => rfl); (case hr => first | (go_simp; done) | (go_simp; rfl)); intro gb258 hg w8 hbox hb; have n0_ := Aside0.mk (below_step (stB HB.out) hb); have n1_ := Aside0.mk (hbox); have n2_ := Aside0.mk ((by rw [hg]; exact (below_size (stB HB.out)) : w.heap.size ≤ gb258)); have n3_ := Aside0.mk ((by rw [hg]; exact (below_size (stB HB.out)) : w.heap.size ≤ gb258)); clear HB; have HB := n0_; have BK258 := n1_; have GW258 := n2_; have GE258 := n3_; clear n0_ n1_ n2_ n3_; clear hb hbox hg; obtain ⟨hcz9_0, hcz9_1, hcz9_2, hcz9_3⟩ := bc4 BK258.out; obtain ⟨hfz9_0, hfz9_1, hfz9_2, hfz9_3⟩ := bf4 BK258.out) | ((with_reducible refine gate_callee (f := 67) rfl ?_); refine goesL_ (some 5) rfl rfl Tryz.func67 (by kernel_rfl) rfl #[.int .i64 a0_0] rfl (by (try simp only [List.map_toArray, List.map_cons, List.map_nil]); first | done | rfl | (simp only [List.length_drop, List.length_take]; rfl)) ?_; (with_reducible refine (trivetref04_count.calls a0_0 true _ A2.out).mono ?_); rintro e w' ⟨rfl, ⟨nd, rfl⟩⟩; refine ⟨_, rfl, ?_⟩))
      go_ret
      exact ⟨by first | rfl | (simp [errW_none, errW_some] <;> rfl) | (simp [*, errW_none, errW_some] <;> rfl), by repeat (first | (with_reducible first | exact HB.out | apply below_alloc | apply pw_below_drewN | apply below_drew1 | refine below_set ?_ GE258.out) | exact HB.out)⟩
     ·rw [if_neg c7] at H
      have c7b0 : decide (a0_1 < a0_2) = false := decide_eq_false c7
      clear c7
      obtain rfl := Option.some.inj H
      go_enter Tryz.func70, Tryz.ntmps70
      go_wp2_with (first | ((with_reducible refine gate_dst (N := 1) rfl ?_); (try (refine gate_guard (by rfl) ?_; dsimp only)); refine box_event ?hg (N := 1) ?hd (cs := #[.int .i64 a0_0, .int .i64 a0_1, .int .i64 a0_2, .slice A0_3 l0_3.length c0_3]) (t := 32) ?hr ?_; (case hd => rfl); (case hg => rfl); (case hr => first | (go_simp; done) | (go_simp; rfl)); intro gb258 hg w10 hbox hb; have n0_ := Aside0.mk (below_step (stB HB.out) hb); have n1_ := Aside0.mk (hbox); have n2_ := Aside0.mk ((by rw [hg]; exact (below_size (stB HB.out)) : w.heap.size ≤ gb258)); have n3_ := Aside0.mk ((by rw [hg]; exact (below_size (stB HB.out)) : w.heap.size ≤ gb258)); clear HB; have HB := n0_; have BK258 := n1_; have GW258 := n2_; have GE258 := n3_; clear n0_ n1_ n2_ n3_; clear hb hbox hg; obtain ⟨hcz11_0, hcz11_1, hcz11_2, hcz11_3⟩ := bc4 BK258.out; obtain ⟨hfz11_0, hfz11_1, hfz11_2, hfz11_3⟩ := bf4 BK258.out) | ((with_reducible refine gate_callee (f := 67) rfl ?_); refine goesL_ (some 5) rfl rfl Tryz.func67 (by kernel_rfl) rfl #[.int .i64 a0_0] rfl (by (try simp only [List.map_toArray, List.map_cons, List.map_nil]); first | done | rfl | (simp only [List.length_drop, List.length_take]; rfl)) ?_; (with_reducible refine (trivetref04_count.calls a0_0 true _ A2.out).mono ?_); rintro e w' ⟨rfl, ⟨nd, rfl⟩⟩; refine ⟨_, rfl, ?_⟩))
      go_ret
      exact ⟨by first | rfl | (simp [errW_none, errW_some] <;> rfl) | (simp [*, errW_none, errW_some] <;> rfl), by repeat (first | (with_reducible first | exact HB.out | apply below_alloc | apply pw_below_drewN | apply below_drew1 | refine below_set ?_ GE258.out) | exact HB.out)⟩
    ·rw [if_neg c6] at H
     have c6b0 : decide (0 ≤ a0_1) = false := decide_eq_false c6
     clear c6
     obtain rfl := Option.some.inj H
     go_enter Tryz.func70, Tryz.ntmps70
     go_wp2_with (first | ((with_reducible refine gate_dst (N := 1) rfl ?_); (try (refine gate_guard (by rfl) ?_; dsimp only)); refine box_event ?hg (N := 1) ?hd (cs := #[.int .i64 a0_0, .int .i64 a0_1, .int .i64 a0_2, .slice A0_3 l0_3.length c0_3]) (t := 32) ?hr ?_; (case hd => rfl); (case hg => rfl); (case hr => first | (go_simp; done) | (go_simp; rfl)); intro gb258 hg w12 hbox hb; have n0_ := Aside0.mk (below_step (stB HB.out) hb); have n1_ := Aside0.mk (hbox); have n2_ := Aside0.mk ((by rw [hg]; exact (below_size (stB HB.out)) : w.heap.size ≤ gb258)); have n3_ := Aside0.mk ((by rw [hg]; exact (below_size (stB HB.out)) : w.heap.size ≤ gb258)); clear HB; have HB := n0_; have BK258 := n1_; have GW258 := n2_; have GE258 := n3_; clear n0_ n1_ n2_ n3_; clear hb hbox hg; obtain ⟨hcz13_0, hcz13_1, hcz13_2, hcz13_3⟩ := bc4 BK258.out; obtain ⟨hfz13_0, hfz13_1, hfz13_2, hfz13_3⟩ := bf4 BK258.out) | ((with_reducible refine gate_callee (f := 67) rfl ?_); refine goesL_ (some 5) rfl rfl Tryz.func67 (by kernel_rfl) rfl #[.int .i64 a0_0] rfl (by (try simp only [List.map_toArray, List.map_cons, List.map_nil]); first | done | rfl | (simp only [List.length_drop, List.length_take]; rfl)) ?_; (with_reducible refine (trivetref04_count.calls a0_0 true _ A2.out).mono ?_); rintro e w' ⟨rfl, ⟨nd, rfl⟩⟩; refine ⟨_, rfl, ?_⟩))
     go_ret
     exact ⟨by first | rfl | (simp [errW_none, errW_some] <;> rfl) | (simp [*, errW_none, errW_some] <;> rfl), by repeat (first | (with_reducible first | exact HB.out | apply below_alloc | apply pw_below_drewN | apply below_drew1 | refine below_set ?_ GE258.out) | exact HB.out)⟩
   ·rw [if_neg c5] at H
    have c5b0 : decide (a0_2 ≤ 4096) = false := decide_eq_false c5
    clear c5
    obtain rfl := Option.some.inj H
    go_enter Tryz.func70, Tryz.ntmps70
    go_wp2_with (first | ((with_reducible refine gate_dst (N := 1) rfl ?_); (try (refine gate_guard (by rfl) ?_; dsimp only)); refine box_event ?hg (N := 1) ?hd (cs := #[.int .i64 a0_0, .int .i64 a0_1, .int .i64 a0_2, .slice A0_3 l0_3.length c0_3]) (t := 32) ?hr ?_; (case hd => rfl); (case hg => rfl); (case hr => first | (go_simp; done) | (go_simp; rfl)); intro gb258 hg w14 hbox hb; have n0_ := Aside0.mk (below_step (stB HB.out) hb); have n1_ := Aside0.mk (hbox); have n2_ := Aside0.mk ((by rw [hg]; exact (below_size (stB HB.out)) : w.heap.size ≤ gb258)); have n3_ := Aside0.mk ((by rw [hg]; exact (below_size (stB HB.out)) : w.heap.size ≤ gb258)); clear HB; have HB := n0_; have BK258 := n1_; have GW258 := n2_; have GE258 := n3_; clear n0_ n1_ n2_ n3_; clear hb hbox hg; obtain ⟨hcz15_0, hcz15_1, hcz15_2, hcz15_3⟩ := bc4 BK258.out; obtain ⟨hfz15_0, hfz15_1, hfz15_2, hfz15_3⟩ := bf4 BK258.out) | ((with_reducible refine gate_callee (f := 67) rfl ?_); refine goesL_ (some 5) rfl rfl Tryz.func67 (by kernel_rfl) rfl #[.int .i64 a0_0] rfl (by (try simp only [List.map_toArray, List.map_cons, List.map_nil]); first | done | rfl | (simp only [List.length_drop, List.length_take]; rfl)) ?_; (with_reducible refine (trivetref04_count.calls a0_0 true _ A2.out).mono ?_); rintro e w' ⟨rfl, ⟨nd, rfl⟩⟩; refine ⟨_, rfl, ?_⟩))
    go_ret
    exact ⟨by first | rfl | (simp [errW_none, errW_some] <;> rfl) | (simp [*, errW_none, errW_some] <;> rfl), by repeat (first | (with_reducible first | exact HB.out | apply below_alloc | apply pw_below_drewN | apply below_drew1 | refine below_set ?_ GE258.out) | exact HB.out)⟩
  ·rw [if_neg c4] at H
   have c4b0 : decide (1 ≤ a0_2) = false := decide_eq_false c4
   clear c4
   obtain rfl := Option.some.inj H
   go_enter Tryz.func70, Tryz.ntmps70
   go_wp2_with (first | ((with_reducible refine gate_dst (N := 1) rfl ?_); (try (refine gate_guard (by rfl) ?_; dsimp only)); refine box_event ?hg (N := 1) ?hd (cs := #[.int .i64 a0_0, .int .i64 a0_1, .int .i64 a0_2, .slice A0_3 l0_3.length c0_3]) (t := 32) ?hr ?_; (case hd => rfl); (case hg => rfl); (case hr => first | (go_simp; done) | (go_simp; rfl)); intro gb258 hg w16 hbox hb; have n0_ := Aside0.mk (below_step (stB HB.out) hb); have n1_ := Aside0.mk (hbox); have n2_ := Aside0.mk ((by rw [hg]; exact (below_size (stB HB.out)) : w.heap.size ≤ gb258)); have n3_ := Aside0.mk ((by rw [hg]; exact (below_size (stB HB.out)) : w.heap.size ≤ gb258)); clear HB; have HB := n0_; have BK258 := n1_; have GW258 := n2_; have GE258 := n3_; clear n0_ n1_ n2_ n3_; clear hb hbox hg; obtain ⟨hcz17_0, hcz17_1, hcz17_2, hcz17_3⟩ := bc4 BK258.out; obtain ⟨hfz17_0, hfz17_1, hfz17_2, hfz17_3⟩ := bf4 BK258.out) | ((with_reducible refine gate_callee (f := 67) rfl ?_); refine goesL_ (some 5) rfl rfl Tryz.func67 (by kernel_rfl) rfl #[.int .i64 a0_0] rfl (by (try simp only [List.map_toArray, List.map_cons, List.map_nil]); first | done | rfl | (simp only [List.length_drop, List.length_take]; rfl)) ?_; (with_reducible refine (trivetref04_count.calls a0_0 true _ A2.out).mono ?_); rintro e w' ⟨rfl, ⟨nd, rfl⟩⟩; refine ⟨_, rfl, ?_⟩))
   go_ret
   exact ⟨by first | rfl | (simp [errW_none, errW_some] <;> rfl) | (simp [*, errW_none, errW_some] <;> rfl), by repeat (first | (with_reducible first | exact HB.out | apply below_alloc | apply pw_below_drewN | apply below_drew1 | refine below_set ?_ GE258.out) | exact HB.out)⟩
 ·replace c3 := Bool.eq_false_iff.mpr c3
  subst c3
  have H1 : (some false) = some r := by rw [if_neg (show ¬ (false = true) by decide)] at H; exact H
  clear H
  have H := H1
  clear H1
  obtain rfl := Option.some.inj H
  go_enter Tryz.func70, Tryz.ntmps70
  go_wp2_with (first | ((with_reducible refine gate_dst (N := 1) rfl ?_); (try (refine gate_guard (by rfl) ?_; dsimp only)); refine box_event ?hg (N := 1) ?hd (cs := #[.int .i64 a0_0, .int .i64 a0_1, .int .i64 a0_2, .slice A0_3 l0_3.length c0_3]) (t := 32) ?hr ?_; (case hd => rfl); (case hg => rfl); (case hr => first | (go_simp; done) | (go_simp; rfl)); intro gb258 hg w18 hbox hb; have n0_ := Aside0.mk (below_step (stB HB.out) hb); have n1_ := Aside0.mk (hbox); have n2_ := Aside0.mk ((by rw [hg]; exact (below_size (stB HB.out)) : w.heap.size ≤ gb258)); have n3_ := Aside0.mk ((by rw [hg]; exact (below_size (stB HB.out)) : w.heap.size ≤ gb258)); clear HB; have HB := n0_; have BK258 := n1_; have GW258 := n2_; have GE258 := n3_; clear n0_ n1_ n2_ n3_; clear hb hbox hg; obtain ⟨hcz19_0, hcz19_1, hcz19_2, hcz19_3⟩ := bc4 BK258.out; obtain ⟨hfz19_0, hfz19_1, hfz19_2, hfz19_3⟩ := bf4 BK258.out) | ((with_reducible refine gate_callee (f := 67) rfl ?_); refine goesL_ (some 5) rfl rfl Tryz.func67 (by kernel_rfl) rfl #[.int .i64 a0_0] rfl (by (try simp only [List.map_toArray, List.map_cons, List.map_nil]); first | done | rfl | (simp only [List.length_drop, List.length_take]; rfl)) ?_; (with_reducible refine (trivetref04_count.calls a0_0 false _ A2.out).mono ?_); rintro e w' ⟨rfl, ⟨nd, rfl⟩⟩; refine ⟨_, rfl, ?_⟩))
  go_ret
  exact ⟨by first | rfl | (simp [errW_none, errW_some] <;> rfl) | (simp [*, errW_none, errW_some] <;> rfl), by repeat (first | (with_reducible first | exact HB.out | apply below_alloc | apply pw_below_drewN | apply below_drew1 | refine below_set ?_ GE258.out) | exact HB.out)⟩
end Go.Proofs.YtgiefblcckikeaaGreat.G
end

section
/- What trivet/trivetref01's Num and Put come to, in plain Lean. -/
namespace Go.Proofs.YtgiefblcckikeaaGreat.M
open Go.RowKit Go.Proofs.YtgiefblcckikeaaGreatW.PrintWords Go.Proofs.YtgiefblcckikeaaGreatW.PrintLast Go.Proofs.YtgiefblcckikeaaGreatW.PrintMore Go.Proofs.YtgiefblcckikeaaGreat.G
end Go.Proofs.YtgiefblcckikeaaGreat.M
end

section
-- Written by a program of this session's (wip/gprint.py over the kit's printer).
namespace Go.Proofs.YtgiefblcckikeaaGreat.G
open Go.RowKit Go.Proofs.YtgiefblcckikeaaGreatW.PrintWords Go.Proofs.YtgiefblcckikeaaGreatW.PrintLast Go.Proofs.YtgiefblcckikeaaGreatW.PrintMore
attribute [local go_sem] max2_int min2_int max_two min_two max_three min_three max_four min_four   -- for this text's walks alone
end Go.Proofs.YtgiefblcckikeaaGreat.G
end

section
-- Written by a program of this session's (wip/gprint.py over the kit's printer).
namespace Go.Proofs.YtgiefblcckikeaaGreat.G
open Go.RowKit Go.Proofs.YtgiefblcckikeaaGreatW.PrintWords Go.Proofs.YtgiefblcckikeaaGreatW.PrintLast Go.Proofs.YtgiefblcckikeaaGreatW.PrintMore
attribute [local go_sem] max2_int min2_int max_two min_two max_three min_three max_four min_four   -- for this text's walks alone
end Go.Proofs.YtgiefblcckikeaaGreat.G
end

section
/- A transaction's form. -/
namespace Go.Proofs.YtgiefblcckikeaaGreat.M
open Go.RowKit Go.Proofs.YtgiefblcckikeaaGreatW.PrintWords Go.Proofs.YtgiefblcckikeaaGreatW.PrintLast Go.Proofs.YtgiefblcckikeaaGreatW.PrintMore Go.Proofs.YtgiefblcckikeaaGreat.G
end Go.Proofs.YtgiefblcckikeaaGreat.M
end

section
/- The reference's functions over transactions, as this session's words say them. -/
namespace Go.Proofs.YtgiefblcckikeaaGreat.M
open Go.RowKit Go.Proofs.YtgiefblcckikeaaGreatW.PrintWords Go.Proofs.YtgiefblcckikeaaGreatW.PrintLast Go.Proofs.YtgiefblcckikeaaGreatW.PrintMore Go.Proofs.YtgiefblcckikeaaGreat.G
theorem TxC.ls {w : World} {t : TxD} {A2 A3 A4 A5 : Option Addr} {c2 c3 c4 c5 : Nat} (h : TxC w t A2 c2 A3 c3 A4 c4 A5 c5) : TxLs t := ⟨Kd.C_max h.g2, Kd.C_max h.g3, Kd.C_max h.g4, Kd.C_max h.g5⟩
theorem bEqual_is {w : World} (A : Option Addr) (c : Nat) (a : List Int) (B : Option Addr) (d : Nat) (b : List Int) (ha : Kd.C (Kd.int .u8) w A a.length a) (hc : a.length ≤ c) (hb : Kd.C (Kd.int .u8) w B b.length b) (hd : b.length ≤ d) :
  Calls Tryz.prog 22 #[.slice A a.length c, .slice B b.length d] w fun e w' => e = .returned (.bool (eqS a b)) ∧ Below w.heap.size w w' :=
 (G.bytes_Equal.calls A c a B d b (eqS a b) w ha hc hb hd rfl).mono (fun e w' ⟨h1, n, h2⟩ => ⟨h1, by subst h2; exact pw_below_drewN (Below.refl _ _) n⟩)
theorem eqS_refl (a : List Int) : eqS a a = true := by unfold eqS; simp
end Go.Proofs.YtgiefblcckikeaaGreat.M
end

section
/- Which messages are the same: record.SameMsg, the reference's SameMsg (printed by gensame04.py). -/
attribute [local irreducible] Go.wpStill
namespace Go.Proofs.YtgiefblcckikeaaGreat.M
open Go.RowKit Go.Proofs.YtgiefblcckikeaaGreatW.PrintWords Go.Proofs.YtgiefblcckikeaaGreatW.PrintLast Go.Proofs.YtgiefblcckikeaaGreatW.PrintMore Go.Proofs.YtgiefblcckikeaaGreat.G
theorem tr_get {w : World} {A : Option Addr} {n : Nat} {l : List TrD} (h : Kd.C G.k63 w A n l) {k : Nat} {x : TrD} (hk : l[k]? = some x) :
  ∃ ad A4 c4, A = some ad ∧ w.cell? (ad.add (k * 5)) = some (.int .i64 x.f0) ∧ w.cell? ⟨(ad.add (k * 5)).block, (ad.add (k * 5)).off + 1, none⟩ = some (.int .i64 x.f1.f0) ∧ w.cell? ⟨(ad.add (k * 5)).block, (ad.add (k * 5)).off + 2, none⟩ = some (.int .i64 x.f1.f1) ∧ w.cell? ⟨(ad.add (k * 5)).block, (ad.add (k * 5)).off + 3, none⟩ = some (.int .i64 x.f1.f2) ∧ w.cell? ⟨(ad.add (k * 5)).block, (ad.add (k * 5)).off + 4, none⟩ = some (.slice A4 x.f1.f3.length c4) ∧ x.f1.f3.length ≤ c4 ∧ G.k26.C w A4 x.f1.f3.length x.f1.f3 := by
 have hlt : k < n := by
  have := (List.getElem?_eq_some_iff.1 hk).1
  have := h.1
  omega
 obtain ⟨ad, A4, c4, rfl, h0, h1, h2, h3, h4, l4, g4⟩ := G.at_T63 h (k : Int) (by omega) (by omega)
 have e : G.rd_T63 l (k : Int) = x := by unfold G.rd_T63; rw [Int.toNat_natCast, List.getD_eq_getElem?_getD, hk]; rfl
 rw [e] at h0 h1 h2 h3 h4 l4 g4
 rw [Int.toNat_natCast] at h0 h1 h2 h3 h4
 exact ⟨ad, A4, c4, rfl, h0, h1, h2, h3, h4, l4, g4⟩
theorem refSameEn_is (k f n : Int) (A : Option Addr) (c : Nat) (l : List TxD) (k' f' n' : Int) (A' : Option Addr) (c' : Nat) (l' : List TxD) (w : World) (ha : Kd.C G.k26 w A l.length l) (hc : l.length ≤ c) (hb : Kd.C G.k26 w A' l'.length l') (hc' : l'.length ≤ c') :
  Calls Tryz.prog 27 #[.agg #[.int .i64 k, .int .i64 f, .int .i64 n, .slice A l.length c], .agg #[.int .i64 k', .int .i64 f', .int .i64 n', .slice A' l'.length c']] w fun e w' => e = .returned (.bool (eqEn k f n l k' f' n' l')) ∧ Below w.heap.size w w' := by
 obtain ⟨M, hM⟩ := bound_T l
 refine G.trivetref04_SameEntry.calls (M + l.length + 3) k f n A c l k' f' n' A' c' l' _ w ha hc hb hc' (sameEn_r _ k f n l k' f' n' l' (fun t ht => by have := hM t ht; omega) (by omega) ha.2.1 (fun t ht => ?_))
 obtain ⟨i, hi⟩ := List.getElem?_of_mem ht
 obtain ⟨ad, A2, c2, A3, c3, A4, c4, A5, c5, _, _, hX⟩ := tx_get ha hi
 exact hX.le
set_option maxHeartbeats 1000000 in
theorem sameTr1_is {w : World} (a b : TrD) {A B : Option Addr} {c d : Nat} (hc : a.f1.f3.length ≤ c) (ha : Kd.C G.k26 w A a.f1.f3.length a.f1.f3) (hd : b.f1.f3.length ≤ d) (hb : Kd.C G.k26 w B b.f1.f3.length b.f1.f3) :
  Calls Tryz.prog 145 #[.agg #[.int .i64 a.f0, .int .i64 a.f1.f0, .int .i64 a.f1.f1, .int .i64 a.f1.f2, .slice A a.f1.f3.length c], .agg #[.int .i64 b.f0, .int .i64 b.f1.f0, .int .i64 b.f1.f1, .int .i64 b.f1.f2, .slice B b.f1.f3.length d]] w fun e w' => e = .returned (.bool (eqTr a b)) ∧ Below w.heap.size w w' := by
 have HB := Lib.hid (show Below w.heap.size w ((w.alloc (.cells #[.int .i64 a.f0, .int .i64 a.f1.f0, .int .i64 a.f1.f1, .int .i64 a.f1.f2, .slice A a.f1.f3.length c] 63)).alloc (.cells #[.int .i64 b.f0, .int .i64 b.f1.f0, .int .i64 b.f1.f1, .int .i64 b.f1.f2, .slice B b.f1.f3.length d] 63)) from ((Below.refl _ _).alloc (Nat.le_refl _) _).alloc (by simp) _)
 have HE := Lib.hid (sameEn_is a.f1.f0 a.f1.f1 a.f1.f2 A c a.f1.f3 b.f1.f0 b.f1.f1 b.f1.f2 B d b.f1.f3 _ (Kd.C_below ha HB.out) (Kd.C_below hb HB.out))
 obtain ⟨q, hq⟩ : ∃ q, eqTr a b = q := ⟨_, rfl⟩
 have HQ := Lib.hid hq
 rw [hq]
 clear hq ha hb hc hd
 cases h0 : (a.f0 == b.f0) with
 | false =>
  have HV := Lib.hid (show q = false by rw [← HQ.out]; unfold eqTr; rw [h0, Bool.false_and])
  go_enter Tryz.func145, Tryz.ntmps145
  go_wp2_with fail
  go_ret
  exact ⟨by rw [HV.out]; rfl, HB.out⟩
 | true =>
  have HV := Lib.hid (show q = eqEn a.f1.f0 a.f1.f1 a.f1.f2 a.f1.f3 b.f1.f0 b.f1.f1 b.f1.f2 b.f1.f3 by rw [← HQ.out]; unfold eqTr; rw [h0, Bool.true_and])
  go_enter Tryz.func145, Tryz.ntmps145
  go_wp2_with fail
  refine HE.out.mono ?_
  rintro e w' ⟨rfl, hb⟩
  have HB2 := Lib.hid (HB.out.trans (hb.mono HB.out.size))
  clear hb
  go_wp2_with fail
  go_ret
  exact ⟨by rw [HV.out]; rfl, HB2.out⟩
set_option maxHeartbeats 1000000 in
theorem refSameTr_is {w : World} (a b : TrD) {A B : Option Addr} {c d : Nat} (hc : a.f1.f3.length ≤ c) (ha : Kd.C G.k26 w A a.f1.f3.length a.f1.f3) (hd : b.f1.f3.length ≤ d) (hb : Kd.C G.k26 w B b.f1.f3.length b.f1.f3) :
  Calls Tryz.prog 135 #[.agg #[.int .i64 a.f0, .int .i64 a.f1.f0, .int .i64 a.f1.f1, .int .i64 a.f1.f2, .slice A a.f1.f3.length c], .agg #[.int .i64 b.f0, .int .i64 b.f1.f0, .int .i64 b.f1.f1, .int .i64 b.f1.f2, .slice B b.f1.f3.length d]] w fun e w' => e = .returned (.bool (eqTr a b)) ∧ Below w.heap.size w w' := by
 have HB := Lib.hid (show Below w.heap.size w ((w.alloc (.cells #[.int .i64 a.f0, .int .i64 a.f1.f0, .int .i64 a.f1.f1, .int .i64 a.f1.f2, .slice A a.f1.f3.length c] 63)).alloc (.cells #[.int .i64 b.f0, .int .i64 b.f1.f0, .int .i64 b.f1.f1, .int .i64 b.f1.f2, .slice B b.f1.f3.length d] 63)) from ((Below.refl _ _).alloc (Nat.le_refl _) _).alloc (by simp) _)
 have HE := Lib.hid (refSameEn_is a.f1.f0 a.f1.f1 a.f1.f2 A c a.f1.f3 b.f1.f0 b.f1.f1 b.f1.f2 B d b.f1.f3 _ (Kd.C_below ha HB.out) hc (Kd.C_below hb HB.out) hd)
 obtain ⟨q, hq⟩ : ∃ q, eqTr a b = q := ⟨_, rfl⟩
 have HQ := Lib.hid hq
 rw [hq]
 clear hq ha hb hc hd
 cases h0 : (a.f0 == b.f0) with
 | false =>
  have HV := Lib.hid (show q = false by rw [← HQ.out]; unfold eqTr; rw [h0, Bool.false_and])
  go_enter Tryz.func135, Tryz.ntmps135
  go_wp2_with fail
  go_ret
  exact ⟨by rw [HV.out]; rfl, HB.out⟩
 | true =>
  have HV := Lib.hid (show q = eqEn a.f1.f0 a.f1.f1 a.f1.f2 a.f1.f3 b.f1.f0 b.f1.f1 b.f1.f2 b.f1.f3 by rw [← HQ.out]; unfold eqTr; rw [h0, Bool.true_and])
  go_enter Tryz.func135, Tryz.ntmps135
  go_wp2_with fail
  refine HE.out.mono ?_
  rintro e w' ⟨rfl, hb⟩
  have HB2 := Lib.hid (HB.out.trans (hb.mono HB.out.size))
  clear hb
  go_wp2_with fail
  go_ret
  exact ⟨by rw [HV.out]; rfl, HB2.out⟩
def eqfuncT_isI (a b : List TrD) (w : World) (i : Value) (wr : World) : Prop := ∃ k : Nat, i = .int .i64 k ∧ k ≤ a.length ∧ eqTrs a b = eqTrs (a.drop k) (b.drop k) ∧ Below w.heap.size w wr
set_option maxHeartbeats 1000000 in
theorem eqfuncT_is (A B : Option Addr) (c d : Nat) (a b : List TrD) (w : World) (ha : Kd.C G.k63 w A a.length a) (hb : Kd.C G.k63 w B b.length b) :
  Calls Tryz.prog 144 #[.slice A a.length c, .slice B b.length d, .func (.func 145) #[] #[]] w fun e w' => e = .returned (.bool (eqTrs a b)) ∧ Below w.heap.size w w' := by
 have hlm : a.length ≤ 9223372036854775807 := ha.2.1
 have HA := Lib.hid ha; have HB := Lib.hid hb
 clear ha hb
 by_cases hl : a.length = b.length
 ·have hlb : ((a.length : Int) != (b.length : Int)) = false := by rw [bne_eq_false_iff_eq]; omega
  have HL := Lib.hid hl
  clear hl
  go_enter Tryz.func144, Tryz.ntmps144
  go_wp2_with fail
  go_loopw [17] (fun i wr => eqfuncT_isI a b w i wr) (fun i _ => a.length - (intOf i).toNat)
  case atStart => exact ⟨0, rfl, Nat.zero_le _, rfl, Below.refl _ _⟩
  case round =>
   obtain ⟨k, rfl, hk, he, hb⟩ := hrel
   have HE := Lib.hid he; have HBr := Lib.hid hb
   clear he hb
   by_cases hlt : k < a.length
   ·obtain ⟨x, hx⟩ : ∃ x, a[k]? = some x := ⟨_, List.getElem?_eq_getElem hlt⟩
    obtain ⟨y, hy⟩ : ∃ y, b[k]? = some y := ⟨_, List.getElem?_eq_getElem (by have := HL.out; omega)⟩
    obtain ⟨ad, A4, c4, rfl, x0, x1, x2, x3, x4, lx, gx⟩ := tr_get (Kd.C_below HA.out HBr.out) hx
    obtain ⟨bd, B4, d4, rfl, y0, y1, y2, y3, y4, ly, gy⟩ := tr_get (Kd.C_below HB.out HBr.out) hy
    have HXX := Lib.hid (And.intro lx gx); have HYY := Lib.hid (And.intro ly gy)
    have HS := Lib.hid (eqTrs_take hx hy)
    have hkb : k < b.length := by have := HL.out; omega
    clear lx gx ly gy hx hy
    have zb : (bd.add (k * 5)).block < wr.heap.size := World.block_lt_of_cell? _ _ y0
    have HB2 := Lib.hid (show Below wr.heap.size wr ((wr.alloc (.cells #[.int .i64 x.f0, .int .i64 x.f1.f0, .int .i64 x.f1.f1, .int .i64 x.f1.f2, .slice A4 x.f1.f3.length c4] 63)).alloc (.cells #[.int .i64 y.f0, .int .i64 y.f1.f0, .int .i64 y.f1.f1, .int .i64 y.f1.f2, .slice B4 y.f1.f3.length d4] 63)) from ((Below.refl _ _).alloc (Nat.le_refl _) _).alloc (by simp) _)
    go_wp2_with fail
    refine (sameTr1_is x y HXX.out.1 (Kd.C_below HXX.out.2 HB2.out) HYY.out.1 (Kd.C_below HYY.out.2 HB2.out)).mono ?_
    rintro e w' ⟨rfl, hb⟩
    have HB3 := Lib.hid (HBr.out.trans ((HB2.out.trans (hb.mono HB2.out.size)).mono HBr.out.size))
    clear hb x0 x1 x2 x3 x4 y0 y1 y2 y3 y4 zb
    obtain ⟨q, hq⟩ : ∃ q, eqTr x y = q := ⟨_, rfl⟩
    have HQ := Lib.hid hq
    rw [hq]
    clear hq
    cases q with
    | true =>
     go_wp2_with fail
     go_roundw
     case rel => exact ⟨k + 1, by go_num, hlt, by rw [HE.out, HS.out, HQ.out, Bool.true_and], HB3.out⟩
     case measure => simp [intOf]; omega
    | false =>
     go_wp2_with fail
     go_ret
     exact ⟨by rw [HE.out, HS.out, HQ.out]; rfl, HB3.out⟩
   ·have HF := Lib.hid (show eqTrs a b = true by rw [HE.out, List.drop_of_length_le (by omega), List.drop_of_length_le (by have := HL.out; omega)]; rfl)
    go_wp2_with fail
    go_ret
    exact ⟨by rw [HF.out]; rfl, HBr.out⟩
 ·have hlb : ((a.length : Int) != (b.length : Int)) = true := by rw [bne_iff_ne]; omega
  have HF := Lib.hid (eqTrs_len hl)
  clear hl
  go_enter Tryz.func144, Tryz.ntmps144
  go_wp2_with fail
  go_ret
  exact ⟨by rw [HF.out]; rfl, Below.refl _ _⟩
def refSameTrs_isI (a b : List TrD) (w : World) (i : Value) (wr : World) : Prop := ∃ k : Nat, i = .int .i64 k ∧ k ≤ a.length ∧ eqTrs a b = eqTrs (a.drop k) (b.drop k) ∧ Below w.heap.size w wr
set_option maxHeartbeats 1000000 in
theorem refSameTrs_is (A B : Option Addr) (c d : Nat) (a b : List TrD) (w : World) (ha : Kd.C G.k63 w A a.length a) (hb : Kd.C G.k63 w B b.length b) :
  Calls Tryz.prog 64 #[.slice A a.length c, .slice B b.length d] w fun e w' => e = .returned (.bool (eqTrs a b)) ∧ Below w.heap.size w w' := by
 have hlm : a.length ≤ 9223372036854775807 := ha.2.1
 have HA := Lib.hid ha; have HB := Lib.hid hb
 clear ha hb
 by_cases hl : a.length = b.length
 ·have hlb : ((a.length : Int) != (b.length : Int)) = false := by rw [bne_eq_false_iff_eq]; omega
  have HL := Lib.hid hl
  clear hl
  go_enter Tryz.func64, Tryz.ntmps64
  go_wp2_with fail
  go_loopw [5] (fun i wr => refSameTrs_isI a b w i wr) (fun i _ => a.length - (intOf i).toNat)
  case atStart => exact ⟨0, rfl, Nat.zero_le _, rfl, Below.refl _ _⟩
  case round =>
   obtain ⟨k, rfl, hk, he, hb⟩ := hrel
   have HE := Lib.hid he; have HBr := Lib.hid hb
   clear he hb
   by_cases hlt : k < a.length
   ·obtain ⟨x, hx⟩ : ∃ x, a[k]? = some x := ⟨_, List.getElem?_eq_getElem hlt⟩
    obtain ⟨y, hy⟩ : ∃ y, b[k]? = some y := ⟨_, List.getElem?_eq_getElem (by have := HL.out; omega)⟩
    obtain ⟨ad, A4, c4, rfl, x0, x1, x2, x3, x4, lx, gx⟩ := tr_get (Kd.C_below HA.out HBr.out) hx
    obtain ⟨bd, B4, d4, rfl, y0, y1, y2, y3, y4, ly, gy⟩ := tr_get (Kd.C_below HB.out HBr.out) hy
    have HXX := Lib.hid (And.intro lx gx); have HYY := Lib.hid (And.intro ly gy)
    have HS := Lib.hid (eqTrs_take hx hy)
    have hkb : k < b.length := by have := HL.out; omega
    clear lx gx ly gy hx hy
    have zb : (bd.add (k * 5)).block < wr.heap.size := World.block_lt_of_cell? _ _ y0
    have HB2 := Lib.hid (show Below wr.heap.size wr wr.drew from (Below.refl _ _).drew)
    go_wp2_with fail
    refine wp_region_still_tail 8 (by kernel_rfl) (by kernel_rfl) ?_
    simp only [List.take_succ_cons, List.take_zero, List.drop_succ_cons, List.drop_zero]
    iterate 8 still_step
    refine wpStill_nil ?_
    change wpList _ _ _ _ _ wr.drew
    go_wp2_with fail
    refine (refSameTr_is x y HXX.out.1 (Kd.C_below HXX.out.2 HB2.out) HYY.out.1 (Kd.C_below HYY.out.2 HB2.out)).mono ?_
    rintro e w' ⟨rfl, hb⟩
    have HB3 := Lib.hid (HBr.out.trans ((HB2.out.trans (hb.mono HB2.out.size)).mono HBr.out.size))
    clear hb x0 x1 x2 x3 x4 y0 y1 y2 y3 y4 zb
    obtain ⟨q, hq⟩ : ∃ q, eqTr x y = q := ⟨_, rfl⟩
    have HQ := Lib.hid hq
    rw [hq]
    clear hq
    cases q with
    | true =>
     go_wp2_with fail
     go_roundw
     case rel => exact ⟨k + 1, by go_num, hlt, by rw [HE.out, HS.out, HQ.out, Bool.true_and], HB3.out⟩
     case measure => simp [intOf]; omega
    | false =>
     go_wp2_with fail
     go_ret
     exact ⟨by rw [HE.out, HS.out, HQ.out]; rfl, HB3.out⟩
   ·have HF := Lib.hid (show eqTrs a b = true by rw [HE.out, List.drop_of_length_le (by omega), List.drop_of_length_le (by have := HL.out; omega)]; rfl)
    go_wp2_with fail
    go_ret
    exact ⟨by rw [HF.out]; rfl, HBr.out⟩
 ·have hlb : ((a.length : Int) != (b.length : Int)) = true := by rw [bne_iff_ne]; omega
  have HF := Lib.hid (eqTrs_len hl)
  clear hl
  go_enter Tryz.func64, Tryz.ntmps64
  go_wp2_with fail
  go_ret
  exact ⟨by rw [HF.out]; rfl, Below.refl _ _⟩
theorem MsBox.cell {W : World} {b : Nat} {m : MsgD} {A8 A12 A16 : Option Addr} {c8 c12 c16 : Nat} (h : MsBox W b m A8 c8 A12 c12 A16 c16) : W.cell? ⟨b, 0, none⟩ = some (.int .i64 m.f0) ∧ W.cell? ⟨b, 1, none⟩ = some (.int .i64 m.f1) ∧ W.cell? ⟨b, 2, none⟩ = some (.int .i64 m.f2) ∧ W.cell? ⟨b, 3, none⟩ = some (.int .i64 m.f3) ∧ W.cell? ⟨b, 4, none⟩ = some (.int .i64 m.f4) ∧ W.cell? ⟨b, 5, none⟩ = some (.int .i64 m.f5) ∧ W.cell? ⟨b, 6, none⟩ = some (.int .i64 m.f6) ∧ W.cell? ⟨b, 7, none⟩ = some (.bool m.f7) ∧ W.cell? ⟨b, 8, none⟩ = some (.slice A8 m.f8.length c8) ∧ W.cell? ⟨b, 9, none⟩ = some (.int .i64 m.f9.f0) ∧ W.cell? ⟨b, 10, none⟩ = some (.int .i64 m.f9.f1) ∧ W.cell? ⟨b, 11, none⟩ = some (.int .i64 m.f9.f2) ∧ W.cell? ⟨b, 12, none⟩ = some (.slice A12 m.f9.f3.length c12) ∧ W.cell? ⟨b, 13, none⟩ = some (.int .i64 m.f10.f0) ∧ W.cell? ⟨b, 14, none⟩ = some (.int .i64 m.f10.f1) ∧ W.cell? ⟨b, 15, none⟩ = some (.int .i64 m.f10.f2) ∧ W.cell? ⟨b, 16, none⟩ = some (.slice A16 m.f10.f3.length c16) := ⟨(blk_cell h 0).trans rfl, (blk_cell h 1).trans rfl, (blk_cell h 2).trans rfl, (blk_cell h 3).trans rfl, (blk_cell h 4).trans rfl, (blk_cell h 5).trans rfl, (blk_cell h 6).trans rfl, (blk_cell h 7).trans rfl, (blk_cell h 8).trans rfl, (blk_cell h 9).trans rfl, (blk_cell h 10).trans rfl, (blk_cell h 11).trans rfl, (blk_cell h 12).trans rfl, (blk_cell h 13).trans rfl, (blk_cell h 14).trans rfl, (blk_cell h 15).trans rfl, (blk_cell h 16).trans rfl⟩
theorem MsBox.lt {W : World} {b : Nat} {m : MsgD} {A8 A12 A16 : Option Addr} {c8 c12 c16 : Nat} (h : MsBox W b m A8 c8 A12 c12 A16 c16) : b < W.heap.size := (Array.getElem?_eq_some_iff.1 h).1
theorem MsBox.below {W W' : World} {b : Nat} {m : MsgD} {A8 A12 A16 : Option Addr} {c8 c12 c16 : Nat} (h : MsBox W b m A8 c8 A12 c12 A16 c16) (hb : Below W.heap.size W W') : MsBox W' b m A8 c8 A12 c12 A16 c16 := (hb.block b h.lt).trans h
end Go.Proofs.YtgiefblcckikeaaGreat.M
end

section
/- A whole struct's load, at once. -/
namespace Go.Proofs.YtgiefblcckikeaaGreat.M
open Go
end Go.Proofs.YtgiefblcckikeaaGreat.M
end

section
/- A chain of && and ||: behind a false (true) it needs no walk, operation by operation; and a list of operations may be walked part by part. -/
namespace Go.Proofs.YtgiefblcckikeaaGreat.M
open Go
structure Aside0C (p : Prop) : Prop where mk :: (out : p)
abbrev Kn := List (Nat × Option Bool)
def Knows (a : Act) (K : Kn) : Prop := ∀ p, p ∈ K → a.tmps[p.1]? = some (match p.2 with | some b => .bool b | none => undef)
def kget : Kn → Nat → Option (Option Bool)
 | [], _ => none
 | p :: K, d => if p.1 = d then some p.2 else kget K d
def kdel (K : Kn) (d : Nat) : Kn := K.filter (fun p => decide (p.1 ≠ d))
def kput (N : Nat) (K : Kn) (dst : Option Tmp) (v : Option Bool) : Option Kn := match dst with
 | none => some K
 | some d => if d < N then some ((d, v) :: kdel K d) else none
def kval (K : Kn) : Operand → Option Bool
 | .tmp t => match kget K t with
  | some (some b) => some b
  | _ => none
 | .const (.bool b) => some b
 | _ => none
def kwant (ops : Array Oper) (K : Kn) (o : Oper) : Option Bool := match o.guard with
 | none => some true
 | some (j, want) => match (ops[j]?).bind (·.dst) with
  | none => some false
  | some d => match kget K d with
   | some (some b) => some (b == want)
   | some none => some false
   | none => none
def kexec (K : Kn) (o : Oper) : Option Bool := match o.op with
 | .move x | .assign x => kval K x
 | .pick c x y => match kval K c with
  | some true => kval K x
  | some false => kval K y
  | none => none
 | .unOp .not _ x => (kval K x).map (!·)
 | _ => none
def chainRun (ops : Array Oper) (N : Nat) : List Oper → Kn → Option Kn
 | [], K => some K
 | o :: r, K => match kwant ops K o with
  | none => none
  | some false => (kput N K o.dst none).bind (chainRun ops N r)
  | some true => (kexec K o).bind fun b => (kput N K o.dst (some b)).bind (chainRun ops N r)
theorem kget_mem : ∀ {K : Kn} {d : Nat} {v : Option Bool}, kget K d = some v → (d, v) ∈ K
 | p :: K, d, v, h => by
  unfold kget at h
  split at h
  ·obtain rfl := Option.some.inj h
   next e => subst e; exact List.mem_cons_self
  ·exact List.mem_cons_of_mem _ (kget_mem h)
theorem Knows.put {a : Act} {K K' : Kn} {N : Nat} {dst : Option Tmp} {v : Option Bool} {u : Value} (h : Knows a K) (hu : u = (match v with | some b => .bool b | none => undef)) (hN : N ≤ a.tmps.size) (hp : kput N K dst v = some K') : Knows (a.put dst u) K' ∧ N ≤ (a.put dst u).tmps.size ∧ (a.put dst u).defers = a.defers := by
 unfold kput at hp
 cases dst with
 | none => obtain rfl := Option.some.inj hp; exact ⟨h, hN, rfl⟩
 | some d =>
  simp only at hp
  by_cases hd : d < N
  ·rw [if_pos hd] at hp
   obtain rfl := Option.some.inj hp
   refine ⟨fun p hm => ?_, by simpa [Act.put] using hN, rfl⟩
   show (a.tmps.setIfInBounds d u)[p.1]? = _
   rcases List.mem_cons.1 hm with rfl | hm
   ·rw [Array.getElem?_setIfInBounds_self_of_lt (Nat.lt_of_lt_of_le hd hN), hu]
   ·have h2 := List.mem_filter.1 hm
    have h3 : p.1 ≠ d := of_decide_eq_true h2.2
    rw [Array.getElem?_setIfInBounds_ne (fun e => h3 e.symm)]
    exact h p h2.1
  ·rw [if_neg hd] at hp; cases hp
theorem kval_eval {a : Act} {K : Kn} {x : Operand} {b : Bool} (h : Knows a K) (hx : kval K x = some b) : a.eval x = .bool b := by
 unfold kval at hx
 split at hx
 ·next t =>
  split at hx
  ·next b' hg =>
   obtain rfl := Option.some.inj hx
   have := h _ (kget_mem hg)
   simp only at this
   show a.tmps.getD t undef = _
   rw [Array.getD_eq_getD_getElem?, this]
   rfl
  ·cases hx
 ·obtain rfl := Option.some.inj hx; rfl
 ·cases hx
theorem kexec_run {P : Program} {a : Act} {K : Kn} {o : Oper} {b : Bool} (h : Knows a K) (hx : kexec K o = some b) (w : World) : (execOp a.eval o).run P w = .ok (.value (.bool b)) w := by
 unfold kexec at hx
 split at hx
 ·next x ho => rw [BigFrame.run_move x ho, kval_eval h hx]
 ·next x ho => rw [BigFrame.run_assign x ho, kval_eval h hx]
 ·next c x y ho =>
  split at hx
  ·next hc => unfold execOp; rw [ho]; simp only [kval_eval h hc, kval_eval h hx]; rfl
  ·next hc => unfold execOp; rw [ho]; simp only [kval_eval h hc, kval_eval h hx]; rfl
  ·cases hx
 ·next tt x ho =>
  obtain ⟨b', hb', rfl⟩ := Option.map_eq_some_iff.1 hx
  unfold execOp
  rw [ho]
  simp only [kval_eval h hb']
  rfl
 ·cases hx
theorem chain_run {P : Program} {ops : Array Oper} {Q : Exit → Act → World → Prop} {w : World} {N : Nat} : ∀ (l : List Oper) (K K' : Kn) (a : Act), chainRun ops N l K = some K' → Knows a K → N ≤ a.tmps.size →
  (∀ a' : Act, Knows a' K' → a'.defers = a.defers → Q .normal a' w) → wpList P ops Q l a w
 | [], K, K', a, hr, h, hN, hq => by obtain rfl := Option.some.inj hr; exact hq a h rfl
 | o :: r, K, K', a, hr, h, hN, hq => by
  unfold chainRun at hr
  have hw : ∀ b, kwant ops K o = some b → Region.wanted o (yielded ops a.tmps) = b := by
   intro b hb
   unfold kwant at hb
   unfold Region.wanted
   split at hb
   ·next hg => rw [hg]; exact Option.some.inj hb
   ·next j want hg =>
    rw [hg]
    simp only
    unfold yielded
    split at hb
    ·next hd => rw [hd]; obtain rfl := Option.some.inj hb; rfl
    ·next d hd =>
     rw [hd, Option.bind_some]
     split at hb
     ·next b' hk => rw [h _ (kget_mem hk)]; obtain rfl := Option.some.inj hb; cases b' <;> cases want <;> rfl
     ·next hk => rw [h _ (kget_mem hk)]; obtain rfl := Option.some.inj hb; rfl
     ·cases hb
  unfold wpList
  split at hr
  ·cases hr
  ·next hk =>
   rw [hw _ hk, if_neg (by simp)]
   obtain ⟨K1, h1, h2⟩ := Option.bind_eq_some_iff.1 hr
   obtain ⟨h3, h4, h5⟩ := h.put (u := undef) rfl hN h1
   exact chain_run r K1 K' _ h2 h3 h4 (fun a' q1 q2 => hq a' q1 (q2.trans h5))
  ·next hk =>
   rw [hw _ hk, if_pos rfl]
   obtain ⟨b, hb, h0⟩ := Option.bind_eq_some_iff.1 hr
   obtain ⟨K1, h1, h2⟩ := Option.bind_eq_some_iff.1 h0
   obtain ⟨h3, h4, h5⟩ := h.put (u := .bool b) (v := some b) rfl hN h1
   refine .inl ?_
   unfold Oper.wp
   rw [kexec_run h hb]
   exact chain_run r K1 K' _ h2 h3 h4 (fun a' q1 q2 => hq a' q1 (q2.trans h5))
theorem Knows.nil (a : Act) : Knows a [] := fun p h => by cases h
theorem Knows.cons {a : Act} {K : Kn} {d : Nat} {b : Bool} (h : a.tmps[d]? = some (.bool b)) (k : Knows a K) : Knows a ((d, some b) :: K) := fun p hp => by
 rcases List.mem_cons.1 hp with rfl | hp
 ·exact h
 ·exact k p hp
theorem chain_to {P : Program} {ops : Array Oper} {Q : Exit → Act → World → Prop} {w : World} {a : Act} {l : List Oper} (N d : Nat) (b : Bool) (K : Kn) (hr : (chainRun ops N l K).bind (fun K' => kget K' d) = some (some b)) (h : Knows a K) (hN : N ≤ a.tmps.size)
  (hq : ∀ a' : Act, a'.tmps[d]? = some (.bool b) → a'.defers = a.defers → Q .normal a' w) : wpList P ops Q l a w := by
 obtain ⟨K', h1, h2⟩ := Option.bind_eq_some_iff.1 hr
 exact chain_run l K K' a h1 h hN (fun a' q1 q2 => hq a' (q1 _ (kget_mem h2)) q2)
theorem results_slot {fn : Func} {t : Nat} {a : Array Value} {v : Value} {P : Program} {w : World} (hr : fn.results = #[.tmp t]) (h : a[t]? = some v) : (results fn a).run P w = .ok v w := by
 simp [results, hr, h]
structure Halt (p : Prop) : Prop where mk :: (out : p)
def stopAt (Q : Exit → Act → World → Prop) (N : Act → World → Prop) : Exit → Act → World → Prop
 | .normal, a, w => Halt (N a w)
 | e, a, w => Q e a w
theorem upon_stop {P : Program} {o : Oper} {a : Act} {K K' : Act → World → Prop} {Q : Exit → Act → World → Prop} {N : Act → World → Prop} (hk : ∀ a w, K a w → K' a w) : ∀ r : Result Next, o.upon P a K (stopAt Q N) r → o.upon P a K' Q r := by
 intro r h
 unfold Oper.upon at h ⊢
 split at h
 ·exact hk _ _ h
 ·exact hk _ _ h
 ·exact hk _ _ h
 ·refine h.mono (fun e w' he => ?_)
  cases e with
  | returned v => exact hk _ _ he
  | panicked c => exact he
  | outgrown => obtain ⟨a, w, h⟩ := he; exact ⟨a, w, h⟩
 ·exact Rows.mono h (fun v w' he => hk _ _ he)
 ·exact h
 ·exact h.elim
theorem wpList_stop {P : Program} {ops : Array Oper} {Q : Exit → Act → World → Prop} {l2 : List Oper} : ∀ (l1 : List Oper) (a : Act) (w : World), wpList P ops (stopAt Q (wpList P ops Q l2)) l1 a w → wpList P ops Q (l1 ++ l2) a w
 | [], a, w, h => by
  unfold wpList at h
  exact h.out
 | o :: r, a, w, h => by
  unfold wpList at h
  rw [List.cons_append]
  unfold wpList
  split at h
  ·next hw =>
   rw [if_pos hw]
   rcases h with h | ⟨h1, a', w', h2⟩
   ·exact .inl (upon_stop (fun a w h => wpList_stop r a w h) _ h)
   ·exact .inr ⟨h1, a', w', h2⟩
  ·next hw =>
   rw [if_neg hw]
   exact wpList_stop r _ _ h
theorem wpList_cut {P : Program} {ops : Array Oper} {Q : Exit → Act → World → Prop} {a : Act} {w : World} {l : List Oper} (k : Nat) (h : wpList P ops (stopAt Q (wpList P ops Q (l.drop k))) (l.take k) a w) : wpList P ops Q l a w := by
 have := wpList_stop _ _ _ h
 rwa [List.take_append_drop] at this
theorem with_fin {P : Program} {ops : Array Oper} {Q : Exit → Act → World → Prop} {a : Act} {w : World} {l : List Oper} (Φ : Act → World → Prop) (hf : ∀ a' W, Φ a' W → Q .normal a' W) (h : Aside0C (∀ a' W, Φ a' W → Q .normal a' W) → wpList P ops Q l a w) : wpList P ops Q l a w := h ⟨hf⟩
end Go.Proofs.YtgiefblcckikeaaGreat.M
end

section
/- A message without what its kind does not have: record.bare, the reference's plain (printed by genbare04.py). -/
attribute [local irreducible] Go.wpStill
namespace Go.Proofs.YtgiefblcckikeaaGreat.M
open Go.RowKit Go.Proofs.YtgiefblcckikeaaGreatW.PrintWords Go.Proofs.YtgiefblcckikeaaGreatW.PrintLast Go.Proofs.YtgiefblcckikeaaGreatW.PrintMore Go.Proofs.YtgiefblcckikeaaGreat.G
def zE : EntD := ⟨0, 0, 0, []⟩
def zP : PartD := ⟨0, 0, 0, []⟩
def zM : MsgD := ⟨0, 0, 0, 0, 0, 0, 0, false, [], zE, zP⟩
def isKind (k : Int) : Bool := decide (1 ≤ k) && decide (k ≤ 6)
def bareM (m : MsgD) : MsgD :=
 if m.f0 = 6 then ⟨m.f0, m.f1, m.f2, 0, 0, 0, 0, false, [], m.f9, zP⟩
 else if m.f0 = 1 then ⟨m.f0, m.f1, m.f2, m.f3, m.f4, m.f5, 0, false, [], zE, zP⟩
 else if m.f0 = 2 then ⟨m.f0, m.f1, m.f2, m.f3, 0, 0, 0, m.f7, [], zE, zP⟩
 else if m.f0 = 3 then ⟨m.f0, m.f1, m.f2, m.f3, m.f4, m.f5, m.f6, false, m.f8, zE, zP⟩
 else if m.f0 = 4 then ⟨m.f0, m.f1, m.f2, m.f3, m.f4, 0, 0, m.f7, [], zE, zP⟩
 else ⟨m.f0, m.f1, m.f2, m.f3, m.f4, m.f5, 0, false, [], zE, m.f10⟩
def BareP (w : World) (m : MsgD) (e : Ending) (w' : World) : Prop := ∃ (y : MsgD) (B8 B12 B16 : Option Addr) (d8 d12 d16 : Nat), e = .returned (.tuple #[.agg (msgCells y B8 d8 B12 d12 B16 d16), .bool (isKind m.f0)]) ∧ (isKind m.f0 = true → y = bareM m) ∧ MsgC w' y B8 d8 B12 d12 B16 d16 ∧ Below w.heap.size w w'
theorem Bx.fin {w W : World} {g r T : Nat} {zs cs cs' : Array Value} {P : World → Prop} (h : Bx w g r T zs cs P W) : (W.setRow r cs').heap[r]? = some (.cells cs' T) ∧ P (W.setRow r cs') ∧ Below w.heap.size w (W.setRow r cs') := by
 have hk : KeepS (fun k => k = r ∨ k = g) W (W.setRow r cs') := ⟨rfl, rfl, rfl, by simp, fun i _ hi => setRow_other W r i cs' (fun e => hi (.inl e))⟩
 exact ⟨setRow_heap W r zs cs' T (0, 0) h.g0, h.done hk⟩
theorem bare_start_ (w : World) (m : MsgD) (A8 A12 A16 : Option Addr) (c8 c12 c16 : Nat) : Bx w (w.heap.size + 1 + 1) (w.heap.size + 1) 34 #[.int .i64 0, .int .i64 0, .int .i64 0, .int .i64 0, .int .i64 0, .int .i64 0, .int .i64 0, .bool false, .slice none 0 0, .int .i64 0, .int .i64 0, .int .i64 0, .slice none 0 0, .int .i64 0, .int .i64 0, .int .i64 0, .slice none 0 0] #[.int .i64 m.f0, .int .i64 m.f1, .int .i64 m.f2, .int .i64 0, .int .i64 0, .int .i64 0, .int .i64 0, .bool false, .slice none 0 0, .int .i64 0, .int .i64 0, .int .i64 0, .slice none 0 0, .int .i64 0, .int .i64 0, .int .i64 0, .slice none 0 0] (fun V => MsBox V w.heap.size m A8 c8 A12 c12 A16 c16) (((w.alloc (.cells #[.int .i64 m.f0, .int .i64 m.f1, .int .i64 m.f2, .int .i64 m.f3, .int .i64 m.f4, .int .i64 m.f5, .int .i64 m.f6, .bool m.f7, .slice A8 m.f8.length c8, .int .i64 m.f9.f0, .int .i64 m.f9.f1, .int .i64 m.f9.f2, .slice A12 m.f9.f3.length c12, .int .i64 m.f10.f0, .int .i64 m.f10.f1, .int .i64 m.f10.f2, .slice A16 m.f10.f3.length c16] 34)).alloc (.cells #[.int .i64 0, .int .i64 0, .int .i64 0, .int .i64 0, .int .i64 0, .int .i64 0, .int .i64 0, .bool false, .slice none 0 0, .int .i64 0, .int .i64 0, .int .i64 0, .slice none 0 0, .int .i64 0, .int .i64 0, .int .i64 0, .slice none 0 0] 34)).alloc (.cells #[.int .i64 m.f0, .int .i64 m.f1, .int .i64 m.f2, .int .i64 0, .int .i64 0, .int .i64 0, .int .i64 0, .bool false, .slice none 0 0, .int .i64 0, .int .i64 0, .int .i64 0, .slice none 0 0, .int .i64 0, .int .i64 0, .int .i64 0, .slice none 0 0] 34)) := by
 have z1 : (w.alloc (.cells #[.int .i64 m.f0, .int .i64 m.f1, .int .i64 m.f2, .int .i64 m.f3, .int .i64 m.f4, .int .i64 m.f5, .int .i64 m.f6, .bool m.f7, .slice A8 m.f8.length c8, .int .i64 m.f9.f0, .int .i64 m.f9.f1, .int .i64 m.f9.f2, .slice A12 m.f9.f3.length c12, .int .i64 m.f10.f0, .int .i64 m.f10.f1, .int .i64 m.f10.f2, .slice A16 m.f10.f3.length c16] 34)).heap.size = w.heap.size + 1 := by simp
 have z2 : ((w.alloc (.cells #[.int .i64 m.f0, .int .i64 m.f1, .int .i64 m.f2, .int .i64 m.f3, .int .i64 m.f4, .int .i64 m.f5, .int .i64 m.f6, .bool m.f7, .slice A8 m.f8.length c8, .int .i64 m.f9.f0, .int .i64 m.f9.f1, .int .i64 m.f9.f2, .slice A12 m.f9.f3.length c12, .int .i64 m.f10.f0, .int .i64 m.f10.f1, .int .i64 m.f10.f2, .slice A16 m.f10.f3.length c16] 34)).alloc (.cells #[.int .i64 0, .int .i64 0, .int .i64 0, .int .i64 0, .int .i64 0, .int .i64 0, .int .i64 0, .bool false, .slice none 0 0, .int .i64 0, .int .i64 0, .int .i64 0, .slice none 0 0, .int .i64 0, .int .i64 0, .int .i64 0, .slice none 0 0] 34)).heap.size = w.heap.size + 2 := by simp
 have z3 : (((w.alloc (.cells #[.int .i64 m.f0, .int .i64 m.f1, .int .i64 m.f2, .int .i64 m.f3, .int .i64 m.f4, .int .i64 m.f5, .int .i64 m.f6, .bool m.f7, .slice A8 m.f8.length c8, .int .i64 m.f9.f0, .int .i64 m.f9.f1, .int .i64 m.f9.f2, .slice A12 m.f9.f3.length c12, .int .i64 m.f10.f0, .int .i64 m.f10.f1, .int .i64 m.f10.f2, .slice A16 m.f10.f3.length c16] 34)).alloc (.cells #[.int .i64 0, .int .i64 0, .int .i64 0, .int .i64 0, .int .i64 0, .int .i64 0, .int .i64 0, .bool false, .slice none 0 0, .int .i64 0, .int .i64 0, .int .i64 0, .slice none 0 0, .int .i64 0, .int .i64 0, .int .i64 0, .slice none 0 0] 34)).alloc (.cells #[.int .i64 m.f0, .int .i64 m.f1, .int .i64 m.f2, .int .i64 0, .int .i64 0, .int .i64 0, .int .i64 0, .bool false, .slice none 0 0, .int .i64 0, .int .i64 0, .int .i64 0, .slice none 0 0, .int .i64 0, .int .i64 0, .int .i64 0, .slice none 0 0] 34)).heap.size = w.heap.size + 3 := by simp
 obtain ⟨u1, h1⟩ : ∃ u, w.alloc (.cells #[.int .i64 m.f0, .int .i64 m.f1, .int .i64 m.f2, .int .i64 m.f3, .int .i64 m.f4, .int .i64 m.f5, .int .i64 m.f6, .bool m.f7, .slice A8 m.f8.length c8, .int .i64 m.f9.f0, .int .i64 m.f9.f1, .int .i64 m.f9.f2, .slice A12 m.f9.f3.length c12, .int .i64 m.f10.f0, .int .i64 m.f10.f1, .int .i64 m.f10.f2, .slice A16 m.f10.f3.length c16] 34) = u := ⟨_, rfl⟩
 have b1 := (Below.refl _ w).alloc (Nat.le_refl _) (.cells #[.int .i64 m.f0, .int .i64 m.f1, .int .i64 m.f2, .int .i64 m.f3, .int .i64 m.f4, .int .i64 m.f5, .int .i64 m.f6, .bool m.f7, .slice A8 m.f8.length c8, .int .i64 m.f9.f0, .int .i64 m.f9.f1, .int .i64 m.f9.f2, .slice A12 m.f9.f3.length c12, .int .i64 m.f10.f0, .int .i64 m.f10.f1, .int .i64 m.f10.f2, .slice A16 m.f10.f3.length c16] 34)
 have x1 := heap_alloc_new w (.cells #[.int .i64 m.f0, .int .i64 m.f1, .int .i64 m.f2, .int .i64 m.f3, .int .i64 m.f4, .int .i64 m.f5, .int .i64 m.f6, .bool m.f7, .slice A8 m.f8.length c8, .int .i64 m.f9.f0, .int .i64 m.f9.f1, .int .i64 m.f9.f2, .slice A12 m.f9.f3.length c12, .int .i64 m.f10.f0, .int .i64 m.f10.f1, .int .i64 m.f10.f2, .slice A16 m.f10.f3.length c16] 34)
 rw [h1] at b1 x1 z1 z2 z3 ⊢
 obtain ⟨u2, h2⟩ : ∃ u, u1.alloc (.cells #[.int .i64 0, .int .i64 0, .int .i64 0, .int .i64 0, .int .i64 0, .int .i64 0, .int .i64 0, .bool false, .slice none 0 0, .int .i64 0, .int .i64 0, .int .i64 0, .slice none 0 0, .int .i64 0, .int .i64 0, .int .i64 0, .slice none 0 0] 34) = u := ⟨_, rfl⟩
 have b2 := (Below.refl _ u1).alloc (Nat.le_refl _) (.cells #[.int .i64 0, .int .i64 0, .int .i64 0, .int .i64 0, .int .i64 0, .int .i64 0, .int .i64 0, .bool false, .slice none 0 0, .int .i64 0, .int .i64 0, .int .i64 0, .slice none 0 0, .int .i64 0, .int .i64 0, .int .i64 0, .slice none 0 0] 34)
 have x2 := heap_alloc_new u1 (.cells #[.int .i64 0, .int .i64 0, .int .i64 0, .int .i64 0, .int .i64 0, .int .i64 0, .int .i64 0, .bool false, .slice none 0 0, .int .i64 0, .int .i64 0, .int .i64 0, .slice none 0 0, .int .i64 0, .int .i64 0, .int .i64 0, .slice none 0 0] 34)
 rw [h2] at b2 x2 z2 z3 ⊢
 have b3 := (Below.refl _ u2).alloc (Nat.le_refl _) (.cells #[.int .i64 m.f0, .int .i64 m.f1, .int .i64 m.f2, .int .i64 0, .int .i64 0, .int .i64 0, .int .i64 0, .bool false, .slice none 0 0, .int .i64 0, .int .i64 0, .int .i64 0, .slice none 0 0, .int .i64 0, .int .i64 0, .int .i64 0, .slice none 0 0] 34)
 have x3 := heap_alloc_new u2 (.cells #[.int .i64 m.f0, .int .i64 m.f1, .int .i64 m.f2, .int .i64 0, .int .i64 0, .int .i64 0, .int .i64 0, .bool false, .slice none 0 0, .int .i64 0, .int .i64 0, .int .i64 0, .slice none 0 0, .int .i64 0, .int .i64 0, .int .i64 0, .slice none 0 0] 34)
 rw [z1] at x2
 rw [z2] at x3
 have hx : MsBox (u2.alloc (.cells #[.int .i64 m.f0, .int .i64 m.f1, .int .i64 m.f2, .int .i64 0, .int .i64 0, .int .i64 0, .int .i64 0, .bool false, .slice none 0 0, .int .i64 0, .int .i64 0, .int .i64 0, .slice none 0 0, .int .i64 0, .int .i64 0, .int .i64 0, .slice none 0 0] 34)) w.heap.size m A8 c8 A12 c12 A16 c16 := (b3.block _ (by omega)).trans ((b2.block _ (by omega)).trans x1)
 exact ⟨(b3.block _ (by omega)).trans x2, x3, b1.trans ((b2.mono (by omega)).trans (b3.mono (by omega))), by omega, by omega, by omega, by omega, by omega, fun V _ hV => (hV w.heap.size (by omega) (by omega)).trans hx⟩
theorem bare_start (w : World) (m : MsgD) (A8 A12 A16 : Option Addr) (c8 c12 c16 : Nat) : ∃ w0, w0 = (((w.alloc (.cells #[.int .i64 m.f0, .int .i64 m.f1, .int .i64 m.f2, .int .i64 m.f3, .int .i64 m.f4, .int .i64 m.f5, .int .i64 m.f6, .bool m.f7, .slice A8 m.f8.length c8, .int .i64 m.f9.f0, .int .i64 m.f9.f1, .int .i64 m.f9.f2, .slice A12 m.f9.f3.length c12, .int .i64 m.f10.f0, .int .i64 m.f10.f1, .int .i64 m.f10.f2, .slice A16 m.f10.f3.length c16] 34)).alloc (.cells #[.int .i64 0, .int .i64 0, .int .i64 0, .int .i64 0, .int .i64 0, .int .i64 0, .int .i64 0, .bool false, .slice none 0 0, .int .i64 0, .int .i64 0, .int .i64 0, .slice none 0 0, .int .i64 0, .int .i64 0, .int .i64 0, .slice none 0 0] 34)).alloc (.cells #[.int .i64 m.f0, .int .i64 m.f1, .int .i64 m.f2, .int .i64 0, .int .i64 0, .int .i64 0, .int .i64 0, .bool false, .slice none 0 0, .int .i64 0, .int .i64 0, .int .i64 0, .slice none 0 0, .int .i64 0, .int .i64 0, .int .i64 0, .slice none 0 0] 34)) ∧ Bx w (w.heap.size + 1 + 1) (w.heap.size + 1) 34 #[.int .i64 0, .int .i64 0, .int .i64 0, .int .i64 0, .int .i64 0, .int .i64 0, .int .i64 0, .bool false, .slice none 0 0, .int .i64 0, .int .i64 0, .int .i64 0, .slice none 0 0, .int .i64 0, .int .i64 0, .int .i64 0, .slice none 0 0] #[.int .i64 m.f0, .int .i64 m.f1, .int .i64 m.f2, .int .i64 0, .int .i64 0, .int .i64 0, .int .i64 0, .bool false, .slice none 0 0, .int .i64 0, .int .i64 0, .int .i64 0, .slice none 0 0, .int .i64 0, .int .i64 0, .int .i64 0, .slice none 0 0] (fun V => MsBox V w.heap.size m A8 c8 A12 c12 A16 c16) w0 := ⟨_, rfl, bare_start_ w m A8 A12 A16 c8 c12 c16⟩
set_option maxHeartbeats 4000000 in
theorem bare_k6 {w : World} (m : MsgD) {A8 A12 A16 : Option Addr} {c8 c12 c16 : Nat} (hm : MsgC w m A8 c8 A12 c12 A16 c16) (hk : m.f0 = 6) :
  Calls Tryz.prog 87 #[.agg #[.int .i64 m.f0, .int .i64 m.f1, .int .i64 m.f2, .int .i64 m.f3, .int .i64 m.f4, .int .i64 m.f5, .int .i64 m.f6, .bool m.f7, .slice A8 m.f8.length c8, .int .i64 m.f9.f0, .int .i64 m.f9.f1, .int .i64 m.f9.f2, .slice A12 m.f9.f3.length c12, .int .i64 m.f10.f0, .int .i64 m.f10.f1, .int .i64 m.f10.f2, .slice A16 m.f10.f3.length c16]] w fun e w' => BareP w m e w' := by
 have t6 : (m.f0 == 6) = true := by rw [hk]; rfl
 have t1 : (m.f0 == 1) = false := by rw [hk]; rfl
 have t2 : (m.f0 == 2) = false := by rw [hk]; rfl
 have t3 : (m.f0 == 3) = false := by rw [hk]; rfl
 have t4 : (m.f0 == 4) = false := by rw [hk]; rfl
 have t5 : (m.f0 == 5) = false := by rw [hk]; rfl
 have HK := Lib.hid hk
 clear hk
 have HM := Lib.hid hm
 clear hm
 go_enter Tryz.func87, Tryz.ntmps87
 go_upto_region 2 with fail
 obtain ⟨w0, hw, hT⟩ := bare_start w m A8 A12 A16 c8 c12 c16
 rw [← hw]
 have HT0 := Lib.hid hT
 clear hw hT
 obtain ⟨g, hg⟩ : ∃ g, w.heap.size = g := ⟨_, rfl⟩
 have HG := Lib.hid hg
 rw [hg] at HT0 ⊢
 clear hg
 obtain ⟨a0, a1, a2, a3, a4, a5, a6, a7, a8, a9, a10, a11, a12, a13, a14, a15, a16⟩ := MsBox.cell HT0.out.h.now
 have b9 : w0.cell? ⟨g + 1 + 1, 9, none⟩ = some (.int .i64 0) := (blk_cell HT0.out.y 9).trans rfl
 have z9 : w0.frozen? ⟨g + 1 + 1, 9, none⟩ = false := blk_frozen HT0.out.y 9
 have b10 : w0.cell? ⟨g + 1 + 1, 10, none⟩ = some (.int .i64 0) := (blk_cell HT0.out.y 10).trans rfl
 have z10 : w0.frozen? ⟨g + 1 + 1, 10, none⟩ = false := blk_frozen HT0.out.y 10
 have b11 : w0.cell? ⟨g + 1 + 1, 11, none⟩ = some (.int .i64 0) := (blk_cell HT0.out.y 11).trans rfl
 have z11 : w0.frozen? ⟨g + 1 + 1, 11, none⟩ = false := blk_frozen HT0.out.y 11
 have b12 : w0.cell? ⟨g + 1 + 1, 12, none⟩ = some (.slice none 0 0) := (blk_cell HT0.out.y 12).trans rfl
 have z12 : w0.frozen? ⟨g + 1 + 1, 12, none⟩ = false := blk_frozen HT0.out.y 12
 have hne : g + 1 + 1 ≠ g := by omega
 have hne2 : g ≠ g + 1 + 1 := by omega
 go_upto_region 4 with fail
 have hT : Bx w (g + 1 + 1) (g + 1) 34 #[.int .i64 0, .int .i64 0, .int .i64 0, .int .i64 0, .int .i64 0, .int .i64 0, .int .i64 0, .bool false, .slice none 0 0, .int .i64 0, .int .i64 0, .int .i64 0, .slice none 0 0, .int .i64 0, .int .i64 0, .int .i64 0, .slice none 0 0] #[.int .i64 m.f0, .int .i64 m.f1, .int .i64 m.f2, .int .i64 0, .int .i64 0, .int .i64 0, .int .i64 0, .bool false, .slice none 0 0, .int .i64 m.f9.f0, .int .i64 m.f9.f1, .int .i64 m.f9.f2, .slice A12 m.f9.f3.length c12, .int .i64 0, .int .i64 0, .int .i64 0, .slice none 0 0] _ _ := ((((HT0.out.put 9 (.int .i64 m.f9.f0)).put 10 (.int .i64 m.f9.f1)).put 11 (.int .i64 m.f9.f2)).put 12 (.slice A12 m.f9.f3.length c12))
 have HT1 := Lib.hid hT
 clear hT
 obtain ⟨w1, hw⟩ : ∃ w1, ((((w0.setCell ⟨g + 1 + 1, 9, none⟩ (.int .i64 m.f9.f0)).setCell ⟨g + 1 + 1, 10, none⟩ (.int .i64 m.f9.f1)).setCell ⟨g + 1 + 1, 11, none⟩ (.int .i64 m.f9.f2)).setCell ⟨g + 1 + 1, 12, none⟩ (.slice A12 m.f9.f3.length c12)) = w1 := ⟨_, rfl⟩
 rw [hw] at HT1 ⊢
 clear hw
 refine wp_region_list ?_
 refine wpList_load_row rfl 34 (.tmp 4) rfl (g + 1 + 1) rfl 34 _ (0, 0) _ HT1.out.y Tryz.underlying34 rfl (by kernel_rfl) ?_
 refine wpList_store_row rfl 34 (.tmp 2) (.tmp 18) rfl (g + 1) _ rfl rfl 34 _ HT1.out.g0 (by kernel_rfl) rfl (by simp [Value.oneCell']) ?_
 go_wp2_with fail
 refine bodyPost_ret (results_ct rfl _ _ (g + 1) 34 _ (0, 0) _ rfl HT1.out.fin.1 Tryz.underlying34 rfl (by kernel_rfl)) rfl ?_
 have hik : isKind m.f0 = true := by rw [HK.out]; rfl
 refine ⟨⟨m.f0, m.f1, m.f2, 0, 0, 0, 0, false, [], m.f9, zP⟩, none, A12, none, 0, c12, 0, by rw [hik]; rfl, fun _ => by unfold bareM; simp [HK.out], ⟨Nat.le_refl 0, Kd.C_nil _ _, HM.out.l12, Kd.C_below HM.out.g12 HT1.out.fin.2.2, Nat.le_refl 0, Kd.C_nil _ _⟩, HT1.out.fin.2.2⟩
set_option maxHeartbeats 4000000 in
theorem bare_k1 {w : World} (m : MsgD) {A8 A12 A16 : Option Addr} {c8 c12 c16 : Nat} (hm : MsgC w m A8 c8 A12 c12 A16 c16) (hk : m.f0 = 1) :
  Calls Tryz.prog 87 #[.agg #[.int .i64 m.f0, .int .i64 m.f1, .int .i64 m.f2, .int .i64 m.f3, .int .i64 m.f4, .int .i64 m.f5, .int .i64 m.f6, .bool m.f7, .slice A8 m.f8.length c8, .int .i64 m.f9.f0, .int .i64 m.f9.f1, .int .i64 m.f9.f2, .slice A12 m.f9.f3.length c12, .int .i64 m.f10.f0, .int .i64 m.f10.f1, .int .i64 m.f10.f2, .slice A16 m.f10.f3.length c16]] w fun e w' => BareP w m e w' := by
 have t6 : (m.f0 == 6) = false := by rw [hk]; rfl
 have t1 : (m.f0 == 1) = true := by rw [hk]; rfl
 have t2 : (m.f0 == 2) = false := by rw [hk]; rfl
 have t3 : (m.f0 == 3) = false := by rw [hk]; rfl
 have t4 : (m.f0 == 4) = false := by rw [hk]; rfl
 have t5 : (m.f0 == 5) = false := by rw [hk]; rfl
 have HK := Lib.hid hk
 clear hk
 have HM := Lib.hid hm
 clear hm
 go_enter Tryz.func87, Tryz.ntmps87
 go_upto_region 2 with fail
 obtain ⟨w0, hw, hT⟩ := bare_start w m A8 A12 A16 c8 c12 c16
 rw [← hw]
 have HT0 := Lib.hid hT
 clear hw hT
 obtain ⟨g, hg⟩ : ∃ g, w.heap.size = g := ⟨_, rfl⟩
 have HG := Lib.hid hg
 rw [hg] at HT0 ⊢
 clear hg
 obtain ⟨a0, a1, a2, a3, a4, a5, a6, a7, a8, a9, a10, a11, a12, a13, a14, a15, a16⟩ := MsBox.cell HT0.out.h.now
 have b3 : w0.cell? ⟨g + 1 + 1, 3, none⟩ = some (.int .i64 0) := (blk_cell HT0.out.y 3).trans rfl
 have z3 : w0.frozen? ⟨g + 1 + 1, 3, none⟩ = false := blk_frozen HT0.out.y 3
 have b4 : w0.cell? ⟨g + 1 + 1, 4, none⟩ = some (.int .i64 0) := (blk_cell HT0.out.y 4).trans rfl
 have z4 : w0.frozen? ⟨g + 1 + 1, 4, none⟩ = false := blk_frozen HT0.out.y 4
 have b5 : w0.cell? ⟨g + 1 + 1, 5, none⟩ = some (.int .i64 0) := (blk_cell HT0.out.y 5).trans rfl
 have z5 : w0.frozen? ⟨g + 1 + 1, 5, none⟩ = false := blk_frozen HT0.out.y 5
 have hne : g + 1 + 1 ≠ g := by omega
 have hne2 : g ≠ g + 1 + 1 := by omega
 go_wp2_with fail
 go_region
 go_upto_region 18 with fail
 have hT : Bx w (g + 1 + 1) (g + 1) 34 #[.int .i64 0, .int .i64 0, .int .i64 0, .int .i64 0, .int .i64 0, .int .i64 0, .int .i64 0, .bool false, .slice none 0 0, .int .i64 0, .int .i64 0, .int .i64 0, .slice none 0 0, .int .i64 0, .int .i64 0, .int .i64 0, .slice none 0 0] #[.int .i64 m.f0, .int .i64 m.f1, .int .i64 m.f2, .int .i64 m.f3, .int .i64 m.f4, .int .i64 m.f5, .int .i64 0, .bool false, .slice none 0 0, .int .i64 0, .int .i64 0, .int .i64 0, .slice none 0 0, .int .i64 0, .int .i64 0, .int .i64 0, .slice none 0 0] _ _ := (((HT0.out.put 3 (.int .i64 m.f3)).put 4 (.int .i64 m.f4)).put 5 (.int .i64 m.f5)).drew
 have HT1 := Lib.hid hT
 clear hT
 obtain ⟨w1, hw⟩ : ∃ w1, (((w0.setCell ⟨g + 1 + 1, 3, none⟩ (.int .i64 m.f3)).setCell ⟨g + 1 + 1, 4, none⟩ (.int .i64 m.f4)).setCell ⟨g + 1 + 1, 5, none⟩ (.int .i64 m.f5)).drew = w1 := ⟨_, rfl⟩
 rw [hw] at HT1 ⊢
 clear hw
 refine wp_region_list ?_
 refine wpList_load_row rfl 34 (.tmp 4) rfl (g + 1 + 1) rfl 34 _ (0, 0) _ HT1.out.y Tryz.underlying34 rfl (by kernel_rfl) ?_
 refine wpList_store_row rfl 34 (.tmp 2) (.tmp 71) rfl (g + 1) _ rfl rfl 34 _ HT1.out.g0 (by kernel_rfl) rfl (by simp [Value.oneCell']) ?_
 go_wp2_with fail
 refine bodyPost_ret (results_ct rfl _ _ (g + 1) 34 _ (0, 0) _ rfl HT1.out.fin.1 Tryz.underlying34 rfl (by kernel_rfl)) rfl ?_
 have hik : isKind m.f0 = true := by rw [HK.out]; rfl
 refine ⟨⟨m.f0, m.f1, m.f2, m.f3, m.f4, m.f5, 0, false, [], zE, zP⟩, none, none, none, 0, 0, 0, by rw [hik]; rfl, fun _ => by unfold bareM; simp [HK.out], ⟨Nat.le_refl 0, Kd.C_nil _ _, Nat.le_refl 0, Kd.C_nil _ _, Nat.le_refl 0, Kd.C_nil _ _⟩, HT1.out.fin.2.2⟩
set_option maxHeartbeats 4000000 in
theorem bare_k2 {w : World} (m : MsgD) {A8 A12 A16 : Option Addr} {c8 c12 c16 : Nat} (hm : MsgC w m A8 c8 A12 c12 A16 c16) (hk : m.f0 = 2) :
  Calls Tryz.prog 87 #[.agg #[.int .i64 m.f0, .int .i64 m.f1, .int .i64 m.f2, .int .i64 m.f3, .int .i64 m.f4, .int .i64 m.f5, .int .i64 m.f6, .bool m.f7, .slice A8 m.f8.length c8, .int .i64 m.f9.f0, .int .i64 m.f9.f1, .int .i64 m.f9.f2, .slice A12 m.f9.f3.length c12, .int .i64 m.f10.f0, .int .i64 m.f10.f1, .int .i64 m.f10.f2, .slice A16 m.f10.f3.length c16]] w fun e w' => BareP w m e w' := by
 have t6 : (m.f0 == 6) = false := by rw [hk]; rfl
 have t1 : (m.f0 == 1) = false := by rw [hk]; rfl
 have t2 : (m.f0 == 2) = true := by rw [hk]; rfl
 have t3 : (m.f0 == 3) = false := by rw [hk]; rfl
 have t4 : (m.f0 == 4) = false := by rw [hk]; rfl
 have t5 : (m.f0 == 5) = false := by rw [hk]; rfl
 have HK := Lib.hid hk
 clear hk
 have HM := Lib.hid hm
 clear hm
 go_enter Tryz.func87, Tryz.ntmps87
 go_upto_region 2 with fail
 obtain ⟨w0, hw, hT⟩ := bare_start w m A8 A12 A16 c8 c12 c16
 rw [← hw]
 have HT0 := Lib.hid hT
 clear hw hT
 obtain ⟨g, hg⟩ : ∃ g, w.heap.size = g := ⟨_, rfl⟩
 have HG := Lib.hid hg
 rw [hg] at HT0 ⊢
 clear hg
 obtain ⟨a0, a1, a2, a3, a4, a5, a6, a7, a8, a9, a10, a11, a12, a13, a14, a15, a16⟩ := MsBox.cell HT0.out.h.now
 have b3 : w0.cell? ⟨g + 1 + 1, 3, none⟩ = some (.int .i64 0) := (blk_cell HT0.out.y 3).trans rfl
 have z3 : w0.frozen? ⟨g + 1 + 1, 3, none⟩ = false := blk_frozen HT0.out.y 3
 have b7 : w0.cell? ⟨g + 1 + 1, 7, none⟩ = some (.bool false) := (blk_cell HT0.out.y 7).trans rfl
 have z7 : w0.frozen? ⟨g + 1 + 1, 7, none⟩ = false := blk_frozen HT0.out.y 7
 have hne : g + 1 + 1 ≠ g := by omega
 have hne2 : g ≠ g + 1 + 1 := by omega
 go_upto_region 18 with fail
 have hT : Bx w (g + 1 + 1) (g + 1) 34 #[.int .i64 0, .int .i64 0, .int .i64 0, .int .i64 0, .int .i64 0, .int .i64 0, .int .i64 0, .bool false, .slice none 0 0, .int .i64 0, .int .i64 0, .int .i64 0, .slice none 0 0, .int .i64 0, .int .i64 0, .int .i64 0, .slice none 0 0] #[.int .i64 m.f0, .int .i64 m.f1, .int .i64 m.f2, .int .i64 m.f3, .int .i64 0, .int .i64 0, .int .i64 0, .bool m.f7, .slice none 0 0, .int .i64 0, .int .i64 0, .int .i64 0, .slice none 0 0, .int .i64 0, .int .i64 0, .int .i64 0, .slice none 0 0] _ _ := ((HT0.out.put 3 (.int .i64 m.f3)).put 7 (.bool m.f7))
 have HT1 := Lib.hid hT
 clear hT
 obtain ⟨w1, hw⟩ : ∃ w1, ((w0.setCell ⟨g + 1 + 1, 3, none⟩ (.int .i64 m.f3)).setCell ⟨g + 1 + 1, 7, none⟩ (.bool m.f7)) = w1 := ⟨_, rfl⟩
 rw [hw] at HT1 ⊢
 clear hw
 refine wp_region_list ?_
 refine wpList_load_row rfl 34 (.tmp 4) rfl (g + 1 + 1) rfl 34 _ (0, 0) _ HT1.out.y Tryz.underlying34 rfl (by kernel_rfl) ?_
 refine wpList_store_row rfl 34 (.tmp 2) (.tmp 71) rfl (g + 1) _ rfl rfl 34 _ HT1.out.g0 (by kernel_rfl) rfl (by simp [Value.oneCell']) ?_
 go_wp2_with fail
 refine bodyPost_ret (results_ct rfl _ _ (g + 1) 34 _ (0, 0) _ rfl HT1.out.fin.1 Tryz.underlying34 rfl (by kernel_rfl)) rfl ?_
 have hik : isKind m.f0 = true := by rw [HK.out]; rfl
 refine ⟨⟨m.f0, m.f1, m.f2, m.f3, 0, 0, 0, m.f7, [], zE, zP⟩, none, none, none, 0, 0, 0, by rw [hik]; rfl, fun _ => by unfold bareM; simp [HK.out], ⟨Nat.le_refl 0, Kd.C_nil _ _, Nat.le_refl 0, Kd.C_nil _ _, Nat.le_refl 0, Kd.C_nil _ _⟩, HT1.out.fin.2.2⟩
set_option maxHeartbeats 4000000 in
theorem bare_k3 {w : World} (m : MsgD) {A8 A12 A16 : Option Addr} {c8 c12 c16 : Nat} (hm : MsgC w m A8 c8 A12 c12 A16 c16) (hk : m.f0 = 3) :
  Calls Tryz.prog 87 #[.agg #[.int .i64 m.f0, .int .i64 m.f1, .int .i64 m.f2, .int .i64 m.f3, .int .i64 m.f4, .int .i64 m.f5, .int .i64 m.f6, .bool m.f7, .slice A8 m.f8.length c8, .int .i64 m.f9.f0, .int .i64 m.f9.f1, .int .i64 m.f9.f2, .slice A12 m.f9.f3.length c12, .int .i64 m.f10.f0, .int .i64 m.f10.f1, .int .i64 m.f10.f2, .slice A16 m.f10.f3.length c16]] w fun e w' => BareP w m e w' := by
 have t6 : (m.f0 == 6) = false := by rw [hk]; rfl
 have t1 : (m.f0 == 1) = false := by rw [hk]; rfl
 have t2 : (m.f0 == 2) = false := by rw [hk]; rfl
 have t3 : (m.f0 == 3) = true := by rw [hk]; rfl
 have t4 : (m.f0 == 4) = false := by rw [hk]; rfl
 have t5 : (m.f0 == 5) = false := by rw [hk]; rfl
 have HK := Lib.hid hk
 clear hk
 have HM := Lib.hid hm
 clear hm
 go_enter Tryz.func87, Tryz.ntmps87
 go_upto_region 2 with fail
 obtain ⟨w0, hw, hT⟩ := bare_start w m A8 A12 A16 c8 c12 c16
 rw [← hw]
 have HT0 := Lib.hid hT
 clear hw hT
 obtain ⟨g, hg⟩ : ∃ g, w.heap.size = g := ⟨_, rfl⟩
 have HG := Lib.hid hg
 rw [hg] at HT0 ⊢
 clear hg
 obtain ⟨a0, a1, a2, a3, a4, a5, a6, a7, a8, a9, a10, a11, a12, a13, a14, a15, a16⟩ := MsBox.cell HT0.out.h.now
 have b3 : w0.cell? ⟨g + 1 + 1, 3, none⟩ = some (.int .i64 0) := (blk_cell HT0.out.y 3).trans rfl
 have z3 : w0.frozen? ⟨g + 1 + 1, 3, none⟩ = false := blk_frozen HT0.out.y 3
 have b4 : w0.cell? ⟨g + 1 + 1, 4, none⟩ = some (.int .i64 0) := (blk_cell HT0.out.y 4).trans rfl
 have z4 : w0.frozen? ⟨g + 1 + 1, 4, none⟩ = false := blk_frozen HT0.out.y 4
 have b5 : w0.cell? ⟨g + 1 + 1, 5, none⟩ = some (.int .i64 0) := (blk_cell HT0.out.y 5).trans rfl
 have z5 : w0.frozen? ⟨g + 1 + 1, 5, none⟩ = false := blk_frozen HT0.out.y 5
 have b6 : w0.cell? ⟨g + 1 + 1, 6, none⟩ = some (.int .i64 0) := (blk_cell HT0.out.y 6).trans rfl
 have z6 : w0.frozen? ⟨g + 1 + 1, 6, none⟩ = false := blk_frozen HT0.out.y 6
 have b8 : w0.cell? ⟨g + 1 + 1, 8, none⟩ = some (.slice none 0 0) := (blk_cell HT0.out.y 8).trans rfl
 have z8 : w0.frozen? ⟨g + 1 + 1, 8, none⟩ = false := blk_frozen HT0.out.y 8
 have hne : g + 1 + 1 ≠ g := by omega
 have hne2 : g ≠ g + 1 + 1 := by omega
 go_wp2_with fail
 go_region
 go_upto_region 18 with fail
 have hT : Bx w (g + 1 + 1) (g + 1) 34 #[.int .i64 0, .int .i64 0, .int .i64 0, .int .i64 0, .int .i64 0, .int .i64 0, .int .i64 0, .bool false, .slice none 0 0, .int .i64 0, .int .i64 0, .int .i64 0, .slice none 0 0, .int .i64 0, .int .i64 0, .int .i64 0, .slice none 0 0] #[.int .i64 m.f0, .int .i64 m.f1, .int .i64 m.f2, .int .i64 m.f3, .int .i64 m.f4, .int .i64 m.f5, .int .i64 m.f6, .bool false, .slice A8 m.f8.length c8, .int .i64 0, .int .i64 0, .int .i64 0, .slice none 0 0, .int .i64 0, .int .i64 0, .int .i64 0, .slice none 0 0] _ _ := (((((HT0.out.put 3 (.int .i64 m.f3)).put 4 (.int .i64 m.f4)).put 5 (.int .i64 m.f5)).put 6 (.int .i64 m.f6)).put 8 (.slice A8 m.f8.length c8)).drew
 have HT1 := Lib.hid hT
 clear hT
 obtain ⟨w1, hw⟩ : ∃ w1, (((((w0.setCell ⟨g + 1 + 1, 3, none⟩ (.int .i64 m.f3)).setCell ⟨g + 1 + 1, 4, none⟩ (.int .i64 m.f4)).setCell ⟨g + 1 + 1, 5, none⟩ (.int .i64 m.f5)).setCell ⟨g + 1 + 1, 6, none⟩ (.int .i64 m.f6)).setCell ⟨g + 1 + 1, 8, none⟩ (.slice A8 m.f8.length c8)).drew = w1 := ⟨_, rfl⟩
 rw [hw] at HT1 ⊢
 clear hw
 refine wp_region_list ?_
 refine wpList_load_row rfl 34 (.tmp 4) rfl (g + 1 + 1) rfl 34 _ (0, 0) _ HT1.out.y Tryz.underlying34 rfl (by kernel_rfl) ?_
 refine wpList_store_row rfl 34 (.tmp 2) (.tmp 71) rfl (g + 1) _ rfl rfl 34 _ HT1.out.g0 (by kernel_rfl) rfl (by simp [Value.oneCell']) ?_
 go_wp2_with fail
 refine bodyPost_ret (results_ct rfl _ _ (g + 1) 34 _ (0, 0) _ rfl HT1.out.fin.1 Tryz.underlying34 rfl (by kernel_rfl)) rfl ?_
 have hik : isKind m.f0 = true := by rw [HK.out]; rfl
 refine ⟨⟨m.f0, m.f1, m.f2, m.f3, m.f4, m.f5, m.f6, false, m.f8, zE, zP⟩, A8, none, none, c8, 0, 0, by rw [hik]; rfl, fun _ => by unfold bareM; simp [HK.out], ⟨HM.out.l8, Kd.C_below HM.out.g8 HT1.out.fin.2.2, Nat.le_refl 0, Kd.C_nil _ _, Nat.le_refl 0, Kd.C_nil _ _⟩, HT1.out.fin.2.2⟩
set_option maxHeartbeats 4000000 in
theorem bare_k4 {w : World} (m : MsgD) {A8 A12 A16 : Option Addr} {c8 c12 c16 : Nat} (hm : MsgC w m A8 c8 A12 c12 A16 c16) (hk : m.f0 = 4) :
  Calls Tryz.prog 87 #[.agg #[.int .i64 m.f0, .int .i64 m.f1, .int .i64 m.f2, .int .i64 m.f3, .int .i64 m.f4, .int .i64 m.f5, .int .i64 m.f6, .bool m.f7, .slice A8 m.f8.length c8, .int .i64 m.f9.f0, .int .i64 m.f9.f1, .int .i64 m.f9.f2, .slice A12 m.f9.f3.length c12, .int .i64 m.f10.f0, .int .i64 m.f10.f1, .int .i64 m.f10.f2, .slice A16 m.f10.f3.length c16]] w fun e w' => BareP w m e w' := by
 have t6 : (m.f0 == 6) = false := by rw [hk]; rfl
 have t1 : (m.f0 == 1) = false := by rw [hk]; rfl
 have t2 : (m.f0 == 2) = false := by rw [hk]; rfl
 have t3 : (m.f0 == 3) = false := by rw [hk]; rfl
 have t4 : (m.f0 == 4) = true := by rw [hk]; rfl
 have t5 : (m.f0 == 5) = false := by rw [hk]; rfl
 have HK := Lib.hid hk
 clear hk
 have HM := Lib.hid hm
 clear hm
 go_enter Tryz.func87, Tryz.ntmps87
 go_upto_region 2 with fail
 obtain ⟨w0, hw, hT⟩ := bare_start w m A8 A12 A16 c8 c12 c16
 rw [← hw]
 have HT0 := Lib.hid hT
 clear hw hT
 obtain ⟨g, hg⟩ : ∃ g, w.heap.size = g := ⟨_, rfl⟩
 have HG := Lib.hid hg
 rw [hg] at HT0 ⊢
 clear hg
 obtain ⟨a0, a1, a2, a3, a4, a5, a6, a7, a8, a9, a10, a11, a12, a13, a14, a15, a16⟩ := MsBox.cell HT0.out.h.now
 have b3 : w0.cell? ⟨g + 1 + 1, 3, none⟩ = some (.int .i64 0) := (blk_cell HT0.out.y 3).trans rfl
 have z3 : w0.frozen? ⟨g + 1 + 1, 3, none⟩ = false := blk_frozen HT0.out.y 3
 have b7 : w0.cell? ⟨g + 1 + 1, 7, none⟩ = some (.bool false) := (blk_cell HT0.out.y 7).trans rfl
 have z7 : w0.frozen? ⟨g + 1 + 1, 7, none⟩ = false := blk_frozen HT0.out.y 7
 have b4 : w0.cell? ⟨g + 1 + 1, 4, none⟩ = some (.int .i64 0) := (blk_cell HT0.out.y 4).trans rfl
 have z4 : w0.frozen? ⟨g + 1 + 1, 4, none⟩ = false := blk_frozen HT0.out.y 4
 have hne : g + 1 + 1 ≠ g := by omega
 have hne2 : g ≠ g + 1 + 1 := by omega
 go_wp2_with fail
 go_region
 go_upto_region 18 with fail
 have hT : Bx w (g + 1 + 1) (g + 1) 34 #[.int .i64 0, .int .i64 0, .int .i64 0, .int .i64 0, .int .i64 0, .int .i64 0, .int .i64 0, .bool false, .slice none 0 0, .int .i64 0, .int .i64 0, .int .i64 0, .slice none 0 0, .int .i64 0, .int .i64 0, .int .i64 0, .slice none 0 0] #[.int .i64 m.f0, .int .i64 m.f1, .int .i64 m.f2, .int .i64 m.f3, .int .i64 m.f4, .int .i64 0, .int .i64 0, .bool m.f7, .slice none 0 0, .int .i64 0, .int .i64 0, .int .i64 0, .slice none 0 0, .int .i64 0, .int .i64 0, .int .i64 0, .slice none 0 0] _ _ := (((HT0.out.put 3 (.int .i64 m.f3)).put 7 (.bool m.f7)).put 4 (.int .i64 m.f4)).drew
 have HT1 := Lib.hid hT
 clear hT
 obtain ⟨w1, hw⟩ : ∃ w1, (((w0.setCell ⟨g + 1 + 1, 3, none⟩ (.int .i64 m.f3)).setCell ⟨g + 1 + 1, 7, none⟩ (.bool m.f7)).setCell ⟨g + 1 + 1, 4, none⟩ (.int .i64 m.f4)).drew = w1 := ⟨_, rfl⟩
 rw [hw] at HT1 ⊢
 clear hw
 refine wp_region_list ?_
 refine wpList_load_row rfl 34 (.tmp 4) rfl (g + 1 + 1) rfl 34 _ (0, 0) _ HT1.out.y Tryz.underlying34 rfl (by kernel_rfl) ?_
 refine wpList_store_row rfl 34 (.tmp 2) (.tmp 71) rfl (g + 1) _ rfl rfl 34 _ HT1.out.g0 (by kernel_rfl) rfl (by simp [Value.oneCell']) ?_
 go_wp2_with fail
 refine bodyPost_ret (results_ct rfl _ _ (g + 1) 34 _ (0, 0) _ rfl HT1.out.fin.1 Tryz.underlying34 rfl (by kernel_rfl)) rfl ?_
 have hik : isKind m.f0 = true := by rw [HK.out]; rfl
 refine ⟨⟨m.f0, m.f1, m.f2, m.f3, m.f4, 0, 0, m.f7, [], zE, zP⟩, none, none, none, 0, 0, 0, by rw [hik]; rfl, fun _ => by unfold bareM; simp [HK.out], ⟨Nat.le_refl 0, Kd.C_nil _ _, Nat.le_refl 0, Kd.C_nil _ _, Nat.le_refl 0, Kd.C_nil _ _⟩, HT1.out.fin.2.2⟩
set_option maxHeartbeats 4000000 in
theorem bare_k5 {w : World} (m : MsgD) {A8 A12 A16 : Option Addr} {c8 c12 c16 : Nat} (hm : MsgC w m A8 c8 A12 c12 A16 c16) (hk : m.f0 = 5) :
  Calls Tryz.prog 87 #[.agg #[.int .i64 m.f0, .int .i64 m.f1, .int .i64 m.f2, .int .i64 m.f3, .int .i64 m.f4, .int .i64 m.f5, .int .i64 m.f6, .bool m.f7, .slice A8 m.f8.length c8, .int .i64 m.f9.f0, .int .i64 m.f9.f1, .int .i64 m.f9.f2, .slice A12 m.f9.f3.length c12, .int .i64 m.f10.f0, .int .i64 m.f10.f1, .int .i64 m.f10.f2, .slice A16 m.f10.f3.length c16]] w fun e w' => BareP w m e w' := by
 have t6 : (m.f0 == 6) = false := by rw [hk]; rfl
 have t1 : (m.f0 == 1) = false := by rw [hk]; rfl
 have t2 : (m.f0 == 2) = false := by rw [hk]; rfl
 have t3 : (m.f0 == 3) = false := by rw [hk]; rfl
 have t4 : (m.f0 == 4) = false := by rw [hk]; rfl
 have t5 : (m.f0 == 5) = true := by rw [hk]; rfl
 have HK := Lib.hid hk
 clear hk
 have HM := Lib.hid hm
 clear hm
 go_enter Tryz.func87, Tryz.ntmps87
 go_upto_region 2 with fail
 obtain ⟨w0, hw, hT⟩ := bare_start w m A8 A12 A16 c8 c12 c16
 rw [← hw]
 have HT0 := Lib.hid hT
 clear hw hT
 obtain ⟨g, hg⟩ : ∃ g, w.heap.size = g := ⟨_, rfl⟩
 have HG := Lib.hid hg
 rw [hg] at HT0 ⊢
 clear hg
 obtain ⟨a0, a1, a2, a3, a4, a5, a6, a7, a8, a9, a10, a11, a12, a13, a14, a15, a16⟩ := MsBox.cell HT0.out.h.now
 have b3 : w0.cell? ⟨g + 1 + 1, 3, none⟩ = some (.int .i64 0) := (blk_cell HT0.out.y 3).trans rfl
 have z3 : w0.frozen? ⟨g + 1 + 1, 3, none⟩ = false := blk_frozen HT0.out.y 3
 have b4 : w0.cell? ⟨g + 1 + 1, 4, none⟩ = some (.int .i64 0) := (blk_cell HT0.out.y 4).trans rfl
 have z4 : w0.frozen? ⟨g + 1 + 1, 4, none⟩ = false := blk_frozen HT0.out.y 4
 have b5 : w0.cell? ⟨g + 1 + 1, 5, none⟩ = some (.int .i64 0) := (blk_cell HT0.out.y 5).trans rfl
 have z5 : w0.frozen? ⟨g + 1 + 1, 5, none⟩ = false := blk_frozen HT0.out.y 5
 have b13 : w0.cell? ⟨g + 1 + 1, 13, none⟩ = some (.int .i64 0) := (blk_cell HT0.out.y 13).trans rfl
 have z13 : w0.frozen? ⟨g + 1 + 1, 13, none⟩ = false := blk_frozen HT0.out.y 13
 have b14 : w0.cell? ⟨g + 1 + 1, 14, none⟩ = some (.int .i64 0) := (blk_cell HT0.out.y 14).trans rfl
 have z14 : w0.frozen? ⟨g + 1 + 1, 14, none⟩ = false := blk_frozen HT0.out.y 14
 have b15 : w0.cell? ⟨g + 1 + 1, 15, none⟩ = some (.int .i64 0) := (blk_cell HT0.out.y 15).trans rfl
 have z15 : w0.frozen? ⟨g + 1 + 1, 15, none⟩ = false := blk_frozen HT0.out.y 15
 have b16 : w0.cell? ⟨g + 1 + 1, 16, none⟩ = some (.slice none 0 0) := (blk_cell HT0.out.y 16).trans rfl
 have z16 : w0.frozen? ⟨g + 1 + 1, 16, none⟩ = false := blk_frozen HT0.out.y 16
 have hne : g + 1 + 1 ≠ g := by omega
 have hne2 : g ≠ g + 1 + 1 := by omega
 go_wp2_with fail
 go_region
 go_upto_region 18 with fail
 have hT : Bx w (g + 1 + 1) (g + 1) 34 #[.int .i64 0, .int .i64 0, .int .i64 0, .int .i64 0, .int .i64 0, .int .i64 0, .int .i64 0, .bool false, .slice none 0 0, .int .i64 0, .int .i64 0, .int .i64 0, .slice none 0 0, .int .i64 0, .int .i64 0, .int .i64 0, .slice none 0 0] #[.int .i64 m.f0, .int .i64 m.f1, .int .i64 m.f2, .int .i64 m.f3, .int .i64 m.f4, .int .i64 m.f5, .int .i64 0, .bool false, .slice none 0 0, .int .i64 0, .int .i64 0, .int .i64 0, .slice none 0 0, .int .i64 m.f10.f0, .int .i64 m.f10.f1, .int .i64 m.f10.f2, .slice A16 m.f10.f3.length c16] _ _ := (((((((HT0.out.put 3 (.int .i64 m.f3)).put 4 (.int .i64 m.f4)).put 5 (.int .i64 m.f5)).put 13 (.int .i64 m.f10.f0)).put 14 (.int .i64 m.f10.f1)).put 15 (.int .i64 m.f10.f2)).put 16 (.slice A16 m.f10.f3.length c16)).drew
 have HT1 := Lib.hid hT
 clear hT
 obtain ⟨w1, hw⟩ : ∃ w1, (((((((w0.setCell ⟨g + 1 + 1, 3, none⟩ (.int .i64 m.f3)).setCell ⟨g + 1 + 1, 4, none⟩ (.int .i64 m.f4)).setCell ⟨g + 1 + 1, 5, none⟩ (.int .i64 m.f5)).setCell ⟨g + 1 + 1, 13, none⟩ (.int .i64 m.f10.f0)).setCell ⟨g + 1 + 1, 14, none⟩ (.int .i64 m.f10.f1)).setCell ⟨g + 1 + 1, 15, none⟩ (.int .i64 m.f10.f2)).setCell ⟨g + 1 + 1, 16, none⟩ (.slice A16 m.f10.f3.length c16)).drew = w1 := ⟨_, rfl⟩
 rw [hw] at HT1 ⊢
 clear hw
 refine wp_region_list ?_
 refine wpList_load_row rfl 34 (.tmp 4) rfl (g + 1 + 1) rfl 34 _ (0, 0) _ HT1.out.y Tryz.underlying34 rfl (by kernel_rfl) ?_
 refine wpList_store_row rfl 34 (.tmp 2) (.tmp 71) rfl (g + 1) _ rfl rfl 34 _ HT1.out.g0 (by kernel_rfl) rfl (by simp [Value.oneCell']) ?_
 go_wp2_with fail
 refine bodyPost_ret (results_ct rfl _ _ (g + 1) 34 _ (0, 0) _ rfl HT1.out.fin.1 Tryz.underlying34 rfl (by kernel_rfl)) rfl ?_
 have hik : isKind m.f0 = true := by rw [HK.out]; rfl
 refine ⟨⟨m.f0, m.f1, m.f2, m.f3, m.f4, m.f5, 0, false, [], zE, m.f10⟩, none, none, A16, 0, 0, c16, by rw [hik]; rfl, fun _ => by unfold bareM; simp [HK.out], ⟨Nat.le_refl 0, Kd.C_nil _ _, Nat.le_refl 0, Kd.C_nil _ _, HM.out.l16, Kd.C_below HM.out.g16 HT1.out.fin.2.2⟩, HT1.out.fin.2.2⟩
end Go.Proofs.YtgiefblcckikeaaGreat.M
end

section
/- A message without what its kind does not have: record.bare, the reference's plain (printed by genbare04.py). -/
attribute [local irreducible] Go.wpStill
namespace Go.Proofs.YtgiefblcckikeaaGreat.M
open Go.RowKit Go.Proofs.YtgiefblcckikeaaGreatW.PrintWords Go.Proofs.YtgiefblcckikeaaGreatW.PrintLast Go.Proofs.YtgiefblcckikeaaGreatW.PrintMore Go.Proofs.YtgiefblcckikeaaGreat.G
set_option maxHeartbeats 4000000 in
theorem bare_k0 {w : World} (m : MsgD) {A8 A12 A16 : Option Addr} {c8 c12 c16 : Nat} (hm : MsgC w m A8 c8 A12 c12 A16 c16) (hk : isKind m.f0 = false) :
  Calls Tryz.prog 87 #[.agg #[.int .i64 m.f0, .int .i64 m.f1, .int .i64 m.f2, .int .i64 m.f3, .int .i64 m.f4, .int .i64 m.f5, .int .i64 m.f6, .bool m.f7, .slice A8 m.f8.length c8, .int .i64 m.f9.f0, .int .i64 m.f9.f1, .int .i64 m.f9.f2, .slice A12 m.f9.f3.length c12, .int .i64 m.f10.f0, .int .i64 m.f10.f1, .int .i64 m.f10.f2, .slice A16 m.f10.f3.length c16]] w fun e w' => BareP w m e w' := by
 have t6 : (m.f0 == 6) = false := by rw [beq_eq_false_iff_ne]; intro h; rw [h] at hk; cases hk
 have t1 : (m.f0 == 1) = false := by rw [beq_eq_false_iff_ne]; intro h; rw [h] at hk; cases hk
 have t2 : (m.f0 == 2) = false := by rw [beq_eq_false_iff_ne]; intro h; rw [h] at hk; cases hk
 have t3 : (m.f0 == 3) = false := by rw [beq_eq_false_iff_ne]; intro h; rw [h] at hk; cases hk
 have t4 : (m.f0 == 4) = false := by rw [beq_eq_false_iff_ne]; intro h; rw [h] at hk; cases hk
 have t5 : (m.f0 == 5) = false := by rw [beq_eq_false_iff_ne]; intro h; rw [h] at hk; cases hk
 have HK := Lib.hid hk
 clear hk
 have HM := Lib.hid hm
 clear hm
 go_enter Tryz.func87, Tryz.ntmps87
 go_upto_region 2 with fail
 obtain ⟨w0, hw, hT⟩ := bare_start w m A8 A12 A16 c8 c12 c16
 rw [← hw]
 have HT0 := Lib.hid hT
 clear hw hT
 obtain ⟨g, hg⟩ : ∃ g, w.heap.size = g := ⟨_, rfl⟩
 have HG := Lib.hid hg
 rw [hg] at HT0 ⊢
 clear hg
 obtain ⟨a0, a1, a2, a3, a4, a5, a6, a7, a8, a9, a10, a11, a12, a13, a14, a15, a16⟩ := MsBox.cell HT0.out.h.now
 have b3 : w0.cell? ⟨g + 1 + 1, 3, none⟩ = some (.int .i64 0) := (blk_cell HT0.out.y 3).trans rfl
 have z3 : w0.frozen? ⟨g + 1 + 1, 3, none⟩ = false := blk_frozen HT0.out.y 3
 have hne : g + 1 + 1 ≠ g := by omega
 have hne2 : g ≠ g + 1 + 1 := by omega
 go_upto_region 7 with fail
 have HT1 := Lib.hid (HT0.out.set 3 (.int .i64 m.f3) #[.int .i64 m.f0, .int .i64 m.f1, .int .i64 m.f2, .int .i64 m.f3, .int .i64 0, .int .i64 0, .int .i64 0, .bool false, .slice none 0 0, .int .i64 0, .int .i64 0, .int .i64 0, .slice none 0 0, .int .i64 0, .int .i64 0, .int .i64 0, .slice none 0 0] (blk_put HT0.out.y 3 _ rfl))
 obtain ⟨w1, hw⟩ : ∃ w1, w0.setCell ⟨g + 1 + 1, 3, none⟩ (.int .i64 m.f3) = w1 := ⟨_, rfl⟩
 rw [hw] at HT1 ⊢
 clear hw
 refine wp_region_list ?_
 refine wpList_cut 1 ?_
 simp only [List.take_succ_cons, List.take_zero, List.drop_succ_cons, List.drop_zero]
 go_wp2_with fail
 refine Halt.mk ?_
 refine wpList_store_row rfl 34 (.tmp 2) (.tmp 24) rfl (g + 1) #[.int .i64 0, .int .i64 0, .int .i64 0, .int .i64 0, .int .i64 0, .int .i64 0, .int .i64 0, .bool false, .slice none 0 0, .int .i64 0, .int .i64 0, .int .i64 0, .slice none 0 0, .int .i64 0, .int .i64 0, .int .i64 0, .slice none 0 0] rfl rfl 34 _ HT1.out.g0 (by kernel_rfl) rfl (by simp [Value.oneCell']) ?_
 go_wp2_with fail
 refine bodyPost_ret (results_ct rfl _ _ (g + 1) 34 _ (0, 0) _ rfl HT1.out.fin.1 Tryz.underlying34 rfl (by kernel_rfl)) rfl ?_
 exact ⟨zM, none, none, none, 0, 0, 0, by rw [HK.out]; rfl, fun h => (by rw [HK.out] at h; cases h), ⟨Nat.le_refl 0, Kd.C_nil _ _, Nat.le_refl 0, Kd.C_nil _ _, Nat.le_refl 0, Kd.C_nil _ _⟩, HT1.out.fin.2.2⟩
theorem bare_is {w : World} (m : MsgD) {A8 A12 A16 : Option Addr} {c8 c12 c16 : Nat} (hm : MsgC w m A8 c8 A12 c12 A16 c16) :
  Calls Tryz.prog 87 #[.agg #[.int .i64 m.f0, .int .i64 m.f1, .int .i64 m.f2, .int .i64 m.f3, .int .i64 m.f4, .int .i64 m.f5, .int .i64 m.f6, .bool m.f7, .slice A8 m.f8.length c8, .int .i64 m.f9.f0, .int .i64 m.f9.f1, .int .i64 m.f9.f2, .slice A12 m.f9.f3.length c12, .int .i64 m.f10.f0, .int .i64 m.f10.f1, .int .i64 m.f10.f2, .slice A16 m.f10.f3.length c16]] w fun e w' => BareP w m e w' := by
 cases hk : isKind m.f0 with
 | false => exact bare_k0 m hm hk
 | true =>
  have h2 : 1 ≤ m.f0 ∧ m.f0 ≤ 6 := by
   unfold isKind at hk
   rw [Bool.and_eq_true, decide_eq_true_eq, decide_eq_true_eq] at hk
   exact hk
  by_cases h1 : m.f0 = 1
  ·exact bare_k1 m hm h1
  ·by_cases h3 : m.f0 = 2
   ·exact bare_k2 m hm h3
   ·by_cases h4 : m.f0 = 3
    ·exact bare_k3 m hm h4
    ·by_cases h5 : m.f0 = 4
     ·exact bare_k4 m hm h5
     ·by_cases h6 : m.f0 = 5
      ·exact bare_k5 m hm h6
      ·exact bare_k6 m hm (by omega)
end Go.Proofs.YtgiefblcckikeaaGreat.M
end

section
/- Which termed entries and parts may be (printed by genmaym04.py). -/
attribute [local irreducible] Go.wpStill
namespace Go.Proofs.YtgiefblcckikeaaGreat.M
open Go.RowKit Go.Proofs.YtgiefblcckikeaaGreatW.PrintWords Go.Proofs.YtgiefblcckikeaaGreatW.PrintLast Go.Proofs.YtgiefblcckikeaaGreatW.PrintMore Go.Proofs.YtgiefblcckikeaaGreat.G
def mayTr (x : TrD) : Bool := inB 0 1099511627776 [x.f0] && mayE x.f1.f0 x.f1.f1 x.f1.f2 x.f1.f3
def mayPt (p : PartD) : Bool := inB 0 1099511627776 [p.f0] && (inB 1 4096 [p.f2] && (inB 0 (p.f2 - 1) [p.f1] && decide ((p.f3.length : Int) ≤ 16384)))
theorem lit_new (w : World) (xs : List Int) (hm : xs.length ≤ 1000) : Below w.heap.size w (w.alloc (.cells (xs.map (Value.int .i64)).toArray 2)) ∧ Kd.C (Kd.int .i64) (w.alloc (.cells (xs.map (Value.int .i64)).toArray 2)) (some ⟨w.heap.size, 0, none⟩) xs.length xs := ⟨(Below.refl _ _).alloc (Nat.le_refl _) _, C_lit w xs hm⟩
set_option maxHeartbeats 1000000 in
theorem termed_is {w : World} (a : TrD) {A : Option Addr} {c : Nat} (ha : Kd.C G.k26 w A a.f1.f3.length a.f1.f3) :
  Calls Tryz.prog 91 #[.agg #[.int .i64 a.f0, .int .i64 a.f1.f0, .int .i64 a.f1.f1, .int .i64 a.f1.f2, .slice A a.f1.f3.length c]] w fun e w' => e = .returned (.bool (mayTr a)) ∧ Below w.heap.size w w' := by
 have hx := heap_alloc_new w (.cells #[.int .i64 a.f0, .int .i64 a.f1.f0, .int .i64 a.f1.f1, .int .i64 a.f1.f2, .slice A a.f1.f3.length c] 63)
 have hb := (Below.refl _ w).alloc (Nat.le_refl _) (.cells #[.int .i64 a.f0, .int .i64 a.f1.f0, .int .i64 a.f1.f1, .int .i64 a.f1.f2, .slice A a.f1.f3.length c] 63)
 have hz : (w.alloc (.cells #[.int .i64 a.f0, .int .i64 a.f1.f0, .int .i64 a.f1.f1, .int .i64 a.f1.f2, .slice A a.f1.f3.length c] 63)).heap.size = w.heap.size + 1 := by simp
 obtain ⟨h1, h2⟩ := lit_new (w.alloc (.cells #[.int .i64 a.f0, .int .i64 a.f1.f0, .int .i64 a.f1.f1, .int .i64 a.f1.f2, .slice A a.f1.f3.length c] 63)) [a.f0] (by simp)
 simp only [List.map_cons, List.map_nil, List.length_cons, List.length_nil, Nat.zero_add] at h1 h2
 rw [hz] at h2
 have hx2 := (h1.block w.heap.size (by omega)).trans hx
 have HB := Lib.hid (hb.trans (h1.mono hb.size)); have HL := Lib.hid h2; have HX := Lib.hid hx2; have HA := Lib.hid (Kd.C_below ha (hb.trans (h1.mono hb.size)))
 obtain ⟨q, hq⟩ : ∃ q, mayTr a = q := ⟨_, rfl⟩
 have HQ := Lib.hid hq
 rw [hq]
 clear hq ha hx hb hz h1 h2 hx2
 go_enter Tryz.func91, Tryz.ntmps91
 go_wp2_with fail
 obtain ⟨w1, hw⟩ : ∃ w1, (w.alloc (.cells #[.int .i64 a.f0, .int .i64 a.f1.f0, .int .i64 a.f1.f1, .int .i64 a.f1.f2, .slice A a.f1.f3.length c] 63)).alloc (.cells #[.int .i64 a.f0] 2) = w1 := ⟨_, rfl⟩
 obtain ⟨g, hg⟩ : ∃ g, w.heap.size = g := ⟨_, rfl⟩
 have HG := Lib.hid hg
 rw [hw] at HB HL HX HA ⊢
 rw [hg] at HL HX ⊢
 clear hw hg
 obtain ⟨b0, hb0⟩ : ∃ b0, inB 0 1099511627776 [a.f0] = b0 := ⟨_, rfl⟩
 have HV := Lib.hid (show q = (b0 && mayE a.f1.f0 a.f1.f1 a.f1.f2 a.f1.f3) by rw [← HQ.out, ← hb0]; rfl)
 have h4 := G.record_count.calls (some ⟨g + 1, 0, none⟩) 1 [a.f0] b0 w1 HL.out (Nat.le_refl _) (by unfold G.record_count.f G.record_between.f; rw [hb0]; rfl)
 clear hb0
 refine h4.mono ?_
 rintro e w2 ⟨rfl, hb⟩
 have HB2 := Lib.hid (HB.out.trans (hb.mono HB.out.size)); have HX2 := Lib.hid ((hb.block g (Array.getElem?_eq_some_iff.1 HX.out).1).trans HX.out); have HA2 := Lib.hid (Kd.C_below HA.out hb)
 clear h4 hb HB HX HA HL
 have c0 : w2.cell? ⟨g, 0, none⟩ = some (.int .i64 a.f0) := (blk_cell HX2.out 0).trans rfl
 have c1 : w2.cell? ⟨g, 1, none⟩ = some (.int .i64 a.f1.f0) := (blk_cell HX2.out 1).trans rfl
 have c2 : w2.cell? ⟨g, 2, none⟩ = some (.int .i64 a.f1.f1) := (blk_cell HX2.out 2).trans rfl
 have c3 : w2.cell? ⟨g, 3, none⟩ = some (.int .i64 a.f1.f2) := (blk_cell HX2.out 3).trans rfl
 have c4 : w2.cell? ⟨g, 4, none⟩ = some (.slice A a.f1.f3.length c) := (blk_cell HX2.out 4).trans rfl
 cases b0 with
 | false =>
  have HW := Lib.hid (show q = false by rw [HV.out]; rfl)
  go_wp2_with fail
  go_ret
  exact ⟨by rw [HW.out]; rfl, HB2.out⟩
 | true =>
  have HW := Lib.hid (show q = mayE a.f1.f0 a.f1.f1 a.f1.f2 a.f1.f3 by rw [HV.out]; rfl)
  go_wp2_with fail
  refine (mayEn_is a.f1.f0 a.f1.f1 a.f1.f2 A c a.f1.f3 w2 HA2.out).mono ?_
  rintro e w3 ⟨rfl, hb⟩
  have HB3 := Lib.hid (HB2.out.trans (hb.mono HB2.out.size))
  clear hb
  go_wp2_with fail
  go_ret
  exact ⟨by rw [HW.out]; rfl, HB3.out⟩
theorem msg1_is {w : World} (a : TrD) {A : Option Addr} {c : Nat} (ha : Kd.C G.k26 w A a.f1.f3.length a.f1.f3) :
  Calls Tryz.prog 90 #[.agg #[.int .i64 a.f0, .int .i64 a.f1.f0, .int .i64 a.f1.f1, .int .i64 a.f1.f2, .slice A a.f1.f3.length c]] w fun e w' => e = .returned (.bool (!mayTr a)) ∧ Below w.heap.size w w' := by
 have HB := Lib.hid (show Below w.heap.size w (w.alloc (.cells #[.int .i64 a.f0, .int .i64 a.f1.f0, .int .i64 a.f1.f1, .int .i64 a.f1.f2, .slice A a.f1.f3.length c] 63)) from (Below.refl _ _).alloc (Nat.le_refl _) _)
 have HA := Lib.hid (Kd.C_below ha HB.out)
 clear ha
 go_enter Tryz.func90, Tryz.ntmps90
 go_wp2_with fail
 refine (termed_is a HA.out).mono ?_
 rintro e w' ⟨rfl, hb⟩
 have HB2 := Lib.hid (HB.out.trans (hb.mono HB.out.size))
 clear hb
 go_wp2_with fail
 go_ret
 exact ⟨by simp, HB2.out⟩
def TrV (l : List TrD) (w : World) (e : Ending) (w' : World) : Prop := ∃ i : Int, e = .returned (.int .i64 i) ∧ (0 ≤ i ↔ l.all mayTr = false) ∧ Below w.heap.size w w'
def TrI (l : List TrD) (w : World) (i : Value) (wr : World) : Prop := ∃ k : Nat, k ≤ l.length ∧ i = .int .i64 k ∧ (l.take k).all mayTr = true ∧ Below w.heap.size w wr
set_option maxHeartbeats 1000000 in
theorem tr_index (A : Option Addr) (c : Nat) (l : List TrD) (w : World) (hr : Kd.C G.k63 w A l.length l) :
  Calls Tryz.prog 146 #[.slice A l.length c, .func (.func 90) #[] #[]] w fun e w' => TrV l w e w' := by
 have hlm : l.length ≤ 9223372036854775807 := hr.2.1
 have HR := Lib.hid hr
 clear hr
 go_enter Tryz.func146, Tryz.ntmps146
 go_wp2_with fail
 go_loopw [8] (fun i wr => TrI l w i wr) (fun i _ => l.length - (intOf i).toNat)
 case atStart => exact ⟨0, Nat.zero_le _, rfl, by simp, Below.refl _ _⟩
 case round =>
  obtain ⟨k, hk, rfl, hin, hb⟩ := hrel
  have HIN := Lib.hid hin; have HBr := Lib.hid hb
  clear hin hb
  by_cases hlt : k < l.length
  ·obtain ⟨x, hx⟩ : ∃ x, l[k]? = some x := ⟨_, List.getElem?_eq_getElem hlt⟩
   obtain ⟨ad, A4, c4, rfl, x0, x1, x2, x3, x4, hl, hX⟩ := tr_get (Kd.C_below HR.out HBr.out) hx
   have HXX := Lib.hid hX
   have HX := Lib.hid (show l.take (k + 1) = l.take k ++ [x] by rw [List.take_add_one, hx]; rfl)
   have HM := Lib.hid (List.mem_of_getElem? hx)
   clear hx hX hl
   go_wp2_with fail
   refine (msg1_is x HXX.out).mono ?_
   rintro e w' ⟨rfl, hb⟩
   have HB2 := Lib.hid (HBr.out.trans (hb.mono HBr.out.size))
   clear hb
   cases ho : mayTr x with
   | false =>
    have HB := Lib.hid (show l.all mayTr = false by rw [List.all_eq_false]; exact ⟨x, HM.out, by rw [ho]; simp⟩)
    clear ho
    go_wp2_with fail
    go_ret
    exact ⟨k, rfl, ⟨fun _ => HB.out, fun _ => by omega⟩, HB2.out⟩
   | true =>
    have HB := Lib.hid (show (l.take (k + 1)).all mayTr = true by rw [HX.out, List.all_append, HIN.out]; simp [ho])
    clear ho
    go_wp2_with fail
    go_roundw
    case rel => exact ⟨k + 1, hlt, by go_num, HB.out, HB2.out⟩
    case measure => simp [intOf]; omega
  ·have HB := Lib.hid (show l.all mayTr = true by have := HIN.out; rwa [List.take_of_length_le (by omega)] at this)
   go_wp2_with fail
   go_ret
   exact ⟨-1, rfl, ⟨fun h => by omega, fun h => by rw [HB.out] at h; cases h⟩, HBr.out⟩
theorem tr_has (A : Option Addr) (c : Nat) (l : List TrD) (w : World) (hr : Kd.C G.k63 w A l.length l) :
  Calls Tryz.prog 89 #[.slice A l.length c, .func (.func 90) #[] #[]] w fun e w' => e = .returned (.bool (!l.all mayTr)) ∧ Below w.heap.size w w' := by
 have H := Lib.hid (tr_index A c l w hr)
 clear hr
 go_enter Tryz.func89, Tryz.ntmps89
 go_wp2_with fail
 refine H.out.mono ?_
 rintro e w' ⟨i, rfl, hi, hb⟩
 have HI := Lib.hid hi; have HB := Lib.hid hb
 clear hi hb
 go_wp2_with fail
 go_ret
 refine ⟨?_, HB.out⟩
 show Ending.returned (.bool (decide (0 ≤ i))) = _
 cases hb : l.all mayTr with
 | true => rw [decide_eq_false (fun h => by have := HI.out.1 h; rw [hb] at this; cases this)]; rfl
 | false => rw [decide_eq_true (HI.out.2 hb)]; rfl
set_option maxHeartbeats 2000000 in
theorem part_is {w : World} (a : PartD) {A : Option Addr} {c : Nat} (hp : isI64 a.f2) (ha : Kd.C (Kd.int .u8) w A a.f3.length a.f3) :
  Calls Tryz.prog 92 #[.agg #[.int .i64 a.f0, .int .i64 a.f1, .int .i64 a.f2, .slice A a.f3.length c]] w fun e w' => e = .returned (.bool (mayPt a)) ∧ Below w.heap.size w w' := by
 have hlm : a.f3.length ≤ 9223372036854775807 := Kd.C_max ha
 have hx := heap_alloc_new w (.cells #[.int .i64 a.f0, .int .i64 a.f1, .int .i64 a.f2, .slice A a.f3.length c] 32)
 have hb := (Below.refl _ w).alloc (Nat.le_refl _) (.cells #[.int .i64 a.f0, .int .i64 a.f1, .int .i64 a.f2, .slice A a.f3.length c] 32)
 have hz : (w.alloc (.cells #[.int .i64 a.f0, .int .i64 a.f1, .int .i64 a.f2, .slice A a.f3.length c] 32)).heap.size = w.heap.size + 1 := by simp
 obtain ⟨h1, h2⟩ := lit_new (w.alloc (.cells #[.int .i64 a.f0, .int .i64 a.f1, .int .i64 a.f2, .slice A a.f3.length c] 32)) [a.f0] (by simp)
 simp only [List.map_cons, List.map_nil, List.length_cons, List.length_nil, Nat.zero_add] at h1 h2
 rw [hz] at h2
 have hx2 := (h1.block w.heap.size (by omega)).trans hx
 have HB1 := Lib.hid (hb.trans (h1.mono hb.size)); have HL := Lib.hid h2; have HX1 := Lib.hid hx2
 obtain ⟨q, hq⟩ : ∃ q, mayPt a = q := ⟨_, rfl⟩
 have HQ := Lib.hid hq
 rw [hq]
 clear hq ha hx hb hz h1 h2 hx2
 go_enter Tryz.func92, Tryz.ntmps92
 go_wp2_with fail
 obtain ⟨w1, hw⟩ : ∃ w1, (w.alloc (.cells #[.int .i64 a.f0, .int .i64 a.f1, .int .i64 a.f2, .slice A a.f3.length c] 32)).alloc (.cells #[.int .i64 a.f0] 2) = w1 := ⟨_, rfl⟩
 obtain ⟨g, hg⟩ : ∃ g, w.heap.size = g := ⟨_, rfl⟩
 have HG := Lib.hid hg
 rw [hw] at HB1 HL HX1 ⊢
 rw [hg] at HL HX1 ⊢
 clear hw hg
 obtain ⟨b0, hb0⟩ : ∃ b0, inB 0 1099511627776 [a.f0] = b0 := ⟨_, rfl⟩
 obtain ⟨b1, hb1⟩ : ∃ b1, inB 1 4096 [a.f2] = b1 := ⟨_, rfl⟩
 obtain ⟨b2, hb2⟩ : ∃ b2, inB 0 (a.f2 - 1) [a.f1] = b2 := ⟨_, rfl⟩
 obtain ⟨b3, hb3⟩ : ∃ b3, decide ((a.f3.length : Int) ≤ 16384) = b3 := ⟨_, rfl⟩
 have HV := Lib.hid (show q = (b0 && (b1 && (b2 && b3))) by rw [← HQ.out, ← hb0, ← hb1, ← hb2, ← hb3]; rfl)
 have HB11 := Lib.hid hb1; have HB22 := Lib.hid hb2; have HPI := Lib.hid hp
 have h4 := G.record_count.calls (some ⟨g + 1, 0, none⟩) 1 [a.f0] b0 w1 HL.out (Nat.le_refl _) (by unfold G.record_count.f G.record_between.f; rw [hb0]; rfl)
 clear hb0 hb1 hb2 hp
 refine h4.mono ?_
 rintro e w2 ⟨rfl, hb⟩
 have HB2 := Lib.hid (HB1.out.trans (hb.mono HB1.out.size)); have HX2 := Lib.hid ((hb.block g (Array.getElem?_eq_some_iff.1 HX1.out).1).trans HX1.out)
 clear h4 hb HB1 HX1 HL
 have c0 : w2.cell? ⟨g, 0, none⟩ = some (.int .i64 a.f0) := (blk_cell HX2.out 0).trans rfl
 have c1 : w2.cell? ⟨g, 1, none⟩ = some (.int .i64 a.f1) := (blk_cell HX2.out 1).trans rfl
 have c2 : w2.cell? ⟨g, 2, none⟩ = some (.int .i64 a.f2) := (blk_cell HX2.out 2).trans rfl
 have c3 : w2.cell? ⟨g, 3, none⟩ = some (.slice A a.f3.length c) := (blk_cell HX2.out 3).trans rfl
 cases b0 with
 | false =>
  have HW := Lib.hid (show q = false by rw [HV.out]; simp)
  go_wp2_with fail
  go_ret
  exact ⟨by rw [HW.out]; rfl, HB2.out⟩
 | true =>
  obtain ⟨h1, h2⟩ := lit_new w2 [a.f2] (by simp)
  simp only [List.map_cons, List.map_nil, List.length_cons, List.length_nil, Nat.zero_add] at h1 h2
  have HLa := Lib.hid h2; have HBa := Lib.hid (HB2.out.trans (h1.mono HB2.out.size)); have HXa := Lib.hid ((h1.block g (Array.getElem?_eq_some_iff.1 HX2.out).1).trans HX2.out)
  clear h1 h2
  go_wp2_with fail
  refine (between_is _ 1 [a.f2] (1) (4096) _ HLa.out).mono ?_
  rw [HB11.out]
  rintro e w3 ⟨rfl, hb⟩
  have HB3 := Lib.hid (HBa.out.trans (hb.mono HBa.out.size)); have HX3 := Lib.hid ((hb.block g (Array.getElem?_eq_some_iff.1 HXa.out).1).trans HXa.out)
  clear hb HLa HBa HXa HB2 HX2 c0 c1 c2 c3
  have c0 : w3.cell? ⟨g, 0, none⟩ = some (.int .i64 a.f0) := (blk_cell HX3.out 0).trans rfl
  have c1 : w3.cell? ⟨g, 1, none⟩ = some (.int .i64 a.f1) := (blk_cell HX3.out 1).trans rfl
  have c2 : w3.cell? ⟨g, 2, none⟩ = some (.int .i64 a.f2) := (blk_cell HX3.out 2).trans rfl
  have c3 : w3.cell? ⟨g, 3, none⟩ = some (.slice A a.f3.length c) := (blk_cell HX3.out 3).trans rfl
  cases b1 with
  | false =>
   have HW := Lib.hid (show q = false by rw [HV.out]; simp)
   go_wp2_with fail
   go_ret
   exact ⟨by rw [HW.out]; rfl, HB3.out⟩
  | true =>
   have hw64 : wrap64 (a.f2 - 1) = a.f2 - 1 := by
    have h9 : 1 ≤ a.f2 ∧ a.f2 ≤ 4096 := by
     have h8 := HB11.out
     unfold inB at h8
     simpa using h8
    unfold wrap64
    omega
   obtain ⟨h1, h2⟩ := lit_new w3 [a.f1] (by simp)
   simp only [List.map_cons, List.map_nil, List.length_cons, List.length_nil, Nat.zero_add] at h1 h2
   have HLa := Lib.hid h2; have HBa := Lib.hid (HB3.out.trans (h1.mono HB3.out.size)); have HXa := Lib.hid ((h1.block g (Array.getElem?_eq_some_iff.1 HX3.out).1).trans HX3.out)
   clear h1 h2
   go_wp2_with fail
   refine (between_is _ 1 [a.f1] (0) (a.f2 - 1) _ HLa.out).mono ?_
   rw [HB22.out]
   rintro e w4 ⟨rfl, hb⟩
   have HB4 := Lib.hid (HBa.out.trans (hb.mono HBa.out.size)); have HX4 := Lib.hid ((hb.block g (Array.getElem?_eq_some_iff.1 HXa.out).1).trans HXa.out)
   clear hb HLa HBa HXa HB3 HX3 c0 c1 c2 c3
   have c0 : w4.cell? ⟨g, 0, none⟩ = some (.int .i64 a.f0) := (blk_cell HX4.out 0).trans rfl
   have c1 : w4.cell? ⟨g, 1, none⟩ = some (.int .i64 a.f1) := (blk_cell HX4.out 1).trans rfl
   have c2 : w4.cell? ⟨g, 2, none⟩ = some (.int .i64 a.f2) := (blk_cell HX4.out 2).trans rfl
   have c3 : w4.cell? ⟨g, 3, none⟩ = some (.slice A a.f3.length c) := (blk_cell HX4.out 3).trans rfl
   cases b2 with
   | false =>
    have HW := Lib.hid (show q = false by rw [HV.out]; simp)
    go_wp2_with fail
    go_ret
    exact ⟨by rw [HW.out]; rfl, HB4.out⟩
   | true =>
    have HW := Lib.hid (show q = b3 by rw [HV.out]; simp)
    go_wp2_with fail
    go_ret
    exact ⟨by rw [HW.out]; rfl, HB4.out⟩
end Go.Proofs.YtgiefblcckikeaaGreat.M
end

section
/- Which messages are the same: record.SameMsg, the reference's SameMsg (printed by gensame04.py). -/
attribute [local irreducible] Go.wpStill
namespace Go.Proofs.YtgiefblcckikeaaGreat.M
open Go.RowKit Go.Proofs.YtgiefblcckikeaaGreatW.PrintWords Go.Proofs.YtgiefblcckikeaaGreatW.PrintLast Go.Proofs.YtgiefblcckikeaaGreatW.PrintMore Go.Proofs.YtgiefblcckikeaaGreat.G
set_option maxHeartbeats 4000000 in
theorem sameMs_is {w : World} (m n : MsgD) {A8 A12 A16 B8 B12 B16 : Option Addr} {c8 c12 c16 d8 d12 d16 : Nat} (hm : MsgC w m A8 c8 A12 c12 A16 c16) (hn : MsgC w n B8 d8 B12 d12 B16 d16) :
  Calls Tryz.prog 88 #[.agg (msgCells m A8 c8 A12 c12 A16 c16), .agg (msgCells n B8 d8 B12 d12 B16 d16)] w fun e w' => e = .returned (.bool (eqMs m n)) ∧ Below w.heap.size w w' := by
 have hb1 : Below w.heap.size w ((w.alloc (.cells (msgCells m A8 c8 A12 c12 A16 c16) 34)).alloc (.cells (msgCells n B8 d8 B12 d12 B16 d16) 34)) := ((Below.refl _ _).alloc (Nat.le_refl _) _).alloc (by simp) _
 have hz1 : (w.alloc (.cells (msgCells m A8 c8 A12 c12 A16 c16) 34)).heap.size = w.heap.size + 1 := by simp
 have hx : MsBox ((w.alloc (.cells (msgCells m A8 c8 A12 c12 A16 c16) 34)).alloc (.cells (msgCells n B8 d8 B12 d12 B16 d16) 34)) w.heap.size m A8 c8 A12 c12 A16 c16 := (((Below.refl _ (w.alloc (.cells (msgCells m A8 c8 A12 c12 A16 c16) 34))).alloc (Nat.le_refl _) _).block w.heap.size (by omega)).trans (heap_alloc_new w _)
 have hy : MsBox ((w.alloc (.cells (msgCells m A8 c8 A12 c12 A16 c16) 34)).alloc (.cells (msgCells n B8 d8 B12 d12 B16 d16) 34)) (w.heap.size + 1) n B8 d8 B12 d12 B16 d16 := by rw [← hz1]; exact heap_alloc_new _ _
 have HB := Lib.hid hb1; have HX := Lib.hid hx; have HY := Lib.hid hy; have HM := Lib.hid (hm.below hb1); have HN := Lib.hid (hn.below hb1)
 clear hm hn hb1 hz1 hx hy
 obtain ⟨r, hr⟩ : ∃ r, eqMs m n = r := ⟨_, rfl⟩
 have HR0 := Lib.hid hr.symm
 rw [hr]
 clear hr
 go_enter Tryz.func88, Tryz.ntmps88
 go_wp2_with fail
 obtain ⟨w1, hw1⟩ : ∃ w1, (w.alloc (.cells (msgCells m A8 c8 A12 c12 A16 c16) 34)).alloc (.cells (msgCells n B8 d8 B12 d12 B16 d16) 34) = w1 := ⟨_, rfl⟩
 obtain ⟨g, hg⟩ : ∃ g, w.heap.size = g := ⟨_, rfl⟩
 try rw [hw1]
 rw [hw1] at HB HX HY HM HN
 rw [hg] at HX HY ⊢
 clear hw1 hg
 obtain ⟨q0, hq0⟩ : ∃ q0 : Bool, (m.f0 == n.f0) = q0 := ⟨_, rfl⟩
 obtain ⟨q1, hq1⟩ : ∃ q1 : Bool, (m.f1 == n.f1) = q1 := ⟨_, rfl⟩
 obtain ⟨q2, hq2⟩ : ∃ q2 : Bool, (m.f2 == n.f2) = q2 := ⟨_, rfl⟩
 obtain ⟨q3, hq3⟩ : ∃ q3 : Bool, (m.f3 == n.f3) = q3 := ⟨_, rfl⟩
 obtain ⟨q4, hq4⟩ : ∃ q4 : Bool, (m.f4 == n.f4) = q4 := ⟨_, rfl⟩
 obtain ⟨q5, hq5⟩ : ∃ q5 : Bool, (m.f5 == n.f5) = q5 := ⟨_, rfl⟩
 obtain ⟨q6, hq6⟩ : ∃ q6 : Bool, (m.f6 == n.f6) = q6 := ⟨_, rfl⟩
 obtain ⟨q7, hq7⟩ : ∃ q7 : Bool, (m.f7 == n.f7) = q7 := ⟨_, rfl⟩
 obtain ⟨q8, hq8⟩ : ∃ q8 : Bool, eqTrs m.f8 n.f8 = q8 := ⟨_, rfl⟩
 obtain ⟨q9, hq9⟩ : ∃ q9 : Bool, eqEn m.f9.f0 m.f9.f1 m.f9.f2 m.f9.f3 n.f9.f0 n.f9.f1 n.f9.f2 n.f9.f3 = q9 := ⟨_, rfl⟩
 obtain ⟨q10, hq10⟩ : ∃ q10 : Bool, eqPt m.f10 n.f10 = q10 := ⟨_, rfl⟩
 have HR := Lib.hid (show r = (q0 && (q1 && (q2 && (q3 && (q4 && (q5 && (q6 && (q7 && (q8 && (q9 && q10)))))))))) by rw [HR0.out, ← hq0, ← hq1, ← hq2, ← hq3, ← hq4, ← hq5, ← hq6, ← hq7, ← hq8, ← hq9, ← hq10]; rfl)
 have HQ8 := Lib.hid hq8; have HQ9 := Lib.hid hq9; have HQ10 := Lib.hid hq10
 clear hq8 hq9 hq10
 refine (eqfuncT_is A8 B8 c8 d8 m.f8 n.f8 w1 HM.out.g8 HN.out.g8).mono ?_
 rw [HQ8.out]
 rintro e w2 ⟨rfl, hb⟩
 have HB2 := Lib.hid (HB.out.trans (hb.mono HB.out.size)); have HX2 := Lib.hid (HX.out.below hb); have HY2 := Lib.hid (HY.out.below hb); have HM2 := Lib.hid (HM.out.below hb); have HN2 := Lib.hid (HN.out.below hb)
 clear hb HB HX HY HM HN
 obtain ⟨a0, a1, a2, a3, a4, a5, a6, a7, a8, a9, a10, a11, a12, a13, a14, a15, a16⟩ := HX2.out.cell
 obtain ⟨b0, b1, b2, b3, b4, b5, b6, b7, b8, b9, b10, b11, b12, b13, b14, b15, b16⟩ := HY2.out.cell
 go_upto_region 2 with fail
 go_cut [6] (fun v wx => v = .bool q10 ∧ Below w2.heap.size w2 wx)
 case first =>
  obtain ⟨p0, hp0⟩ : ∃ p0 : Bool, (m.f10.f0 == n.f10.f0) = p0 := ⟨_, rfl⟩
  obtain ⟨p1, hp1⟩ : ∃ p1 : Bool, (m.f10.f1 == n.f10.f1) = p1 := ⟨_, rfl⟩
  obtain ⟨p2, hp2⟩ : ∃ p2 : Bool, (m.f10.f2 == n.f10.f2) = p2 := ⟨_, rfl⟩
  obtain ⟨p3, hp3⟩ : ∃ p3 : Bool, eqS m.f10.f3 n.f10.f3 = p3 := ⟨_, rfl⟩
  have HP := Lib.hid (show q10 = (p0 && (p1 && (p2 && p3))) by rw [← HQ10.out, ← hp0, ← hp1, ← hp2, ← hp3]; rfl)
  have HP3 := Lib.hid hp3
  clear hp3
  have HBX := Lib.hid (Below.refl w2.heap.size w2)
  cases p0 with
  | false =>
   have HV := Lib.hid (show q10 = false by rw [HP.out]; simp)
   go_wp2_with fail
   go_meet
   exact ⟨by rw [HV.out], HBX.out⟩
  | true =>
   cases p1 with
   | false =>
    have HV := Lib.hid (show q10 = false by rw [HP.out]; simp)
    go_wp2_with fail
    go_meet
    exact ⟨by rw [HV.out], HBX.out⟩
   | true =>
    cases p2 with
    | false =>
     have HV := Lib.hid (show q10 = false by rw [HP.out]; simp)
     go_wp2_with fail
     go_meet
     exact ⟨by rw [HV.out], HBX.out⟩
    | true =>
     go_wp2_with fail
     refine (bEqual_is A16 c16 m.f10.f3 B16 d16 n.f10.f3 HM2.out.g16 HM2.out.l16 HN2.out.g16 HN2.out.l16).mono ?_
     rw [HP3.out]
     rintro e w3 ⟨rfl, hb⟩
     have HBX := Lib.hid hb
     clear hb
     cases p3 with
     | false =>
      have HV := Lib.hid (show q10 = false by rw [HP.out]; simp)
      go_wp2_with fail
      go_meet
      exact ⟨by rw [HV.out], HBX.out⟩
     | true =>
      have HV := Lib.hid (show q10 = true by rw [HP.out]; simp)
      go_wp2_with fail
      go_meet
      exact ⟨by rw [HV.out], HBX.out⟩
 case rest =>
  obtain ⟨rfl, hb⟩ := hcut
  obtain ⟨w3, rfl⟩ : ∃ w3, w3 = wc := ⟨_, rfl⟩
  have HBX := Lib.hid (HB2.out.trans (hb.mono HB2.out.size)); have HX3 := Lib.hid (HX2.out.below hb); have HY3 := Lib.hid (HY2.out.below hb); have HM3 := Lib.hid (HM2.out.below hb); have HN3 := Lib.hid (HN2.out.below hb)
  clear hb a0 a1 a2 a3 a4 a5 a6 a7 a8 a9 a10 a11 a12 a13 a14 a15 a16 b0 b1 b2 b3 b4 b5 b6 b7 b8 b9 b10 b11 b12 b13 b14 b15 b16 HB2 HX2 HY2 HM2 HN2 HR0 HQ10
  obtain ⟨a0, a1, a2, a3, a4, a5, a6, a7, a8, a9, a10, a11, a12, a13, a14, a15, a16⟩ := HX3.out.cell
  obtain ⟨b0, b1, b2, b3, b4, b5, b6, b7, b8, b9, b10, b11, b12, b13, b14, b15, b16⟩ := HY3.out.cell
  go_upto_region 3 with fail
  refine wp_region_list ?_
  refine with_fin (fun a' W => a'.tmps[4]? = some (.bool r) ∧ a'.defers = [] ∧ Below w.heap.size w W) (fun a' W h => ?_) (fun HF => ?_)
  ·obtain ⟨h1, h2, h3⟩ := h
   refine ‹∀ (a : Act) (w : World), Code.wp Tryz.prog Code.ret _ a w → _› _ _ ?_
   exact wp_ret (bodyPost_ret (v := .bool r) (results_slot rfl h1) h2 ⟨rfl, h3⟩)
  simp only [List.append_eq, List.cons_append, List.nil_append, List.take_succ_cons, List.take_zero, List.drop_succ_cons, List.drop_zero]
  cases q8 with
  | false => exact chain_to 113 4 false [(5, some false)] (by kernel_rfl) (Knows.cons rfl (Knows.nil _)) (Nat.le_refl 113) (fun a' h1 h2 => HF.out a' _ ⟨by rw [h1, HR.out]; simp, h2, HBX.out⟩)
  | true =>
   cases q10 with
   | false => exact chain_to 113 4 false [(5, some true), (6, some false)] (by kernel_rfl) (Knows.cons rfl (Knows.cons rfl (Knows.nil _))) (Nat.le_refl 113) (fun a' h1 h2 => HF.out a' _ ⟨by rw [h1, HR.out]; simp, h2, HBX.out⟩)
   | true =>
    refine wpList_cut 10 ?_
    simp only [List.append_eq, List.cons_append, List.nil_append, List.take_succ_cons, List.take_zero, List.drop_succ_cons, List.drop_zero]
    go_wp2_with fail
    refine (sameEn_is m.f9.f0 m.f9.f1 m.f9.f2 A12 c12 m.f9.f3 n.f9.f0 n.f9.f1 n.f9.f2 B12 d12 n.f9.f3 w3 HM3.out.g12 HN3.out.g12).mono ?_
    rw [HQ9.out]
    rintro e w4 ⟨rfl, hb⟩
    have HBY := Lib.hid (HBX.out.trans (hb.mono HBX.out.size)); have HX4 := Lib.hid (HX3.out.below hb); have HY4 := Lib.hid (HY3.out.below hb)
    clear hb HBX HX3 HY3 a0 a1 a2 a3 a4 a5 a6 a7 a8 a9 a10 a11 a12 a13 a14 a15 a16 b0 b1 b2 b3 b4 b5 b6 b7 b8 b9 b10 b11 b12 b13 b14 b15 b16
    obtain ⟨a0, a1, a2, a3, a4, a5, a6, a7, a8, a9, a10, a11, a12, a13, a14, a15, a16⟩ := HX4.out.cell
    obtain ⟨b0, b1, b2, b3, b4, b5, b6, b7, b8, b9, b10, b11, b12, b13, b14, b15, b16⟩ := HY4.out.cell
    go_wp2_with fail
    refine Halt.mk ?_
    cases q9 with
    | false => exact chain_to 113 4 false [(50, some true), (55, some false)] (by kernel_rfl) (Knows.cons rfl (Knows.cons rfl (Knows.nil _))) (Nat.le_refl 113) (fun a' h1 h2 => HF.out a' _ ⟨by rw [h1, HR.out]; simp, h2, HBY.out⟩)
    | true =>
     refine wpList_cut 7 ?_
     simp only [List.append_eq, List.cons_append, List.nil_append, List.take_succ_cons, List.take_zero, List.drop_succ_cons, List.drop_zero]
     go_wp2_with fail
     refine Halt.mk ?_
     cases q0 with
     | false => exact chain_to 113 4 false [(57, some true), (62, some false)] (by kernel_rfl) (Knows.cons rfl (Knows.cons rfl (Knows.nil _))) (Nat.le_refl 113) (fun a' h1 h2 => HF.out a' _ ⟨by rw [h1, HR.out]; simp, h2, HBY.out⟩)
     | true =>
      refine wpList_cut 7 ?_
      simp only [List.append_eq, List.cons_append, List.nil_append, List.take_succ_cons, List.take_zero, List.drop_succ_cons, List.drop_zero]
      go_wp2_with fail
      refine Halt.mk ?_
      cases q1 with
      | false => exact chain_to 113 4 false [(64, some true), (69, some false)] (by kernel_rfl) (Knows.cons rfl (Knows.cons rfl (Knows.nil _))) (Nat.le_refl 113) (fun a' h1 h2 => HF.out a' _ ⟨by rw [h1, HR.out]; simp, h2, HBY.out⟩)
      | true =>
       refine wpList_cut 7 ?_
       simp only [List.append_eq, List.cons_append, List.nil_append, List.take_succ_cons, List.take_zero, List.drop_succ_cons, List.drop_zero]
       go_wp2_with fail
       refine Halt.mk ?_
       cases q2 with
       | false => exact chain_to 113 4 false [(71, some true), (76, some false)] (by kernel_rfl) (Knows.cons rfl (Knows.cons rfl (Knows.nil _))) (Nat.le_refl 113) (fun a' h1 h2 => HF.out a' _ ⟨by rw [h1, HR.out]; simp, h2, HBY.out⟩)
       | true =>
        refine wpList_cut 7 ?_
        simp only [List.append_eq, List.cons_append, List.nil_append, List.take_succ_cons, List.take_zero, List.drop_succ_cons, List.drop_zero]
        go_wp2_with fail
        refine Halt.mk ?_
        cases q3 with
        | false => exact chain_to 113 4 false [(78, some true), (83, some false)] (by kernel_rfl) (Knows.cons rfl (Knows.cons rfl (Knows.nil _))) (Nat.le_refl 113) (fun a' h1 h2 => HF.out a' _ ⟨by rw [h1, HR.out]; simp, h2, HBY.out⟩)
        | true =>
         refine wpList_cut 7 ?_
         simp only [List.append_eq, List.cons_append, List.nil_append, List.take_succ_cons, List.take_zero, List.drop_succ_cons, List.drop_zero]
         go_wp2_with fail
         refine Halt.mk ?_
         cases q4 with
         | false => exact chain_to 113 4 false [(85, some true), (90, some false)] (by kernel_rfl) (Knows.cons rfl (Knows.cons rfl (Knows.nil _))) (Nat.le_refl 113) (fun a' h1 h2 => HF.out a' _ ⟨by rw [h1, HR.out]; simp, h2, HBY.out⟩)
         | true =>
          refine wpList_cut 7 ?_
          simp only [List.append_eq, List.cons_append, List.nil_append, List.take_succ_cons, List.take_zero, List.drop_succ_cons, List.drop_zero]
          go_wp2_with fail
          refine Halt.mk ?_
          cases q5 with
          | false => exact chain_to 113 4 false [(92, some true), (97, some false)] (by kernel_rfl) (Knows.cons rfl (Knows.cons rfl (Knows.nil _))) (Nat.le_refl 113) (fun a' h1 h2 => HF.out a' _ ⟨by rw [h1, HR.out]; simp, h2, HBY.out⟩)
          | true =>
           refine wpList_cut 7 ?_
           simp only [List.append_eq, List.cons_append, List.nil_append, List.take_succ_cons, List.take_zero, List.drop_succ_cons, List.drop_zero]
           go_wp2_with fail
           refine Halt.mk ?_
           cases q6 with
           | false => exact chain_to 113 4 false [(99, some true), (104, some false)] (by kernel_rfl) (Knows.cons rfl (Knows.cons rfl (Knows.nil _))) (Nat.le_refl 113) (fun a' h1 h2 => HF.out a' _ ⟨by rw [h1, HR.out]; simp, h2, HBY.out⟩)
           | true =>
            refine wpList_cut 7 ?_
            simp only [List.append_eq, List.cons_append, List.nil_append, List.take_succ_cons, List.take_zero, List.drop_succ_cons, List.drop_zero]
            go_wp2_with fail
            refine Halt.mk ?_
            cases q7 with
            | false => exact chain_to 113 4 false [(106, some true), (111, some false)] (by kernel_rfl) (Knows.cons rfl (Knows.cons rfl (Knows.nil _))) (Nat.le_refl 113) (fun a' h1 h2 => HF.out a' _ ⟨by rw [h1, HR.out]; simp, h2, HBY.out⟩)
            | true => exact chain_to 113 4 true [(106, some true), (111, some true)] (by kernel_rfl) (Knows.cons rfl (Knows.cons rfl (Knows.nil _))) (Nat.le_refl 113) (fun a' h1 h2 => HF.out a' _ ⟨by rw [h1, HR.out]; simp, h2, HBY.out⟩)
end Go.Proofs.YtgiefblcckikeaaGreat.M
end

section
/- Which messages may be: record.msg (printed by genmsg04.py). -/
attribute [local irreducible] Go.wpStill
namespace Go.Proofs.YtgiefblcckikeaaGreat.M
open Go.RowKit Go.Proofs.YtgiefblcckikeaaGreatW.PrintWords Go.Proofs.YtgiefblcckikeaaGreatW.PrintLast Go.Proofs.YtgiefblcckikeaaGreatW.PrintMore Go.Proofs.YtgiefblcckikeaaGreat.G
def mayMs (m : MsgD) : Bool := inB 0 4 [m.f1] && (inB 0 4 [m.f2] && (inB 0 1099511627776 [m.f3, m.f4, m.f5, m.f6] && (isKind m.f0 && (eqMs (bareM m) m && (decide ((m.f8.length : Int) ≤ 4096) && (m.f8.all mayTr && ((!(m.f0 == 5) || mayPt m.f10) && (!(m.f0 == 6) || mayE m.f9.f0 m.f9.f1 m.f9.f2 m.f9.f3))))))))
set_option maxHeartbeats 8000000 in
theorem msg_is {w : World} (m : MsgD) {A8 A12 A16 : Option Addr} {c8 c12 c16 : Nat} (hm : MsgC w m A8 c8 A12 c12 A16 c16) (hp : isI64 m.f10.f2) :
  Calls Tryz.prog 45 #[.agg #[.int .i64 m.f0, .int .i64 m.f1, .int .i64 m.f2, .int .i64 m.f3, .int .i64 m.f4, .int .i64 m.f5, .int .i64 m.f6, .bool m.f7, .slice A8 m.f8.length c8, .int .i64 m.f9.f0, .int .i64 m.f9.f1, .int .i64 m.f9.f2, .slice A12 m.f9.f3.length c12, .int .i64 m.f10.f0, .int .i64 m.f10.f1, .int .i64 m.f10.f2, .slice A16 m.f10.f3.length c16]] w fun e w' => e = .returned (.bool (mayMs m)) ∧ Below w.heap.size w w' := by
 have hb := (Below.refl _ w).alloc (Nat.le_refl _) (.cells #[.int .i64 m.f0, .int .i64 m.f1, .int .i64 m.f2, .int .i64 m.f3, .int .i64 m.f4, .int .i64 m.f5, .int .i64 m.f6, .bool m.f7, .slice A8 m.f8.length c8, .int .i64 m.f9.f0, .int .i64 m.f9.f1, .int .i64 m.f9.f2, .slice A12 m.f9.f3.length c12, .int .i64 m.f10.f0, .int .i64 m.f10.f1, .int .i64 m.f10.f2, .slice A16 m.f10.f3.length c16] 34)
 have HB0 := Lib.hid hb; have HX0 := Lib.hid (show MsBox (w.alloc (.cells #[.int .i64 m.f0, .int .i64 m.f1, .int .i64 m.f2, .int .i64 m.f3, .int .i64 m.f4, .int .i64 m.f5, .int .i64 m.f6, .bool m.f7, .slice A8 m.f8.length c8, .int .i64 m.f9.f0, .int .i64 m.f9.f1, .int .i64 m.f9.f2, .slice A12 m.f9.f3.length c12, .int .i64 m.f10.f0, .int .i64 m.f10.f1, .int .i64 m.f10.f2, .slice A16 m.f10.f3.length c16] 34)) w.heap.size m A8 c8 A12 c12 A16 c16 from heap_alloc_new w _); have HM0 := Lib.hid (hm.below hb); have HPI := Lib.hid hp
 have hlm : m.f8.length ≤ 9223372036854775807 := Kd.C_max hm.g8
 obtain ⟨q, hq⟩ : ∃ q, mayMs m = q := ⟨_, rfl⟩
 have HQ := Lib.hid hq
 rw [hq]
 clear hq hm hp hb
 go_enter Tryz.func45, Tryz.ntmps45
 go_upto_region 1 with fail
 obtain ⟨v0, hw⟩ : ∃ v, w.alloc (.cells #[.int .i64 m.f0, .int .i64 m.f1, .int .i64 m.f2, .int .i64 m.f3, .int .i64 m.f4, .int .i64 m.f5, .int .i64 m.f6, .bool m.f7, .slice A8 m.f8.length c8, .int .i64 m.f9.f0, .int .i64 m.f9.f1, .int .i64 m.f9.f2, .slice A12 m.f9.f3.length c12, .int .i64 m.f10.f0, .int .i64 m.f10.f1, .int .i64 m.f10.f2, .slice A16 m.f10.f3.length c16] 34) = v := ⟨_, rfl⟩
 obtain ⟨g, hg⟩ : ∃ g, w.heap.size = g := ⟨_, rfl⟩
 have HG := Lib.hid hg
 rw [hw] at HB0 HX0 HM0 ⊢
 rw [hg] at HX0 ⊢
 clear hw hg
 obtain ⟨b0, hb0⟩ : ∃ b, inB 0 4 [m.f1] = b := ⟨_, rfl⟩
 obtain ⟨b1, hb1⟩ : ∃ b, inB 0 4 [m.f2] = b := ⟨_, rfl⟩
 obtain ⟨b2, hb2⟩ : ∃ b, inB 0 1099511627776 [m.f3, m.f4, m.f5, m.f6] = b := ⟨_, rfl⟩
 obtain ⟨b3, hb3⟩ : ∃ b, isKind m.f0 = b := ⟨_, rfl⟩
 obtain ⟨b4, hb4⟩ : ∃ b, eqMs (bareM m) m = b := ⟨_, rfl⟩
 obtain ⟨b5, hb5⟩ : ∃ b : Bool, decide (4096 < (m.f8.length : Int)) = b := ⟨_, rfl⟩
 obtain ⟨b6, hb6⟩ : ∃ b, m.f8.all mayTr = b := ⟨_, rfl⟩
 obtain ⟨b7, hb7⟩ : ∃ b, mayPt m.f10 = b := ⟨_, rfl⟩
 obtain ⟨b8, hb8⟩ : ∃ b, mayE m.f9.f0 m.f9.f1 m.f9.f2 m.f9.f3 = b := ⟨_, rfl⟩
 obtain ⟨k5, hk5⟩ : ∃ b : Bool, (m.f0 != 5) = b := ⟨_, rfl⟩
 obtain ⟨k6, hk6⟩ : ∃ b : Bool, (m.f0 != 6) = b := ⟨_, rfl⟩
 have HV := Lib.hid (show q = (b0 && (b1 && (b2 && (b3 && (b4 && (!b5 && (b6 && ((k5 || b7) && (k6 || b8)))))))))  by
  rw [← HQ.out, ← hb0, ← hb1, ← hb2, ← hb3, ← hb4, ← hb5, ← hb6, ← hb7, ← hb8, ← hk5, ← hk6]
  unfold mayMs
  have e1 : decide ((m.f8.length : Int) ≤ 4096) = !decide (4096 < (m.f8.length : Int)) := by
   by_cases h : (m.f8.length : Int) ≤ 4096
   ·rw [decide_eq_true h, decide_eq_false (by omega)]; rfl
   ·rw [decide_eq_false h, decide_eq_true (by omega)]; rfl
  rw [e1]
  rfl)
 have H0 := Lib.hid hb0; have H1 := Lib.hid hb1; have H2 := Lib.hid hb2; have H3 := Lib.hid hb3; have H4 := Lib.hid hb4; have H6 := Lib.hid hb6; have H7 := Lib.hid hb7; have H8 := Lib.hid hb8
 clear hb0 hb1 hb2 hb3 hb4 hb6 hb7 hb8
 obtain ⟨a0, a1, a2, a3, a4, a5, a6, a7, a8, a9, a10, a11, a12, a13, a14, a15, a16⟩ := HX0.out.cell
 go_wp2_with fail
 have h4 := G.record_who.calls m.f1 (inB 0 4 [m.f1]) v0 rfl
 rw [H0.out] at h4
 refine h4.mono ?_
 rintro e v1 ⟨rfl, hb⟩
 have HB1 := Lib.hid (HB0.out.trans (hb.mono HB0.out.size)); have HX1 := Lib.hid (HX0.out.below hb); have HM1 := Lib.hid (HM0.out.below hb)
 clear h4 hb HB0 HX0 HM0 a0 a1 a2 a3 a4 a5 a6 a7 a8 a9 a10 a11 a12 a13 a14 a15 a16
 obtain ⟨a0, a1, a2, a3, a4, a5, a6, a7, a8, a9, a10, a11, a12, a13, a14, a15, a16⟩ := HX1.out.cell
 cases b0 with
 | false =>
  have HW := Lib.hid (show q = false by rw [HV.out]; simp)
  go_wp2_with fail
  go_ret
  exact ⟨by rw [HW.out]; rfl, HB1.out⟩
 | true =>
  go_wp2_with fail
  have h4 := G.record_who.calls m.f2 (inB 0 4 [m.f2]) v1 rfl
  rw [H1.out] at h4
  refine h4.mono ?_
  rintro e v2 ⟨rfl, hb⟩
  have HB2 := Lib.hid (HB1.out.trans (hb.mono HB1.out.size)); have HX2 := Lib.hid (HX1.out.below hb); have HM2 := Lib.hid (HM1.out.below hb)
  clear h4 hb HB1 HX1 HM1 a0 a1 a2 a3 a4 a5 a6 a7 a8 a9 a10 a11 a12 a13 a14 a15 a16
  obtain ⟨a0, a1, a2, a3, a4, a5, a6, a7, a8, a9, a10, a11, a12, a13, a14, a15, a16⟩ := HX2.out.cell
  cases b1 with
  | false =>
   have HW := Lib.hid (show q = false by rw [HV.out]; simp)
   go_wp2_with fail
   go_ret
   exact ⟨by rw [HW.out]; rfl, HB2.out⟩
  | true =>
   obtain ⟨h1, h2⟩ := lit_new v2 [m.f3, m.f4, m.f5, m.f6] (by simp)
   simp only [List.map_cons, List.map_nil, List.length_cons, List.length_nil, Nat.zero_add, Nat.reduceAdd] at h1 h2
   have HLa := Lib.hid h2; have HBa := Lib.hid (HB2.out.trans (h1.mono HB2.out.size)); have HXa := Lib.hid (HX2.out.below h1); have HMa := Lib.hid (HM2.out.below h1)
   clear h1 h2
   go_wp2_with fail
   have h4 := G.record_count.calls (some ⟨v2.heap.size, 0, none⟩) 4 [m.f3, m.f4, m.f5, m.f6] b2 _ HLa.out (Nat.le_refl _) (by unfold G.record_count.f G.record_between.f; rw [H2.out]; rfl)
   refine h4.mono ?_
   rintro e v3 ⟨rfl, hb⟩
   have HB3 := Lib.hid (HBa.out.trans (hb.mono HBa.out.size)); have HX3 := Lib.hid (HXa.out.below hb); have HM3 := Lib.hid (HMa.out.below hb)
   clear h4 hb HB2 HX2 HM2 HBa HXa HMa HLa a0 a1 a2 a3 a4 a5 a6 a7 a8 a9 a10 a11 a12 a13 a14 a15 a16
   obtain ⟨a0, a1, a2, a3, a4, a5, a6, a7, a8, a9, a10, a11, a12, a13, a14, a15, a16⟩ := HX3.out.cell
   cases b2 with
   | false =>
    have HW := Lib.hid (show q = false by rw [HV.out]; simp)
    go_wp2_with fail
    go_ret
    exact ⟨by rw [HW.out]; rfl, HB3.out⟩
   | true =>
    go_wp2_with fail
    have h4 := bare_is m HM3.out
    refine h4.mono ?_
    rintro e v4 ⟨y, B8, B12, B16, d8, d12, d16, rfl, hy, hyc, hb⟩
    rw [H3.out] at hy ⊢
    have HB4 := Lib.hid (HB3.out.trans (hb.mono HB3.out.size)); have HX4 := Lib.hid (HX3.out.below hb); have HM4 := Lib.hid (HM3.out.below hb); have HY := Lib.hid hy; have HYC := Lib.hid hyc
    clear h4 hb HB3 HX3 HM3 hy hyc a0 a1 a2 a3 a4 a5 a6 a7 a8 a9 a10 a11 a12 a13 a14 a15 a16
    obtain ⟨a0, a1, a2, a3, a4, a5, a6, a7, a8, a9, a10, a11, a12, a13, a14, a15, a16⟩ := HX4.out.cell
    go_upto_region 4 with fail
    have hbx := heap_alloc_new v4 (.cells #[.int .i64 y.f0, .int .i64 y.f1, .int .i64 y.f2, .int .i64 y.f3, .int .i64 y.f4, .int .i64 y.f5, .int .i64 y.f6, .bool y.f7, .slice B8 y.f8.length d8, .int .i64 y.f9.f0, .int .i64 y.f9.f1, .int .i64 y.f9.f2, .slice B12 y.f9.f3.length d12, .int .i64 y.f10.f0, .int .i64 y.f10.f1, .int .i64 y.f10.f2, .slice B16 y.f10.f3.length d16] 34)
    have hay := (Below.refl _ v4).alloc (Nat.le_refl _) (.cells #[.int .i64 y.f0, .int .i64 y.f1, .int .i64 y.f2, .int .i64 y.f3, .int .i64 y.f4, .int .i64 y.f5, .int .i64 y.f6, .bool y.f7, .slice B8 y.f8.length d8, .int .i64 y.f9.f0, .int .i64 y.f9.f1, .int .i64 y.f9.f2, .slice B12 y.f9.f3.length d12, .int .i64 y.f10.f0, .int .i64 y.f10.f1, .int .i64 y.f10.f2, .slice B16 y.f10.f3.length d16] 34)
    obtain ⟨v5, hw⟩ : ∃ v, v4.alloc (.cells #[.int .i64 y.f0, .int .i64 y.f1, .int .i64 y.f2, .int .i64 y.f3, .int .i64 y.f4, .int .i64 y.f5, .int .i64 y.f6, .bool y.f7, .slice B8 y.f8.length d8, .int .i64 y.f9.f0, .int .i64 y.f9.f1, .int .i64 y.f9.f2, .slice B12 y.f9.f3.length d12, .int .i64 y.f10.f0, .int .i64 y.f10.f1, .int .i64 y.f10.f2, .slice B16 y.f10.f3.length d16] 34) = v := ⟨_, rfl⟩
    rw [hw] at hbx hay ⊢
    clear hw
    have HB5 := Lib.hid (HB4.out.trans (hay.mono HB4.out.size)); have HX5 := Lib.hid (HX4.out.below hay); have HM5 := Lib.hid (HM4.out.below hay); have HYD := Lib.hid (HYC.out.below hay)
    obtain ⟨gy, hgy⟩ : ∃ gy, v4.heap.size = gy := ⟨_, rfl⟩
    rw [hgy] at hbx ⊢
    have HYX := Lib.hid (show MsBox v5 gy y B8 d8 B12 d12 B16 d16 from hbx)
    clear hbx hay hgy HB4 HX4 HM4 HYC a0 a1 a2 a3 a4 a5 a6 a7 a8 a9 a10 a11 a12 a13 a14 a15 a16
    obtain ⟨a0, a1, a2, a3, a4, a5, a6, a7, a8, a9, a10, a11, a12, a13, a14, a15, a16⟩ := HX5.out.cell
    cases b3 with
    | false =>
     have HW := Lib.hid (show q = false by rw [HV.out]; simp)
     go_wp2_with fail
     go_ret
     exact ⟨by rw [HW.out]; rfl, HB5.out⟩
    | true =>
     have HYE := Lib.hid (HY.out rfl)
     refine wp_region_list ?_
     refine wpList_cut 3 ?_
     simp only [List.take_succ_cons, List.take_zero, List.drop_succ_cons, List.drop_zero]
     go_wp2_with fail
     refine Halt.mk ?_
     refine gate_guard (by rfl) ?_
     dsimp only
     refine wpList_load_row rfl 34 (.tmp 3) rfl gy rfl 34 #[.int .i64 y.f0, .int .i64 y.f1, .int .i64 y.f2, .int .i64 y.f3, .int .i64 y.f4, .int .i64 y.f5, .int .i64 y.f6, .bool y.f7, .slice B8 y.f8.length d8, .int .i64 y.f9.f0, .int .i64 y.f9.f1, .int .i64 y.f9.f2, .slice B12 y.f9.f3.length d12, .int .i64 y.f10.f0, .int .i64 y.f10.f1, .int .i64 y.f10.f2, .slice B16 y.f10.f3.length d16] (0, 0) _ HYX.out Tryz.underlying34 rfl (by kernel_rfl) ?_
     refine gate_guard (by rfl) ?_
     dsimp only
     refine wpList_load_row rfl 34 (.tmp 1) rfl g rfl 34 #[.int .i64 m.f0, .int .i64 m.f1, .int .i64 m.f2, .int .i64 m.f3, .int .i64 m.f4, .int .i64 m.f5, .int .i64 m.f6, .bool m.f7, .slice A8 m.f8.length c8, .int .i64 m.f9.f0, .int .i64 m.f9.f1, .int .i64 m.f9.f2, .slice A12 m.f9.f3.length c12, .int .i64 m.f10.f0, .int .i64 m.f10.f1, .int .i64 m.f10.f2, .slice A16 m.f10.f3.length c16] (0, 0) _ HX5.out Tryz.underlying34 rfl (by kernel_rfl) ?_
     go_wp2_with fail
     have H4' := Lib.hid (show eqMs y m = b4 by rw [HYE.out]; exact H4.out)
     clear HYE HY
     have h4 := sameMs_is y m HYD.out HM5.out
     rw [H4'.out] at h4
     refine h4.mono ?_
     rintro e v6 ⟨rfl, hb⟩
     have HB6 := Lib.hid (HB5.out.trans (hb.mono HB5.out.size)); have HX6 := Lib.hid (HX5.out.below hb); have HM6 := Lib.hid (HM5.out.below hb)
     clear h4 hb HB5 HX5 HM5 a0 a1 a2 a3 a4 a5 a6 a7 a8 a9 a10 a11 a12 a13 a14 a15 a16
     obtain ⟨a0, a1, a2, a3, a4, a5, a6, a7, a8, a9, a10, a11, a12, a13, a14, a15, a16⟩ := HX6.out.cell
     cases b4 with
     | false =>
      have HW := Lib.hid (show q = false by rw [HV.out]; simp)
      go_wp2_with fail
      go_ret
      exact ⟨by rw [HW.out]; rfl, HB6.out⟩
     | true =>
      cases b5 with
      | true =>
       have HW := Lib.hid (show q = false by rw [HV.out]; simp)
       go_wp2_with fail
       go_ret
       exact ⟨by rw [HW.out]; rfl, HB6.out⟩
      | false =>
       go_wp2_with fail
       have h4 := tr_has A8 c8 m.f8 v6 HM6.out.g8
       rw [H6.out] at h4
       refine h4.mono ?_
       rintro e v7 ⟨rfl, hb⟩
       have HB7 := Lib.hid (HB6.out.trans (hb.mono HB6.out.size)); have HX7 := Lib.hid (HX6.out.below hb); have HM7 := Lib.hid (HM6.out.below hb)
       clear h4 hb HB6 HX6 HM6 a0 a1 a2 a3 a4 a5 a6 a7 a8 a9 a10 a11 a12 a13 a14 a15 a16
       obtain ⟨a0, a1, a2, a3, a4, a5, a6, a7, a8, a9, a10, a11, a12, a13, a14, a15, a16⟩ := HX7.out.cell
       cases b6 with
       | false =>
        have HW := Lib.hid (show q = false by rw [HV.out]; simp)
        go_wp2_with fail
        go_ret
        exact ⟨by rw [HW.out]; rfl, HB7.out⟩
       | true =>
        cases k5 with
        | true =>
         cases k6 with
         | true =>
          have HW := Lib.hid (show q = true by rw [HV.out]; simp)
          go_wp2_with fail
          go_ret
          exact ⟨by rw [HW.out]; rfl, HB7.out⟩
         | false =>
          go_wp2_with fail
          have h4 := mayEn_is m.f9.f0 m.f9.f1 m.f9.f2 A12 c12 m.f9.f3 v7 HM7.out.g12
          rw [H8.out] at h4
          refine h4.mono ?_
          rintro e v8 ⟨rfl, hb⟩
          have HB8 := Lib.hid (HB7.out.trans (hb.mono HB7.out.size)); have HX8 := Lib.hid (HX7.out.below hb); have HM8 := Lib.hid (HM7.out.below hb)
          clear h4 hb HB7 HX7 HM7 a0 a1 a2 a3 a4 a5 a6 a7 a8 a9 a10 a11 a12 a13 a14 a15 a16
          obtain ⟨a0, a1, a2, a3, a4, a5, a6, a7, a8, a9, a10, a11, a12, a13, a14, a15, a16⟩ := HX8.out.cell
          have HW := Lib.hid (show q = b8 by rw [HV.out]; simp)
          go_wp2_with fail
          go_ret
          exact ⟨by rw [HW.out]; rfl, HB8.out⟩
        | false =>
         go_wp2_with fail
         have h4 := part_is (c := c16) m.f10 HPI.out HM7.out.g16
         rw [H7.out] at h4
         refine h4.mono ?_
         rintro e v8 ⟨rfl, hb⟩
         have HB8 := Lib.hid (HB7.out.trans (hb.mono HB7.out.size)); have HX8 := Lib.hid (HX7.out.below hb); have HM8 := Lib.hid (HM7.out.below hb)
         clear h4 hb HB7 HX7 HM7 a0 a1 a2 a3 a4 a5 a6 a7 a8 a9 a10 a11 a12 a13 a14 a15 a16
         obtain ⟨a0, a1, a2, a3, a4, a5, a6, a7, a8, a9, a10, a11, a12, a13, a14, a15, a16⟩ := HX8.out.cell
         cases b7 with
         | false =>
          have HW := Lib.hid (show q = false by rw [HV.out]; simp)
          go_wp2_with fail
          go_ret
          exact ⟨by rw [HW.out]; rfl, HB8.out⟩
         | true =>
          cases k6 with
          | true =>
           have HW := Lib.hid (show q = true by rw [HV.out]; simp)
           go_wp2_with fail
           go_ret
           exact ⟨by rw [HW.out]; rfl, HB8.out⟩
          | false =>
           go_wp2_with fail
           have h4 := mayEn_is m.f9.f0 m.f9.f1 m.f9.f2 A12 c12 m.f9.f3 v8 HM8.out.g12
           rw [H8.out] at h4
           refine h4.mono ?_
           rintro e v9 ⟨rfl, hb⟩
           have HB9 := Lib.hid (HB8.out.trans (hb.mono HB8.out.size)); have HX9 := Lib.hid (HX8.out.below hb); have HM9 := Lib.hid (HM8.out.below hb)
           clear h4 hb HB8 HX8 HM8 a0 a1 a2 a3 a4 a5 a6 a7 a8 a9 a10 a11 a12 a13 a14 a15 a16
           obtain ⟨a0, a1, a2, a3, a4, a5, a6, a7, a8, a9, a10, a11, a12, a13, a14, a15, a16⟩ := HX9.out.cell
           have HW := Lib.hid (show q = b8 by rw [HV.out]; simp)
           go_wp2_with fail
           go_ret
           exact ⟨by rw [HW.out]; rfl, HB9.out⟩
end Go.Proofs.YtgiefblcckikeaaGreat.M
end

section
/- Contract of trivet/trivetref01.TakeNum. -/
namespace Go.Proofs.YtgiefblcckikeaaGreat.M
open Go.RowKit Go.Proofs.YtgiefblcckikeaaGreatW.PrintWords
theorem takeNum_bad {l : List Int} {e : Int} (h : tkE l = e) (he : ¬ e = 0) : takeNum l = (0, 0, e) := by
 unfold takeNum
 rw [h, if_neg he]
theorem takeNum_good {l : List Int} (h : tkE l = 0) : takeNum l = (tkN l, tkS l, 0) := by
 unfold takeNum
 rw [if_pos h]
def tri (x : Int × Int × Int) : Ending := .returned (.tuple #[.int .i64 x.1, .int .i64 x.2.1, .int .i64 x.2.2])
set_option maxHeartbeats 1000000 in
theorem refTake_any (A : Option Addr) (c : Nat) (l : List Int) (w : World) (hr : Kd.C (Kd.int .u8) w A l.length l) (hc : l.length ≤ c) (hb : okB l = true) :
  Calls Tryz.prog 129 #[.slice A l.length c] w fun e w' => e = tri (takeNum l) ∧ w = w' := by
 have HR := Aside0.mk hr
 have HC := Aside0.mk hc
 have HB := Aside0.mk hb
 clear hr hc hb
 obtain ⟨E, hE⟩ : ∃ E, tri (takeNum l) = E := ⟨_, rfl⟩
 rw [hE]
 have HE := Aside0.mk hE
 clear hE
 by_cases h1 : l = []
 ·have he : tkE l = 10 := by unfold tkE; rw [if_pos h1]
  have HF := Aside0.mk (HE.out.symm.trans (congrArg tri (takeNum_bad he (by decide))))
  subst h1
  clear he
  go_enter Tryz.func129, Tryz.ntmps129
  go_wp2
  go_ret3
  exact ⟨HF.out.symm, rfl⟩
 have hl : 0 < l.length := List.length_pos_iff.2 h1
 have hlz : ((l.length : Int) == 0) = false := beq_eq_false_iff_ne.2 (by omega)
 have hb0 := okB_rd HB.out 0
 obtain ⟨ad, hA, hx0⟩ := Kd.at_int HR.out 0 (by omega) (by omega)
 rw [show ((0 : Int)).toNat = 0 from rfl, Addr.add_zero'] at hx0
 subst hA
 have hmx : (l.length : Int) ≤ 9223372036854775807 := by have := Kd.C_max HR.out; omega
 by_cases h2 : 17 < rd l 0 ∨ rd l 0 = 1
 ·have he : tkE l = 11 := by unfold tkE; rw [if_neg h1, if_pos h2]
  have HF := Aside0.mk (HE.out.symm.trans (congrArg tri (takeNum_bad he (by decide))))
  have h3 : decide (17 < rd l 0) = true ∨ (decide (17 < rd l 0) = false ∧ (rd l 0 == 1) = true) := by
   rcases h2 with h | h
   ·exact .inl (decide_eq_true h)
   ·exact .inr ⟨decide_eq_false (by omega), by rw [h]; rfl⟩
  clear h2 he h1
  rcases h3 with h3 | ⟨h3, h4⟩
  all_goals
   go_enter Tryz.func129, Tryz.ntmps129
   go_wp2
   go_ret3
   exact ⟨HF.out.symm, rfl⟩
 have h3 : decide (17 < rd l 0) = false := decide_eq_false (by omega)
 have h4 : (rd l 0 == 1) = false := beq_eq_false_iff_ne.2 (by omega)
 obtain ⟨k, hk⟩ : ∃ k, tkK l = k := ⟨_, rfl⟩
 have hk8 : k ≤ 8 := by unfold tkK at hk; omega
 have hq : rd l 0 / 2 = (k : Int) := by unfold tkK at hk; omega
 by_cases h5 : l.length ≤ k
 ·have he : tkE l = 10 := by unfold tkE; rw [if_neg h1, if_neg h2, hk, if_pos h5]
  have HF := Aside0.mk (HE.out.symm.trans (congrArg tri (takeNum_bad he (by decide))))
  have h6 : (l.length : Int) - 1 < (k : Int) := by omega
  clear h2 he h1
  have HK := Lib.hid hk
  clear hk
  go_enter Tryz.func129, Tryz.ntmps129
  go_wp2
  go_ret3
  exact ⟨HF.out.symm, rfl⟩
 have h6 : ¬ (l.length : Int) - 1 < (k : Int) := by omega
 have hrk : ∀ i : Nat, i ≤ k → w.cell? (ad.add i) = some (.int .u8 (rd l (i : Int))) := by
  intro i hi
  obtain ⟨ad', hA, hx⟩ := Kd.at_int HR.out (i : Int) (by omega) (by omega)
  obtain rfl : ad = ad' := by injection hA
  simpa using hx
 have hxk := hrk k (Nat.le_refl _)
 have h11 : (k : Int) < (l.length : Int) := by omega
 have HP := Aside0.mk (show tkE l = if 0 < k ∧ rd l k = 0 then 11 else if big63 < tkU l ∨ (tkU l = big63 ∧ rd l 0 % 2 = 0) then 11 else 0 by unfold tkE; rw [if_neg h1, if_neg h2, hk, if_neg h5])
 have HK := Lib.hid hk
 have HRK := Aside0.mk hrk
 clear hk hrk h2 h5
 go_enter Tryz.func129, Tryz.ntmps129
 go_wp2
 go_loop [6, 7] (fun u i => ∃ (j : Nat) (U : Int), j ≤ tkK l ∧ i = .int .i64 (j : Int) ∧ u = .int .u64 U ∧ Aside0 (U = upFrom l j (tkK l))) (fun _ i => (intOf i).toNat)
 case atStart => exact ⟨tkK l, 0, Nat.le_refl _, by rw [HK.out], rfl, ⟨(upFrom_end _ _).symm⟩⟩
 case round =>
  obtain ⟨j, U, hj, rfl, rfl, HU⟩ := hrel
  have hk8' : tkK l ≤ 8 := by rw [HK.out]; exact hk8
  have hkl : tkK l < l.length := by rw [HK.out]; omega
  by_cases hlt : 0 < j
  ·have hxj := HRK.out j (by rw [← HK.out]; exact hj)
   have hj0 : (0 : Int) ≤ (j : Int) := by omega
   have hj1 : (j : Int) < (l.length : Int) := by omega
   have hj2 : (1 : Int) ≤ (j : Int) := by omega
   have hbj := okB_rd HB.out (j : Int)
   have HV := Aside0.mk (show 256 * U + rd l j = upFrom l (j - 1) (tkK l) by
    rw [HU.out, upFrom_step hlt hj hkl]; omega)
   have hU0 : 0 ≤ U := by rw [HU.out]; exact upFrom_nonneg HB.out _ _
   have hU1 : U < 72057594037927936 := by rw [HU.out]; exact upFrom_lt HB.out hlt hk8'
   go_wp2
   go_round
   case rel =>
    refine ⟨j - 1, _, by omega, by go_num, rfl, ⟨?_⟩⟩
    exact HV.out
   case measure => simp [intOf]; omega
  ·obtain rfl : j = 0 := by omega
   have hU : U = tkU l := by rw [HU.out, upFrom_zero]
   have hu0 : 0 ≤ U := by rw [HU.out]; exact upFrom_nonneg HB.out 0 _
   have hu1 : U < 18446744073709551616 := by rw [HU.out]; exact upFrom_lt8 HB.out (j := 0) hk8'
   have hS : tkS l = 1 + (tkK l : Int) := by unfold tkS; omega
   rw [HK.out] at hS
   have hup : k = 0 → U = 0 := by intro h; rw [HU.out, HK.out, h, upFrom_end]
   have hT := HP.out
   rw [← hU] at hT
   unfold big63 at hT
   have hm : rd l 0 % 2 = 0 ∨ rd l 0 % 2 = 1 := by omega
   by_cases h7 : 0 < k ∧ rd l k = 0
   ·have HF := Aside0.mk (HE.out.symm.trans (congrArg tri (takeNum_bad (e := 11) (by rw [hT, if_pos h7]) (by decide))))
    obtain ⟨h8, h9⟩ := h7
    rw [h9] at hxk
    clear hT hU HU hS h9 hm hup
    go_wp2
    go_ret3
    exact ⟨HF.out.symm, rfl⟩
   have h8 : (¬ 0 < k) ∨ (0 < k ∧ (rd l k == 0) = false) := by
    rcases Nat.eq_zero_or_pos k with h | h
    ·exact .inl (by omega)
    ·exact .inr ⟨h, beq_eq_false_iff_ne.2 (fun h' => h7 ⟨h, h'⟩)⟩
   rw [if_neg h7] at hT
   clear h7 hup
   rcases hm with hm | hm
   ·have hm1 : (rd l 0 % 2 == 0) = true := beq_iff_eq.2 hm
    by_cases hg : U < 9223372036854775808
    ·have hN : tkN l = U := by unfold tkN; rw [if_neg (by omega), hU]
     have HF := Aside0.mk (HE.out.symm.trans (congrArg tri (takeNum_good (by rw [hT, if_neg (by omega)]))))
     rw [hN, hS] at HF
     clear hU HU hN hS hT hm
     have hg1 : decide (9223372036854775808 ≤ U) = false := decide_eq_false (by omega)
     rcases h8 with h8 | ⟨h8, h9⟩
     all_goals
      go_wp2
      go_ret3
      exact ⟨HF.out.symm, rfl⟩
    ·have HF := Aside0.mk (HE.out.symm.trans (congrArg tri (takeNum_bad (e := 11) (by rw [hT, if_pos (by omega)]) (by decide))))
     clear hU HU hS hT hm
     have hg1 : decide (9223372036854775808 ≤ U) = true := decide_eq_true (by omega)
     rcases h8 with h8 | ⟨h8, h9⟩
     all_goals
      go_wp2
      go_ret3
      exact ⟨HF.out.symm, rfl⟩
   ·have hm1 : (rd l 0 % 2 == 0) = false := beq_eq_false_iff_ne.2 (by omega)
    by_cases hg : 9223372036854775808 < U
    ·have HF := Aside0.mk (HE.out.symm.trans (congrArg tri (takeNum_bad (e := 11) (by rw [hT, if_pos (by omega)]) (by decide))))
     clear hU HU hS hT hm
     have hg1 : decide (9223372036854775808 < U) = true := decide_eq_true hg
     rcases h8 with h8 | ⟨h8, h9⟩
     all_goals
      go_wp2
      go_ret3
      exact ⟨HF.out.symm, rfl⟩
    ·have hN : tkN l = wrap64 (wrap64 (-(wrap64 (IntKind.u64.wrap (U - 1)))) - 1) := by
      unfold tkN; rw [if_pos hm, hU, IntKind.wrap_u64]; unfold wrap64; omega
     have HF := Aside0.mk (HE.out.symm.trans (congrArg tri (takeNum_good (by rw [hT, if_neg (by omega)]))))
     rw [hN, hS] at HF
     clear hU HU hN hS hT hm
     have hg1 : decide (9223372036854775808 < U) = false := decide_eq_false (by omega)
     rcases h8 with h8 | ⟨h8, h9⟩
     all_goals
      go_wp2
      go_ret3
      exact ⟨HF.out.symm, rfl⟩
end Go.Proofs.YtgiefblcckikeaaGreat.M
namespace Go.Proofs.YtgiefblcckikeaaGreat.G
open Go.RowKit Go.Proofs.YtgiefblcckikeaaGreatW.PrintWords Go.Proofs.YtgiefblcckikeaaGreat.M
def trivetref01_TakeNum.f (l0 : List Int) : Option (Int × Int × Int) := if okB l0 = true then some (takeNum l0) else none
theorem trivetref01_TakeNum.calls (A0 : Option Addr) (c0 : Nat) (l0 : List Int) (r1 : Int) (r2 : Int) (r3 : Int) (w : World) (hr0 : Kd.C (Kd.int .u8) w A0 l0.length l0) (hc0 : l0.length ≤ c0) (h : trivetref01_TakeNum.f l0 = some (r1, r2, r3)) :
  Calls Tryz.prog 129 #[.slice A0 l0.length c0] w fun e w' => e = .returned (.tuple #[.int .i64 r1, .int .i64 r2, .int .i64 r3]) ∧ Below w.heap.size w w' := by
 unfold trivetref01_TakeNum.f at h
 split at h
 ·rename_i hb
  have h := Option.some.inj h
  have h1 : r1 = (takeNum l0).1 := by rw [h]
  have h2 : r2 = (takeNum l0).2.1 := by rw [h]
  have h3 : r3 = (takeNum l0).2.2 := by rw [h]
  rw [h1, h2, h3]
  refine (refTake_any A0 c0 l0 w hr0 hc0 hb).mono ?_
  rintro e w' ⟨rfl, rfl⟩
  exact ⟨rfl, Below.refl _ _⟩
 ·cases h
end Go.Proofs.YtgiefblcckikeaaGreat.G
end

section
-- Written by a program of this session's (wip/gprint.py over the kit's printer).
namespace Go.Proofs.YtgiefblcckikeaaGreat.G
open Go.RowKit Go.Proofs.YtgiefblcckikeaaGreatW.PrintWords Go.Proofs.YtgiefblcckikeaaGreatW.PrintLast Go.Proofs.YtgiefblcckikeaaGreatW.PrintMore
attribute [local go_sem] max2_int min2_int max_two min_two max_three min_three max_four min_four   -- for this text's walks alone
def trivetref01_low.l0 : Nat → Int → List Int → Int → Option (List Int)
 | 0, _, _, _ => none
 | k + 1, x0, x3, x4 => if x4 < 8 then (if 0 ≤ (wrap64 (8 * x4)) then (if x3.length < 140737488355328 then (trivetref01_low.l0 k x0 (x3 ++ [(shr .u64 x0 (wrap64 (8 * x4))) % 256]) (wrap64 (x4 + 1))) else (none)) else (none)) else (some x3)
def trivetref01_low.f (k : Nat) (a0 : Int) : Option (List Int) := trivetref01_low.l0 k a0 ([] : List Int) 0
set_option maxHeartbeats 8000000 in
set_option maxRecDepth 100000 in
theorem trivetref01_low.calls (k : Nat) (a0 : Int) (r : List Int) (w : World) (h : trivetref01_low.f k a0 = some r) :
  Calls Tryz.prog 108 #[.int .u64 a0] w fun e w' => ∃ v0_ : Value, e = .returned (v0_) ∧ Kd.R (Kd.int .u8) 5 w' w.heap.size (fun _ => True) v0_ r ∧ Below w.heap.size w w' := by
 have HB := Aside0.mk (Below.refl w.heap.size w)
 have H : (trivetref01_low.l0 k a0 ([] : List Int) 0) = some r := h
 clear h
 have H' := Aside0.mk H
 clear H
 go_enter Tryz.func108, Tryz.ntmps108
 go_wp2
 go_loopg [3, 4] k (fun kq v3 v4 w' => ∃ (x3_1 : List Int) (x4_1 : Int), v4 = .int .i64 x4_1 ∧ Aside0 (trivetref01_low.l0 kq a0 x3_1 x4_1 = some r) ∧ Aside0 (kq ≤ k) ∧ Aside0 (Kd.R (Kd.int .u8) 5 w' w.heap.size (fun _ => True) v3 x3_1) ∧ Aside0 (Below w.heap.size w w'))
 case atStart => exact ⟨(([] : List Int)), (0), (by first | rfl | (simp; done) | (simp [*]; done)), H', ⟨Nat.le_refl _⟩, ⟨by first | exact Kd.R_nil _ _ _ _ _ | exact Kd.N_nil _ _ _ _ _ | exact Kd.V_nil _ _ _ _ _ | exact Kd.Q_nil _ _ _ _ _ | exact Kd.S_nil _ _ _ _ _⟩, ⟨stB HB.out⟩⟩
 case round =>
  clear H'
  try clear c1
  obtain ⟨x3_1, x4_1, rfl, HA, HK1, HO_3, HB⟩ := hrel
  cases gk with
  | zero => exact absurd HA.out (by simp [trivetref01_low.l0])
  | succ k1 =>
   have H := HA.out
   clear HA
   simp only [trivetref01_low.l0] at H
   by_cases c2 : x4_1 < 8
   ·rw [if_pos c2] at H
    have c2b0 : decide (x4_1 < 8) = true := decide_eq_true c2
    clear c2
    obtain ⟨ji3, hji3⟩ : ∃ j_ : Int, (wrap64 (8 * x4_1)) = j_ := ⟨_, rfl⟩
    replace H : (if 0 ≤ (ji3) then (if x3_1.length < 140737488355328 then (trivetref01_low.l0 k1 a0 (x3_1 ++ [(shr .u64 a0 (ji3)) % 256]) (wrap64 (x4_1 + 1))) else (none)) else (none)) = some r := by first | (rw [hji3] at H; exact H) | (simp only [hji3] at H ⊢; exact H)
    have hji3w : (IntKind.i64.wrap (8 * x4_1)) = ji3 := (i64_w _).trans hji3
    by_cases c4 : 0 ≤ (ji3)
    ·rw [if_pos c4] at H
     have c4b0 := eq_true c4
     have c4b1 : decide (0 ≤ (ji3)) = true := decide_eq_true c4
     clear c4
     obtain ⟨ji5, hji5⟩ : ∃ j_ : Int, (shr .u64 a0 (ji3)) = j_ := ⟨_, rfl⟩
     replace H : (if x3_1.length < 140737488355328 then (trivetref01_low.l0 k1 a0 (x3_1 ++ [(ji5) % 256]) (wrap64 (x4_1 + 1))) else (none)) = some r := by first | (rw [hji5] at H; exact H) | (simp only [hji5] at H ⊢; exact H)
     have hji5_ : (a0 / 2 ^ min (ji3).toNat 64) = ji5 := hji5
     have hji5z : (ji3) ≤ 64 → (a0 / 2 ^ (ji3).toNat) = ji5 := shr_small hji5
     by_cases c6 : x3_1.length < 140737488355328
     ·rw [if_pos c6] at H
      have LMc6 := Aside0.mk c6
      clear c6
      obtain ⟨y530, hy530⟩ : ∃ y_ : List Int, y_ = (x3_1 ++ [(ji5) % 256]) := ⟨_, rfl⟩
      replace H : (trivetref01_low.l0 k1 a0 y530 (wrap64 (x4_1 + 1))) = some r := by first | (rw [hy530]; with_reducible exact H) | (have H2_ := (Option.bind_some _ _).symm.trans H; rw [hy530]; with_reducible exact H2_) | (have H2_ := (Option.bind_some _ _).symm.trans H; with_reducible exact H2_) | with_reducible exact H | (rw [hy530]; exact H) | exact H
      have Ny530 := Aside0.mk hy530
      clear hy530
      have H' := Aside0.mk H
      clear H
      go_wp2_with (first | ((with_reducible refine gate_builtin (b := .append) (xs := #[.tmp 9, .tmp 15]) rfl ?_); at_builtin; refine Kd.R_append (Kd.int .u8) (w0 := w) w.heap.size rfl (.tmp 9) (.tmp 15) 23 5 (.int .u8 0) 1 rfl Tryz.underlying23 info5 rfl (by decide) (by omega) u3 x3_1 ((ji5) % 256) [.int .u8 ((ji5) % 256)] (fun _ => True) (fun _ => False) rfl rfl ?aP (fun _ hk => hk.elim) ?aF ?aO ?aB ?aS ?aL ?_; (case aP => exact rfl); (case aB => exact (stB HB.out)); (case aF => exact (fun _ _ => trivial)); (case aO => exact (stR HO_3.out)); (case aS => exact (below_size (stB HB.out))); (case aL => have := LMc6.out; omega); intro v531 w7 ho hb hg hat; rw [← Ny530.out] at ho; have n0_ := Aside0.mk (hb); have n1_ := Aside0.mk (ho); clear HB; clear HO_3; have HB := n0_; have HO532 := n1_; clear n0_ n1_; clear ho hb hg hat))
      go_roundg k1
      case measure => have := HK1.out; omega
      case rel => exact ⟨(y530), (wrap64 (x4_1 + 1)), (by first | rfl | (simp; done) | (simp [*]; done)), H', ⟨by have := HK1.out; omega⟩, ⟨stR HO532.out⟩, ⟨stB HB.out⟩⟩
     ·rw [if_neg c6] at H
      exact absurd H (by simp)
    ·rw [if_neg c4] at H
     exact absurd H (by simp)
   ·rw [if_neg c2] at H
    have c2b0 : decide (x4_1 < 8) = false := decide_eq_false c2
    clear c2
    obtain rfl := Option.some.inj H
    go_wp2
    go_ret
    exact ⟨_, by first | rfl | (simp [errW_none, errW_some] <;> rfl) | (simp [*, errW_none, errW_some] <;> rfl), stR HO_3.out, stB HB.out⟩
def trivetref01_Check.l0 : Nat → List Int → Int → Int → Option (Int)
 | 0, _, _, _ => none
 | k + 1, x0, x3, x4 => if x4 < (x0.length : Int) then (if 0 ≤ x4 then (trivetref01_Check.l0 k x0 (IntKind.u64.wrap ((Go.bits .xor .u64 x3 (IntKind.u64.wrap (rd x0 x4))) * 1099511628211)) (wrap64 (x4 + 1))) else (none)) else (some x3)
def trivetref01_Check.f (k : Nat) (l0 : List Int) : Option (Int) := trivetref01_Check.l0 k l0 14695981039346656037 0
set_option maxHeartbeats 8000000 in
set_option maxRecDepth 100000 in
theorem trivetref01_Check.calls (k : Nat) (A0 : Option Addr) (c0 : Nat) (l0 : List Int) (r : Int) (w : World) (hr0 : Kd.C (Kd.int .u8) w A0 l0.length l0) (hc0 : l0.length ≤ c0) (h : trivetref01_Check.f k l0 = some r) :
  Calls Tryz.prog 109 #[.slice A0 l0.length c0] w fun e w' => e = .returned (.int .u64 r) ∧ Drawn0 w w' := by
 have HR0 := Aside0.mk hr0
 have HC0 := Aside0.mk hc0
 clear hr0 hc0
 have H : (trivetref01_Check.l0 k l0 14695981039346656037 0) = some r := h
 clear h
 have H' := Aside0.mk H
 clear H
 go_enter Tryz.func109, Tryz.ntmps109
 go_wp2
 go_loopg [3, 4] k (fun kq v3 v4 w' => ∃ (x3_1 : Int) (x4_1 : Int), v3 = .int .u64 x3_1 ∧ v4 = .int .i64 x4_1 ∧ Aside0 (trivetref01_Check.l0 kq l0 x3_1 x4_1 = some r) ∧ Aside0 (kq ≤ k) ∧ Drawn0 w w')
 case atStart => exact ⟨(14695981039346656037), (0), (by first | rfl | (simp; done) | (simp [*]; done)), (by first | rfl | (simp; done) | (simp [*]; done)), H', ⟨Nat.le_refl _⟩, by repeat (first | exact Drawn0.refl _ | apply Drawn0.step)⟩
 case round =>
  clear H'
  try clear c1
  obtain ⟨x3_1, x4_1, rfl, rfl, HA, HK1, ⟨m1, rfl⟩⟩ := hrel
  cases gk with
  | zero => exact absurd HA.out (by simp [trivetref01_Check.l0])
  | succ k1 =>
   have H := HA.out
   clear HA
   simp only [trivetref01_Check.l0] at H
   by_cases c2 : x4_1 < (l0.length : Int)
   ·rw [if_pos c2] at H
    have c2b0 : decide (x4_1 < (l0.length : Int)) = true := decide_eq_true c2
    clear c2
    by_cases c3 : 0 ≤ x4_1
    ·rw [if_pos c3] at H
     have c3b0 : decide (0 ≤ x4_1) = true := decide_eq_true c3
     clear c3
     have H' := Aside0.mk H
     clear H
     have p533 : 0 ≤ (x4_1 : Int) := of_decide_eq_true (by first | (with_reducible assumption) | assumption)
     have q533 : x4_1 < (l0.length : Int) := of_decide_eq_true (by first | (with_reducible assumption) | assumption)
     obtain ⟨ad533, e533, hx533_0⟩ := Kd.at_int HR0.out x4_1 p533 q533
     cases e533
     replace p533 := eq_true p533
     replace q533 := eq_true q533
     go_wp2
     go_roundg k1
     case measure => have := HK1.out; omega
     case rel => exact ⟨(IntKind.u64.wrap ((Go.bits .xor .u64 x3_1 (IntKind.u64.wrap (rd l0 x4_1))) * 1099511628211)), (wrap64 (x4_1 + 1)), (by first | rfl | (simp; done) | (simp [*]; done)), (by first | rfl | (simp; done) | (simp [*]; done)), H', ⟨by have := HK1.out; omega⟩, by repeat (first | exact Drawn0.refl _ | apply Drawn0.step)⟩
    ·rw [if_neg c3] at H
     exact absurd H (by simp)
   ·rw [if_neg c2] at H
    have c2b0 : decide (x4_1 < (l0.length : Int)) = false := decide_eq_false c2
    clear c2
    obtain rfl := Option.some.inj H
    go_wp2
    go_ret
    exact ⟨by first | rfl | (simp; done) | (simp [*]; done), by repeat (first | exact Drawn0.refl _ | apply Drawn0.step)⟩
end Go.Proofs.YtgiefblcckikeaaGreat.G
end

section
-- Written by a program of this session's (wip/gprint.py over the kit's printer).
namespace Go.Proofs.YtgiefblcckikeaaGreat.G
open Go.RowKit Go.Proofs.YtgiefblcckikeaaGreatW.PrintWords Go.Proofs.YtgiefblcckikeaaGreatW.PrintLast Go.Proofs.YtgiefblcckikeaaGreatW.PrintMore
attribute [local go_sem] max2_int min2_int max_two min_two max_three min_three max_four min_four   -- for this text's walks alone
def trivetref01_TakeBlob.f (l0 : List Int) : Option (List Int × Int × Int) := (trivetref01_TakeNum.f l0).bind fun bt555 => (if bt555.2.2 = 0 then (if bt555.1 < 0 then (some (([] : List Int), 0, 11)) else (if bt555.1 > (wrap64 ((l0.length : Int) - bt555.2.1)) then (some (([] : List Int), 0, 10)) else (if 0 ≤ bt555.2.1 then (if bt555.2.1 ≤ (wrap64 (bt555.2.1 + bt555.1)) then (if (wrap64 (bt555.2.1 + bt555.1)) ≤ (l0.length : Int) then (if ([] : List Int).length + ((l0.take ((wrap64 (bt555.2.1 + bt555.1)) : Int).toNat).drop (bt555.2.1 : Int).toNat).length < 140737488355328 then (some ((([] : List Int) ++ ((l0.take ((wrap64 (bt555.2.1 + bt555.1)) : Int).toNat).drop (bt555.2.1 : Int).toNat)), wrap64 (bt555.2.1 + bt555.1), 0)) else (none)) else (none)) else (none)) else (none)))) else (some (([] : List Int), 0, bt555.2.2)))
set_option maxHeartbeats 8000000 in
set_option maxRecDepth 100000 in
theorem trivetref01_TakeBlob.calls (A0 : Option Addr) (c0 : Nat) (l0 : List Int) (r1 : List Int) (r2 : Int) (r3 : Int) (w : World) (hr0 : Kd.C (Kd.int .u8) w A0 l0.length l0) (hc0 : l0.length ≤ c0) (h : trivetref01_TakeBlob.f l0 = some (r1, r2, r3)) :
  Calls Tryz.prog 169 #[.slice A0 l0.length c0] w fun e w' => ∃ v0_ : Value, e = .returned (.tuple #[v0_, .int .i64 r2, .int .i64 r3]) ∧ Kd.R (Kd.int .u8) 5 w' w.heap.size (fun _ => True) v0_ r1 ∧ Below w.heap.size w w' := by
 have HR0 := Aside0.mk hr0
 have HC0 := Aside0.mk hc0
 clear hr0 hc0
 have HB := Aside0.mk (Below.refl w.heap.size w)
 have H : ((trivetref01_TakeNum.f l0).bind fun bt555 => (if bt555.2.2 = 0 then (if bt555.1 < 0 then (some (([] : List Int), 0, 11)) else (if bt555.1 > (wrap64 ((l0.length : Int) - bt555.2.1)) then (some (([] : List Int), 0, 10)) else (if 0 ≤ bt555.2.1 then (if bt555.2.1 ≤ (wrap64 (bt555.2.1 + bt555.1)) then (if (wrap64 (bt555.2.1 + bt555.1)) ≤ (l0.length : Int) then (if ([] : List Int).length + ((l0.take ((wrap64 (bt555.2.1 + bt555.1)) : Int).toNat).drop (bt555.2.1 : Int).toNat).length < 140737488355328 then (some ((([] : List Int) ++ ((l0.take ((wrap64 (bt555.2.1 + bt555.1)) : Int).toNat).drop (bt555.2.1 : Int).toNat)), wrap64 (bt555.2.1 + bt555.1), 0)) else (none)) else (none)) else (none)) else (none)))) else (some (([] : List Int), 0, bt555.2.2)))) = some (r1, r2, r3) := h
 clear h
 replace H := Option.bind_eq_some_iff.mp H
 obtain ⟨⟨t555, t556, t557⟩, A20, H⟩ := H
 replace H : (if t557 = 0 then (if t555 < 0 then (some (([] : List Int), 0, 11)) else (if t555 > (wrap64 ((l0.length : Int) - t556)) then (some (([] : List Int), 0, 10)) else (if 0 ≤ t556 then (if t556 ≤ (wrap64 (t556 + t555)) then (if (wrap64 (t556 + t555)) ≤ (l0.length : Int) then (if ([] : List Int).length + ((l0.take ((wrap64 (t556 + t555)) : Int).toNat).drop (t556 : Int).toNat).length < 140737488355328 then (some ((([] : List Int) ++ ((l0.take ((wrap64 (t556 + t555)) : Int).toNat).drop (t556 : Int).toNat)), wrap64 (t556 + t555), 0)) else (none)) else (none)) else (none)) else (none)))) else (some (([] : List Int), 0, t557))) = some (r1, r2, r3) := H
 have A2 := Aside0.mk A20
 clear A20
 by_cases c3 : t557 = 0
 ·rw [if_pos c3] at H
  have c3b0 : (t557 == 0) = true := beq_iff_eq.mpr c3
  have c3b1 : (t557 != 0) = false := bne_eq_false_iff_eq.mpr c3
  clear c3
  by_cases c4 : t555 < 0
  ·rw [if_pos c4] at H
   have c4b0 : decide (t555 < 0) = true := decide_eq_true c4
   clear c4
   simp only [Option.some.injEq, Prod.mk.injEq] at H
   obtain ⟨rfl, rfl, rfl⟩ := H
   go_enter Tryz.func169, Tryz.ntmps169
   go_wp2_with (first | ((with_reducible refine gate_callee (f := 129) rfl ?_); refine goesL_ (some 11) rfl rfl Tryz.func129 (by kernel_rfl) rfl #[.slice A0 l0.length c0] rfl (by (try simp only [List.map_toArray, List.map_cons, List.map_nil]); first | done | rfl | (simp only [List.length_drop, List.length_take]; rfl)) ?_; (with_reducible refine (trivetref01_TakeNum.calls _ _ l0 t555 t556 t557 _ ?side1 ?side2 A2.out).mono ?_); (case side1 => exact stC HR0.out); (case side2 => exact HC0.out); rintro e w5 ⟨rfl, hb⟩; refine ⟨_, rfl, ?_⟩; have n0_ := Aside0.mk (below_step (stB HB.out) hb); clear HB; have HB := n0_; clear n0_; (try clear hb); (try clear hb2); (try clear hk); (try clear hi)))
   go_ret3
   exact ⟨_, by first | rfl | (simp [errW_none, errW_some] <;> rfl) | (simp [*, errW_none, errW_some] <;> rfl), by first | exact Kd.R_nil _ _ _ _ _ | exact Kd.N_nil _ _ _ _ _ | exact Kd.V_nil _ _ _ _ _ | exact Kd.Q_nil _ _ _ _ _ | exact Kd.S_nil _ _ _ _ _, stB HB.out⟩
  ·rw [if_neg c4] at H
   have c4b0 : decide (t555 < 0) = false := decide_eq_false c4
   clear c4
   by_cases c6 : t555 > (wrap64 ((l0.length : Int) - t556))
   ·rw [if_pos c6] at H
    have c6b0 : decide ((wrap64 ((l0.length : Int) - t556)) < t555) = true := decide_eq_true c6
    clear c6
    simp only [Option.some.injEq, Prod.mk.injEq] at H
    obtain ⟨rfl, rfl, rfl⟩ := H
    go_enter Tryz.func169, Tryz.ntmps169
    go_wp2_with (first | ((with_reducible refine gate_callee (f := 129) rfl ?_); refine goesL_ (some 11) rfl rfl Tryz.func129 (by kernel_rfl) rfl #[.slice A0 l0.length c0] rfl (by (try simp only [List.map_toArray, List.map_cons, List.map_nil]); first | done | rfl | (simp only [List.length_drop, List.length_take]; rfl)) ?_; (with_reducible refine (trivetref01_TakeNum.calls _ _ l0 t555 t556 t557 _ ?side1 ?side2 A2.out).mono ?_); (case side1 => exact stC HR0.out); (case side2 => exact HC0.out); rintro e w7 ⟨rfl, hb⟩; refine ⟨_, rfl, ?_⟩; have n0_ := Aside0.mk (below_step (stB HB.out) hb); clear HB; have HB := n0_; clear n0_; (try clear hb); (try clear hb2); (try clear hk); (try clear hi)))
    go_ret3
    exact ⟨_, by first | rfl | (simp [errW_none, errW_some] <;> rfl) | (simp [*, errW_none, errW_some] <;> rfl), by first | exact Kd.R_nil _ _ _ _ _ | exact Kd.N_nil _ _ _ _ _ | exact Kd.V_nil _ _ _ _ _ | exact Kd.Q_nil _ _ _ _ _ | exact Kd.S_nil _ _ _ _ _, stB HB.out⟩
   ·rw [if_neg c6] at H
    have c6b0 : decide ((wrap64 ((l0.length : Int) - t556)) < t555) = false := decide_eq_false c6
    clear c6
    by_cases c8 : 0 ≤ t556
    ·rw [if_pos c8] at H
     have c8b0 := eq_true c8
     have c8b1 : decide (0 ≤ t556) = true := decide_eq_true c8
     clear c8
     by_cases c9 : t556 ≤ (wrap64 (t556 + t555))
     ·rw [if_pos c9] at H
      have c9b0 := eq_true c9
      have c9b1 : decide (t556 ≤ (wrap64 (t556 + t555))) = true := decide_eq_true c9
      by_cases c10 : (wrap64 (t556 + t555)) ≤ (l0.length : Int)
      ·rw [if_pos c10] at H
       have c10b0 := eq_true c10
       have c10b1 : decide ((wrap64 (t556 + t555)) ≤ (l0.length : Int)) = true := decide_eq_true c10
       by_cases c11 : ([] : List Int).length + ((l0.take ((wrap64 (t556 + t555)) : Int).toNat).drop (t556 : Int).toNat).length < 140737488355328
       ·rw [if_pos c11] at H
        have LMc11 := Aside0.mk c11
        clear c11
        obtain ⟨y559, hy559⟩ : ∃ y_ : List Int, y_ = (([] : List Int) ++ ((l0.take ((wrap64 (t556 + t555)) : Int).toNat).drop (t556 : Int).toNat)) := ⟨_, rfl⟩
        replace H : (some (y559, wrap64 (t556 + t555), 0)) = some (r1, r2, r3) := by first | (rw [hy559]; with_reducible exact H) | (have H2_ := (Option.bind_some _ _).symm.trans H; rw [hy559]; with_reducible exact H2_) | (have H2_ := (Option.bind_some _ _).symm.trans H; with_reducible exact H2_) | with_reducible exact H | (rw [hy559]; exact H) | exact H
        have Ny559 := Aside0.mk hy559
        clear hy559
        simp only [Option.some.injEq, Prod.mk.injEq] at H
        obtain ⟨rfl, rfl, rfl⟩ := H
        go_enter Tryz.func169, Tryz.ntmps169
        go_wp2_with (first | ((with_reducible refine gate_callee (f := 129) rfl ?_); refine goesL_ (some 11) rfl rfl Tryz.func129 (by kernel_rfl) rfl #[.slice A0 l0.length c0] rfl (by (try simp only [List.map_toArray, List.map_cons, List.map_nil]); first | done | rfl | (simp only [List.length_drop, List.length_take]; rfl)) ?_; (with_reducible refine (trivetref01_TakeNum.calls _ _ l0 t555 t556 t557 _ ?side1 ?side2 A2.out).mono ?_); (case side1 => exact stC HR0.out); (case side2 => exact HC0.out); rintro e w12 ⟨rfl, hb⟩; refine ⟨_, rfl, ?_⟩; have n0_ := Aside0.mk (below_step (stB HB.out) hb); clear HB; have HB := n0_; clear n0_; (try clear hb); (try clear hb2); (try clear hk); (try clear hi); obtain ⟨i013, hi013, _, hsz13, _⟩ := info_parts info5; obtain ⟨A13, hcut13, hA13, hC13⟩ := print_mid_of (P := Tryz.prog) (Value.int .u8) 0 23 5 .i64 .i64 Tryz.underlying23 hi013 hsz13 A0 c0 l0 t556 (wrap64 (t556 + t555)) (of_decide_eq_true (by first | (with_reducible assumption) | assumption)) (by first | omega | exact of_decide_eq_true (by first | (with_reducible assumption) | assumption)) (of_decide_eq_true (by first | (with_reducible assumption) | assumption)) HC0.out; have HR558 := Aside0.mk (Kd.C_of_reads (h1 := fun _ => rfl) (hA13 _ (Kd.reads_of_C HR0.out))); have HC558 := Aside0.mk hC13; clear hA13 hC13 hi013 hsz13) | ((with_reducible refine gate_builtin (b := .append) (xs := #[.tmp 26, .tmp 32]) rfl ?_); at_builtin; refine Kd.R_append_rows (Kd.int .u8) (w0 := w) w.heap.size rfl (.tmp 26) (.tmp 32) 23 5 (.int .u8 0) 1 rfl Tryz.underlying23 info5 rfl (by decide) (by omega) (.slice none 0 0) ([] : List Int) ((l0.take ((wrap64 (t556 + t555)) : Int).toNat).drop (t556 : Int).toNat) _ _ _ (fun _ => True) (fun _ => False) rfl rfl ?aO ?aR (fun _ _ h => h) (fun _ h => h.elim) ?aF ?aB ?aS ?aL ?_; (case aR => first | (rw [← show ((l0.take ((wrap64 (t556 + t555)) : Int).toNat).drop (t556 : Int).toNat).length = ((wrap64 (t556 + t555)).toNat - t556.toNat) from (by rw [List.length_drop, List.length_take]; have h_ : ((wrap64 (t556 + t555)) : Int) ≤ (l0.length : Int) := of_decide_eq_true (by first | (with_reducible assumption) | assumption); omega)]; exact stC (Kd.C_below HR558.out HB.out)) | (exact stC (Kd.C_below HR558.out HB.out))); (case aB => exact (stB HB.out)); (case aF => exact (fun _ _ => trivial)); (case aO => exact ((Kd.R_nil _ _ _ _ (fun _ => True)))); (case aS => exact (below_size (stB HB.out))); (case aL => have := LMc11.out; have hlx_ := (show ((l0.take ((wrap64 (t556 + t555)) : Int).toNat).drop (t556 : Int).toNat).length = ((wrap64 (t556 + t555)).toNat - t556.toNat) from (by rw [List.length_drop, List.length_take]; have h_ : ((wrap64 (t556 + t555)) : Int) ≤ (l0.length : Int) := of_decide_eq_true (by first | (with_reducible assumption) | assumption); omega)); omega); intro v560 w14 ho hb hg hat; rw [← Ny559.out] at ho; have n0_ := Aside0.mk (hb); have n1_ := Aside0.mk (ho); clear HB; have HB := n0_; have HO561 := n1_; clear n0_ n1_; clear ho hb hg hat))
        go_ret3
        exact ⟨_, by first | rfl | (simp [errW_none, errW_some] <;> rfl) | (simp [*, errW_none, errW_some] <;> rfl), stR HO561.out, stB HB.out⟩
       ·rw [if_neg c11] at H
        exact absurd H (by simp)
      ·rw [if_neg c10] at H
       exact absurd H (by simp)
     ·rw [if_neg c9] at H
      exact absurd H (by simp)
    ·rw [if_neg c8] at H
     exact absurd H (by simp)
 ·rw [if_neg c3] at H
  have c3b0 : (t557 == 0) = false := beq_eq_false_iff_ne.mpr c3
  have c3b1 : (t557 != 0) = true := bne_iff_ne.mpr c3
  simp only [Option.some.injEq, Prod.mk.injEq] at H
  obtain ⟨rfl, rfl, rfl⟩ := H
  go_enter Tryz.func169, Tryz.ntmps169
  go_wp2_with (first | ((with_reducible refine gate_callee (f := 129) rfl ?_); refine goesL_ (some 11) rfl rfl Tryz.func129 (by kernel_rfl) rfl #[.slice A0 l0.length c0] rfl (by (try simp only [List.map_toArray, List.map_cons, List.map_nil]); first | done | rfl | (simp only [List.length_drop, List.length_take]; rfl)) ?_; (with_reducible refine (trivetref01_TakeNum.calls _ _ l0 t555 t556 t557 _ ?side1 ?side2 A2.out).mono ?_); (case side1 => exact stC HR0.out); (case side2 => exact HC0.out); rintro e w15 ⟨rfl, hb⟩; refine ⟨_, rfl, ?_⟩; have n0_ := Aside0.mk (below_step (stB HB.out) hb); clear HB; have HB := n0_; clear n0_; (try clear hb); (try clear hb2); (try clear hk); (try clear hi)))
  go_ret3
  exact ⟨_, by first | rfl | (simp [errW_none, errW_some] <;> rfl) | (simp [*, errW_none, errW_some] <;> rfl), by first | exact Kd.R_nil _ _ _ _ _ | exact Kd.N_nil _ _ _ _ _ | exact Kd.V_nil _ _ _ _ _ | exact Kd.Q_nil _ _ _ _ _ | exact Kd.S_nil _ _ _ _ _, stB HB.out⟩
end Go.Proofs.YtgiefblcckikeaaGreat.G
end

section
/- The reference's Reader reads numbers and bytes as the eye does. -/
attribute [local irreducible] Go.wpStill
namespace Go.Proofs.YtgiefblcckikeaaGreat.M
open Go.RowKit Go.Proofs.YtgiefblcckikeaaGreatW.PrintWords Go.Proofs.YtgiefblcckikeaaGreatW.PrintLast Go.Proofs.YtgiefblcckikeaaGreatW.PrintMore Go.Proofs.YtgiefblcckikeaaGreat.G
def IsRd (B : List Int) (w0 W : World) (x : Nat) (s : EyeS) : Prop := ∃ (A : Option Addr) (c k : Nat), W.heap[x]? = some (.cells #[.slice A B.length c, .int .i64 (k : Int), .int .i64 s.e, .bool s.o] 86) ∧ w0.heap.size ≤ x ∧ B.length ≤ c ∧ Kd.C (Kd.int .u8) w0 A B.length B ∧ k ≤ B.length ∧ B.drop k = s.l ∧ B.length < 140737488355328
theorem IsRd.lt {B : List Int} {w0 W : World} {x : Nat} {s : EyeS} (h : IsRd B w0 W x s) : x < W.heap.size := by
 obtain ⟨A, c, k, h1, _⟩ := h
 exact (Array.getElem?_eq_some_iff.1 h1).1
theorem IsRd.at {B : List Int} {w0 W W' : World} {x : Nat} {s : EyeS} (h : IsRd B w0 W x s) (e : W'.heap[x]? = W.heap[x]?) : IsRd B w0 W' x s := by
 obtain ⟨A, c, k, h1, h2⟩ := h
 exact ⟨A, c, k, e.trans h1, h2⟩
theorem IsRd.below {B : List Int} {w0 W W' : World} {x : Nat} {s : EyeS} (h : IsRd B w0 W x s) (hb : Below W.heap.size W W') : IsRd B w0 W' x s := h.at (hb.block x h.lt)
theorem IsRd.ge {B : List Int} {w0 W : World} {x : Nat} {s : EyeS} (h : IsRd B w0 W x s) : w0.heap.size ≤ x := by
 obtain ⟨A, c, k, h1, h2, _⟩ := h
 exact h2
def RdP (B : List Int) (w0 w : World) (x : Nat) (r : Value) (s' : EyeS) (e : Ending) (w' : World) : Prop := e = .returned r ∧ IsRd B w0 w' x s' ∧ Below w0.heap.size w0 w' ∧ KeepS (fun i => i = x) w w'
theorem rdFail_is {B : List Int} {w0 w : World} {x : Nat} {s : EyeS} (hI : IsRd B w0 w x s) (hB : Below w0.heap.size w0 w) (n : Int) :
  Calls Tryz.prog 119 #[.pointer (some ⟨x, 0, none⟩), .int .i64 n] w fun e w' => RdP B w0 w x (.tuple #[]) (if s.e = 0 then { s with e := n } else s) e w' := by
 have HI := Lib.hid hI; have HB := Lib.hid hB
 obtain ⟨A, c, k, h1, h2, h3⟩ := hI
 have HH := Lib.hid h1; have HGE := Lib.hid h2; have H34 := Lib.hid h3
 have c2 : w.cell? ⟨x, 2, none⟩ = some (.int .i64 s.e) := by simp [World.cell?, h1]
 have z2 : w.frozen? ⟨x, 2, none⟩ = false := by simp [World.frozen?, h1]
 clear h1 h2 h3 hB
 by_cases he : s.e = 0
 ·have hb : (s.e == 0) = true := by rw [he]; rfl
  rw [if_pos he]
  clear he
  go_enter Tryz.func119, Tryz.ntmps119
  go_wp2_with fail
  go_end0
  refine ⟨rfl, ⟨A, c, k, ?_, HGE.out, H34.out⟩, HB.out.setCell (by exact HGE.out) _, (KeepS.refl (fun i => i = x) w).set (p := ⟨x, 2, none⟩) (.inl rfl) _⟩
  have e1 := heap_same w ⟨x, 2, none⟩ (.int .i64 n) HH.out rfl
  simpa using e1
 ·have hb : (s.e == 0) = false := beq_eq_false_iff_ne.2 he
  rw [if_neg he]
  clear he
  go_enter Tryz.func119, Tryz.ntmps119
  go_wp2_with fail
  go_end0
  exact ⟨rfl, HI.out, HB.out, KeepS.refl _ _⟩
theorem takeNum_err {l : List Int} (h : ¬ (takeNum l).2.2 = 0) : (takeNum l).1 = 0 ∧ (takeNum l).2.1 = 0 := by
 unfold takeNum at h ⊢
 by_cases h0 : tkE l = 0
 ·rw [if_pos h0] at h
  exact absurd rfl h
 ·rw [if_neg h0]
  exact ⟨rfl, rfl⟩
set_option maxHeartbeats 1000000 in
theorem rdNum_is {B : List Int} {w0 w : World} {x : Nat} {s : EyeS} (hI : IsRd B w0 w x s) (hB : Below w0.heap.size w0 w) (hok : okS s) :
  Calls Tryz.prog 116 #[.pointer (some ⟨x, 0, none⟩)] w fun e w' => RdP B w0 w x (.int .i64 (eNum s).1) (eNum s).2 e w' := by
 have HI := Lib.hid hI; have HB := Lib.hid hB
 obtain ⟨A, c, k, h1, h2, h3, h4, h5, h6, h7⟩ := hI
 have c0 : w.cell? ⟨x, 0, none⟩ = some (.slice A B.length c) := by simp [World.cell?, h1]
 have c1 : w.cell? ⟨x, 1, none⟩ = some (.int .i64 (k : Int)) := by simp [World.cell?, h1]
 have c2 : w.cell? ⟨x, 2, none⟩ = some (.int .i64 s.e) := by simp [World.cell?, h1]
 have HGE := Lib.hid h2; have H34 := Lib.hid (And.intro h3 h4); have HBL := Lib.hid h7
 by_cases he : s.e = 0
 ·have hb : (s.e != 0) = false := by rw [he]; rfl
  obtain ⟨A', hcut, hC, hc'⟩ := cutE (A := A) (c := c) (l := B) k h5 h3
  rw [h6] at hcut hC hc'
  have HN := Lib.hid (G.trivetref01_TakeNum.calls A' (c - k) s.l (takeNum s.l).1 (takeNum s.l).2.1 (takeNum s.l).2.2 w.drew (Kd.C_drew (Kd.C_below (hC w0 h4) hB)) hc' (by unfold G.trivetref01_TakeNum.f; rw [if_pos hok.1]))
  have HF := Lib.hid (show eNum s = ((takeNum s.l).1, ⟨s.l.drop (takeNum s.l).2.1.toNat, (takeNum s.l).2.2, s.o⟩) by unfold eNum; rw [if_pos he])
  obtain ⟨z0, z1⟩ := takeNum_size s.l
  have hzz := takeNum_err (l := s.l)
  obtain ⟨j, hj⟩ : ∃ j : Nat, (takeNum s.l).2.1 = (j : Int) := ⟨(takeNum s.l).2.1.toNat, by omega⟩
  obtain ⟨n, hn⟩ : ∃ n, (takeNum s.l).1 = n := ⟨_, rfl⟩
  obtain ⟨er, her⟩ : ∃ er, (takeNum s.l).2.2 = er := ⟨_, rfl⟩
  rw [hn, hj, her] at HN HF
  rw [Int.toNat_natCast] at HF
  have hjl : k + j ≤ B.length := by
   have e1 : s.l.length = B.length - k := by rw [← h6, List.length_drop]
   omega
  have hdr : B.drop (k + j) = s.l.drop j := by rw [← h6, List.drop_drop]
  have hwr : wrap64 ((k : Int) + (j : Int)) = ((k + j : Nat) : Int) := by unfold wrap64; omega
  rw [hn, hj, her] at hzz
  have HZZ := Lib.hid hzz; have HJ := Lib.hid (And.intro hjl hdr); have HK := Lib.hid h5; have H6 := Lib.hid h6; have HE := Lib.hid he
  have HHE := Lib.hid h1
  clear hB hok h1 h2 h3 h4 h5 h6 h7 z0 z1 hj hC hc' hn her hzz hjl hdr he
  go_enter Tryz.func116, Tryz.ntmps116
  go_wp2_with fail
  refine start_ (n := 17) (S := fun w' => w'.cell? ⟨x, 0, none⟩ = some (.slice A B.length c) ∧ w'.cell? ⟨x, 1, none⟩ = some (.int .i64 (k : Int))) (ds := []) #[false, false, false, false, false, false, false, false, false, false, false, false, false, false, false, false, false] (by kernel_rfl) rfl rfl ?_ (fun hHeld => ?_)
  rotate_left
  refine pure_ (i := 0) (N := some 12) (v := ?_) (a' := ?_) #[true, false, false, false, false, false, false, false, false, false, false, false, false, false, false, false, false] rfl rfl (by kernel_rfl) (fun _ _ _ h => h) (Or.inl ⟨by rfl, ?_⟩) ?_ ?_
  rotate_left
  ·intro w'
   go_simp
   try with_reducible rfl
  rotate_left
  ·simp only [Act.put, sq1, sq2, sq3, i64_w, i32_w]
   rfl
  refine pure_ (i := 1) (N := some 13) (v := ?_) (a' := ?_) #[true, true, false, false, false, false, false, false, false, false, false, false, false, false, false, false, false] rfl rfl (by kernel_rfl) (fun _ _ _ h => h) (Or.inl ⟨by rfl, ?_⟩) ?_ ?_
  rotate_left
  ·intro w'
   go_simp
   try with_reducible rfl
  rotate_left
  ·simp only [Act.put, sq1, sq2, sq3, i64_w, i32_w]
   rfl
  refine pure_ (i := 2) (N := some 14) (v := ?_) (a' := ?_) #[true, true, true, false, false, false, false, false, false, false, false, false, false, false, false, false, false] rfl rfl (by kernel_rfl) (fun _ _ _ h => h) (Or.inl ⟨by rfl, ?_⟩) ?_ ?_
  rotate_left
  ·intro w'
   go_simp
   try with_reducible rfl
  rotate_left
  ·simp only [Act.put, sq1, sq2, sq3, i64_w, i32_w]
   rfl
  refine take_ (i := 3) (N := some 15) (v := ?_) (a' := ?_) #[true, true, true, true, false, false, false, false, false, false, false, false, false, false, false, false, false] rfl rfl (by kernel_rfl) (fun _ _ _ h => h) (Or.inl ⟨by rfl, ?_⟩) hHeld ?_ ?_
  rotate_left
  ·intro w' hS
   go_simp
   try with_reducible rfl
  rotate_left
  ·simp only [Act.put, sq1, sq2, sq3, i64_w, i32_w]
   rfl
  refine pure_ (i := 4) (N := some 16) (v := ?_) (a' := ?_) #[true, true, true, true, true, false, false, false, false, false, false, false, false, false, false, false, false] rfl rfl (by kernel_rfl) (fun _ _ _ h => h) (Or.inl ⟨by rfl, ?_⟩) ?_ ?_
  rotate_left
  ·intro w'
   go_simp
   try with_reducible rfl
  rotate_left
  ·simp only [Act.put, sq1, sq2, sq3, i64_w, i32_w]
   rfl
  refine pure_ (i := 5) (N := some 17) (v := ?_) (a' := ?_) #[true, true, true, true, true, true, false, false, false, false, false, false, false, false, false, false, false] rfl rfl (by kernel_rfl) (fun _ _ _ h => h) (Or.inl ⟨by rfl, ?_⟩) ?_ ?_
  rotate_left
  ·intro w'
   go_simp
   try with_reducible rfl
  rotate_left
  ·simp only [Act.put, sq1, sq2, sq3, i64_w, i32_w]
   rfl
  refine pure_ (i := 6) (N := some 18) (v := ?_) (a' := ?_) #[true, true, true, true, true, true, true, false, false, false, false, false, false, false, false, false, false] rfl rfl (by kernel_rfl) (fun _ _ _ h => h) (Or.inl ⟨by rfl, ?_⟩) ?_ ?_
  rotate_left
  ·intro w'
   go_simp
   try with_reducible rfl
  rotate_left
  ·simp only [Act.put, sq1, sq2, sq3, i64_w, i32_w]
   rfl
  refine take_ (i := 7) (N := some 19) (v := ?_) (a' := ?_) #[true, true, true, true, true, true, true, true, false, false, false, false, false, false, false, false, false] rfl rfl (by kernel_rfl) (fun _ _ _ h => h) (Or.inl ⟨by rfl, ?_⟩) hHeld ?_ ?_
  rotate_left
  ·intro w' hS
   go_simp
   try with_reducible rfl
  rotate_left
  ·simp only [Act.put, sq1, sq2, sq3, i64_w, i32_w]
   rfl
  refine pure_ (i := 8) (N := some 20) (v := ?_) (a' := ?_) #[true, true, true, true, true, true, true, true, true, false, false, false, false, false, false, false, false] rfl rfl (by kernel_rfl) (fun _ _ _ h => h) (Or.inl ⟨by rfl, ?_⟩) ?_ ?_
  rotate_left
  ·intro w'
   go_simp
   try with_reducible rfl
  rotate_left
  ·simp only [Act.put, sq1, sq2, sq3, i64_w, i32_w]
   rfl
  refine one_ (i := 9) (N := some 21) #[true, true, true, true, true, true, true, true, true, true, false, false, false, false, false, false, false] rfl rfl (by kernel_rfl) (by decide) (fun K hK => ?_)
  go_simp
  refine HN.out.mono ?_
  rintro e w1 ⟨rfl, hb⟩
  have HH1 := Lib.hid ((hb.block x HI.out.lt).trans HHE.out); have HB1 := Lib.hid (HB.out.drew.trans (hb.mono HB.out.size)); have HK1 := Lib.hid (show KeepS (fun i => i = x) w w1 from ((KeepS.refl _ w).drew).then_below hb)
  skip
  clear hb
  refine hK.out _ _ ⟨by simp [World.cell?, HH1.out], by simp [World.cell?, HH1.out]⟩ (fun hHeld => ?_)
  refine pure_ (i := 10) (N := some 11) (v := ?_) (a' := ?_) #[true, true, true, true, true, true, true, true, true, true, true, false, false, false, false, false, false] rfl rfl (by kernel_rfl) (fun _ _ _ h => h) (Or.inl ⟨by rfl, ?_⟩) ?_ ?_
  rotate_left
  ·intro w'
   go_simp
   try with_reducible rfl
  rotate_left
  ·simp only [Act.put, sq1, sq2, sq3, i64_w, i32_w]
   rfl
  refine pure_ (i := 11) (N := some 22) (v := ?_) (a' := ?_) #[true, true, true, true, true, true, true, true, true, true, true, true, false, false, false, false, false] rfl rfl (by kernel_rfl) (fun _ _ _ h => h) (Or.inl ⟨by rfl, ?_⟩) ?_ ?_
  rotate_left
  ·intro w'
   go_simp
   try with_reducible rfl
  rotate_left
  ·simp only [Act.put, sq1, sq2, sq3, i64_w, i32_w]
   rfl
  refine pure_ (i := 12) (N := some 23) (v := ?_) (a' := ?_) #[true, true, true, true, true, true, true, true, true, true, true, true, true, false, false, false, false] rfl rfl (by kernel_rfl) (fun _ _ _ h => h) (Or.inl ⟨by rfl, ?_⟩) ?_ ?_
  rotate_left
  ·intro w'
   go_simp
   try with_reducible rfl
  rotate_left
  ·simp only [Act.put, sq1, sq2, sq3, i64_w, i32_w]
   rfl
  refine pure_ (i := 13) (N := some 24) (v := ?_) (a' := ?_) #[true, true, true, true, true, true, true, true, true, true, true, true, true, true, false, false, false] rfl rfl (by kernel_rfl) (fun _ _ _ h => h) (Or.inl ⟨by rfl, ?_⟩) ?_ ?_
  rotate_left
  ·intro w'
   go_simp
   try with_reducible rfl
  rotate_left
  ·simp only [Act.put, sq1, sq2, sq3, i64_w, i32_w]
   rfl
  refine pure_ (i := 14) (N := some 3) (v := ?_) (a' := ?_) #[true, true, true, true, true, true, true, true, true, true, true, true, true, true, true, false, false] rfl rfl (by kernel_rfl) (fun _ _ _ h => h) (Or.inl ⟨by rfl, ?_⟩) ?_ ?_
  rotate_left
  ·intro w'
   go_simp
   try with_reducible rfl
  rotate_left
  ·simp only [Act.put, sq1, sq2, sq3, i64_w, i32_w]
   rfl
  refine pure_ (i := 15) (N := some 4) (v := ?_) (a' := ?_) #[true, true, true, true, true, true, true, true, true, true, true, true, true, true, true, true, false] rfl rfl (by kernel_rfl) (fun _ _ _ h => h) (Or.inl ⟨by rfl, ?_⟩) ?_ ?_
  rotate_left
  ·intro w'
   go_simp
   try with_reducible rfl
  rotate_left
  ·simp only [Act.put, sq1, sq2, sq3, i64_w, i32_w]
   rfl
  refine pure_ (i := 16) (N := some 5) (v := ?_) (a' := ?_) #[true, true, true, true, true, true, true, true, true, true, true, true, true, true, true, true, true] rfl rfl (by kernel_rfl) (fun _ _ _ h => h) (Or.inl ⟨by rfl, ?_⟩) ?_ ?_
  rotate_left
  ·intro w'
   go_simp
   try with_reducible rfl
  rotate_left
  ·simp only [Act.put, sq1, sq2, sq3, i64_w, i32_w]
   rfl
  refine done_ (by kernel_rfl) ?_
  by_cases hq : er = 0
  ·have hb2 : (er != 0) = false := by rw [hq]; rfl
   have d1 : w1.cell? ⟨x, 1, none⟩ = some (.int .i64 (k : Int)) := by simp [World.cell?, HH1.out]
   have z1 : w1.frozen? ⟨x, 1, none⟩ = false := by simp [World.frozen?, HH1.out]
   have HQ := Lib.hid hq
   clear hq
   go_wp2_with fail
   go_ret
   refine ⟨by rw [HF.out]; rfl, ?_, HB1.out.setCell (by exact HGE.out) _, HK1.out.set (p := ⟨x, 1, none⟩) (.inl rfl) _⟩
   rw [HF.out, HQ.out]
   refine ⟨A, c, k + j, ?_, HGE.out, H34.out.1, H34.out.2, HJ.out.1, HJ.out.2, HBL.out⟩
   have e1 := heap_same w1 ⟨x, 1, none⟩ (.int .i64 ((k + j : Nat) : Int)) HH1.out rfl
   rw [HE.out] at e1
   simpa using e1
  ·have hb2 : (er != 0) = true := bne_iff_ne.2 hq
   obtain ⟨rfl, hj0⟩ := HZZ.out hq
   have HI1 : IsRd B w0 w1 x s := ⟨A, c, k, HH1.out, HGE.out, H34.out.1, H34.out.2, HK.out, H6.out, HBL.out⟩
   have HFA := Lib.hid (rdFail_is HI1 HB1.out er)
   have HR := Lib.hid (show (eNum s).2 = { s with e := er } by
    rw [HF.out]
    have : j = 0 := by omega
    rw [this, List.drop_zero])
   have HR1 := Lib.hid (show (eNum s).1 = 0 by rw [HF.out])
   have HE2 := Lib.hid (show (if s.e = 0 then { s with e := er } else s) = { s with e := er } from if_pos HE.out)
   clear hq HI1 hj0
   go_wp2_with fail
   refine HFA.out.mono ?_
   rw [HE2.out]
   rintro e w2 ⟨rfl, g1, g2, g3⟩
   have G1 := Lib.hid g1; have G2 := Lib.hid g2; have G3 := Lib.hid (HK1.out.trans g3)
   clear g1 g2 g3
   go_wp2_with fail
   go_ret
   exact ⟨by rw [HR1.out]; rfl, by rw [HR.out]; exact G1.out, G2.out, G3.out⟩
  exact ⟨c0, c1⟩
 ·have hb : (s.e != 0) = true := bne_iff_ne.2 he
  have HF := Lib.hid (show eNum s = (0, s) by unfold eNum; rw [if_neg he])
  clear hB hok h1 h2 h3 h4 he h5 h6 h7
  go_enter Tryz.func116, Tryz.ntmps116
  go_wp2_with fail
  go_ret
  exact ⟨by rw [HF.out]; rfl, by rw [HF.out]; exact HI.out, HB.out, KeepS.refl _ _⟩
theorem rtakeBlob_f {l : List Int} (h : okB l = true) (hl : l.length < 140737488355328) : G.trivetref01_TakeBlob.f l = some (takeBlob l) := by
 have hr : G.trivetref01_TakeNum.f l = some (takeNum l) := by unfold G.trivetref01_TakeNum.f; rw [if_pos h]
 unfold G.trivetref01_TakeBlob.f takeBlob
 rw [hr, Option.bind_some]
 unfold takeNum
 by_cases he : tkE l = 0
 ·obtain ⟨f1, f2⟩ := form_one h he
  have h1 := tkS_pos l
  have h2 := tkE_size he
  unfold isI64 at f2
  rw [if_pos he]
  simp only []
  rw [if_pos trivial]
  by_cases h3 : tkN l < 0
  ·have hb : blE l big62 0 = 11 := by unfold blE; rw [if_neg (by omega), if_pos h3]
   rw [if_pos h3, hb, if_neg (by decide)]
  ·rw [if_neg h3]
   have hw : wrap64 ((l.length : Int) - tkS l) = (l.length : Int) - tkS l := by unfold wrap64; omega
   rw [hw]
   by_cases h4 : (l.length : Int) - tkS l < tkN l
   ·have hb : blE l big62 0 = 10 := by unfold blE big62; rw [if_neg (by omega), if_neg h3, if_neg (by omega), if_pos (by omega)]
    rw [if_pos (by omega), hb, if_neg (by decide)]
   ·have hb : blE l big62 0 = 0 := by unfold blE big62; rw [if_neg (by omega), if_neg h3, if_neg (by omega), if_neg (by omega)]
    have hw2 : wrap64 (tkS l + tkN l) = tkS l + tkN l := by unfold wrap64; omega
    rw [if_neg (by omega), if_pos (by omega), hw2, if_pos (by omega), if_pos (by omega), if_pos (by simp only [List.length_drop, List.length_take]; simp; omega), hb, if_pos rfl]
    rfl
 ·have hb : blE l big62 0 = tkE l := by unfold blE; rw [if_pos he]
  rw [if_neg he]
  simp only []
  rw [if_neg he, hb, if_neg he]
theorem takeBlob_err {l : List Int} (h : ¬ (takeBlob l).2.2 = 0) : (takeBlob l).1 = [] ∧ (takeBlob l).2.1 = 0 := by
 unfold takeBlob at h ⊢
 by_cases h0 : blE l big62 0 = 0
 ·rw [if_pos h0] at h
  exact absurd rfl h
 ·rw [if_neg h0]
  exact ⟨rfl, rfl⟩
def RdD (B : List Int) (w0 w : World) (x : Nat) (l : List Int) (s' : EyeS) (e : Ending) (w' : World) : Prop := ∃ v : Value, e = .returned v ∧ Kd.R (Kd.int .u8) 5 w' w.heap.size (fun k => k ≠ x) v l ∧ IsRd B w0 w' x s' ∧ Below w0.heap.size w0 w' ∧ KeepS (fun i => i = x) w w'
set_option maxHeartbeats 1000000 in
theorem rdData_is {B : List Int} {w0 w : World} {x : Nat} {s : EyeS} (hI : IsRd B w0 w x s) (hB : Below w0.heap.size w0 w) (hok : okS s) :
  Calls Tryz.prog 157 #[.pointer (some ⟨x, 0, none⟩)] w fun e w' => RdD B w0 w x (eData s).1 (eData s).2 e w' := by
 have HI := Lib.hid hI; have HB := Lib.hid hB
 obtain ⟨A, c, k, h1, h2, h3, h4, h5, h6, h7⟩ := hI
 have c0 : w.cell? ⟨x, 0, none⟩ = some (.slice A B.length c) := by simp [World.cell?, h1]
 have c1 : w.cell? ⟨x, 1, none⟩ = some (.int .i64 (k : Int)) := by simp [World.cell?, h1]
 have c2 : w.cell? ⟨x, 2, none⟩ = some (.int .i64 s.e) := by simp [World.cell?, h1]
 have HGE := Lib.hid h2; have H34 := Lib.hid (And.intro h3 h4); have HBL := Lib.hid h7
 by_cases he : s.e = 0
 ·have hb : (s.e != 0) = false := by rw [he]; rfl
  obtain ⟨A', hcut, hC, hc'⟩ := cutE (A := A) (c := c) (l := B) k h5 h3
  rw [h6] at hcut hC hc'
  have HN := Lib.hid (G.trivetref01_TakeBlob.calls A' (c - k) s.l (takeBlob s.l).1 (takeBlob s.l).2.1 (takeBlob s.l).2.2 w.drew (Kd.C_drew (Kd.C_below (hC w0 h4) hB)) hc' (rtakeBlob_f hok.1 hok.2))
  have HF := Lib.hid (show eData s = ((takeBlob s.l).1, ⟨s.l.drop (takeBlob s.l).2.1.toNat, (takeBlob s.l).2.2, s.o⟩) by unfold eData; rw [if_pos he])
  obtain ⟨z0, z1⟩ := takeBlob_size hok.1 hok.2
  have hzz := takeBlob_err (l := s.l)
  obtain ⟨j, hj⟩ : ∃ j : Nat, (takeBlob s.l).2.1 = (j : Int) := ⟨(takeBlob s.l).2.1.toNat, by omega⟩
  obtain ⟨n, hn⟩ : ∃ n, (takeBlob s.l).1 = n := ⟨_, rfl⟩
  obtain ⟨er, her⟩ : ∃ er, (takeBlob s.l).2.2 = er := ⟨_, rfl⟩
  have hnl : n.length < 140737488355328 := by
   rw [← hn]
   unfold takeBlob
   split
   ·unfold blD; simp only [List.length_drop, List.length_take]; have := hok.2; omega
   ·simp
  rw [hn, hj, her] at HN HF
  rw [Int.toNat_natCast] at HF
  have hjl : k + j ≤ B.length := by
   have e1 : s.l.length = B.length - k := by rw [← h6, List.length_drop]
   omega
  have hdr : B.drop (k + j) = s.l.drop j := by rw [← h6, List.drop_drop]
  have hwr : wrap64 ((k : Int) + (j : Int)) = ((k + j : Nat) : Int) := by unfold wrap64; omega
  rw [hn, hj, her] at hzz
  have HZZ := Lib.hid hzz; have HJ := Lib.hid (And.intro hjl hdr); have HK := Lib.hid h5; have H6 := Lib.hid h6; have HE := Lib.hid he; have HNL := Lib.hid hnl
  have HHE := Lib.hid h1
  clear hB hok h1 h2 h3 h4 h5 h6 h7 z0 z1 hj hC hc' hn her hzz hjl hdr he hnl
  go_enter Tryz.func157, Tryz.ntmps157
  go_wp2_with fail
  refine start_ (n := 17) (S := fun w' => w'.cell? ⟨x, 0, none⟩ = some (.slice A B.length c) ∧ w'.cell? ⟨x, 1, none⟩ = some (.int .i64 (k : Int))) (ds := []) #[false, false, false, false, false, false, false, false, false, false, false, false, false, false, false, false, false] (by kernel_rfl) rfl rfl ?_ (fun hHeld => ?_)
  rotate_left
  refine pure_ (i := 0) (N := some 12) (v := ?_) (a' := ?_) #[true, false, false, false, false, false, false, false, false, false, false, false, false, false, false, false, false] rfl rfl (by kernel_rfl) (fun _ _ _ h => h) (Or.inl ⟨by rfl, ?_⟩) ?_ ?_
  rotate_left
  ·intro w'
   go_simp
   try with_reducible rfl
  rotate_left
  ·simp only [Act.put, sq1, sq2, sq3, i64_w, i32_w]
   rfl
  refine pure_ (i := 1) (N := some 13) (v := ?_) (a' := ?_) #[true, true, false, false, false, false, false, false, false, false, false, false, false, false, false, false, false] rfl rfl (by kernel_rfl) (fun _ _ _ h => h) (Or.inl ⟨by rfl, ?_⟩) ?_ ?_
  rotate_left
  ·intro w'
   go_simp
   try with_reducible rfl
  rotate_left
  ·simp only [Act.put, sq1, sq2, sq3, i64_w, i32_w]
   rfl
  refine pure_ (i := 2) (N := some 14) (v := ?_) (a' := ?_) #[true, true, true, false, false, false, false, false, false, false, false, false, false, false, false, false, false] rfl rfl (by kernel_rfl) (fun _ _ _ h => h) (Or.inl ⟨by rfl, ?_⟩) ?_ ?_
  rotate_left
  ·intro w'
   go_simp
   try with_reducible rfl
  rotate_left
  ·simp only [Act.put, sq1, sq2, sq3, i64_w, i32_w]
   rfl
  refine take_ (i := 3) (N := some 15) (v := ?_) (a' := ?_) #[true, true, true, true, false, false, false, false, false, false, false, false, false, false, false, false, false] rfl rfl (by kernel_rfl) (fun _ _ _ h => h) (Or.inl ⟨by rfl, ?_⟩) hHeld ?_ ?_
  rotate_left
  ·intro w' hS
   go_simp
   try with_reducible rfl
  rotate_left
  ·simp only [Act.put, sq1, sq2, sq3, i64_w, i32_w]
   rfl
  refine pure_ (i := 4) (N := some 16) (v := ?_) (a' := ?_) #[true, true, true, true, true, false, false, false, false, false, false, false, false, false, false, false, false] rfl rfl (by kernel_rfl) (fun _ _ _ h => h) (Or.inl ⟨by rfl, ?_⟩) ?_ ?_
  rotate_left
  ·intro w'
   go_simp
   try with_reducible rfl
  rotate_left
  ·simp only [Act.put, sq1, sq2, sq3, i64_w, i32_w]
   rfl
  refine pure_ (i := 5) (N := some 17) (v := ?_) (a' := ?_) #[true, true, true, true, true, true, false, false, false, false, false, false, false, false, false, false, false] rfl rfl (by kernel_rfl) (fun _ _ _ h => h) (Or.inl ⟨by rfl, ?_⟩) ?_ ?_
  rotate_left
  ·intro w'
   go_simp
   try with_reducible rfl
  rotate_left
  ·simp only [Act.put, sq1, sq2, sq3, i64_w, i32_w]
   rfl
  refine pure_ (i := 6) (N := some 18) (v := ?_) (a' := ?_) #[true, true, true, true, true, true, true, false, false, false, false, false, false, false, false, false, false] rfl rfl (by kernel_rfl) (fun _ _ _ h => h) (Or.inl ⟨by rfl, ?_⟩) ?_ ?_
  rotate_left
  ·intro w'
   go_simp
   try with_reducible rfl
  rotate_left
  ·simp only [Act.put, sq1, sq2, sq3, i64_w, i32_w]
   rfl
  refine take_ (i := 7) (N := some 19) (v := ?_) (a' := ?_) #[true, true, true, true, true, true, true, true, false, false, false, false, false, false, false, false, false] rfl rfl (by kernel_rfl) (fun _ _ _ h => h) (Or.inl ⟨by rfl, ?_⟩) hHeld ?_ ?_
  rotate_left
  ·intro w' hS
   go_simp
   try with_reducible rfl
  rotate_left
  ·simp only [Act.put, sq1, sq2, sq3, i64_w, i32_w]
   rfl
  refine pure_ (i := 8) (N := some 20) (v := ?_) (a' := ?_) #[true, true, true, true, true, true, true, true, true, false, false, false, false, false, false, false, false] rfl rfl (by kernel_rfl) (fun _ _ _ h => h) (Or.inl ⟨by rfl, ?_⟩) ?_ ?_
  rotate_left
  ·intro w'
   go_simp
   try with_reducible rfl
  rotate_left
  ·simp only [Act.put, sq1, sq2, sq3, i64_w, i32_w]
   rfl
  refine one_ (i := 9) (N := some 21) #[true, true, true, true, true, true, true, true, true, true, false, false, false, false, false, false, false] rfl rfl (by kernel_rfl) (by decide) (fun K hK => ?_)
  go_simp
  refine HN.out.mono ?_
  rintro e w1 ⟨v, rfl, hv, hb⟩
  have HH1 := Lib.hid ((hb.block x HI.out.lt).trans HHE.out); have HB1 := Lib.hid (HB.out.drew.trans (hb.mono HB.out.size)); have HK1 := Lib.hid (show KeepS (fun i => i = x) w w1 from ((KeepS.refl _ w).drew).then_below hb)
  obtain ⟨V, cv, rfl⟩ := Kd.R_slice hv; have HV := Lib.hid hv; clear hv
  clear hb
  refine hK.out _ _ ⟨by simp [World.cell?, HH1.out], by simp [World.cell?, HH1.out]⟩ (fun hHeld => ?_)
  refine pure_ (i := 10) (N := some 11) (v := ?_) (a' := ?_) #[true, true, true, true, true, true, true, true, true, true, true, false, false, false, false, false, false] rfl rfl (by kernel_rfl) (fun _ _ _ h => h) (Or.inl ⟨by rfl, ?_⟩) ?_ ?_
  rotate_left
  ·intro w'
   go_simp
   try with_reducible rfl
  rotate_left
  ·simp only [Act.put, sq1, sq2, sq3, i64_w, i32_w]
   rfl
  refine pure_ (i := 11) (N := some 22) (v := ?_) (a' := ?_) #[true, true, true, true, true, true, true, true, true, true, true, true, false, false, false, false, false] rfl rfl (by kernel_rfl) (fun _ _ _ h => h) (Or.inl ⟨by rfl, ?_⟩) ?_ ?_
  rotate_left
  ·intro w'
   go_simp
   try with_reducible rfl
  rotate_left
  ·simp only [Act.put, sq1, sq2, sq3, i64_w, i32_w]
   rfl
  refine pure_ (i := 12) (N := some 23) (v := ?_) (a' := ?_) #[true, true, true, true, true, true, true, true, true, true, true, true, true, false, false, false, false] rfl rfl (by kernel_rfl) (fun _ _ _ h => h) (Or.inl ⟨by rfl, ?_⟩) ?_ ?_
  rotate_left
  ·intro w'
   go_simp
   try with_reducible rfl
  rotate_left
  ·simp only [Act.put, sq1, sq2, sq3, i64_w, i32_w]
   rfl
  refine pure_ (i := 13) (N := some 24) (v := ?_) (a' := ?_) #[true, true, true, true, true, true, true, true, true, true, true, true, true, true, false, false, false] rfl rfl (by kernel_rfl) (fun _ _ _ h => h) (Or.inl ⟨by rfl, ?_⟩) ?_ ?_
  rotate_left
  ·intro w'
   go_simp
   try with_reducible rfl
  rotate_left
  ·simp only [Act.put, sq1, sq2, sq3, i64_w, i32_w]
   rfl
  refine pure_ (i := 14) (N := some 3) (v := ?_) (a' := ?_) #[true, true, true, true, true, true, true, true, true, true, true, true, true, true, true, false, false] rfl rfl (by kernel_rfl) (fun _ _ _ h => h) (Or.inl ⟨by rfl, ?_⟩) ?_ ?_
  rotate_left
  ·intro w'
   go_simp
   try with_reducible rfl
  rotate_left
  ·simp only [Act.put, sq1, sq2, sq3, i64_w, i32_w]
   rfl
  refine pure_ (i := 15) (N := some 4) (v := ?_) (a' := ?_) #[true, true, true, true, true, true, true, true, true, true, true, true, true, true, true, true, false] rfl rfl (by kernel_rfl) (fun _ _ _ h => h) (Or.inl ⟨by rfl, ?_⟩) ?_ ?_
  rotate_left
  ·intro w'
   go_simp
   try with_reducible rfl
  rotate_left
  ·simp only [Act.put, sq1, sq2, sq3, i64_w, i32_w]
   rfl
  refine pure_ (i := 16) (N := some 5) (v := ?_) (a' := ?_) #[true, true, true, true, true, true, true, true, true, true, true, true, true, true, true, true, true] rfl rfl (by kernel_rfl) (fun _ _ _ h => h) (Or.inl ⟨by rfl, ?_⟩) ?_ ?_
  rotate_left
  ·intro w'
   go_simp
   try with_reducible rfl
  rotate_left
  ·simp only [Act.put, sq1, sq2, sq3, i64_w, i32_w]
   rfl
  refine done_ (by kernel_rfl) ?_
  by_cases hq : er = 0
  ·have hb2 : (er != 0) = false := by rw [hq]; rfl
   have d1 : w1.cell? ⟨x, 1, none⟩ = some (.int .i64 (k : Int)) := by simp [World.cell?, HH1.out]
   have z1 : w1.frozen? ⟨x, 1, none⟩ = false := by simp [World.frozen?, HH1.out]
   have HQ := Lib.hid hq
   have HV2 := Lib.hid (Kd.R_far (p := ⟨x, 1, none⟩) (Kd.R_mono (ok' := fun k => k ≠ x) (Kd.R_bound HV.out) (fun k hk => by have h7 : w.heap.size ≤ k := hk.2.1; have := HI.out.lt; omega)) (fun _ hk => hk) (.int .i64 ((k + j : Nat) : Int)))
   have HB2 := Lib.hid (HB1.out.setCell (p := ⟨x, 1, none⟩) (by exact HGE.out) (.int .i64 ((k + j : Nat) : Int)))
   have HK2 := Lib.hid (HK1.out.set (p := ⟨x, 1, none⟩) (.inl rfl) (.int .i64 ((k + j : Nat) : Int)))
   have e1 := heap_same w1 ⟨x, 1, none⟩ (.int .i64 ((k + j : Nat) : Int)) HH1.out rfl
   have HX2 := Lib.hid e1
   have HLX := Lib.hid (show x < w.heap.size ∧ w0.heap.size ≤ w.heap.size from ⟨HI.out.lt, HB.out.size⟩)
   clear hq e1
   go_wp2_with ((with_reducible refine gate_builtin (b := .append) (xs := #[.const (.slice none 0 0), .tmp 38]) rfl ?_); at_builtin; refine Kd.R_append_rows (Kd.int .u8) (w0 := w1.setCell ⟨x, 1, none⟩ (.int .i64 ((k + j : Nat) : Int))) w.heap.size rfl (.const (.slice none 0 0)) (.tmp 38) 23 5 (.int .u8 0) 1 rfl Tryz.underlying23 infoU8 rfl (by decide) (by omega) _ ([] : List Int) n _ _ _ (fun _ => True) (fun _ => False) rfl rfl (Kd.R_nil _ _ _ _ _) (Kd.R_reads' HV2.out).2.2 (fun _ _ h => h) (fun _ h => h.elim) (fun _ _ => trivial) (Below.refl _ _) HK2.out.size (by have := HNL.out; simp; omega) ?_; intro v1 w3 ho hb3 _ _; obtain ⟨A9, c9, rfl⟩ := Kd.R_slice ho; have HO := Lib.hid ho; have HB3 := Lib.hid hb3; clear ho hb3)
   go_ret
   refine ⟨_, rfl, ?_, ?_, HB2.out.trans (HB3.out.mono HLX.out.2), HK2.out.then_base HB3.out⟩
   ·rw [HF.out]
    exact Kd.R_mono (Kd.R_bound HO.out) (fun k hk => by have h7 := hk.2.1; have := HLX.out.1; omega)
   ·rw [HF.out, HQ.out]
    refine ⟨A, c, k + j, ?_, HGE.out, H34.out.1, H34.out.2, HJ.out.1, HJ.out.2, HBL.out⟩
    have e2 := (HB3.out.block x HLX.out.1).trans HX2.out
    rw [HE.out] at e2
    simpa using e2
  ·have hb2 : (er != 0) = true := bne_iff_ne.2 hq
   obtain ⟨rfl, hj0⟩ := HZZ.out hq
   have HI1 : IsRd B w0 w1 x s := ⟨A, c, k, HH1.out, HGE.out, H34.out.1, H34.out.2, HK.out, H6.out, HBL.out⟩
   have HFA := Lib.hid (rdFail_is HI1 HB1.out er)
   have HR := Lib.hid (show (eData s).2 = { s with e := er } by
    rw [HF.out]
    have : j = 0 := by omega
    rw [this, List.drop_zero])
   have HR1 := Lib.hid (show (eData s).1 = [] by rw [HF.out])
   have HE2 := Lib.hid (show (if s.e = 0 then { s with e := er } else s) = { s with e := er } from if_pos HE.out)
   clear hq HI1 hj0
   go_wp2_with fail
   refine HFA.out.mono ?_
   rw [HE2.out]
   rintro e w2 ⟨rfl, g1, g2, g3⟩
   have G1 := Lib.hid g1; have G2 := Lib.hid g2; have G3 := Lib.hid (HK1.out.trans g3)
   clear g1 g2 g3
   go_wp2_with fail
   go_ret
   exact ⟨.slice none 0 0, rfl, by rw [HR1.out]; exact Kd.R_nil _ _ _ _ _, by rw [HR.out]; exact G1.out, G2.out, G3.out⟩
  exact ⟨c0, c1⟩
 ·have hb : (s.e != 0) = true := bne_iff_ne.2 he
  have HF := Lib.hid (show eData s = ([], s) by unfold eData; rw [if_neg he])
  clear hB hok h1 h2 h3 h4 he h5 h6 h7
  go_enter Tryz.func157, Tryz.ntmps157
  go_wp2_with fail
  go_ret
  exact ⟨.slice none 0 0, rfl, by rw [HF.out]; exact Kd.R_nil _ _ _ _ _, by rw [HF.out]; exact HI.out, HB.out, KeepS.refl _ _⟩
end Go.Proofs.YtgiefblcckikeaaGreat.M
end

section
/- The reference's Reader: the length of a list. -/
attribute [local irreducible] Go.wpStill
namespace Go.Proofs.YtgiefblcckikeaaGreat.M
open Go.RowKit Go.Proofs.YtgiefblcckikeaaGreatW.PrintWords Go.Proofs.YtgiefblcckikeaaGreatW.PrintLast Go.Proofs.YtgiefblcckikeaaGreatW.PrintMore Go.Proofs.YtgiefblcckikeaaGreat.G
def rLen (s : EyeS) : Int × EyeS := if (eNum s).1 < 0 ∨ 4096 < (eNum s).1 then (0, eWrong true (eNum s).2) else ((eNum s).1, (eNum s).2)
theorem eWrong_true (s : EyeS) : ¬ (eWrong true s).e = 0 := by
 unfold eWrong
 split
 ·show ¬ (40 : Int) = 0; omega
 ·next h => exact fun e => h ⟨e, rfl⟩
theorem eWrong_false (s : EyeS) : eWrong false s = s := by unfold eWrong; rw [if_neg (fun h => by cases h.2)]
theorem eList_len {α : Type} (g : EyeS → α × EyeS) (s : EyeS) : eList g s = eMany g (rLen s).1.toNat (rLen s).2 := by
 unfold eList rLen eCount
 by_cases h : (eNum s).1 < 0 ∨ 4096 < (eNum s).1
 ·rw [if_pos h]
  have e : (decide ((eNum s).1 < 0) || decide (4096 < (eNum s).1)) = true := by simp; omega
  rw [e, eMany_stop (eWrong_true _), eMany_stop (eWrong_true _)]
 ·rw [if_neg h]
  have e : (decide ((eNum s).1 < 0) || decide (4096 < (eNum s).1)) = false := by simp; omega
  rw [e, eWrong_false]
theorem rLen_size (s : EyeS) : 0 ≤ (rLen s).1 ∧ (rLen s).1 ≤ 4096 := by
 unfold rLen
 split
 ·simp
 ·show 0 ≤ (eNum s).1 ∧ (eNum s).1 ≤ 4096; omega
theorem okS_len {s : EyeS} (h : okS s) : okS (rLen s).2 := by
 unfold rLen
 split
 ·exact okS_wrong _ (okS_num h)
 ·exact okS_num h
set_option maxHeartbeats 1000000 in
theorem rdLen_is {B : List Int} {w0 w : World} {x : Nat} {s : EyeS} (hI : IsRd B w0 w x s) (hB : Below w0.heap.size w0 w) (hok : okS s) :
  Calls Tryz.prog 117 #[.pointer (some ⟨x, 0, none⟩)] w fun e w' => RdP B w0 w x (.int .i64 (rLen s).1) (rLen s).2 e w' := by
 have HN := Lib.hid (rdNum_is hI hB hok)
 obtain ⟨n, hn⟩ : ∃ n, (eNum s).1 = n := ⟨_, rfl⟩
 obtain ⟨s1, hs1⟩ : ∃ s1, (eNum s).2 = s1 := ⟨_, rfl⟩
 have HF := Lib.hid (show rLen s = if n < 0 ∨ 4096 < n then (0, eWrong true s1) else (n, s1) by unfold rLen; rw [hn, hs1])
 rw [hn, hs1] at HN
 clear hI hB hok hn hs1
 go_enter Tryz.func117, Tryz.ntmps117
 go_wp2_with fail
 refine HN.out.mono ?_
 rintro e w1 ⟨rfl, h1, h2, h3⟩
 have H1 := Lib.hid h1; have H2 := Lib.hid h2; have H3 := Lib.hid h3
 clear h1 h2 h3 HN
 have HFA := Lib.hid (rdFail_is H1.out H2.out 40)
 have hw : (if s1.e = 0 then { s1 with e := 40 } else s1) = eWrong true s1 := by
  unfold eWrong
  by_cases h : s1.e = 0
  ·rw [if_pos h, if_pos ⟨h, rfl⟩]
  ·rw [if_neg h, if_neg (fun q => h q.1)]
 rw [hw] at HFA
 clear hw
 by_cases ha : n < 0
 ·have q1 : decide (n < 0) = true := decide_eq_true ha
  have HR := Lib.hid (show rLen s = (0, eWrong true s1) by rw [HF.out, if_pos (.inl ha)])
  clear ha
  go_wp2_with fail
  refine HFA.out.mono ?_
  rintro e w2 ⟨rfl, h1, h2, h3⟩
  have G1 := Lib.hid h1; have G2 := Lib.hid h2; have G3 := Lib.hid (H3.out.trans h3)
  clear h1 h2 h3
  go_wp2_with fail
  go_ret
  exact ⟨by rw [HR.out]; rfl, by rw [HR.out]; exact G1.out, G2.out, G3.out⟩
 ·have q1 : decide (n < 0) = false := decide_eq_false ha
  by_cases hb : 4096 < n
  ·have q2 : decide ((4096 : Int) < n) = true := decide_eq_true hb
   have HR := Lib.hid (show rLen s = (0, eWrong true s1) by rw [HF.out, if_pos (.inr hb)])
   clear ha hb
   go_wp2_with fail
   refine HFA.out.mono ?_
   rintro e w2 ⟨rfl, h1, h2, h3⟩
   have G1 := Lib.hid h1; have G2 := Lib.hid h2; have G3 := Lib.hid (H3.out.trans h3)
   clear h1 h2 h3
   go_wp2_with fail
   go_ret
   exact ⟨by rw [HR.out]; rfl, by rw [HR.out]; exact G1.out, G2.out, G3.out⟩
  ·have q2 : decide ((4096 : Int) < n) = false := decide_eq_false hb
   have HR := Lib.hid (show rLen s = (n, s1) by rw [HF.out, if_neg (fun h => h.elim ha hb)])
   have hwn : wrap64 n = n := by unfold wrap64; omega
   clear ha hb
   go_wp2_with fail
   go_ret
   exact ⟨by rw [HR.out]; rfl, by rw [HR.out]; exact H1.out, H2.out, H3.out⟩
end Go.Proofs.YtgiefblcckikeaaGreat.M
end
