/- RecordWritesSaid: contracts of the functions that the law goes through, put together in build order (part 4 of 8). -/
import Derived.Test.YtgiefblcckikeaaGreatPart2
import Derived.Test.YtgiefblcckikeaaGreatRows
import Derived.WalkKit
import Derived.ProofKit
import Derived.OpenShut
import Derived.ShutString
import Derived.ChangeOld
import Derived.Below
import Derived.SizedLaws
import Derived.Deep.CondSized
set_option linter.unusedVariables false
set_option linter.unusedSimpArgs false
section
/- The pen writes a transaction. -/
set_option maxRecDepth 100000
attribute [local irreducible] Go.wpStill
namespace Go.Proofs.YtgiefblcckikeaaGreat.M
open Go.RowKit Go.Proofs.YtgiefblcckikeaaGreatW.PrintWords Go.Proofs.YtgiefblcckikeaaGreatW.PrintLast Go.Proofs.YtgiefblcckikeaaGreatW.PrintMore Go.Proofs.YtgiefblcckikeaaGreat.G
def TxBox (W : World) (b : Nat) (x : TxD) (A2 : Option Addr) (c2 : Nat) (A3 : Option Addr) (c3 : Nat) (A4 : Option Addr) (c4 : Nat) (A5 : Option Addr) (c5 : Nat) : Prop := W.heap[b]? = some (.cells #[.int .i64 x.f0, .int .i64 x.f1, .slice A2 x.f2.length c2, .slice A3 x.f3.length c3, .slice A4 x.f4.length c4, .slice A5 x.f5.length c5] 26)
theorem TxBox.cell {W : World} {b : Nat} {x : TxD} {A2 A3 A4 A5 : Option Addr} {c2 c3 c4 c5 : Nat} (h : TxBox W b x A2 c2 A3 c3 A4 c4 A5 c5) : W.cell? ⟨b, 0, none⟩ = some (.int .i64 x.f0) ∧ W.cell? ⟨b, 1, none⟩ = some (.int .i64 x.f1) ∧ W.cell? ⟨b, 2, none⟩ = some (.slice A2 x.f2.length c2) ∧ W.cell? ⟨b, 3, none⟩ = some (.slice A3 x.f3.length c3) ∧ W.cell? ⟨b, 4, none⟩ = some (.slice A4 x.f4.length c4) ∧ W.cell? ⟨b, 5, none⟩ = some (.slice A5 x.f5.length c5) ∧ b < W.heap.size := by
 unfold TxBox at h
 exact ⟨by simp [World.cell?, h], by simp [World.cell?, h], by simp [World.cell?, h], by simp [World.cell?, h], by simp [World.cell?, h], by simp [World.cell?, h], (Array.getElem?_eq_some_iff.1 h).1⟩
theorem TxBox.keep {W W' : World} {b p : Nat} {x : TxD} {A2 A3 A4 A5 : Option Addr} {c2 c3 c4 c5 : Nat} (h : TxBox W b x A2 c2 A3 c3 A4 c4 A5 c5) (hk : KeepS (fun i => i = p) W W') (hb : b ≠ p) : TxBox W' b x A2 c2 A3 c3 A4 c4 A5 c5 := (hk.block b h.cell.2.2.2.2.2.2 hb).trans h
theorem okT_parts {x : TxD} (h : okT x = true) : okI [x.f0, x.f1] = true ∧ okB x.f2 = true ∧ okI x.f3 = true ∧ x.f4.all okK = true ∧ x.f5.all okK = true := by
 unfold okT at h
 simp only [Bool.and_eq_true, decide_eq_true_eq] at h
 obtain ⟨h1, h2, h3, h4, h5, h6⟩ := h
 exact ⟨by simp [okI, h1, h2], h3, h4, h5, h6⟩
theorem mayT_parts {x : TxD} (h : mayT x = true) : x.f2.length ≤ 512 ∧ x.f3.length ≤ 8 ∧ x.f4.length ≤ 16 ∧ x.f5.length ≤ 16 := by
 unfold mayT mayK at h
 simp only [Bool.and_eq_true, decide_eq_true_eq] at h
 exact ⟨h.2.1, h.2.2.1, h.2.2.2.1.1, h.2.2.2.2.1⟩
theorem txB_len {x : TxD} (h : okT x = true) (hm : mayT x = true) : (txB x).length ≤ 1300 := by
 obtain ⟨h1, h2, h3, h4, h5⟩ := okT_parts h
 obtain ⟨m2, m3, m4, m5⟩ := mayT_parts hm
 have e1 := numsB2_len h1
 have e2 := (numB_len (n := (x.f2.length : Int)) (by unfold isI64; omega)).2
 have e3 := (numB_len (n := (x.f3.length : Int)) (by unfold isI64; omega)).2
 have e4 := numsB_len h3
 have e5 := keysB_len h4 (by omega)
 have e6 := keysB_len h5 (by omega)
 unfold txB
 simp only [List.length_append]
 omega
set_option maxHeartbeats 2000000 in
theorem penTxn_is {w0 w : World} {p : Nat} {l : List Int} (hI : IsPen w w0.heap.size p l) (hB : Below w0.heap.size w0 w) (hp : w0.heap.size ≤ p) (x : TxD) {A2 A3 A4 A5 : Option Addr} {c2 c3 c4 c5 : Nat} (hX : TxC w0 x A2 c2 A3 c3 A4 c4 A5 c5) (hok : okT x = true) (hm : mayT x = true) (hs : l.length + 2000 < 140737488355328) :
  Calls Tryz.prog 96 #[.pointer (some ⟨p, 0, none⟩), .agg #[.int .i64 x.f0, .int .i64 x.f1, .slice A2 x.f2.length c2, .slice A3 x.f3.length c3, .slice A4 x.f4.length c4, .slice A5 x.f5.length c5]] w fun e w' => PenP w0 w p (l ++ txB x) e w' := by
 obtain ⟨o1, o2, o3, o4, o5⟩ := okT_parts hok
 obtain ⟨m2, m3, m4, m5⟩ := mayT_parts hm
 have e1 := numsB2_len o1
 have e2 := (numB_len (n := (x.f2.length : Int)) (by unfold isI64; omega)).2
 have e3 := (numB_len (n := (x.f3.length : Int)) (by unfold isI64; omega)).2
 have e4 := numsB_len o3
 have e5 := keysB_len o4 (by omega)
 have e6 := keysB_len o5 (by omega)
 have i2 : isI64 (x.f3.length : Int) := by unfold isI64; omega
 have HE := Lib.hid (And.intro e1 (And.intro e2 (And.intro e3 (And.intro e4 (And.intro e5 e6)))))
 have HO := Lib.hid (And.intro o1 (And.intro o2 (And.intro o3 (And.intro o4 o5))))
 have HM := Lib.hid (And.intro m2 (And.intro m3 (And.intro m4 m5)))
 have HI2 := Lib.hid i2
 have HP := Lib.hid hp; have HS := Lib.hid hs
 have HX := Lib.hid hX
 have HNE := Lib.hid (show w.heap.size ≠ p by have := hI.lt; omega)
 have H0 := Lib.hid (hI.below ((Below.refl _ w).alloc (Nat.le_refl _) (.cells #[.int .i64 x.f0, .int .i64 x.f1, .slice A2 x.f2.length c2, .slice A3 x.f3.length c3, .slice A4 x.f4.length c4, .slice A5 x.f5.length c5] 26)))
 have HB0 := Lib.hid (hB.alloc hB.size (.cells #[.int .i64 x.f0, .int .i64 x.f1, .slice A2 x.f2.length c2, .slice A3 x.f3.length c3, .slice A4 x.f4.length c4, .slice A5 x.f5.length c5] 26))
 have HK0 := Lib.hid ((KeepS.refl (fun i => i = p) w).alloc (.cells #[.int .i64 x.f0, .int .i64 x.f1, .slice A2 x.f2.length c2, .slice A3 x.f3.length c3, .slice A4 x.f4.length c4, .slice A5 x.f5.length c5] 26))
 have HT0 := Lib.hid (show TxBox (w.alloc (.cells #[.int .i64 x.f0, .int .i64 x.f1, .slice A2 x.f2.length c2, .slice A3 x.f3.length c3, .slice A4 x.f4.length c4, .slice A5 x.f5.length c5] 26)) w.heap.size x A2 c2 A3 c3 A4 c4 A5 c5 from heap_alloc_new w _)
 clear hI hB hp hX hok hm hs o1 o2 o3 o4 o5 m2 m3 m4 m5 e1 e2 e3 e4 e5 e6 i2
 go_enter Tryz.func96, Tryz.ntmps96
 go_wp2_with fail
 obtain ⟨b, hb⟩ : ∃ b, w.heap.size = b := ⟨_, rfl⟩
 obtain ⟨v0, hv0⟩ : ∃ v0, w.alloc (.cells #[.int .i64 x.f0, .int .i64 x.f1, .slice A2 x.f2.length c2, .slice A3 x.f3.length c3, .slice A4 x.f4.length c4, .slice A5 x.f5.length c5] 26) = v0 := ⟨_, rfl⟩
 rw [hv0] at H0 HB0 HK0 HT0 ⊢
 rw [hb] at HNE HT0 ⊢
 clear hb hv0
 obtain ⟨d0, d1, d2, d3, d4, d5, dz⟩ := HT0.out.cell
 have HD := Lib.hid (show Below v0.heap.size v0 (v0.alloc (.cells #[.int .i64 x.f0, .int .i64 x.f1] 2)).drew from ((Below.refl _ v0).alloc (Nat.le_refl _) (.cells #[.int .i64 x.f0, .int .i64 x.f1] 2)).drew)
 have HN := Lib.hid (nums_is (H0.out.below HD.out) ((HB0.out.alloc HB0.out.size _).drew) HP.out _ 2 [x.f0, x.f1] (Kd.C_drew (C_lit v0 [x.f0, x.f1] (by simp))) HO.out.1 (by have := HS.out; simp only [List.length_append, List.length_cons, List.length_nil]; omega))
 go_region_held3 (fun w' => w'.cell? ⟨b, 0, none⟩ = some (.int .i64 x.f0) ∧ w'.cell? ⟨b, 1, none⟩ = some (.int .i64 x.f1)) (go_keep) (((refine HN.out.mono ?_; rintro e v1 ⟨rfl, h1, h2, h3⟩; have H1 := Lib.hid h1; have HB1 := Lib.hid h2; have HK1 := Lib.hid (((HK0.out.alloc (.cells #[.int .i64 x.f0, .int .i64 x.f1] 2)).drew).trans h3); have HT1 := Lib.hid (HT0.out.keep ((((KeepS.refl (fun i => i = p) v0).alloc (.cells #[.int .i64 x.f0, .int .i64 x.f1] 2)).drew).trans h3) HNE.out); clear h1 h2 h3; have qh0 : v1.cell? ⟨b, 0, none⟩ = some (.int .i64 x.f0) := HT1.out.cell.1; have qh1 : v1.cell? ⟨b, 1, none⟩ = some (.int .i64 x.f1) := HT1.out.cell.2.1)))
 clear HN HD d0 d1 d2 d3 d4 d5 dz qh0 qh1
 obtain ⟨d0, d1, d2, d3, d4, d5, dz⟩ := HT1.out.cell
 have HD := Lib.hid (show Below v1.heap.size v1 v1.drew from (Below.refl v1.heap.size v1).drew)
 have HN := Lib.hid (data_is (H1.out.below HD.out) HB1.out.drew HP.out _ c2 x.f2 (Kd.C_below HX.out.g2 HB1.out.drew) HX.out.l2 (by have := HS.out; have := HE.out; have := HM.out; simp only [List.length_append]; omega))
 go_wp2_with fail
 go_region_held3 (fun w' => w'.cell? ⟨b, 2, none⟩ = some (.slice A2 x.f2.length c2)) (go_keep) (((refine HN.out.mono ?_; rintro e v2 ⟨rfl, h1, h2, h3⟩; have H2 := Lib.hid h1; have HB2 := Lib.hid h2; have HK2 := Lib.hid ((HK1.out.drew).trans h3); have HT2 := Lib.hid (HT1.out.keep (((KeepS.refl (fun i => i = p) v1).drew).trans h3) HNE.out); clear h1 h2 h3; have qh2 : v2.cell? ⟨b, 2, none⟩ = some (.slice A2 x.f2.length c2) := HT2.out.cell.2.2.1)))
 clear HN HD d0 d1 d2 d3 d4 d5 dz qh2
 obtain ⟨d0, d1, d2, d3, d4, d5, dz⟩ := HT2.out.cell
 have HD := Lib.hid (show Below v2.heap.size v2 v2.drew from (Below.refl v2.heap.size v2).drew)
 have HN := Lib.hid (many_is (H2.out.below HD.out) HB2.out.drew HP.out x.f3.length HI2.out (by have := HS.out; have := HE.out; have := HM.out; simp only [List.length_append]; omega))
 go_wp2_with fail
 go_region_held3 (fun w' => w'.cell? ⟨b, 3, none⟩ = some (.slice A3 x.f3.length c3)) (go_keep) (((refine HN.out.mono ?_; rintro e v3 ⟨rfl, h1, h2, h3⟩; have H3 := Lib.hid h1; have HB3 := Lib.hid h2; have HK3 := Lib.hid ((HK2.out.drew).trans h3); have HT3 := Lib.hid (HT2.out.keep (((KeepS.refl (fun i => i = p) v2).drew).trans h3) HNE.out); clear h1 h2 h3; have qh3 : v3.cell? ⟨b, 3, none⟩ = some (.slice A3 x.f3.length c3) := HT3.out.cell.2.2.2.1)))
 clear HN HD d0 d1 d2 d3 d4 d5 dz qh3
 obtain ⟨d0, d1, d2, d3, d4, d5, dz⟩ := HT3.out.cell
 have HD := Lib.hid (show Below v3.heap.size v3 v3.drew from (Below.refl v3.heap.size v3).drew)
 have HN := Lib.hid (nums_is (H3.out.below HD.out) HB3.out.drew HP.out _ c3 x.f3 (Kd.C_below HX.out.g3 HB3.out.drew) HO.out.2.2.1 (by have := HS.out; have := HE.out; have := HM.out; simp only [List.length_append]; omega))
 go_wp2_with fail
 go_region_held3 (fun w' => w'.cell? ⟨b, 3, none⟩ = some (.slice A3 x.f3.length c3)) (go_keep) (((refine HN.out.mono ?_; rintro e v4 ⟨rfl, h1, h2, h3⟩; have H4 := Lib.hid h1; have HB4 := Lib.hid h2; have HK4 := Lib.hid ((HK3.out.drew).trans h3); have HT4 := Lib.hid (HT3.out.keep (((KeepS.refl (fun i => i = p) v3).drew).trans h3) HNE.out); clear h1 h2 h3; have qh3 : v4.cell? ⟨b, 3, none⟩ = some (.slice A3 x.f3.length c3) := HT4.out.cell.2.2.2.1)))
 clear HN HD d0 d1 d2 d3 d4 d5 dz qh3
 obtain ⟨d0, d1, d2, d3, d4, d5, dz⟩ := HT4.out.cell
 go_wp2_with fail
 refine (penKeys_is H4.out HB4.out HP.out _ c4 x.f4 HX.out.g4 HO.out.2.2.2.1 (by have := HM.out; omega) (by have := HS.out; have := HE.out; have := HM.out; simp only [List.length_append]; omega)).mono ?_
 rintro e v5 ⟨rfl, h1, h2, h3⟩
 have H5 := Lib.hid h1; have HB5 := Lib.hid h2; have HK5 := Lib.hid (HK4.out.trans h3); have HT5 := Lib.hid (HT4.out.keep h3 HNE.out)
 clear h1 h2 h3 d0 d1 d2 d3 d4 d5 dz
 obtain ⟨d0, d1, d2, d3, d4, d5, dz⟩ := HT5.out.cell
 go_wp2_with fail
 refine (penKeys_is H5.out HB5.out HP.out _ c5 x.f5 HX.out.g5 HO.out.2.2.2.2 (by have := HM.out; omega) (by have := HS.out; have := HE.out; have := HM.out; simp only [List.length_append]; omega)).mono ?_
 rintro e v6 ⟨rfl, h1, h2, h3⟩
 have H6 := Lib.hid h1; have HB6 := Lib.hid h2; have HK6 := Lib.hid (HK5.out.trans h3); have HT6 := Lib.hid (HT5.out.keep h3 HNE.out)
 clear h1 h2 h3 d0 d1 d2 d3 d4 d5 dz
 go_wp2_with fail
 go_end0
 refine ⟨rfl, ?_, HB6.out, HK6.out⟩
 have := H6.out
 unfold txB
 simp only [List.append_assoc] at this ⊢
 exact this
end Go.Proofs.YtgiefblcckikeaaGreat.M
end

section
/- The pen writes an entry. -/
set_option maxRecDepth 100000
attribute [local irreducible] Go.wpStill
namespace Go.Proofs.YtgiefblcckikeaaGreat.M
open Go.RowKit Go.Proofs.YtgiefblcckikeaaGreatW.PrintWords Go.Proofs.YtgiefblcckikeaaGreatW.PrintLast Go.Proofs.YtgiefblcckikeaaGreatW.PrintMore Go.Proofs.YtgiefblcckikeaaGreat.G
theorem EnBox.keep {W W' : World} {b p : Nat} {k f n : Int} {A : Option Addr} {m c : Nat} (h : EnBox W b k f n A m c) (hk : KeepS (fun i => i = p) W W') (hb : b ≠ p) : EnBox W' b k f n A m c := (hk.block b h.cell.2.2.2.2 hb).trans h
theorem mayE_one {k f n : Int} {l : List TxD} (h : mayE k f n l = true) (hk : k ≠ 0) : k = 1 ∧ l.length ≤ 16 ∧ l.all mayT = true := by
 unfold mayE at h
 rw [if_neg hk] at h
 simp only [Bool.and_eq_true, beq_iff_eq] at h
 obtain ⟨h1, _, _, h4, h5⟩ := h
 unfold inB at h4
 simp only [List.all_cons, List.all_nil, Bool.and_true, Bool.and_eq_true, decide_eq_true_eq] at h4
 exact ⟨h1, by omega, h5⟩
theorem okE_parts {k f n : Int} {l : List TxD} (h : okE k f n l = true) : isI64 k ∧ okI [f, n] = true ∧ l.all okT = true := by
 unfold okE at h
 simp only [Bool.and_eq_true, decide_eq_true_eq] at h
 exact ⟨h.1, by simp [okI, h.2.1, h.2.2.1], h.2.2.2⟩
theorem entB_len {k f n : Int} {l : List TxD} (h : okE k f n l = true) (hm : mayE k f n l = true) : (entB k f n l).length ≤ 25000 := by
 obtain ⟨h1, h2, h3⟩ := okE_parts h
 unfold entB
 by_cases hk : k = 0
 ·rw [if_pos hk]
  have := (numB_len (n := 0) (by decide)).2
  omega
 ·obtain ⟨_, h5, h6⟩ := mayE_one hm hk
  rw [if_neg hk]
  have e1 := (numB_len h1).2
  have e2 := numsB2_len h2
  have e3 := (numB_len (n := (l.length : Int)) (by unfold isI64; omega)).2
  have e4 := flat_len txB 1300 l (fun x hx => txB_len (List.all_eq_true.1 h3 x hx) (List.all_eq_true.1 h6 x hx))
  simp only [List.length_append]
  omega
theorem TxAt.below {w w' : World} {p : Addr} {x : TxD} {A2 A3 A4 A5 : Option Addr} {c2 c3 c4 c5 : Nat} (h : TxAt w p x A2 c2 A3 c3 A4 c4 A5 c5) (hb : Below w.heap.size w w') : TxAt w' p x A2 c2 A3 c3 A4 c4 A5 c5 := by
 have hz : p.block < w.heap.size := World.block_lt_of_cell? _ _ h.e0
 exact ⟨(hb.cell (p := p) hz).trans h.e0, (hb.cell (p := ⟨p.block, _, none⟩) hz).trans h.e1, (hb.cell (p := ⟨p.block, _, none⟩) hz).trans h.e2, (hb.cell (p := ⟨p.block, _, none⟩) hz).trans h.e3, (hb.cell (p := ⟨p.block, _, none⟩) hz).trans h.e4, (hb.cell (p := ⟨p.block, _, none⟩) hz).trans h.e5⟩
def EnL (w0 w : World) (p : Nat) (l0 : List Int) (l : List TxD) (i : Value) (wr : World) : Prop := ∃ j : Nat, i = .int .i64 j ∧ j ≤ l.length ∧ IsPen wr w0.heap.size p (l0 ++ (l.take j).flatMap txB) ∧ Below w0.heap.size w0 wr ∧ KeepS (fun i => i = p) w wr
set_option maxHeartbeats 2000000 in
theorem penEntry_is {w0 w : World} {p : Nat} {l0 : List Int} (hI : IsPen w w0.heap.size p l0) (hB : Below w0.heap.size w0 w) (hp : w0.heap.size ≤ p) (k f n : Int) (A : Option Addr) (c : Nat) (l : List TxD) (hC : Kd.C G.k26 w0 A l.length l) (hok : okE k f n l = true) (hm : mayE k f n l = true) (hs : l0.length + 30000 < 140737488355328) :
  Calls Tryz.prog 47 #[.pointer (some ⟨p, 0, none⟩), .agg #[.int .i64 k, .int .i64 f, .int .i64 n, .slice A l.length c]] w fun e w' => PenP w0 w p (l0 ++ entB k f n l) e w' := by
 obtain ⟨o1, o2, o3⟩ := okE_parts hok
 have e1 := (numB_len o1).2
 have e2 := numsB2_len o2
 have HE := Lib.hid (And.intro e1 e2)
 have HO := Lib.hid (And.intro o1 (And.intro o2 o3))
 have HM := Lib.hid hm
 have HC := Lib.hid hC
 have HP := Lib.hid hp; have HS := Lib.hid hs
 have hlm : l.length ≤ 9223372036854775807 := hC.2.1
 have HNE := Lib.hid (show w.heap.size ≠ p by have := hI.lt; omega)
 have H0 := Lib.hid (hI.below ((Below.refl _ w).alloc (Nat.le_refl _) (.cells #[.int .i64 k, .int .i64 f, .int .i64 n, .slice A l.length c] 29)))
 have HB0 := Lib.hid (hB.alloc hB.size (.cells #[.int .i64 k, .int .i64 f, .int .i64 n, .slice A l.length c] 29))
 have HK0 := Lib.hid ((KeepS.refl (fun i => i = p) w).alloc (.cells #[.int .i64 k, .int .i64 f, .int .i64 n, .slice A l.length c] 29))
 have HT0 := Lib.hid (show EnBox (w.alloc (.cells #[.int .i64 k, .int .i64 f, .int .i64 n, .slice A l.length c] 29)) w.heap.size k f n A l.length c from heap_alloc_new w _)
 clear hI hB hp hC hok hm hs o1 o2 o3 e1 e2
 go_enter Tryz.func47, Tryz.ntmps47
 go_wp2_with fail
 obtain ⟨b, hb⟩ : ∃ b, w.heap.size = b := ⟨_, rfl⟩
 obtain ⟨v0, hv0⟩ : ∃ v0, w.alloc (.cells #[.int .i64 k, .int .i64 f, .int .i64 n, .slice A l.length c] 29) = v0 := ⟨_, rfl⟩
 rw [hv0] at H0 HB0 HK0 HT0 ⊢
 rw [hb] at HNE HT0 ⊢
 clear hb hv0
 obtain ⟨d0, d1, d2, d3, dz⟩ := HT0.out.cell
 have HD := Lib.hid (show Below v0.heap.size v0 v0.drew from (Below.refl _ _).drew)
 have HN := Lib.hid (many_is (H0.out.below HD.out) HB0.out.drew HP.out k HO.out.1 (by have := HS.out; omega))
 go_region_held3 (fun w' => w'.cell? ⟨b, 0, none⟩ = some (.int .i64 k)) (go_keep) (((refine HN.out.mono ?_; rintro e v1 ⟨rfl, h1, h2, h3⟩; have H1 := Lib.hid h1; have HB1 := Lib.hid h2; have HK1 := Lib.hid (HK0.out.drew.trans h3); have HT1 := Lib.hid (HT0.out.keep (((KeepS.refl (fun i => i = p) v0).drew).trans h3) HNE.out); clear h1 h2 h3; have qh0 : v1.cell? ⟨b, 0, none⟩ = some (.int .i64 k) := HT1.out.cell.1)))
 clear HN HD d0 d1 d2 d3 dz
 cases hk : (k == 0) with
 | true =>
  have hk0 : k = 0 := by simpa using hk
  have HF := Lib.hid (show IsPen v1 w0.heap.size p (l0 ++ entB k f n l) by unfold entB; rw [if_pos hk0, ← hk0]; exact H1.out)
  clear hk0
  go_wp2_with fail
  go_end0
  exact ⟨rfl, HF.out, HB1.out, HK1.out⟩
 | false =>
  have hk0 : k ≠ 0 := by simpa using hk
  obtain ⟨m1, m2, m3⟩ := mayE_one HM.out hk0
  have HMM := Lib.hid (And.intro m2 m3)
  have HK0 := Lib.hid hk0
  have i2 : isI64 (l.length : Int) := by unfold isI64; omega
  have HI2 := Lib.hid i2
  have e3 := (numB_len i2).2
  have HE3 := Lib.hid e3
  clear hk0 m1 m2 m3 i2 e3
  go_wp2_with fail
  obtain ⟨d0, d1, d2, d3, dz⟩ := HT1.out.cell
  have HD := Lib.hid (show Below v1.heap.size v1 (v1.alloc (.cells #[.int .i64 f, .int .i64 n] 2)).drew from ((Below.refl _ v1).alloc (Nat.le_refl _) _).drew)
  have HN := Lib.hid (nums_is (H1.out.below HD.out) ((HB1.out.alloc HB1.out.size _).drew) HP.out _ 2 [f, n] (Kd.C_drew (C_lit v1 [f, n] (by simp))) HO.out.2.1 (by have := HS.out; have := HE.out; simp only [List.length_append, List.length_cons, List.length_nil]; omega))
  go_region_held3 (fun w' => w'.cell? ⟨b, 1, none⟩ = some (.int .i64 f) ∧ w'.cell? ⟨b, 2, none⟩ = some (.int .i64 n)) (go_keep) (((refine HN.out.mono ?_; rintro e v2 ⟨rfl, h1, h2, h3⟩; have H2 := Lib.hid h1; have HB2 := Lib.hid h2; have HK2 := Lib.hid (((HK1.out.alloc (.cells #[.int .i64 f, .int .i64 n] 2)).drew).trans h3); have HT2 := Lib.hid (HT1.out.keep ((((KeepS.refl (fun i => i = p) v1).alloc (.cells #[.int .i64 f, .int .i64 n] 2)).drew).trans h3) HNE.out); clear h1 h2 h3; have qh1 : v2.cell? ⟨b, 1, none⟩ = some (.int .i64 f) := HT2.out.cell.2.1; have qh2 : v2.cell? ⟨b, 2, none⟩ = some (.int .i64 n) := HT2.out.cell.2.2.1)))
  clear HN HD d0 d1 d2 d3 dz qh1 qh2 qh0
  obtain ⟨d0, d1, d2, d3, dz⟩ := HT2.out.cell
  have HD := Lib.hid (show Below v2.heap.size v2 v2.drew from (Below.refl _ _).drew)
  have HN := Lib.hid (many_is (H2.out.below HD.out) HB2.out.drew HP.out l.length HI2.out (by have := HS.out; have := HE.out; simp only [List.length_append]; omega))
  go_wp2_with fail
  go_region_held3 (fun w' => w'.cell? ⟨b, 3, none⟩ = some (.slice A l.length c)) (go_keep) (((refine HN.out.mono ?_; rintro e v3 ⟨rfl, h1, h2, h3⟩; have H3 := Lib.hid h1; have HB3 := Lib.hid h2; have HK3 := Lib.hid (HK2.out.drew.trans h3); have HT3 := Lib.hid (HT2.out.keep (((KeepS.refl (fun i => i = p) v2).drew).trans h3) HNE.out); clear h1 h2 h3; have qh3 : v3.cell? ⟨b, 3, none⟩ = some (.slice A l.length c) := HT3.out.cell.2.2.2.1)))
  clear HN HD d0 d1 d2 d3 dz
  obtain ⟨la, hla⟩ : ∃ la, l0 ++ numB k ++ numsB [f, n] ++ numB l.length = la := ⟨_, rfl⟩
  rw [hla] at H3
  have HLA := Lib.hid hla
  have HLL := Lib.hid (show la.length ≤ l0.length + 40 by rw [← hla]; have := HE.out; have := HE3.out; simp only [List.length_append]; omega)
  clear hla
  go_wp2_with fail
  go_loopw [34] (fun i wr => EnL w0 w p la l i wr) (fun i _ => l.length - (intOf i).toNat)
  case atStart => exact ⟨0, rfl, Nat.zero_le _, by simpa using H3.out, HB3.out, HK3.out⟩
  case round =>
   obtain ⟨j, rfl, hj, hI, hB, hK⟩ := hrel
   have HI := Lib.hid hI; have HB := Lib.hid hB; have HKj := Lib.hid hK
   clear hI hB hK
   by_cases hlt : j < l.length
   ·obtain ⟨x, hx⟩ : ∃ x, l[j]? = some x := ⟨_, List.getElem?_eq_getElem hlt⟩
    obtain ⟨ad, A2, c2, A3, c3, A4, c4, A5, c5, rfl, hAt, hTC⟩ := tx_get HC.out hx
    obtain ⟨x0, x1, x2, x3, x4, x5⟩ := hAt.below HB.out
    have HTC := Lib.hid hTC
    have HX := Lib.hid (show l.take (j + 1) = l.take j ++ [x] by rw [List.take_add_one, hx]; rfl)
    have HOX := Lib.hid (And.intro (List.all_eq_true.1 HO.out.2.2 x (List.mem_of_getElem? hx)) (List.all_eq_true.1 HMM.out.2 x (List.mem_of_getElem? hx)))
    have HLJ := Lib.hid (show (la ++ (l.take j).flatMap txB).length + 2000 < 140737488355328 by
     have h1 := flat_len txB 1300 (l.take j) (fun y hy => txB_len (List.all_eq_true.1 HO.out.2.2 y (List.mem_of_mem_take hy)) (List.all_eq_true.1 HMM.out.2 y (List.mem_of_mem_take hy)))
     have h2 := HMM.out.1; have h3 := HLL.out; have h4 := HS.out
     rw [List.length_take] at h1
     rw [List.length_append]
     omega)
    have HI5 := Lib.hid (HI.out.below ((Below.refl _ wr).alloc (Nat.le_refl _) (.cells #[.int .i64 x.f0, .int .i64 x.f1, .slice A2 x.f2.length c2, .slice A3 x.f3.length c3, .slice A4 x.f4.length c4, .slice A5 x.f5.length c5] 26)))
    have HB5 := Lib.hid (HB.out.alloc HB.out.size (.cells #[.int .i64 x.f0, .int .i64 x.f1, .slice A2 x.f2.length c2, .slice A3 x.f3.length c3, .slice A4 x.f4.length c4, .slice A5 x.f5.length c5] 26))
    have HK5 := Lib.hid (HKj.out.alloc (.cells #[.int .i64 x.f0, .int .i64 x.f1, .slice A2 x.f2.length c2, .slice A3 x.f3.length c3, .slice A4 x.f4.length c4, .slice A5 x.f5.length c5] 26))
    clear hx hAt hTC
    go_wp2_with fail
    refine (penTxn_is HI5.out HB5.out HP.out x HTC.out HOX.out.1 HOX.out.2 HLJ.out).mono ?_
    rintro e w6 ⟨rfl, h1, h2, h3⟩
    have H6 := Lib.hid h1; have HB6 := Lib.hid h2; have HK6 := Lib.hid (HK5.out.trans h3)
    clear h1 h2 h3 x0 x1 x2 x3 x4 x5
    go_wp2_with fail
    go_roundw
    case rel =>
     refine ⟨j + 1, by go_num, hlt, ?_, HB6.out, HK6.out⟩
     have h1 := H6.out
     rw [HX.out, List.flatMap_append, List.flatMap_cons, List.flatMap_nil, List.append_nil, ← List.append_assoc]
     exact h1
    case measure => simp [intOf]; omega
   ·have hjn : j = l.length := by omega
    have HF := Lib.hid (show IsPen wr w0.heap.size p (l0 ++ entB k f n l) by
     have := HI.out
     rw [hjn, List.take_length, ← HLA.out] at this
     unfold entB
     rw [if_neg HK0.out]
     simp only [List.append_assoc] at this ⊢
     exact this)
    clear hjn
    go_wp2_with fail
    go_end0
    exact ⟨rfl, HF.out, HB.out, HKj.out⟩
end Go.Proofs.YtgiefblcckikeaaGreat.M
end

section
/- record.Entry. -/
set_option maxRecDepth 100000
namespace Go.Proofs.YtgiefblcckikeaaGreat.M
open Go.RowKit Go.Proofs.YtgiefblcckikeaaGreatW.PrintWords Go.Proofs.YtgiefblcckikeaaGreatW.PrintLast Go.Proofs.YtgiefblcckikeaaGreatW.PrintMore Go.Proofs.YtgiefblcckikeaaGreat.G
def BytesP (w : World) (l : List Int) (x : Int) (e : Ending) (w' : World) : Prop := ∃ v0_ : Value, e = .returned (.tuple #[v0_, .int .i64 x]) ∧ Kd.R (Kd.int .u8) 5 w' w.heap.size (fun _ => True) v0_ l ∧ Below w.heap.size w w'
theorem fits_is {w0 w : World} {ok : Nat → Prop} {v : Value} {l : List Int} (hB : Below w0.heap.size w0 w) (hv : Kd.R (Kd.int .u8) 5 w w0.heap.size ok v l) :
  Calls Tryz.prog 48 #[v] w fun e w' => BytesP w0 (if 1048576 < l.length then [] else l) (if 1048576 < l.length then 3 else 0) e w' := by
 refine (G.record_fits.calls ok v l (if 1048576 < l.length then [] else l) (if 1048576 < l.length then 3 else 0) w0 w hB hv ?_).mono ?_
 ·unfold G.record_fits.f
  by_cases h : 1048576 < l.length
  ·rw [if_pos (by omega), if_pos h, if_pos h]
  ·rw [if_neg (by omega), if_neg h, if_neg h]
 ·rintro e w' ⟨v0, rfl, h1, h2, _⟩
  exact ⟨v0, rfl, Kd.R_mono h1 (fun _ _ => trivial), h2⟩
def entF (k f n : Int) (l : List TxD) : List Int × Int := if mayE k f n l = true then (if 1048576 < (entB k f n l).length then ([], 3) else (entB k f n l, 0)) else ([], 40)
set_option maxHeartbeats 1000000 in
theorem entry_is (k f n : Int) (A : Option Addr) (c : Nat) (l : List TxD) (w : World) (hr : Kd.C G.k26 w A l.length l) (ho : okE k f n l = true) :
  Calls Tryz.prog 18 #[.agg #[.int .i64 k, .int .i64 f, .int .i64 n, .slice A l.length c]] w fun e w' => BytesP w (entF k f n l).1 (entF k f n l).2 e w' := by
 have HO := Lib.hid ho
 have HB1 := Lib.hid (show Below w.heap.size w (w.alloc (.cells #[.int .i64 k, .int .i64 f, .int .i64 n, .slice A l.length c] 29)) from (Below.refl _ _).alloc (Nat.le_refl _) _)
 have HX1 := Lib.hid (show EnBox (w.alloc (.cells #[.int .i64 k, .int .i64 f, .int .i64 n, .slice A l.length c] 29)) w.heap.size k f n A l.length c from heap_alloc_new w _)
 have HR1 := Lib.hid (Kd.C_below hr HB1.out)
 have HR := Lib.hid hr
 clear hr ho
 go_enter Tryz.func18, Tryz.ntmps18
 go_wp2_with fail
 refine (mayEn_is k f n A c l _ HR1.out).mono ?_
 rintro e w2 ⟨rfl, hb⟩
 have HB2 := Lib.hid (below_then HB1.out hb); have HX2 := Lib.hid (HX1.out.below hb)
 clear hb
 cases hm : mayE k f n l with
 | false =>
  have HF := Lib.hid (show entF k f n l = ([], 40) by unfold entF; rw [if_neg (by rw [hm]; simp)])
  clear hm
  go_wp2_with fail
  go_ret2
  refine ⟨.slice none 0 0, by rw [HF.out]; rfl, by rw [HF.out]; exact Kd.R_nil _ _ _ _ _, HB2.out⟩
 | true =>
  have HM := Lib.hid hm
  have HF := Lib.hid (show entF k f n l = (if 1048576 < (entB k f n l).length then [] else entB k f n l, if 1048576 < (entB k f n l).length then 3 else 0) by
   unfold entF
   rw [if_pos hm]
   split <;> rfl)
  clear hm
  go_wp2_with fail
  refine (newPen_is none 0 [] w2 (Kd.C_nil _ _) (by simp) (by simp)).mono ?_
  rintro e w3 ⟨p, rfl, hI, hb⟩
  have HB3 := Lib.hid (below_then HB2.out hb); have HX3 := Lib.hid (HX2.out.below hb)
  have HI3 := Lib.hid (show IsPen w3 w.heap.size p [] by
   obtain ⟨A', c', h1, h2, h3, h4⟩ := hI
   have hz := HB2.out.size
   exact ⟨A', c', h1, by omega, h3, Kd.R_lower h4 hz⟩)
  obtain ⟨d0, d1, d2, d3, dz⟩ := HX3.out.cell
  clear hI hb
  go_wp2_with fail
  refine (penEntry_is HI3.out HB3.out HI3.out.ge k f n A c l HR.out HO.out HM.out (by simp)).mono ?_
  rintro e w4 ⟨rfl, h1, h2, h3⟩
  have HB4 := Lib.hid h2
  obtain ⟨A', c', hh, _, hc', hR⟩ := h1
  have HRR := Lib.hid hR
  rw [List.nil_append] at hh HRR
  obtain ⟨bs, hbs⟩ : ∃ bs, entB k f n l = bs := ⟨_, rfl⟩
  rw [hbs] at hh HRR HF
  have p0 : w4.cell? ⟨p, 0, none⟩ = some (.slice A' bs.length c') := by simp [World.cell?, hh]
  clear h2 h3 hh hc' hR hbs d0 d1 d2 d3 dz
  go_wp2_with fail
  refine (fits_is HB4.out HRR.out).mono ?_
  rintro e w5 ⟨v, rfl, hv, hb⟩
  have HV := Lib.hid hv; have HB5 := Lib.hid hb
  clear hv hb
  obtain ⟨q, hq⟩ : ∃ q : Int, (if 1048576 < bs.length then 3 else 0) = q := ⟨_, rfl⟩
  rw [hq] at HF ⊢
  clear hq
  go_wp2_with fail
  go_ret2
  exact ⟨v, by rw [HF.out]; rfl, by rw [HF.out]; exact HV.out, HB5.out⟩
end Go.Proofs.YtgiefblcckikeaaGreat.M
namespace Go.Proofs.YtgiefblcckikeaaGreat.G
open Go.RowKit Go.Proofs.YtgiefblcckikeaaGreatW.PrintWords Go.Proofs.YtgiefblcckikeaaGreat.M
def record_Entry.f (a0_0 a0_1 a0_2 : Int) (l0_3 : List S26) : Option (List Int × Int) := if okE a0_0 a0_1 a0_2 l0_3 = true then some (entF a0_0 a0_1 a0_2 l0_3) else none
theorem record_Entry.calls (a0_0 a0_1 a0_2 : Int) (A0_3 : Option Addr) (c0_3 : Nat) (l0_3 : List S26) (r1 : List Int) (r2 : Int) (w : World) (hr0_3 : Kd.C k26 w A0_3 l0_3.length l0_3) (hc0_3 : l0_3.length ≤ c0_3) (h : record_Entry.f a0_0 a0_1 a0_2 l0_3 = some (r1, r2)) :
  Calls Tryz.prog 18 #[.agg #[.int .i64 a0_0, .int .i64 a0_1, .int .i64 a0_2, .slice A0_3 l0_3.length c0_3]] w fun e w' => ∃ v0_ : Value, e = .returned (.tuple #[v0_, .int .i64 r2]) ∧ Kd.R (Kd.int .u8) 5 w' w.heap.size (fun _ => True) v0_ r1 ∧ Below w.heap.size w w' := by
 unfold record_Entry.f at h
 split at h
 ·rename_i ho
  have h := Option.some.inj h
  have := entry_is a0_0 a0_1 a0_2 A0_3 c0_3 l0_3 w hr0_3 ho
  rw [h] at this
  exact this
 ·cases h
end Go.Proofs.YtgiefblcckikeaaGreat.G
end

section
/- Entries' and transactions' bytes in plain Lean: from the front of them they are known. -/
set_option maxRecDepth 100000
namespace Go.Proofs.YtgiefblcckikeaaGreat.M
open Go.RowKit Go.Proofs.YtgiefblcckikeaaGreatW.PrintWords Go.Proofs.YtgiefblcckikeaaGreat.G
theorem mayT_len {t : TxD} (h : mayT t = true) : t.f2.length ≤ 512 ∧ t.f3.length ≤ 8 ∧ t.f4.length ≤ 16 ∧ t.f5.length ≤ 16 := by
 unfold mayT mayK at h
 simp only [Bool.and_eq_true, decide_eq_true_eq] at h
 omega
theorem okT_all {t : TxD} (h : okT t = true) : isI64 t.f0 ∧ isI64 t.f1 ∧ okB t.f2 = true ∧ (∀ x ∈ t.f3, isI64 x) ∧ (∀ x ∈ t.f4, okK x = true) ∧ (∀ x ∈ t.f5, okK x = true) := by
 unfold okT at h
 simp only [Bool.and_eq_true, decide_eq_true_eq] at h
 obtain ⟨h0, h1, h2, h3, h4, h5⟩ := h
 refine ⟨h0, h1, h2, fun x hx => ?_, List.all_eq_true.1 h4, List.all_eq_true.1 h5⟩
 unfold okI at h3
 have := List.all_eq_true.1 h3 x hx
 simpa using this
theorem bound_T (l : List TxD) : ∃ M, ∀ t ∈ l, mT t ≤ M := by
 induction l with
 | nil => exact ⟨0, fun t h => by cases h⟩
 | cons a l ih =>
  obtain ⟨M, hM⟩ := ih
  refine ⟨mT a + M, fun t h => ?_⟩
  rcases List.mem_cons.1 h with rfl | h
  ·omega
  ·have := hM t h; omega
theorem nat_i64 (n : Nat) (h : n ≤ 9223372036854775807) : isI64 (n : Int) := by unfold isI64; omega
end Go.Proofs.YtgiefblcckikeaaGreat.M
end

section
-- Written by a program of this session's (wip/gprint.py over the kit's printer).
namespace Go.Proofs.YtgiefblcckikeaaGreat.G
open Go.RowKit Go.Proofs.YtgiefblcckikeaaGreatW.PrintWords Go.Proofs.YtgiefblcckikeaaGreatW.PrintLast Go.Proofs.YtgiefblcckikeaaGreatW.PrintMore
attribute [local go_sem] max2_int min2_int max_two min_two max_three min_three max_four min_four   -- for this text's walks alone
def trivetref04_MayPart.f (a0_0 : Int) (a0_1 : Int) (a0_2 : Int) (l0_3 : List Int) : Option (Bool) := (trivetref04_count.f a0_0).bind fun t259 => (if t259 = true then (if a0_2 ≥ 1 then (if a0_2 ≤ 4096 then (if a0_1 ≥ 0 then (if a0_1 < a0_2 then (some (decide ((l0_3.length : Int) ≤ 16384))) else (some false)) else (some false)) else (some false)) else (some false)) else (some false))
set_option maxHeartbeats 8000000 in
set_option maxRecDepth 100000 in
theorem trivetref04_MayPart.calls (a0_0 : Int) (a0_1 : Int) (a0_2 : Int) (A0_3 : Option Addr) (c0_3 : Nat) (l0_3 : List Int) (r : Bool) (w : World) (hr0_3 : Kd.C (Kd.int .u8) w A0_3 l0_3.length l0_3) (hc0_3 : l0_3.length ≤ c0_3) (h : trivetref04_MayPart.f a0_0 a0_1 a0_2 l0_3 = some r) :
  Calls Tryz.prog 70 #[.agg #[.int .i64 a0_0, .int .i64 a0_1, .int .i64 a0_2, .slice A0_3 l0_3.length c0_3]] w fun e w' => e = .returned (.bool r) ∧ Below w.heap.size w w' := by
 have hu32 := Tryz.underlying32
 have HR0_3 := Aside0.mk hr0_3
 have HC0_3 := Aside0.mk hc0_3
 clear hr0_3 hc0_3
 have HB := Aside0.mk (Below.refl w.heap.size w)
 have H : ((trivetref04_count.f a0_0).bind fun t259 => (if t259 = true then (if a0_2 ≥ 1 then (if a0_2 ≤ 4096 then (if a0_1 ≥ 0 then (if a0_1 < a0_2 then (some (decide ((l0_3.length : Int) ≤ 16384))) else (some false)) else (some false)) else (some false)) else (some false)) else (some false))) = some r := h
 clear h
 replace H := Option.bind_eq_some_iff.mp H
 obtain ⟨t259, A20, H⟩ := H
 replace H : (if t259 = true then (if a0_2 ≥ 1 then (if a0_2 ≤ 4096 then (if a0_1 ≥ 0 then (if a0_1 < a0_2 then (some (decide ((l0_3.length : Int) ≤ 16384))) else (some false)) else (some false)) else (some false)) else (some false)) else (some false)) = some r := H
 have A2 := Aside0.mk A20
 clear A20
 by_cases c3 : t259 = true
 ·subst c3
  have H1 : (if a0_2 ≥ 1 then (if a0_2 ≤ 4096 then (if a0_1 ≥ 0 then (if a0_1 < a0_2 then (some (decide ((l0_3.length : Int) ≤ 16384))) else (some false)) else (some false)) else (some false)) else (some false)) = some r := by rw [if_pos rfl] at H; exact H
  clear H
  have H := H1
  clear H1
  by_cases c4 : a0_2 ≥ 1
  ·rw [if_pos c4] at H
   have c4b0 : decide (1 ≤ a0_2) = true := decide_eq_true c4
   clear c4
   by_cases c5 : a0_2 ≤ 4096
   ·rw [if_pos c5] at H
    have c5b0 : decide (a0_2 ≤ 4096) = true := decide_eq_true c5
    clear c5
    by_cases c6 : a0_1 ≥ 0
    ·rw [if_pos c6] at H
     have c6b0 : decide (0 ≤ a0_1) = true := decide_eq_true c6
     clear c6
     by_cases c7 : a0_1 < a0_2
     ·rw [if_pos c7] at H
      have c7b0 : decide (a0_1 < a0_2) = true := decide_eq_true c7
      clear c7
      obtain rfl := Option.some.inj H
      go_enter Tryz.func70, Tryz.ntmps70
      go_wp2_with (first | ((with_reducible refine gate_dst (N := 1) rfl ?_); (try (refine gate_guard (by rfl) ?_; dsimp only)); refine box_event ?hg (N := 1) ?hd (cs := #[.int .i64 a0_0, .int .i64 a0_1, .int .i64 a0_2, .slice A0_3 l0_3.length c0_3]) (t := 32) ?hr ?_; (case hd => rfl); (case hg => rfl); (case hr => first | (go_simp; done) | (go_simp; rfl)); intro gb258 hg w8 hbox hb; have n0_ := Aside0.mk (below_step (stB HB.out) hb); have n1_ := Aside0.mk (hbox); have n2_ := Aside0.mk ((by rw [hg]; exact (below_size (stB HB.out)) : w.heap.size ≤ gb258)); have n3_ := Aside0.mk ((by rw [hg]; exact (below_size (stB HB.out)) : w.heap.size ≤ gb258)); clear HB; have HB := n0_; have BK258 := n1_; have GW258 := n2_; have GE258 := n3_; clear n0_ n1_ n2_ n3_; clear hb hbox hg; obtain ⟨hcz9_0, hcz9_1, hcz9_2, hcz9_3⟩ := bc4 BK258.out; obtain ⟨hfz9_0, hfz9_1, hfz9_2, hfz9_3⟩ := bf4 BK258.out) | ((with_reducible refine gate_callee (f := 67) rfl ?_); refine goesL_ (some 5) rfl rfl Tryz.func67 (by kernel_rfl) rfl #[.int .i64 a0_0] rfl (by (try simp only [List.map_toArray, List.map_cons, List.map_nil]); first | done | rfl | (simp only [List.length_drop, List.length_take]; rfl)) ?_; (with_reducible refine (trivetref04_count.calls a0_0 true _ A2.out).mono ?_); rintro e w' ⟨rfl, ⟨nd, rfl⟩⟩; refine ⟨_, rfl, ?_⟩))
      go_ret
      exact ⟨by first | rfl | (simp [errW_none, errW_some] <;> rfl) | (simp [*, errW_none, errW_some] <;> rfl), by repeat (first | (with_reducible first | exact HB.out | apply below_alloc | apply pw_below_drewN | apply below_drew1 | refine below_set ?_ GE258.out) | exact HB.out)⟩
     ·rw [if_neg c7] at H
      have c7b0 : decide (a0_1 < a0_2) = false := decide_eq_false c7
      clear c7
      obtain rfl := Option.some.inj H
      go_enter Tryz.func70, Tryz.ntmps70
      go_wp2_with (first | ((with_reducible refine gate_dst (N := 1) rfl ?_); (try (refine gate_guard (by rfl) ?_; dsimp only)); refine box_event ?hg (N := 1) ?hd (cs := #[.int .i64 a0_0, .int .i64 a0_1, .int .i64 a0_2, .slice A0_3 l0_3.length c0_3]) (t := 32) ?hr ?_; (case hd => rfl); (case hg => rfl); (case hr => first | (go_simp; done) | (go_simp; rfl)); intro gb258 hg w10 hbox hb; have n0_ := Aside0.mk (below_step (stB HB.out) hb); have n1_ := Aside0.mk (hbox); have n2_ := Aside0.mk ((by rw [hg]; exact (below_size (stB HB.out)) : w.heap.size ≤ gb258)); have n3_ := Aside0.mk ((by rw [hg]; exact (below_size (stB HB.out)) : w.heap.size ≤ gb258)); clear HB; have HB := n0_; have BK258 := n1_; have GW258 := n2_; have GE258 := n3_; clear n0_ n1_ n2_ n3_; clear hb hbox hg; obtain ⟨hcz11_0, hcz11_1, hcz11_2, hcz11_3⟩ := bc4 BK258.out; obtain ⟨hfz11_0, hfz11_1, hfz11_2, hfz11_3⟩ := bf4 BK258.out) | ((with_reducible refine gate_callee (f := 67) rfl ?_); refine goesL_ (some 5) rfl rfl Tryz.func67 (by kernel_rfl) rfl #[.int .i64 a0_0] rfl (by (try simp only [List.map_toArray, List.map_cons, List.map_nil]); first | done | rfl | (simp only [List.length_drop, List.length_take]; rfl)) ?_; (with_reducible refine (trivetref04_count.calls a0_0 true _ A2.out).mono ?_); rintro e w' ⟨rfl, ⟨nd, rfl⟩⟩; refine ⟨_, rfl, ?_⟩))
      go_ret
      exact ⟨by first | rfl | (simp [errW_none, errW_some] <;> rfl) | (simp [*, errW_none, errW_some] <;> rfl), by repeat (first | (with_reducible first | exact HB.out | apply below_alloc | apply pw_below_drewN | apply below_drew1 | refine below_set ?_ GE258.out) | exact HB.out)⟩
    ·rw [if_neg c6] at H
     have c6b0 : decide (0 ≤ a0_1) = false := decide_eq_false c6
     clear c6
     obtain rfl := Option.some.inj H
     go_enter Tryz.func70, Tryz.ntmps70
     go_wp2_with (first | ((with_reducible refine gate_dst (N := 1) rfl ?_); (try (refine gate_guard (by rfl) ?_; dsimp only)); refine box_event ?hg (N := 1) ?hd (cs := #[.int .i64 a0_0, .int .i64 a0_1, .int .i64 a0_2, .slice A0_3 l0_3.length c0_3]) (t := 32) ?hr ?_; (case hd => rfl); (case hg => rfl); (case hr => first | (go_simp; done) | (go_simp; rfl)); intro gb258 hg w12 hbox hb; have n0_ := Aside0.mk (below_step (stB HB.out) hb); have n1_ := Aside0.mk (hbox); have n2_ := Aside0.mk ((by rw [hg]; exact (below_size (stB HB.out)) : w.heap.size ≤ gb258)); have n3_ := Aside0.mk ((by rw [hg]; exact (below_size (stB HB.out)) : w.heap.size ≤ gb258)); clear HB; have HB := n0_; have BK258 := n1_; have GW258 := n2_; have GE258 := n3_; clear n0_ n1_ n2_ n3_; clear hb hbox hg; obtain ⟨hcz13_0, hcz13_1, hcz13_2, hcz13_3⟩ := bc4 BK258.out; obtain ⟨hfz13_0, hfz13_1, hfz13_2, hfz13_3⟩ := bf4 BK258.out) | ((with_reducible refine gate_callee (f := 67) rfl ?_); refine goesL_ (some 5) rfl rfl Tryz.func67 (by kernel_rfl) rfl #[.int .i64 a0_0] rfl (by (try simp only [List.map_toArray, List.map_cons, List.map_nil]); first | done | rfl | (simp only [List.length_drop, List.length_take]; rfl)) ?_; (with_reducible refine (trivetref04_count.calls a0_0 true _ A2.out).mono ?_); rintro e w' ⟨rfl, ⟨nd, rfl⟩⟩; refine ⟨_, rfl, ?_⟩))
     go_ret
     exact ⟨by first | rfl | (simp [errW_none, errW_some] <;> rfl) | (simp [*, errW_none, errW_some] <;> rfl), by repeat (first | (with_reducible first | exact HB.out | apply below_alloc | apply pw_below_drewN | apply below_drew1 | refine below_set ?_ GE258.out) | exact HB.out)⟩
   ·rw [if_neg c5] at H
    have c5b0 : decide (a0_2 ≤ 4096) = false := decide_eq_false c5
    clear c5
    obtain rfl := Option.some.inj H
    go_enter Tryz.func70, Tryz.ntmps70
    go_wp2_with (first | ((with_reducible refine gate_dst (N := 1) rfl ?_); (try (refine gate_guard (by rfl) ?_; dsimp only)); refine box_event ?hg (N := 1) ?hd (cs := #[.int .i64 a0_0, .int .i64 a0_1, .int .i64 a0_2, .slice A0_3 l0_3.length c0_3]) (t := 32) ?hr ?_; (case hd => rfl); (case hg => rfl); (case hr => first | (go_simp; done) | (go_simp; rfl)); intro gb258 hg w14 hbox hb; have n0_ := Aside0.mk (below_step (stB HB.out) hb); have n1_ := Aside0.mk (hbox); have n2_ := Aside0.mk ((by rw [hg]; exact (below_size (stB HB.out)) : w.heap.size ≤ gb258)); have n3_ := Aside0.mk ((by rw [hg]; exact (below_size (stB HB.out)) : w.heap.size ≤ gb258)); clear HB; have HB := n0_; have BK258 := n1_; have GW258 := n2_; have GE258 := n3_; clear n0_ n1_ n2_ n3_; clear hb hbox hg; obtain ⟨hcz15_0, hcz15_1, hcz15_2, hcz15_3⟩ := bc4 BK258.out; obtain ⟨hfz15_0, hfz15_1, hfz15_2, hfz15_3⟩ := bf4 BK258.out) | ((with_reducible refine gate_callee (f := 67) rfl ?_); refine goesL_ (some 5) rfl rfl Tryz.func67 (by kernel_rfl) rfl #[.int .i64 a0_0] rfl (by (try simp only [List.map_toArray, List.map_cons, List.map_nil]); first | done | rfl | (simp only [List.length_drop, List.length_take]; rfl)) ?_; (with_reducible refine (trivetref04_count.calls a0_0 true _ A2.out).mono ?_); rintro e w' ⟨rfl, ⟨nd, rfl⟩⟩; refine ⟨_, rfl, ?_⟩))
    go_ret
    exact ⟨by first | rfl | (simp [errW_none, errW_some] <;> rfl) | (simp [*, errW_none, errW_some] <;> rfl), by repeat (first | (with_reducible first | exact HB.out | apply below_alloc | apply pw_below_drewN | apply below_drew1 | refine below_set ?_ GE258.out) | exact HB.out)⟩
  ·rw [if_neg c4] at H
   have c4b0 : decide (1 ≤ a0_2) = false := decide_eq_false c4
   clear c4
   obtain rfl := Option.some.inj H
   go_enter Tryz.func70, Tryz.ntmps70
   go_wp2_with (first | ((with_reducible refine gate_dst (N := 1) rfl ?_); (try (refine gate_guard (by rfl) ?_; dsimp only)); refine box_event ?hg (N := 1) ?hd (cs := #[.int .i64 a0_0, .int .i64 a0_1, .int .i64 a0_2, .slice A0_3 l0_3.length c0_3]) (t := 32) ?hr ?_; (case hd => rfl); (case hg => rfl); (case hr => first | (go_simp; done) | (go_simp; rfl)); intro gb258 hg w16 hbox hb; have n0_ := Aside0.mk (below_step (stB HB.out) hb); have n1_ := Aside0.mk (hbox); have n2_ := Aside0.mk ((by rw [hg]; exact (below_size (stB HB.out)) : w.heap.size ≤ gb258)); have n3_ := Aside0.mk ((by rw [hg]; exact (below_size (stB HB.out)) : w.heap.size ≤ gb258)); clear HB; have HB := n0_; have BK258 := n1_; have GW258 := n2_; have GE258 := n3_; clear n0_ n1_ n2_ n3_; clear hb hbox hg; obtain ⟨hcz17_0, hcz17_1, hcz17_2, hcz17_3⟩ := bc4 BK258.out; obtain ⟨hfz17_0, hfz17_1, hfz17_2, hfz17_3⟩ := bf4 BK258.out) | ((with_reducible refine gate_callee (f := 67) rfl ?_); refine goesL_ (some 5) rfl rfl Tryz.func67 (by kernel_rfl) rfl #[.int .i64 a0_0] rfl (by (try simp only [List.map_toArray, List.map_cons, List.map_nil]); first | done | rfl | (simp only [List.length_drop, List.length_take]; rfl)) ?_; (with_reducible refine (trivetref04_count.calls a0_0 true _ A2.out).mono ?_); rintro e w' ⟨rfl, ⟨nd, rfl⟩⟩; refine ⟨_, rfl, ?_⟩))
   go_ret
   exact ⟨by first | rfl | (simp [errW_none, errW_some] <;> rfl) | (simp [*, errW_none, errW_some] <;> rfl), by repeat (first | (with_reducible first | exact HB.out | apply below_alloc | apply pw_below_drewN | apply below_drew1 | refine below_set ?_ GE258.out) | exact HB.out)⟩
 ·replace c3 := Bool.eq_false_iff.mpr c3
  subst c3
  have H1 : (some false) = some r := by rw [if_neg (show ¬ (false = true) by decide)] at H; exact H
  clear H
  have H := H1
  clear H1
  obtain rfl := Option.some.inj H
  go_enter Tryz.func70, Tryz.ntmps70
  go_wp2_with (first | ((with_reducible refine gate_dst (N := 1) rfl ?_); (try (refine gate_guard (by rfl) ?_; dsimp only)); refine box_event ?hg (N := 1) ?hd (cs := #[.int .i64 a0_0, .int .i64 a0_1, .int .i64 a0_2, .slice A0_3 l0_3.length c0_3]) (t := 32) ?hr ?_; (case hd => rfl); (case hg => rfl); (case hr => first | (go_simp; done) | (go_simp; rfl)); intro gb258 hg w18 hbox hb; have n0_ := Aside0.mk (below_step (stB HB.out) hb); have n1_ := Aside0.mk (hbox); have n2_ := Aside0.mk ((by rw [hg]; exact (below_size (stB HB.out)) : w.heap.size ≤ gb258)); have n3_ := Aside0.mk ((by rw [hg]; exact (below_size (stB HB.out)) : w.heap.size ≤ gb258)); clear HB; have HB := n0_; have BK258 := n1_; have GW258 := n2_; have GE258 := n3_; clear n0_ n1_ n2_ n3_; clear hb hbox hg; obtain ⟨hcz19_0, hcz19_1, hcz19_2, hcz19_3⟩ := bc4 BK258.out; obtain ⟨hfz19_0, hfz19_1, hfz19_2, hfz19_3⟩ := bf4 BK258.out) | ((with_reducible refine gate_callee (f := 67) rfl ?_); refine goesL_ (some 5) rfl rfl Tryz.func67 (by kernel_rfl) rfl #[.int .i64 a0_0] rfl (by (try simp only [List.map_toArray, List.map_cons, List.map_nil]); first | done | rfl | (simp only [List.length_drop, List.length_take]; rfl)) ?_; (with_reducible refine (trivetref04_count.calls a0_0 false _ A2.out).mono ?_); rintro e w' ⟨rfl, ⟨nd, rfl⟩⟩; refine ⟨_, rfl, ?_⟩))
  go_ret
  exact ⟨by first | rfl | (simp [errW_none, errW_some] <;> rfl) | (simp [*, errW_none, errW_some] <;> rfl), by repeat (first | (with_reducible first | exact HB.out | apply below_alloc | apply pw_below_drewN | apply below_drew1 | refine below_set ?_ GE258.out) | exact HB.out)⟩
mutual
def trivetref01_Num.j0 : Nat → Int → Int → Option (List Int)
 | 0, _, _ => none
 | k + 1, x3, x4 => trivetref01_Num.l0 k x3 x4 ([] : List Int)
def trivetref01_Num.l0 : Nat → Int → Int → List Int → Option (List Int)
 | 0, _, _, _ => none
 | k + 1, x3, x4, x5 => if x3 > 0 then (if x5.length < 140737488355328 then (trivetref01_Num.l0 k (IntKind.u64.wrap (Int.tdiv x3 256)) x4 (x5 ++ [(Int.tmod x3 256) % 256])) else (none)) else ((some (([(((wrap64 (2 * (x5.length : Int))) % 256) + x4) % 256] : List Int) : List Int)).bind fun y309 => (if y309.length + x5.length < 140737488355328 then (some (y309 ++ x5)) else (none)))
end
def trivetref01_Num.f (k : Nat) (a0 : Int) : Option (List Int) := if a0 < 0 then (trivetref01_Num.j0 k (IntKind.u64.wrap ((IntKind.u64.wrap (wrap64 (-(wrap64 (a0 + 1))))) + 1)) 1) else (trivetref01_Num.j0 k (IntKind.u64.wrap (a0)) 0)
theorem trivetref01_Num.mono_l : ∀ k, (∀ y0 y1, LeO (trivetref01_Num.j0 k y0 y1) (trivetref01_Num.j0 (k + 1) y0 y1)) ∧ (∀ y0 y1 y2, LeO (trivetref01_Num.l0 k y0 y1 y2) (trivetref01_Num.l0 (k + 1) y0 y1 y2))
 | 0 => ⟨fun _ _ r h => by simp [trivetref01_Num.j0] at h, fun _ _ _ r h => by simp [trivetref01_Num.l0] at h⟩
 | k + 1 => by
  obtain ⟨ih0, ih1⟩ := trivetref01_Num.mono_l k
  refine ⟨?_, ?_⟩
  ·intro y0 y1
   unfold trivetref01_Num.j0
   repeat' first
   | (with_reducible exact ih0 _ _)
   | (with_reducible exact ih1 _ _ _)
   | (with_reducible exact LeO.refl _)
   | (with_reducible exact LeO.none _)
   | (with_reducible refine LeO.ite ?_ ?_)
   | (with_reducible refine LeO.bind ?_ (fun _ => ?_))
   | exact ih0 _ _
   | exact ih1 _ _ _
   | exact LeO.none _
   | refine LeO.ite ?_ ?_
   | refine LeO.bind ?_ (fun _ => ?_)
  ·intro y0 y1 y2
   unfold trivetref01_Num.l0
   repeat' first
   | (with_reducible exact ih0 _ _)
   | (with_reducible exact ih1 _ _ _)
   | (with_reducible exact LeO.refl _)
   | (with_reducible exact LeO.none _)
   | (with_reducible refine LeO.ite ?_ ?_)
   | (with_reducible refine LeO.bind ?_ (fun _ => ?_))
   | exact ih0 _ _
   | exact ih1 _ _ _
   | exact LeO.none _
   | refine LeO.ite ?_ ?_
   | refine LeO.bind ?_ (fun _ => ?_)
theorem trivetref01_Num.mono : ∀ a0 k, LeO (trivetref01_Num.f k a0) (trivetref01_Num.f (k + 1) a0) := by
 intro a0 k
 obtain ⟨ih0, ih1⟩ := trivetref01_Num.mono_l k
 unfold trivetref01_Num.f
 repeat' first
   | (with_reducible exact ih0 _ _)
   | (with_reducible exact ih1 _ _ _)
   | (with_reducible exact LeO.refl _)
   | (with_reducible exact LeO.none _)
   | (with_reducible refine LeO.ite ?_ ?_)
   | (with_reducible refine LeO.bind ?_ (fun _ => ?_))
   | exact ih0 _ _
   | exact ih1 _ _ _
   | exact LeO.none _
   | refine LeO.ite ?_ ?_
   | refine LeO.bind ?_ (fun _ => ?_)
set_option maxHeartbeats 8000000 in
set_option maxRecDepth 100000 in
theorem trivetref01_Num.calls (k : Nat) (a0 : Int) (r : List Int) (w : World) (h : trivetref01_Num.f k a0 = some r) :
  Calls Tryz.prog 167 #[.int .i64 a0] w fun e w' => ∃ v0_ : Value, e = .returned (v0_) ∧ Kd.R (Kd.int .u8) 5 w' w.heap.size (fun _ => True) v0_ r ∧ Below w.heap.size w w' := by
 have HB := Aside0.mk (Below.refl w.heap.size w)
 have H : (if a0 < 0 then (trivetref01_Num.j0 k (IntKind.u64.wrap ((IntKind.u64.wrap (wrap64 (-(wrap64 (a0 + 1))))) + 1)) 1) else (trivetref01_Num.j0 k (IntKind.u64.wrap (a0)) 0)) = some r := h
 clear h
 have HC2 := Aside0.mk H
 clear H
 go_enter Tryz.func167, Tryz.ntmps167
 go_upto_if 10 with (fail)
 go_cut [3, 4] (fun v3 v4 wc => ∃ (kq : Nat) (x3_1 : Int) (x4_1 : Int), v3 = .int .u64 x3_1 ∧ v4 = .int .u8 x4_1 ∧ Aside0 (trivetref01_Num.j0 kq x3_1 x4_1 = some r) ∧ Aside0 (kq ≤ k) ∧ Aside0 (Below w.heap.size w wc))
 case first =>
  have H := HC2.out
  clear HC2
  by_cases c3 : a0 < 0
  ·rw [if_pos c3] at H
   have c3b0 : decide (a0 < 0) = true := decide_eq_true c3
   clear c3
   (first | rw [c3b0] | (simp only [i64_w, i32_w]; rw [c3b0]) | skip)
   have H' := Aside0.mk H
   clear H
   go_wp2
   go_meet
   case rel => exact ⟨_, (IntKind.u64.wrap ((IntKind.u64.wrap (wrap64 (-(wrap64 (a0 + 1))))) + 1)), (1), (by first | rfl | (simp; done) | (simp [*]; done)), (by first | rfl | (simp; done) | (simp [*]; done)), H', ⟨by first | omega | exact Nat.le_refl _⟩, ⟨stB HB.out⟩⟩
  ·rw [if_neg c3] at H
   have c3b0 : decide (a0 < 0) = false := decide_eq_false c3
   clear c3
   (first | rw [c3b0] | (simp only [i64_w, i32_w]; rw [c3b0]) | skip)
   have H' := Aside0.mk H
   clear H
   go_wp2
   go_meet
   case rel => exact ⟨_, (IntKind.u64.wrap (a0)), (0), (by first | rfl | (simp; done) | (simp [*]; done)), (by first | rfl | (simp; done) | (simp [*]; done)), H', ⟨by first | omega | exact Nat.le_refl _⟩, ⟨stB HB.out⟩⟩
 case rest =>
  clear HC2
  try clear c1
  try clear p2
  try clear c3
  try clear c3b0
  obtain ⟨kq, x3_1, x4_1, rfl, rfl, HA, HJ1, HB⟩ := hcut
  cases kq with
  | zero => exact absurd HA.out (by simp [trivetref01_Num.j0])
  | succ kj1 =>
   have H := HA.out
   clear HA
   simp only [trivetref01_Num.j0] at H
   have H' := Aside0.mk H
   clear H
   go_wp2
   go_loopg [3, 5] kj1 (fun kq v3 v5 w' => ∃ (x3_2 : Int) (x5_2 : List Int), v3 = .int .u64 x3_2 ∧ Aside0 (trivetref01_Num.l0 kq x3_2 x4_1 x5_2 = some r) ∧ Aside0 (kq ≤ kj1) ∧ Aside0 (Kd.R (Kd.int .u8) 5 w' w.heap.size (fun _ => True) v5 x5_2) ∧ Aside0 (Below w.heap.size w w'))
   case atStart => exact ⟨(x3_1), (([] : List Int)), (by first | rfl | (simp; done) | (simp [*]; done)), H', ⟨Nat.le_refl _⟩, ⟨by first | exact Kd.R_nil _ _ _ _ _ | exact Kd.N_nil _ _ _ _ _ | exact Kd.V_nil _ _ _ _ _ | exact Kd.Q_nil _ _ _ _ _ | exact Kd.S_nil _ _ _ _ _⟩, ⟨stB HB.out⟩⟩
   case round =>
    clear H'
    try clear c1
    try clear p2
    try clear c3
    try clear c3b0
    try clear p2
    obtain ⟨x3_2, x5_2, rfl, HA, HK2, HO_5, HB⟩ := hrel
    cases gk with
    | zero => exact absurd HA.out (by simp [trivetref01_Num.l0])
    | succ k2 =>
     have H := HA.out
     clear HA
     simp only [trivetref01_Num.l0] at H
     by_cases c4 : x3_2 > 0
     ·rw [if_pos c4] at H
      have c4b0 : decide (0 < x3_2) = true := decide_eq_true c4
      clear c4
      by_cases c5 : x5_2.length < 140737488355328
      ·rw [if_pos c5] at H
       have LMc5 := Aside0.mk c5
       clear c5
       obtain ⟨y306, hy306⟩ : ∃ y_ : List Int, y_ = (x5_2 ++ [(Int.tmod x3_2 256) % 256]) := ⟨_, rfl⟩
       replace H : (trivetref01_Num.l0 k2 (IntKind.u64.wrap (Int.tdiv x3_2 256)) x4_1 y306) = some r := by first | (rw [hy306]; with_reducible exact H) | (have H2_ := (Option.bind_some _ _).symm.trans H; rw [hy306]; with_reducible exact H2_) | (have H2_ := (Option.bind_some _ _).symm.trans H; with_reducible exact H2_) | with_reducible exact H | (rw [hy306]; exact H) | exact H
       have Ny306 := Aside0.mk hy306
       clear hy306
       have H' := Aside0.mk H
       clear H
       go_wp2_with (first | ((with_reducible refine gate_builtin (b := .append) (xs := #[.tmp 18, .tmp 22]) rfl ?_); at_builtin; refine Kd.R_append (Kd.int .u8) (w0 := w) w.heap.size rfl (.tmp 18) (.tmp 22) 23 5 (.int .u8 0) 1 rfl Tryz.underlying23 info5 rfl (by decide) (by omega) u5 x5_2 ((Int.tmod x3_2 256) % 256) [.int .u8 ((Int.tmod x3_2 256) % 256)] (fun _ => True) (fun _ => False) rfl rfl ?aP (fun _ hk => hk.elim) ?aF ?aO ?aB ?aS ?aL ?_; (case aP => exact rfl); (case aB => exact (stB HB.out)); (case aF => exact (fun _ _ => trivial)); (case aO => exact (stR HO_5.out)); (case aS => exact (below_size (stB HB.out))); (case aL => have := LMc5.out; omega); intro v307 w6 ho hb hg hat; rw [← Ny306.out] at ho; have n0_ := Aside0.mk (hb); have n1_ := Aside0.mk (ho); clear HB; clear HO_5; have HB := n0_; have HO308 := n1_; clear n0_ n1_; clear ho hb hg hat))
       go_roundg k2
       case measure => have := HJ1.out; have := HK2.out; omega
       case rel => exact ⟨(IntKind.u64.wrap (Int.tdiv x3_2 256)), (y306), (by first | rfl | (simp; done) | (simp [*]; done)), H', ⟨by have := HJ1.out; have := HK2.out; omega⟩, ⟨stR HO308.out⟩, ⟨stB HB.out⟩⟩
      ·rw [if_neg c5] at H
       exact absurd H (by simp)
     ·rw [if_neg c4] at H
      have c4b0 : decide (0 < x3_2) = false := decide_eq_false c4
      clear c4
      obtain ⟨y309, hy309⟩ : ∃ y_ : List Int, y_ = (([(((wrap64 (2 * (x5_2.length : Int))) % 256) + x4_1) % 256] : List Int)) := ⟨_, rfl⟩
      replace H : (if y309.length + x5_2.length < 140737488355328 then (some (y309 ++ x5_2)) else (none)) = some r := by first | (rw [hy309]; with_reducible exact H) | (have H2_ := (Option.bind_some _ _).symm.trans H; rw [hy309]; with_reducible exact H2_) | (have H2_ := (Option.bind_some _ _).symm.trans H; with_reducible exact H2_) | with_reducible exact H | (rw [hy309]; exact H) | exact H
      have Ny309 := Aside0.mk hy309
      clear hy309
      by_cases c7 : y309.length + x5_2.length < 140737488355328
      ·rw [if_pos c7] at H
       have LMc7 := Aside0.mk c7
       clear c7
       obtain ⟨y312, hy312⟩ : ∃ y_ : List Int, y_ = (y309 ++ x5_2) := ⟨_, rfl⟩
       replace H : (some y312) = some r := by first | (rw [hy312]; with_reducible exact H) | (have H2_ := (Option.bind_some _ _).symm.trans H; rw [hy312]; with_reducible exact H2_) | (have H2_ := (Option.bind_some _ _).symm.trans H; with_reducible exact H2_) | with_reducible exact H | (rw [hy312]; exact H) | exact H
       have Ny312 := Aside0.mk hy312
       clear hy312
       obtain rfl := Option.some.inj H
       obtain ⟨Ao8, co8, eo8⟩ := Kd.R_slice HO_5.out
       subst eo8
       go_wp2_with (first | ((with_reducible refine gate_dst (N := 32) rfl ?_); refine Kd.R_lit (Kd.int .u8) _ 5 ?hg (N := 32) ?hd (xs := ([(((wrap64 (2 * (x5_2.length : Int))) % 256) + x4_1) % 256] : List Int)) (inner := [.int .u8 ((((wrap64 (2 * (x5_2.length : Int))) % 256) + x4_1) % 256)]) (ok := fun _ => True) (okp := fun _ => True) ?hr ?hp (fun _ hk => hk) trivial (Below.refl _ _) (Nat.le_refl _) (by simp) ?_; (case hd => rfl); (case hg => rfl); (case hr => first | (go_simp; done) | (go_simp; rfl)); (case hp => exact (Reps.one (show Kd.M (Kd.int .u8) _ _ _ ((((wrap64 (2 * (x5_2.length : Int))) % 256) + x4_1) % 256) [.int .u8 ((((wrap64 (2 * (x5_2.length : Int))) % 256) + x4_1) % 256)] from rfl) (Reps.none _ _))); intro v310 w9 ho10 hb hg_ hnew_; clear hg_ hnew_; (first | rw [← Ny309.out] at ho10 | (simp only [Int.reduceToNat] at ho10; rw [← Ny309.out] at ho10)); have n0_ := Aside0.mk (Kd.R_elder' (stR HO_5.out) (Kd.R_base ho10) hb); have n1_ := Aside0.mk (Kd.R_lower (Kd.R_new' ho10 (Kd.R_lt (stR HO_5.out))) (below_size (stB HB.out))); have n2_ := Aside0.mk (below_step (stB HB.out) hb); clear HO_5; clear HB; have HO_5 := n0_; have HO311 := n1_; have HB := n2_; clear n0_ n1_ n2_; clear hb ho10) | ((with_reducible refine gate_builtin (b := .append) (xs := #[.tmp 33, .tmp 34]) rfl ?_); at_builtin; refine Kd.R_append_rows (Kd.int .u8) (w0 := w) w.heap.size rfl (.tmp 33) (.tmp 34) 23 5 (.int .u8 0) 1 rfl Tryz.underlying23 info5 rfl (by decide) (by omega) v310 y309 x5_2 _ _ _ (fun k_ => some k_ ≠ (.slice Ao8 x5_2.length co8 : Value).ownBlock) (fun _ => False) rfl rfl ?aO ?aR (fun _ _ h => h) (fun _ h => h.elim) ?aF ?aB ?aS ?aL ?_; (case aR => exact stC ((Kd.R_reads' HO_5.out).2.2)); (case aB => exact (stB HB.out)); (case aF => exact (fun k_ hk => Kd.fresh' (Kd.R_lt (stR HO_5.out)) k_ hk)); (case aO => exact (by (with_reducible repeat (first|apply Kd.R_alloc | apply Kd.R_drewN | apply Kd.R_drew)); exact Kd.R_mono HO311.out (fun _ hk => hk.2))); (case aS => exact (below_size (stB HB.out))); (case aL => have := LMc7.out; omega); intro v313 w11 ho hb hg hat; rw [← Ny312.out] at ho; have n0_ := Aside0.mk (Kd.R_after (ok := (fun _ => True)) (stR HO_5.out) hg hat); have n1_ := Aside0.mk (hb); have n2_ := Aside0.mk (ho); clear HO_5; clear HB; clear HO311; have HO_5 := n0_; have HB := n1_; have HO314 := n2_; clear n0_ n1_ n2_; clear ho hb hg hat))
       go_ret
       exact ⟨_, by first | rfl | (simp [errW_none, errW_some] <;> rfl) | (simp [*, errW_none, errW_some] <;> rfl), by (with_reducible repeat (first|apply Kd.R_alloc | apply Kd.R_drewN | apply Kd.R_drew)); exact Kd.R_mono HO314.out (fun _ hk => trivial), stB HB.out⟩
      ·rw [if_neg c7] at H
       exact absurd H (by simp)
def trivetref01_Put.l0 : Nat → List Int → List Int → Int → Option (List Int)
 | 0, _, _, _ => none
 | k + 1, x1, x5, x6 => if x6 < (x1.length : Int) then (if 0 ≤ x6 then ((trivetref01_Num.f k (rd x1 x6)).bind fun t319 => (if x5.length + t319.length < 140737488355328 then (trivetref01_Put.l0 k x1 (x5 ++ t319) (wrap64 (x6 + 1))) else (none))) else (none)) else (some x5)
def trivetref01_Put.f (k : Nat) (l0 : List Int) (l1 : List Int) : Option (List Int) := if ([] : List Int).length + l0.length < 140737488355328 then (trivetref01_Put.l0 k l1 (([] : List Int) ++ l0) 0) else (none)
theorem trivetref01_Put.mono_l : ∀ k, (∀ y0 y1 y2, LeO (trivetref01_Put.l0 k y0 y1 y2) (trivetref01_Put.l0 (k + 1) y0 y1 y2))
 | 0 => fun _ _ _ r h => by simp [trivetref01_Put.l0] at h
 | k + 1 => by
  have ih0 := trivetref01_Put.mono_l k
  ·intro y0 y1 y2
   unfold trivetref01_Put.l0
   repeat' first
   | (with_reducible exact ih0 _ _ _)
   | (with_reducible exact trivetref01_Num.mono _ _)
   | (with_reducible exact LeO.refl _)
   | (with_reducible exact LeO.none _)
   | (with_reducible refine LeO.ite ?_ ?_)
   | (with_reducible refine LeO.bind ?_ (fun _ => ?_))
   | exact ih0 _ _ _
   | exact trivetref01_Num.mono _ _
   | exact LeO.none _
   | refine LeO.ite ?_ ?_
   | refine LeO.bind ?_ (fun _ => ?_)
theorem trivetref01_Put.mono : ∀ a0 a1 k, LeO (trivetref01_Put.f k a0 a1) (trivetref01_Put.f (k + 1) a0 a1) := by
 intro a0 a1 k
 have ih0 := trivetref01_Put.mono_l k
 unfold trivetref01_Put.f
 repeat' first
   | (with_reducible exact ih0 _ _ _)
   | (with_reducible exact trivetref01_Num.mono _ _)
   | (with_reducible exact LeO.refl _)
   | (with_reducible exact LeO.none _)
   | (with_reducible refine LeO.ite ?_ ?_)
   | (with_reducible refine LeO.bind ?_ (fun _ => ?_))
   | exact ih0 _ _ _
   | exact trivetref01_Num.mono _ _
   | exact LeO.none _
   | refine LeO.ite ?_ ?_
   | refine LeO.bind ?_ (fun _ => ?_)
set_option maxHeartbeats 8000000 in
set_option maxRecDepth 100000 in
theorem trivetref01_Put.calls (k : Nat) (A0 : Option Addr) (c0 : Nat) (l0 : List Int) (A1 : Option Addr) (c1 : Nat) (l1 : List Int) (r : List Int) (w : World) (hr0 : Kd.C (Kd.int .u8) w A0 l0.length l0) (hc0 : l0.length ≤ c0) (hr1 : Kd.C (Kd.int .i64) w A1 l1.length l1) (hc1 : l1.length ≤ c1) (h : trivetref01_Put.f k l0 l1 = some r) :
  Calls Tryz.prog 149 #[.slice A0 l0.length c0, .slice A1 l1.length c1] w fun e w' => ∃ v0_ : Value, e = .returned (v0_) ∧ Kd.R (Kd.int .u8) 5 w' w.heap.size (fun _ => True) v0_ r ∧ Below w.heap.size w w' := by
 have HR0 := Aside0.mk hr0
 have HC0 := Aside0.mk hc0
 clear hr0 hc0
 have HR1 := Aside0.mk hr1
 have HC1 := Aside0.mk hc1
 clear hr1 hc1
 have HB := Aside0.mk (Below.refl w.heap.size w)
 have H : (if ([] : List Int).length + l0.length < 140737488355328 then (trivetref01_Put.l0 k l1 (([] : List Int) ++ l0) 0) else (none)) = some r := h
 clear h
 by_cases c3 : ([] : List Int).length + l0.length < 140737488355328
 ·rw [if_pos c3] at H
  have LMc3 := Aside0.mk c3
  clear c3
  obtain ⟨y315, hy315⟩ : ∃ y_ : List Int, y_ = (([] : List Int) ++ l0) := ⟨_, rfl⟩
  replace H : (trivetref01_Put.l0 k l1 y315 0) = some r := by first | (rw [hy315]; with_reducible exact H) | (have H2_ := (Option.bind_some _ _).symm.trans H; rw [hy315]; with_reducible exact H2_) | (have H2_ := (Option.bind_some _ _).symm.trans H; with_reducible exact H2_) | with_reducible exact H | (rw [hy315]; exact H) | exact H
  have Ny315 := Aside0.mk hy315
  clear hy315
  have H' := Aside0.mk H
  clear H
  go_enter Tryz.func149, Tryz.ntmps149
  go_wp2_with (first | ((with_reducible refine gate_builtin (b := .append) (xs := #[.tmp 7, .tmp 8]) rfl ?_); at_builtin; refine Kd.R_append_rows (Kd.int .u8) (w0 := w) w.heap.size rfl (.tmp 7) (.tmp 8) 23 5 (.int .u8 0) 1 rfl Tryz.underlying23 info5 rfl (by decide) (by omega) (.slice none 0 0) ([] : List Int) l0 _ _ _ (fun _ => True) (fun _ => False) rfl rfl ?aO ?aR (fun _ _ h => h) (fun _ h => h.elim) ?aF ?aB ?aS ?aL ?_; (case aR => exact stC HR0.out); (case aB => exact (stB HB.out)); (case aF => exact (fun _ _ => trivial)); (case aO => exact ((Kd.R_nil _ _ _ _ (fun _ => True)))); (case aS => exact (below_size (stB HB.out))); (case aL => have := LMc3.out; omega); intro v316 w4 ho hb hg hat; rw [← Ny315.out] at ho; have n0_ := Aside0.mk (hb); have n1_ := Aside0.mk (ho); clear HB; have HB := n0_; have HO317 := n1_; clear n0_ n1_; clear ho hb hg hat))
  go_loopg [5, 6] k (fun kq v5 v6 w' => ∃ (x5_1 : List Int) (x6_1 : Int), v6 = .int .i64 x6_1 ∧ Aside0 (trivetref01_Put.l0 kq l1 x5_1 x6_1 = some r) ∧ Aside0 (kq ≤ k) ∧ Aside0 (Kd.R (Kd.int .u8) 5 w' w.heap.size (fun _ => True) v5 x5_1) ∧ Aside0 (Below w.heap.size w w'))
  case atStart => exact ⟨(y315), (0), (by first | rfl | (simp; done) | (simp [*]; done)), H', ⟨Nat.le_refl _⟩, ⟨stR HO317.out⟩, ⟨stB HB.out⟩⟩
  case round =>
   clear H'
   try clear c1
   try clear p2
   try clear c3
   obtain ⟨x5_1, x6_1, rfl, HA, HK1, HO_5, HB⟩ := hrel
   cases gk with
   | zero => exact absurd HA.out (by simp [trivetref01_Put.l0])
   | succ k1 =>
    have H := HA.out
    clear HA
    simp only [trivetref01_Put.l0] at H
    by_cases c5 : x6_1 < (l1.length : Int)
    ·rw [if_pos c5] at H
     have c5b0 : decide (x6_1 < (l1.length : Int)) = true := decide_eq_true c5
     clear c5
     by_cases c6 : 0 ≤ x6_1
     ·rw [if_pos c6] at H
      have c6b0 : decide (0 ≤ x6_1) = true := decide_eq_true c6
      clear c6
      replace H := Option.bind_eq_some_iff.mp H
      obtain ⟨t319, A70, H⟩ := H
      replace H : (if x5_1.length + t319.length < 140737488355328 then (trivetref01_Put.l0 k1 l1 (x5_1 ++ t319) (wrap64 (x6_1 + 1))) else (none)) = some r := H
      have A7 := Aside0.mk A70
      clear A70
      by_cases c8 : x5_1.length + t319.length < 140737488355328
      ·rw [if_pos c8] at H
       have LMc8 := Aside0.mk c8
       clear c8
       obtain ⟨y322, hy322⟩ : ∃ y_ : List Int, y_ = (x5_1 ++ t319) := ⟨_, rfl⟩
       replace H : (trivetref01_Put.l0 k1 l1 y322 (wrap64 (x6_1 + 1))) = some r := by first | (rw [hy322]; with_reducible exact H) | (have H2_ := (Option.bind_some _ _).symm.trans H; rw [hy322]; with_reducible exact H2_) | (have H2_ := (Option.bind_some _ _).symm.trans H; with_reducible exact H2_) | with_reducible exact H | (rw [hy322]; exact H) | exact H
       have Ny322 := Aside0.mk hy322
       clear hy322
       have H' := Aside0.mk H
       clear H
       have p318 : 0 ≤ (x6_1 : Int) := of_decide_eq_true (by first | (with_reducible assumption) | assumption)
       have q318 : x6_1 < (l1.length : Int) := of_decide_eq_true (by first | (with_reducible assumption) | assumption)
       obtain ⟨ad318, e318, hx318_0⟩ := Kd.at_int HR1.out x6_1 p318 q318
       cases e318
       replace hx318_0 := (HB.out.cell (World.block_lt_of_cell? w _ hx318_0)).trans hx318_0
       replace p318 := eq_true p318
       replace q318 := eq_true q318
       go_wp2_with (first | ((with_reducible refine gate_callee (f := 167) rfl ?_); refine goesL_ (some 21) rfl rfl Tryz.func167 (by kernel_rfl) rfl #[.int .i64 (rd l1 x6_1)] rfl (by (try simp only [List.map_toArray, List.map_cons, List.map_nil]); first | done | rfl | (simp only [List.length_drop, List.length_take]; rfl)) ?_; (with_reducible refine (trivetref01_Num.calls k1 (rd l1 x6_1) t319 _ A7.out).mono ?_); rintro e w9 ⟨v320, rfl, ho0, hb⟩; refine ⟨_, rfl, ?_⟩; have n0_ := Aside0.mk (Kd.R_elder' (stR HO_5.out) (Kd.R_base ho0) hb); have n1_ := Aside0.mk (Kd.R_lower (Kd.R_new' ho0 (Kd.R_lt (stR HO_5.out))) (below_size (stB HB.out))); have n2_ := Aside0.mk (below_step (stB HB.out) hb); clear HO_5; clear HB; have HO_5 := n0_; have HO321 := n1_; have HB := n2_; clear n0_ n1_ n2_; (try clear hb); (try clear hb2); (try clear hk); (try clear hi); (try clear ho0); obtain ⟨Ao11, co11, eo11⟩ := Kd.R_slice HO321.out; subst eo11) | ((with_reducible refine gate_builtin (b := .append) (xs := #[.tmp 16, .tmp 21]) rfl ?_); at_builtin; refine Kd.R_append_rows (Kd.int .u8) (w0 := w) w.heap.size rfl (.tmp 16) (.tmp 21) 23 5 (.int .u8 0) 1 rfl Tryz.underlying23 info5 rfl (by decide) (by omega) u5 x5_1 t319 _ _ _ (fun k_ => some k_ ≠ (.slice Ao11 t319.length co11 : Value).ownBlock) (fun _ => False) rfl rfl ?aO ?aR (fun _ _ h => h) (fun _ h => h.elim) ?aF ?aB ?aS ?aL ?_; (case aR => exact stC ((Kd.R_reads' HO321.out).2.2)); (case aB => exact (stB HB.out)); (case aF => exact (fun k_ hk => Kd.fresh' (Kd.R_lt (stR HO321.out)) k_ hk)); (case aO => exact (by (with_reducible repeat (first|apply Kd.R_alloc | apply Kd.R_drewN | apply Kd.R_drew)); exact Kd.R_mono HO_5.out (fun _ hk => hk.2))); (case aS => exact (below_size (stB HB.out))); (case aL => have := LMc8.out; omega); intro v323 w10 ho hb hg hat; rw [← Ny322.out] at ho; have n0_ := Aside0.mk (Kd.R_after (ok := (fun _ => True)) (stR HO321.out) hg hat); have n1_ := Aside0.mk (hb); have n2_ := Aside0.mk (ho); clear HO321; clear HB; clear HO_5; have HO321 := n0_; have HB := n1_; have HO324 := n2_; clear n0_ n1_ n2_; clear ho hb hg hat))
       go_roundg k1
       case measure => have := HK1.out; omega
       case rel => exact ⟨(y322), (wrap64 (x6_1 + 1)), (by first | rfl | (simp; done) | (simp [*]; done)), H', ⟨by have := HK1.out; omega⟩, ⟨by (with_reducible repeat (first|apply Kd.R_alloc | apply Kd.R_drewN | apply Kd.R_drew)); exact Kd.R_mono HO324.out (fun _ hk => trivial)⟩, ⟨stB HB.out⟩⟩
      ·rw [if_neg c8] at H
       exact absurd H (by simp)
     ·rw [if_neg c6] at H
      exact absurd H (by simp)
    ·rw [if_neg c5] at H
     have c5b0 : decide (x6_1 < (l1.length : Int)) = false := decide_eq_false c5
     clear c5
     obtain rfl := Option.some.inj H
     go_wp2
     go_ret
     exact ⟨_, by first | rfl | (simp [errW_none, errW_some] <;> rfl) | (simp [*, errW_none, errW_some] <;> rfl), stR HO_5.out, stB HB.out⟩
 ·rw [if_neg c3] at H
  exact absurd H (by simp)
def trivetref04_num.f (k : Nat) (l0 : List Int) (l1 : List Int) : Option (List Int) := (trivetref01_Put.f k l0 l1).bind fun t325 => (some t325)
theorem trivetref04_num.mono : ∀ a0 a1 k, LeO (trivetref04_num.f k a0 a1) (trivetref04_num.f (k + 1) a0 a1) := by
 intro a0 a1 k
 unfold trivetref04_num.f
 repeat' first
   | (with_reducible exact trivetref01_Put.mono _ _ _)
   | (with_reducible exact LeO.refl _)
   | (with_reducible exact LeO.none _)
   | (with_reducible refine LeO.ite ?_ ?_)
   | (with_reducible refine LeO.bind ?_ (fun _ => ?_))
   | exact trivetref01_Put.mono _ _ _
   | exact LeO.none _
   | refine LeO.ite ?_ ?_
   | refine LeO.bind ?_ (fun _ => ?_)
set_option maxHeartbeats 8000000 in
set_option maxRecDepth 100000 in
theorem trivetref04_num.calls (k : Nat) (A0 : Option Addr) (c0 : Nat) (l0 : List Int) (A1 : Option Addr) (c1 : Nat) (l1 : List Int) (r : List Int) (w : World) (hr0 : Kd.C (Kd.int .u8) w A0 l0.length l0) (hc0 : l0.length ≤ c0) (hr1 : Kd.C (Kd.int .i64) w A1 l1.length l1) (hc1 : l1.length ≤ c1) (h : trivetref04_num.f k l0 l1 = some r) :
  Calls Tryz.prog 97 #[.slice A0 l0.length c0, .slice A1 l1.length c1] w fun e w' => ∃ v0_ : Value, e = .returned (v0_) ∧ Kd.R (Kd.int .u8) 5 w' w.heap.size (fun _ => True) v0_ r ∧ Below w.heap.size w w' := by
 have HR0 := Aside0.mk hr0
 have HC0 := Aside0.mk hc0
 clear hr0 hc0
 have HR1 := Aside0.mk hr1
 have HC1 := Aside0.mk hc1
 clear hr1 hc1
 have HB := Aside0.mk (Below.refl w.heap.size w)
 have H : ((trivetref01_Put.f k l0 l1).bind fun t325 => (some t325)) = some r := h
 clear h
 replace H := Option.bind_eq_some_iff.mp H
 obtain ⟨t325, A30, H⟩ := H
 replace H : (some t325) = some r := H
 have A3 := Aside0.mk A30
 clear A30
 obtain rfl := Option.some.inj H
 go_enter Tryz.func97, Tryz.ntmps97
 go_wp2_with (first | ((with_reducible refine gate_callee (f := 149) rfl ?_); refine goesL_ (some 7) rfl rfl Tryz.func149 (by kernel_rfl) rfl #[.slice A0 l0.length c0, .slice A1 l1.length c1] rfl (by (try simp only [List.map_toArray, List.map_cons, List.map_nil]); first | done | rfl | (simp only [List.length_drop, List.length_take]; rfl)) ?_; (with_reducible refine (trivetref01_Put.calls k _ _ l0 _ _ l1 t325 _ ?side1 ?side2 ?side3 ?side4 A3.out).mono ?_); (case side1 => exact stC HR0.out); (case side2 => exact HC0.out); (case side3 => exact stC HR1.out); (case side4 => exact HC1.out); rintro e w4 ⟨v326, rfl, ho0, hb⟩; refine ⟨_, rfl, ?_⟩; have n0_ := Aside0.mk (Kd.R_lower ho0 (below_size (stB HB.out))); have n1_ := Aside0.mk (below_step (stB HB.out) hb); clear HB; have HO327 := n0_; have HB := n1_; clear n0_ n1_; (try clear hb); (try clear hb2); (try clear hk); (try clear hi); (try clear ho0)))
 go_ret
 exact ⟨_, by first | rfl | (simp [errW_none, errW_some] <;> rfl) | (simp [*, errW_none, errW_some] <;> rfl), stR HO327.out, stB HB.out⟩
def trivetref01_Blob.f (k : Nat) (l0 : List Int) (l1 : List Int) : Option (List Int) := (trivetref01_Put.f k l0 (([(l1.length : Int)] : List Int))).bind fun t331 => (if t331.length + l1.length < 140737488355328 then (some (t331 ++ l1)) else (none))
theorem trivetref01_Blob.mono : ∀ a0 a1 k, LeO (trivetref01_Blob.f k a0 a1) (trivetref01_Blob.f (k + 1) a0 a1) := by
 intro a0 a1 k
 unfold trivetref01_Blob.f
 repeat' first
   | (with_reducible exact trivetref01_Put.mono _ _ _)
   | (with_reducible exact LeO.refl _)
   | (with_reducible exact LeO.none _)
   | (with_reducible refine LeO.ite ?_ ?_)
   | (with_reducible refine LeO.bind ?_ (fun _ => ?_))
   | exact trivetref01_Put.mono _ _ _
   | exact LeO.none _
   | refine LeO.ite ?_ ?_
   | refine LeO.bind ?_ (fun _ => ?_)
set_option maxHeartbeats 8000000 in
set_option maxRecDepth 100000 in
theorem trivetref01_Blob.calls (k : Nat) (A0 : Option Addr) (c0 : Nat) (l0 : List Int) (A1 : Option Addr) (c1 : Nat) (l1 : List Int) (r : List Int) (w : World) (hr0 : Kd.C (Kd.int .u8) w A0 l0.length l0) (hc0 : l0.length ≤ c0) (hr1 : Kd.C (Kd.int .u8) w A1 l1.length l1) (hc1 : l1.length ≤ c1) (h : trivetref01_Blob.f k l0 l1 = some r) :
  Calls Tryz.prog 107 #[.slice A0 l0.length c0, .slice A1 l1.length c1] w fun e w' => ∃ v0_ : Value, e = .returned (v0_) ∧ Kd.R (Kd.int .u8) 5 w' w.heap.size (fun _ => True) v0_ r ∧ Below w.heap.size w w' := by
 have HR0 := Aside0.mk hr0
 have HC0 := Aside0.mk hc0
 clear hr0 hc0
 have HR1 := Aside0.mk hr1
 have HC1 := Aside0.mk hc1
 clear hr1 hc1
 have HB := Aside0.mk (Below.refl w.heap.size w)
 have H : ((trivetref01_Put.f k l0 (([(l1.length : Int)] : List Int))).bind fun t331 => (if t331.length + l1.length < 140737488355328 then (some (t331 ++ l1)) else (none))) = some r := h
 clear h
 obtain ⟨y328, hy328⟩ : ∃ y_ : List Int, y_ = (([(l1.length : Int)] : List Int)) := ⟨_, rfl⟩
 replace H : ((trivetref01_Put.f k l0 y328).bind fun t331 => (if t331.length + l1.length < 140737488355328 then (some (t331 ++ l1)) else (none))) = some r := by first | (rw [hy328]; with_reducible exact H) | (have H2_ := (Option.bind_some _ _).symm.trans H; rw [hy328]; with_reducible exact H2_) | (have H2_ := (Option.bind_some _ _).symm.trans H; with_reducible exact H2_) | with_reducible exact H | (rw [hy328]; exact H) | exact H
 have Ny328 := Aside0.mk hy328
 clear hy328
 replace H := Option.bind_eq_some_iff.mp H
 obtain ⟨t331, A30, H⟩ := H
 replace H : (if t331.length + l1.length < 140737488355328 then (some (t331 ++ l1)) else (none)) = some r := H
 have A3 := Aside0.mk A30
 clear A30
 by_cases c4 : t331.length + l1.length < 140737488355328
 ·rw [if_pos c4] at H
  have LMc4 := Aside0.mk c4
  clear c4
  obtain ⟨y334, hy334⟩ : ∃ y_ : List Int, y_ = (t331 ++ l1) := ⟨_, rfl⟩
  replace H : (some y334) = some r := by first | (rw [hy334]; with_reducible exact H) | (have H2_ := (Option.bind_some _ _).symm.trans H; rw [hy334]; with_reducible exact H2_) | (have H2_ := (Option.bind_some _ _).symm.trans H; with_reducible exact H2_) | with_reducible exact H | (rw [hy334]; exact H) | exact H
  have Ny334 := Aside0.mk hy334
  clear hy334
  obtain rfl := Option.some.inj H
  go_enter Tryz.func107, Tryz.ntmps107
  go_wp2_with (first | ((with_reducible refine gate_dst (N := 8) rfl ?_); refine Kd.R_lit (Kd.int .i64) _ 2 ?hg (N := 8) ?hd (xs := ([(l1.length : Int)] : List Int)) (inner := [.int .i64 (l1.length : Int)]) (ok := fun _ => True) (okp := fun _ => True) ?hr ?hp (fun _ hk => hk) trivial (Below.refl _ _) (Nat.le_refl _) (by simp) ?_; (case hd => rfl); (case hg => rfl); (case hr => first | (go_simp; done) | (go_simp; rfl)); (case hp => exact (Reps.one (show Kd.M (Kd.int .i64) _ _ _ (l1.length : Int) [.int .i64 (l1.length : Int)] from rfl) (Reps.none _ _))); intro v329 w5 ho6 hb hg_ hnew_; clear hg_ hnew_; (first | rw [← Ny328.out] at ho6 | (simp only [Int.reduceToNat] at ho6; rw [← Ny328.out] at ho6)); have n0_ := Aside0.mk (Kd.R_lower ho6 (below_size (stB HB.out))); have n1_ := Aside0.mk (below_step (stB HB.out) hb); clear HB; have HO330 := n0_; have HB := n1_; clear n0_ n1_; clear hb ho6; obtain ⟨Ao7, co7, eo7⟩ := Kd.R_slice HO330.out; subst eo7) | ((with_reducible refine gate_callee (f := 149) rfl ?_); refine goesL_ (some 9) rfl rfl Tryz.func149 (by kernel_rfl) rfl #[.slice A0 l0.length c0, .slice Ao7 y328.length co7] rfl (by (try simp only [List.map_toArray, List.map_cons, List.map_nil]); first | done | rfl | (simp only [List.length_drop, List.length_take]; rfl)) ?_; (with_reducible refine (trivetref01_Put.calls k _ _ l0 _ _ y328 t331 _ ?side1 ?side2 ?side3 ?side4 A3.out).mono ?_); (case side1 => exact stC (Kd.C_below HR0.out HB.out)); (case side2 => exact HC0.out); (case side3 => exact stC ((Kd.R_reads' HO330.out).2.2)); (case side4 => exact (Kd.R_reads' HO330.out).2.1); rintro e w8 ⟨v332, rfl, ho0, hb⟩; refine ⟨_, rfl, ?_⟩; have n0_ := Aside0.mk (Kd.R_below (stR HO330.out) hb); have n1_ := Aside0.mk (Kd.R_lower ho0 (below_size (stB HB.out))); have n2_ := Aside0.mk (below_step (stB HB.out) hb); clear HO330; clear HB; have HO330 := n0_; have HO333 := n1_; have HB := n2_; clear n0_ n1_ n2_; (try clear hb); (try clear hb2); (try clear hk); (try clear hi); (try clear ho0)) | ((with_reducible refine gate_builtin (b := .append) (xs := #[.tmp 9, .tmp 10]) rfl ?_); at_builtin; refine Kd.R_append_rows (Kd.int .u8) (w0 := w) w.heap.size rfl (.tmp 9) (.tmp 10) 23 5 (.int .u8 0) 1 rfl Tryz.underlying23 info5 rfl (by decide) (by omega) v332 t331 l1 _ _ _ (fun _ => True) (fun _ => False) rfl rfl ?aO ?aR (fun _ _ h => h) (fun _ h => h.elim) ?aF ?aB ?aS ?aL ?_; (case aR => exact stC (Kd.C_below HR1.out HB.out)); (case aB => exact (stB HB.out)); (case aF => exact (fun _ _ => trivial)); (case aO => exact (stR HO333.out)); (case aS => exact (below_size (stB HB.out))); (case aL => have := LMc4.out; omega); intro v335 w9 ho hb hg hat; rw [← Ny334.out] at ho; have n0_ := Aside0.mk (Kd.R_over' (stR HO330.out) (Kd.R_typed (stR HO333.out)) (by decide) hg); have n1_ := Aside0.mk (hb); have n2_ := Aside0.mk (ho); clear HO330; clear HB; clear HO333; have HO330 := n0_; have HB := n1_; have HO336 := n2_; clear n0_ n1_ n2_; clear ho hb hg hat))
  go_ret
  exact ⟨_, by first | rfl | (simp [errW_none, errW_some] <;> rfl) | (simp [*, errW_none, errW_some] <;> rfl), stR HO336.out, stB HB.out⟩
 ·rw [if_neg c4] at H
  exact absurd H (by simp)
end Go.Proofs.YtgiefblcckikeaaGreat.G
end

section
/- What trivet/trivetref01's Num and Put come to, in plain Lean. -/
set_option maxRecDepth 100000
namespace Go.Proofs.YtgiefblcckikeaaGreat.M
open Go.RowKit Go.Proofs.YtgiefblcckikeaaGreatW.PrintWords Go.Proofs.YtgiefblcckikeaaGreat.G
theorem ref_num_l0 (j : Nat) : ∀ (k m : Nat) (acc : List Int) (z : Int), m < 256 ^ j → j < k → acc.length + j ≤ 8 → (z = 0 ∨ z = 1) →
  trivetref01_Num.l0 k (m : Int) z acc = some ((2 * ((acc ++ lowB m).length : Int) + z) :: (acc ++ lowB m)) := by
 induction j with
 | zero =>
  intro k m acc z hm hk ha hz
  obtain ⟨k, rfl⟩ : ∃ q, k = q + 1 := ⟨k - 1, by omega⟩
  obtain rfl : m = 0 := by simpa using hm
  simp only [trivetref01_Num.l0]
  rw [if_neg (by simp), lowB_zero, List.append_nil, Option.bind_some, if_pos (by simp; omega)]
  congr 1
  simp only [List.singleton_append]
  congr 1
  unfold wrap64
  omega
 | succ j ih =>
  intro k m acc z hm hk ha hz
  obtain ⟨k, rfl⟩ : ∃ q, k = q + 1 := ⟨k - 1, by omega⟩
  by_cases h0 : m = 0
  ·subst h0
   simp only [trivetref01_Num.l0]
   rw [if_neg (by simp), lowB_zero, List.append_nil, Option.bind_some, if_pos (by simp; omega)]
   congr 1
   simp only [List.singleton_append]
   congr 1
   unfold wrap64
   omega
  ·have hj : m < 256 ^ 8 := Nat.lt_of_lt_of_le hm (Nat.pow_le_pow_right (by omega) (by omega))
   simp only [trivetref01_Num.l0]
   rw [if_pos (by omega), if_pos (by omega)]
   have e1 : IntKind.u64.wrap (Int.tdiv (m : Int) 256) = ((m / 256 : Nat) : Int) := by
    rw [Int.tdiv_eq_ediv_of_nonneg (by omega), IntKind.wrap_u64]; omega
   have e2 : Int.tmod (m : Int) 256 % 256 = ((m % 256 : Nat) : Int) := by
    rw [Int.tmod_eq_emod_of_nonneg (by omega)]; omega
   rw [e1, e2, ih k (m / 256) _ z (by rw [Nat.pow_succ] at hm; omega) (by omega) (by simp; omega) hz, lowB_pos h0]
   simp only [List.append_assoc, List.singleton_append]
theorem ref_num {n : Int} (h : isI64 n) (k : Nat) (hk : 10 ≤ k) : trivetref01_Num.f k n = some (numB n) := by
 have hm := mag_lt h
 obtain ⟨k, rfl⟩ : ∃ q, k = q + 1 := ⟨k - 1, by omega⟩
 unfold isI64 at h
 unfold trivetref01_Num.f
 by_cases h0 : n < 0
 ·rw [if_pos h0]
  have e : IntKind.u64.wrap (IntKind.u64.wrap (wrap64 (-wrap64 (n + 1))) + 1) = (mag n : Int) := by
   simp only [IntKind.wrap_u64]; unfold wrap64 mag; omega
  rw [e]
  simp only [trivetref01_Num.j0]
  rw [ref_num_l0 8 k _ _ _ hm (by omega) (by simp) (.inr rfl)]
  unfold numB
  rw [if_pos h0]
  simp
 ·rw [if_neg h0]
  have e : IntKind.u64.wrap n = (mag n : Int) := by
   simp only [IntKind.wrap_u64]; unfold mag; omega
  rw [e]
  simp only [trivetref01_Num.j0]
  rw [ref_num_l0 8 k _ _ _ hm (by omega) (by simp) (.inl rfl)]
  unfold numB
  rw [if_neg h0]
  simp
theorem ref_put_l0 (l : List Int) (hi : okI l = true) (d : Nat) : ∀ (k j : Nat) (acc : List Int), l.length - j = d → j ≤ l.length → acc.length + 9 * d < 140737488355328 → l.length < 140737488355328 → d + 10 ≤ k →
  trivetref01_Put.l0 k l acc (j : Int) = some (acc ++ numsB (l.drop j)) := by
 induction d with
 | zero =>
  intro k j acc hd hj ha hl hk
  obtain ⟨k, rfl⟩ : ∃ q, k = q + 1 := ⟨k - 1, by omega⟩
  simp only [trivetref01_Put.l0]
  rw [if_neg (by omega), List.drop_eq_nil_of_le (by omega)]
  simp [numsB]
 | succ d ih =>
  intro k j acc hd hj ha hl hk
  obtain ⟨k, rfl⟩ : ∃ q, k = q + 1 := ⟨k - 1, by omega⟩
  have hlt : j < l.length := by omega
  have hr : rd l (j : Int) = l[j] := by simp [rd, List.getD_eq_getElem?_getD, List.getElem?_eq_getElem hlt]
  have hx := okI_mem hi (List.getElem_mem hlt)
  have hn := numB_len hx
  simp only [trivetref01_Put.l0]
  rw [if_pos (by omega), if_pos (by omega), hr, ref_num hx k (by omega), Option.bind_some, if_pos (by omega)]
  have hw : wrap64 ((j : Int) + 1) = ((j + 1 : Nat) : Int) := by unfold wrap64; omega
  rw [hw, ih k (j + 1) _ (by omega) (by omega) (by simp only [List.length_append]; omega) hl (by omega), List.drop_eq_getElem_cons hlt]
  simp only [numsB, List.flatMap_cons, List.append_assoc]
theorem ref_put (l0 l1 : List Int) (hi : okI l1 = true) (hs : l0.length + 9 * l1.length < 140737488355328) (k : Nat) (hk : l1.length + 10 ≤ k) : trivetref01_Put.f k l0 l1 = some (l0 ++ numsB l1) := by
 unfold trivetref01_Put.f
 rw [if_pos (by simp; omega)]
 have := ref_put_l0 l1 hi l1.length k 0 ([] ++ l0) (by omega) (by omega) (by simpa using hs) (by omega) hk
 rw [show ((0 : Nat) : Int) = 0 from rfl] at this
 rw [this]
 simp
end Go.Proofs.YtgiefblcckikeaaGreat.M
end

section
-- Written by a program of this session's (wip/gprint.py over the kit's printer).
namespace Go.Proofs.YtgiefblcckikeaaGreat.G
open Go.RowKit Go.Proofs.YtgiefblcckikeaaGreatW.PrintWords Go.Proofs.YtgiefblcckikeaaGreatW.PrintLast Go.Proofs.YtgiefblcckikeaaGreatW.PrintMore
attribute [local go_sem] max2_int min2_int max_two min_two max_three min_three max_four min_four   -- for this text's walks alone
def trivetref04_keys.l0 : Nat → List Int → List (S101) → Int → Option (List Int)
 | 0, _, _, _ => none
 | k + 1, x0, x1, x5 => if x5 < (x1.length : Int) then (if 0 ≤ x5 then ((trivetref04_num.f k x0 (([wrap64 ((rd_T101 x1 x5).f0), (rd_T101 x1 x5).f1] : List Int))).bind fun t348 => (trivetref04_keys.l0 k t348 x1 (wrap64 (x5 + 1)))) else (none)) else (some x0)
def trivetref04_keys.f (k : Nat) (l0 : List Int) (l1 : List (S101)) : Option (List Int) := (trivetref04_num.f k l0 (([(l1.length : Int)] : List Int))).bind fun t340 => (trivetref04_keys.l0 k t340 l1 0)
theorem trivetref04_keys.mono_l : ∀ k, (∀ y0 y1 y2, LeO (trivetref04_keys.l0 k y0 y1 y2) (trivetref04_keys.l0 (k + 1) y0 y1 y2))
 | 0 => fun _ _ _ r h => by simp [trivetref04_keys.l0] at h
 | k + 1 => by
  have ih0 := trivetref04_keys.mono_l k
  ·intro y0 y1 y2
   unfold trivetref04_keys.l0
   repeat' first
   | (with_reducible exact ih0 _ _ _)
   | (with_reducible exact trivetref04_num.mono _ _ _)
   | (with_reducible exact LeO.refl _)
   | (with_reducible exact LeO.none _)
   | (with_reducible refine LeO.ite ?_ ?_)
   | (with_reducible refine LeO.bind ?_ (fun _ => ?_))
   | exact ih0 _ _ _
   | exact trivetref04_num.mono _ _ _
   | exact LeO.none _
   | refine LeO.ite ?_ ?_
   | refine LeO.bind ?_ (fun _ => ?_)
theorem trivetref04_keys.mono : ∀ a0 a1 k, LeO (trivetref04_keys.f k a0 a1) (trivetref04_keys.f (k + 1) a0 a1) := by
 intro a0 a1 k
 have ih0 := trivetref04_keys.mono_l k
 unfold trivetref04_keys.f
 repeat' first
   | (with_reducible exact ih0 _ _ _)
   | (with_reducible exact trivetref04_num.mono _ _ _)
   | (with_reducible exact LeO.refl _)
   | (with_reducible exact LeO.none _)
   | (with_reducible refine LeO.ite ?_ ?_)
   | (with_reducible refine LeO.bind ?_ (fun _ => ?_))
   | exact ih0 _ _ _
   | exact trivetref04_num.mono _ _ _
   | exact LeO.none _
   | refine LeO.ite ?_ ?_
   | refine LeO.bind ?_ (fun _ => ?_)
def trivetref04_keys.T5 : Bool × List (List Nat × List Nat) := (true, [([], []), ([], []), ([], []), ([1, 2], [1, 2]), ([3], [3]), ([4], [4]), ([5], [5]), ([], []), ([], []), ([7, 8], [7, 8]), ([9], [9]), ([10], [10]), ([6, 11], [6, 11]), ([0, 12], [0, 12]), ([13, 13, 0, 1, 2, 3, 4, 5, 6, 7, 8, 9, 10, 11, 12, 13], [0, 13])])
def trivetref04_keys.B5 : List Nat := [0, 0, 0, 6, 14, 30, 62, 0, 0, 384, 896, 1920, 4094, 8191, 16383]
theorem trivetref04_keys.tab5 : rtab .any (opsOf Tryz.f150 5) = trivetref04_keys.T5 := by kernel_rfl
theorem trivetref04_keys.bits5 : waitsOk trivetref04_keys.T5.2 trivetref04_keys.B5 = true := by kernel_rfl
set_option maxHeartbeats 8000000 in
set_option maxRecDepth 100000 in
theorem trivetref04_keys.calls (k : Nat) (A0 : Option Addr) (c0 : Nat) (l0 : List Int) (A1 : Option Addr) (c1 : Nat) (l1 : List (S101)) (r : List Int) (w : World) (hr0 : Kd.C (Kd.int .u8) w A0 l0.length l0) (hc0 : l0.length ≤ c0) (hr1 : Kd.C k101 w A1 l1.length l1) (hc1 : l1.length ≤ c1) (h : trivetref04_keys.f k l0 l1 = some r) :
  Calls Tryz.prog 150 #[.slice A0 l0.length c0, .slice A1 l1.length c1] w fun e w' => ∃ v0_ : Value, e = .returned (v0_) ∧ Kd.R (Kd.int .u8) 5 w' w.heap.size (fun _ => True) v0_ r ∧ Below w.heap.size w w' := by
 have HR0 := Aside0.mk hr0
 have HC0 := Aside0.mk hc0
 clear hr0 hc0
 have HR1 := Aside0.mk hr1
 have HC1 := Aside0.mk hc1
 clear hr1 hc1
 have HB := Aside0.mk (Below.refl w.heap.size w)
 have H : ((trivetref04_num.f k l0 (([(l1.length : Int)] : List Int))).bind fun t340 => (trivetref04_keys.l0 k t340 l1 0)) = some r := h
 clear h
 obtain ⟨y337, hy337⟩ : ∃ y_ : List Int, y_ = (([(l1.length : Int)] : List Int)) := ⟨_, rfl⟩
 replace H : ((trivetref04_num.f k l0 y337).bind fun t340 => (trivetref04_keys.l0 k t340 l1 0)) = some r := by first | (rw [hy337]; with_reducible exact H) | (have H2_ := (Option.bind_some _ _).symm.trans H; rw [hy337]; with_reducible exact H2_) | (have H2_ := (Option.bind_some _ _).symm.trans H; with_reducible exact H2_) | with_reducible exact H | (rw [hy337]; exact H) | exact H
 have Ny337 := Aside0.mk hy337
 clear hy337
 replace H := Option.bind_eq_some_iff.mp H
 obtain ⟨t340, A30, H⟩ := H
 replace H : (trivetref04_keys.l0 k t340 l1 0) = some r := H
 have A3 := Aside0.mk A30
 clear A30
 have H' := Aside0.mk H
 clear H
 go_enter Tryz.func150, Tryz.ntmps150
 go_wp2_with (first | ((with_reducible refine gate_dst (N := 9) rfl ?_); refine Kd.R_lit (Kd.int .i64) _ 2 ?hg (N := 9) ?hd (xs := ([(l1.length : Int)] : List Int)) (inner := [.int .i64 (l1.length : Int)]) (ok := fun _ => True) (okp := fun _ => True) ?hr ?hp (fun _ hk => hk) trivial (Below.refl _ _) (Nat.le_refl _) (by simp) ?_; (case hd => rfl); (case hg => rfl); (case hr => first | (go_simp; done) | (go_simp; rfl)); (case hp => exact (Reps.one (show Kd.M (Kd.int .i64) _ _ _ (l1.length : Int) [.int .i64 (l1.length : Int)] from rfl) (Reps.none _ _))); intro v338 w4 ho5 hb hg_ hnew_; clear hg_ hnew_; (first | rw [← Ny337.out] at ho5 | (simp only [Int.reduceToNat] at ho5; rw [← Ny337.out] at ho5)); have n0_ := Aside0.mk (Kd.R_lower ho5 (below_size (stB HB.out))); have n1_ := Aside0.mk (below_step (stB HB.out) hb); clear HB; have HO339 := n0_; have HB := n1_; clear n0_ n1_; clear hb ho5; obtain ⟨Ao6, co6, eo6⟩ := Kd.R_slice HO339.out; subst eo6) | ((with_reducible refine gate_callee (f := 97) rfl ?_); refine goesL_ (some 10) rfl rfl Tryz.func97 (by kernel_rfl) rfl #[.slice A0 l0.length c0, .slice Ao6 y337.length co6] rfl (by (try simp only [List.map_toArray, List.map_cons, List.map_nil]); first | done | rfl | (simp only [List.length_drop, List.length_take]; rfl)) ?_; (with_reducible refine (trivetref04_num.calls k _ _ l0 _ _ y337 t340 _ ?side1 ?side2 ?side3 ?side4 A3.out).mono ?_); (case side1 => exact stC (Kd.C_below HR0.out HB.out)); (case side2 => exact HC0.out); (case side3 => exact stC ((Kd.R_reads' HO339.out).2.2)); (case side4 => exact (Kd.R_reads' HO339.out).2.1); rintro e w7 ⟨v341, rfl, ho0, hb⟩; refine ⟨_, rfl, ?_⟩; have n0_ := Aside0.mk (Kd.R_below (stR HO339.out) hb); have n1_ := Aside0.mk (Kd.R_lower ho0 (below_size (stB HB.out))); have n2_ := Aside0.mk (below_step (stB HB.out) hb); clear HO339; clear HB; have HO339 := n0_; have HO342 := n1_; have HB := n2_; clear n0_ n1_ n2_; (try clear hb); (try clear hb2); (try clear hk); (try clear hi); (try clear ho0)))
 go_loopg [0, 5] k (fun kq v0 v5 w' => ∃ (x0_1 : List Int) (x5_1 : Int), v5 = .int .i64 x5_1 ∧ Aside0 (trivetref04_keys.l0 kq x0_1 l1 x5_1 = some r) ∧ Aside0 (kq ≤ k) ∧ Aside0 (Kd.R (Kd.int .u8) 5 w' w.heap.size (fun _ => True) v0 x0_1) ∧ Aside0 (Below w.heap.size w w'))
 case atStart => exact ⟨(t340), (0), (by first | rfl | (simp; done) | (simp [*]; done)), H', ⟨Nat.le_refl _⟩, ⟨stR HO342.out⟩, ⟨stB HB.out⟩⟩
 case round =>
  clear H'
  try clear c1
  try clear p2
  obtain ⟨x0_1, x5_1, rfl, HA, HK1, HO_0, HB⟩ := hrel
  cases gk with
  | zero => exact absurd HA.out (by simp [trivetref04_keys.l0])
  | succ k1 =>
   have H := HA.out
   clear HA
   simp only [trivetref04_keys.l0] at H
   by_cases c8 : x5_1 < (l1.length : Int)
   ·rw [if_pos c8] at H
    have c8b0 : decide (x5_1 < (l1.length : Int)) = true := decide_eq_true c8
    clear c8
    by_cases c9 : 0 ≤ x5_1
    ·rw [if_pos c9] at H
     have c9b0 : decide (0 ≤ x5_1) = true := decide_eq_true c9
     clear c9
     obtain ⟨y345, hy345⟩ : ∃ y_ : List Int, y_ = (([wrap64 ((rd_T101 l1 x5_1).f0), (rd_T101 l1 x5_1).f1] : List Int)) := ⟨_, rfl⟩
     replace H : ((trivetref04_num.f k1 x0_1 y345).bind fun t348 => (trivetref04_keys.l0 k1 t348 l1 (wrap64 (x5_1 + 1)))) = some r := by first | (rw [hy345]; with_reducible exact H) | (have H2_ := (Option.bind_some _ _).symm.trans H; rw [hy345]; with_reducible exact H2_) | (have H2_ := (Option.bind_some _ _).symm.trans H; with_reducible exact H2_) | with_reducible exact H | (rw [hy345]; exact H) | exact H
     have Ny345 := Aside0.mk hy345
     clear hy345
     replace H := Option.bind_eq_some_iff.mp H
     obtain ⟨t348, A100, H⟩ := H
     replace H : (trivetref04_keys.l0 k1 t348 l1 (wrap64 (x5_1 + 1))) = some r := H
     have A10 := Aside0.mk A100
     clear A100
     have H' := Aside0.mk H
     clear H
     try go_wp2
     have n0_ := Aside0.mk (Kd.R_drew HO_0.out)
     have n1_ := Aside0.mk (below_drew1 HB.out)
     clear HO_0
     clear HB
     have HO_0 := n0_
     have HB := n1_
     clear n0_ n1_
     have p343 : 0 ≤ (x5_1 : Int) := of_decide_eq_true (by first | (with_reducible assumption) | assumption)
     have q343 : x5_1 < (l1.length : Int) := of_decide_eq_true (by first | (with_reducible assumption) | assumption)
     obtain ⟨ad343, e343, hx343_0, hx343_1⟩ := at_T101 HR1.out x5_1 p343 q343
     have hw343_1 := hx343_1
     have hw343_0 := hx343_0
     cases e343
     replace hx343_0 := (HB.out.cell (World.block_lt_of_cell? w _ hx343_0)).trans hx343_0
     replace hx343_1 := (HB.out.cell (World.block_lt_of_cell? w _ hx343_1)).trans hx343_1
     replace p343 := eq_true p343
     replace q343 := eq_true q343
     have p344 : 0 ≤ (x5_1 : Int) := of_decide_eq_true (by first | (with_reducible assumption) | assumption)
     have q344 : x5_1 < (l1.length : Int) := of_decide_eq_true (by first | (with_reducible assumption) | assumption)
     obtain ⟨ad344, e344, hx344_0, hx344_1⟩ := at_T101 HR1.out x5_1 p344 q344
     have hw344_1 := hx344_1
     have hw344_0 := hx344_0
     obtain rfl : ad343 = ad344 := (by injection e344)
     replace hx344_0 := (HB.out.cell (World.block_lt_of_cell? w _ hx344_0)).trans hx344_0
     replace hx344_1 := (HB.out.cell (World.block_lt_of_cell? w _ hx344_1)).trans hx344_1
     replace p344 := eq_true p344
     replace q344 := eq_true q344
     refine start_ (n := 15) (S := fun w' => w'.cell? (ad343.add ((x5_1).toNat * 2)) = some (.int .i32 ((rd_T101 l1 x5_1).f0)) ∧ w'.cell? ⟨(ad343.add ((x5_1).toNat * 2)).block, (ad343.add ((x5_1).toNat * 2)).off + 1, none⟩ = some (.int .i64 ((rd_T101 l1 x5_1).f1)) ∧ w'.cell? (ad343.add ((x5_1).toNat * 2)) = some (.int .i32 ((rd_T101 l1 x5_1).f0)) ∧ w'.cell? ⟨(ad343.add ((x5_1).toNat * 2)).block, (ad343.add ((x5_1).toNat * 2)).off + 1, none⟩ = some (.int .i64 ((rd_T101 l1 x5_1).f1))) (ds := []) #[false, false, false, false, false, false, false, false, false, false, false, false, false, false, false] (by kernel_rfl) rfl rfl ⟨((HB.out.cell (World.block_lt_of_cell? w _ hw343_0)).trans hw343_0), ((HB.out.cell (World.block_lt_of_cell? w _ hw343_1)).trans hw343_1), ((HB.out.cell (World.block_lt_of_cell? w _ hw344_0)).trans hw344_0), ((HB.out.cell (World.block_lt_of_cell? w _ hw344_1)).trans hw344_1)⟩ (fun hHeld => ?_); refine with_tabW trivetref04_keys.tab5 trivetref04_keys.bits5 (fun HT_ HW_ => ?_)
     generalize wr.drew = w11 at HO_0 HB hx343_0 hx343_1 hx344_0 hx344_1 hHeld ⊢
     refine pure_ (i := 0) (N := some 17) (v := ?_) (a' := ?_) #[true, false, false, false, false, false, false, false, false, false, false, false, false, false, false] rfl rfl (any_of HT_.out (by kernel_rfl)) (fun _ _ _ h => h) (Or.inl ⟨by rfl, ?_⟩) ?_ ?_
     rotate_left
     ·intro w'
      go_simp
      with_reducible rfl
     rotate_left
     ·simp only [Act.put, List.setIfInBounds_toArray, List.set_cons_zero, List.set_cons_succ, i64_w, i32_w]
      rfl
     refine pure_ (i := 1) (N := some 18) (v := ?_) (a' := ?_) #[true, true, false, false, false, false, false, false, false, false, false, false, false, false, false] rfl rfl (any_of HT_.out (by kernel_rfl)) (fun _ _ _ h => h) (Or.inl ⟨by rfl, ?_⟩) ?_ ?_
     rotate_left
     ·intro w'
      go_simp
      with_reducible rfl
     rotate_left
     ·simp only [Act.put, List.setIfInBounds_toArray, List.set_cons_zero, List.set_cons_succ, i64_w, i32_w]
      rfl
     refine pure_ (i := 2) (N := some 19) (v := ?_) (a' := ?_) #[true, true, true, false, false, false, false, false, false, false, false, false, false, false, false] rfl rfl (any_of HT_.out (by kernel_rfl)) (fun _ _ _ h => h) (Or.inl ⟨by rfl, ?_⟩) ?_ ?_
     rotate_left
     ·intro w'
      go_simp
      with_reducible rfl
     rotate_left
     ·simp only [Act.put, List.setIfInBounds_toArray, List.set_cons_zero, List.set_cons_succ, i64_w, i32_w]
      rfl
     refine pure_ (i := 3) (N := some 20) (v := ?_) (a' := ?_) #[true, true, true, true, false, false, false, false, false, false, false, false, false, false, false] rfl rfl (any_of HT_.out (by kernel_rfl)) (fun _ _ _ h => h) (Or.inl ⟨by rfl, ?_⟩) ?_ ?_
     rotate_left
     ·intro w'
      go_simp
      with_reducible rfl
     rotate_left
     ·simp only [Act.put, List.setIfInBounds_toArray, List.set_cons_zero, List.set_cons_succ, i64_w, i32_w]
      rfl
     refine pure_ (i := 4) (N := some 21) (v := ?_) (a' := ?_) #[true, true, true, true, true, false, false, false, false, false, false, false, false, false, false] rfl rfl (any_of HT_.out (by kernel_rfl)) (fun _ _ _ h => h) (Or.inl ⟨by rfl, ?_⟩) ?_ ?_
     rotate_left
     ·intro w'
      go_simp
      with_reducible rfl
     rotate_left
     ·simp only [Act.put, List.setIfInBounds_toArray, List.set_cons_zero, List.set_cons_succ, i64_w, i32_w]
      rfl
     refine pure_ (i := 7) (N := some 24) (v := ?_) (a' := ?_) #[true, true, true, true, true, false, false, true, false, false, false, false, false, false, false] rfl rfl (any_of HT_.out (by kernel_rfl)) (fun _ _ _ h => h) (Or.inl ⟨by rfl, ?_⟩) ?_ ?_
     rotate_left
     ·intro w'
      go_simp
      with_reducible rfl
     rotate_left
     ·simp only [Act.put, List.setIfInBounds_toArray, List.set_cons_zero, List.set_cons_succ, i64_w, i32_w]
      rfl
     refine pure_ (i := 8) (N := some 25) (v := ?_) (a' := ?_) #[true, true, true, true, true, false, false, true, true, false, false, false, false, false, false] rfl rfl (any_of HT_.out (by kernel_rfl)) (fun _ _ _ h => h) (Or.inl ⟨by rfl, ?_⟩) ?_ ?_
     rotate_left
     ·intro w'
      go_simp
      with_reducible rfl
     rotate_left
     ·simp only [Act.put, List.setIfInBounds_toArray, List.set_cons_zero, List.set_cons_succ, i64_w, i32_w]
      rfl
     refine pure_ (i := 9) (N := some 26) (v := ?_) (a' := ?_) #[true, true, true, true, true, false, false, true, true, true, false, false, false, false, false] rfl rfl (any_of HT_.out (by kernel_rfl)) (fun _ _ _ h => h) (Or.inl ⟨by rfl, ?_⟩) ?_ ?_
     rotate_left
     ·intro w'
      go_simp
      with_reducible rfl
     rotate_left
     ·simp only [Act.put, List.setIfInBounds_toArray, List.set_cons_zero, List.set_cons_succ, i64_w, i32_w]
      rfl
     refine pure_ (i := 10) (N := some 27) (v := ?_) (a' := ?_) #[true, true, true, true, true, false, false, true, true, true, true, false, false, false, false] rfl rfl (any_of HT_.out (by kernel_rfl)) (fun _ _ _ h => h) (Or.inl ⟨by rfl, ?_⟩) ?_ ?_
     rotate_left
     ·intro w'
      go_simp
      with_reducible rfl
     rotate_left
     ·simp only [Act.put, List.setIfInBounds_toArray, List.set_cons_zero, List.set_cons_succ, i64_w, i32_w]
      rfl
     refine take_ (i := 5) (N := some 22) (v := ?_) (a' := ?_) #[true, true, true, true, true, true, false, true, true, true, true, false, false, false, false] rfl rfl (take_ofW HT_.out HW_.out (by kernel_rfl)) (fun _ _ _ h => h) (Or.inl ⟨by rfl, ?_⟩) hHeld ?_ ?_
     rotate_left
     ·rintro w' ⟨s0, s1, s2, s3⟩
      go_simp
      with_reducible rfl
     rotate_left
     ·simp only [Act.put, List.setIfInBounds_toArray, List.set_cons_zero, List.set_cons_succ, i64_w, i32_w]
      rfl
     refine pure_ (i := 6) (N := some 23) (v := ?_) (a' := ?_) #[true, true, true, true, true, true, true, true, true, true, true, false, false, false, false] rfl rfl (any_of HT_.out (by kernel_rfl)) (fun _ _ _ h => h) (Or.inl ⟨by rfl, ?_⟩) ?_ ?_
     rotate_left
     ·intro w'
      go_simp
      with_reducible rfl
     rotate_left
     ·simp only [Act.put, List.setIfInBounds_toArray, List.set_cons_zero, List.set_cons_succ, i64_w, i32_w]
      rfl
     refine take_ (i := 11) (N := some 28) (v := ?_) (a' := ?_) #[true, true, true, true, true, true, true, true, true, true, true, true, false, false, false] rfl rfl (take_ofW HT_.out HW_.out (by kernel_rfl)) (fun _ _ _ h => h) (Or.inl ⟨by rfl, ?_⟩) hHeld ?_ ?_
     rotate_left
     ·rintro w' ⟨s0, s1, s2, s3⟩
      go_simp
      with_reducible rfl
     rotate_left
     ·simp only [Act.put, List.setIfInBounds_toArray, List.set_cons_zero, List.set_cons_succ, i64_w, i32_w]
      rfl
     refine one_ (i := 12) (N := some 29) #[true, true, true, true, true, true, true, true, true, true, true, true, true, false, false] rfl rfl (one_of HT_.out (by kernel_rfl)) (by decide) (fun K hK => ?_)
     refine Kd.R_lit_step (Kd.int .i64) _ 2 ?hg (N := 29) ?hd (xs := ([wrap64 ((rd_T101 l1 x5_1).f0), (rd_T101 l1 x5_1).f1] : List Int)) (inner := [.int .i64 (wrap64 ((rd_T101 l1 x5_1).f0)), .int .i64 ((rd_T101 l1 x5_1).f1)]) (ok := fun _ => True) (okp := fun _ => True) ?hr ?hp (fun _ hk => hk) trivial (Below.refl _ _) (Nat.le_refl _) (by simp) ?_; (case hd => rfl); (case hg => rfl); (case hr => first | (go_simp; done) | (go_simp; rfl)); (case hp => exact (Reps.one (show Kd.M (Kd.int .i64) _ _ _ (wrap64 ((rd_T101 l1 x5_1).f0)) [.int .i64 (wrap64 ((rd_T101 l1 x5_1).f0))] from rfl) (Reps.one (show Kd.M (Kd.int .i64) _ _ _ ((rd_T101 l1 x5_1).f1) [.int .i64 ((rd_T101 l1 x5_1).f1)] from rfl) (Reps.none _ _))))
     intro v346 w12 ho13 hb hg_ hnew_
     clear hg_ hnew_
     (first | rw [← Ny345.out] at ho13 | (simp only [Int.reduceToNat] at ho13; rw [← Ny345.out] at ho13))
     have n0_ := Aside0.mk (Kd.R_below (stR HO_0.out) hb)
     have n1_ := Aside0.mk (Kd.R_lower ho13 (below_size (stB HB.out)))
     have n2_ := Aside0.mk (below_step (stB HB.out) hb)
     clear HO_0
     clear HB
     have HO_0 := n0_
     have HO347 := n1_
     have HB := n2_
     clear n0_ n1_ n2_
     clear hb ho13
     obtain ⟨Ao14, co14, eo14⟩ := Kd.R_slice HO_0.out
     (first | subst eo14 | (injection eo14 with f1_ f2_ f3_; have f4_ := f1_.symm; have f5_ := f3_.symm; clear f1_ f2_ f3_; subst f4_; subst f5_))
     obtain ⟨Ao15, co15, eo15⟩ := Kd.R_slice HO347.out
     (first | subst eo15 | (injection eo15 with f1_ f2_ f3_; have f4_ := f1_.symm; have f5_ := f3_.symm; clear f1_ f2_ f3_; subst f4_; subst f5_))
     refine hK.out _ _ ⟨((HB.out.cell (World.block_lt_of_cell? w _ hw343_0)).trans hw343_0), ((HB.out.cell (World.block_lt_of_cell? w _ hw343_1)).trans hw343_1), ((HB.out.cell (World.block_lt_of_cell? w _ hw344_0)).trans hw344_0), ((HB.out.cell (World.block_lt_of_cell? w _ hw344_1)).trans hw344_1)⟩ (fun hHeld => ?_)
     clear hK K
     refine norm_ (a' := ?_) ?_ ?_
     rotate_left
     ·show Act.put _ (some 29) _ = _
      simp only [Act.put, List.setIfInBounds_toArray, List.set_cons_zero, List.set_cons_succ, i64_w, i32_w]
      rfl
     refine one_ (i := 13) (N := some 30) #[true, true, true, true, true, true, true, true, true, true, true, true, true, true, false] rfl rfl (one_of HT_.out (by kernel_rfl)) (by decide) (fun K hK => ?_)
     refine goes_ Tryz.func97 (by kernel_rfl) rfl #[.slice Ao14 x0_1.length co14, .slice Ao15 y345.length co15] (by rfl) rfl rfl (by (try simp only [List.map_toArray, List.map_cons, List.map_nil]); first | done | rfl | (simp only [List.length_drop, List.length_take]; rfl)) ?_
     with_reducible refine (trivetref04_num.calls k1 _ _ x0_1 _ _ y345 t348 _ ?side1 ?side2 ?side3 ?side4 A10.out).mono ?_
     (case side1 => exact stC ((Kd.R_reads' HO_0.out).2.2))
     (case side2 => exact (Kd.R_reads' HO_0.out).2.1)
     (case side3 => exact stC ((Kd.R_reads' HO347.out).2.2))
     (case side4 => exact (Kd.R_reads' HO347.out).2.1)
     rintro e w16 ⟨v349, rfl, ho0, hb⟩
     refine ⟨_, rfl, ?_⟩
     have n0_ := Aside0.mk (Kd.R_elder' (stR HO_0.out) (Kd.R_base ho0) hb)
     have n1_ := Aside0.mk (Kd.R_below (stR HO347.out) hb)
     have n2_ := Aside0.mk (Kd.R_lower (Kd.R_new' ho0 (Kd.R_lt (stR HO_0.out))) (below_size (stB HB.out)))
     have n3_ := Aside0.mk (below_step (stB HB.out) hb)
     clear HO_0
     clear HO347
     clear HB
     have HO_0 := n0_
     have HO347 := n1_
     have HO350 := n2_
     have HB := n3_
     clear n0_ n1_ n2_ n3_
     (try clear hb)
     (try clear hb2)
     (try clear hk)
     (try clear hi)
     (try clear ho0)
     refine hK.out _ _ ⟨((HB.out.cell (World.block_lt_of_cell? w _ hw343_0)).trans hw343_0), ((HB.out.cell (World.block_lt_of_cell? w _ hw343_1)).trans hw343_1), ((HB.out.cell (World.block_lt_of_cell? w _ hw344_0)).trans hw344_0), ((HB.out.cell (World.block_lt_of_cell? w _ hw344_1)).trans hw344_1)⟩ (fun hHeld => ?_)
     clear hK K
     refine norm_ (a' := ?_) ?_ ?_
     rotate_left
     ·show Act.put _ (some 30) _ = _
      simp only [Act.put, List.setIfInBounds_toArray, List.set_cons_zero, List.set_cons_succ, i64_w, i32_w]
      rfl
     refine pure_ (i := 14) (N := some 0) (v := ?_) (a' := ?_) #[true, true, true, true, true, true, true, true, true, true, true, true, true, true, true] rfl rfl (any_of HT_.out (by kernel_rfl)) (fun _ _ _ h => h) (Or.inl ⟨by rfl, ?_⟩) ?_ ?_
     rotate_left
     ·intro w'
      go_simp
      with_reducible rfl
     rotate_left
     ·simp only [Act.put, List.setIfInBounds_toArray, List.set_cons_zero, List.set_cons_succ, i64_w, i32_w]
      rfl
     refine done_ (done_of HT_.out (by kernel_rfl)) ?_
     try go_wp2
     go_roundg k1
     case measure => have := HK1.out; omega
     case rel => exact ⟨(t348), (wrap64 (x5_1 + 1)), (by first | rfl | (simp; done) | (simp [*]; done)), H', ⟨by have := HK1.out; omega⟩, ⟨by (with_reducible repeat (first|apply Kd.R_alloc | apply Kd.R_drewN | apply Kd.R_drew)); exact Kd.R_mono HO350.out (fun _ hk => trivial)⟩, ⟨stB HB.out⟩⟩
    ·rw [if_neg c9] at H
     exact absurd H (by simp)
   ·rw [if_neg c8] at H
    have c8b0 : decide (x5_1 < (l1.length : Int)) = false := decide_eq_false c8
    clear c8
    obtain rfl := Option.some.inj H
    go_wp2
    go_ret
    exact ⟨_, by first | rfl | (simp [errW_none, errW_some] <;> rfl) | (simp [*, errW_none, errW_some] <;> rfl), stR HO_0.out, stB HB.out⟩
end Go.Proofs.YtgiefblcckikeaaGreat.G
end

section
-- Written by a program of this session's (wip/gprint.py over the kit's printer).
namespace Go.Proofs.YtgiefblcckikeaaGreat.G
open Go.RowKit Go.Proofs.YtgiefblcckikeaaGreatW.PrintWords Go.Proofs.YtgiefblcckikeaaGreatW.PrintLast Go.Proofs.YtgiefblcckikeaaGreatW.PrintMore
attribute [local go_sem] max2_int min2_int max_two min_two max_three min_three max_four min_four   -- for this text's walks alone
def trivetref04_TxnForm.f (k : Nat) (a0_0 : Int) (a0_1 : Int) (l0_2 : List Int) (l0_3 : List Int) (l0_4 : List (S101)) (l0_5 : List (S101)) : Option (List Int) := (trivetref04_num.f k ([] : List Int) (([a0_0, a0_1] : List Int))).bind fun t355 => ((trivetref01_Blob.f k t355 l0_2).bind fun t358 => ((trivetref04_num.f k t358 (([(l0_3.length : Int)] : List Int))).bind fun t364 => ((trivetref04_num.f k t364 l0_3).bind fun t367 => ((trivetref04_keys.f k t367 l0_4).bind fun t370 => ((trivetref04_keys.f k t370 l0_5).bind fun t373 => (some t373))))))
theorem trivetref04_TxnForm.mono : ∀ a0 a1 a2 a3 a4 a5 k, LeO (trivetref04_TxnForm.f k a0 a1 a2 a3 a4 a5) (trivetref04_TxnForm.f (k + 1) a0 a1 a2 a3 a4 a5) := by
 intro a0 a1 a2 a3 a4 a5 k
 unfold trivetref04_TxnForm.f
 repeat' first
   | (with_reducible exact trivetref01_Blob.mono _ _ _)
   | (with_reducible exact trivetref04_keys.mono _ _ _)
   | (with_reducible exact trivetref04_num.mono _ _ _)
   | (with_reducible exact LeO.refl _)
   | (with_reducible exact LeO.none _)
   | (with_reducible refine LeO.ite ?_ ?_)
   | (with_reducible refine LeO.bind ?_ (fun _ => ?_))
   | exact trivetref01_Blob.mono _ _ _
   | exact trivetref04_keys.mono _ _ _
   | exact trivetref04_num.mono _ _ _
   | exact LeO.none _
   | refine LeO.ite ?_ ?_
   | refine LeO.bind ?_ (fun _ => ?_)
def trivetref04_TxnForm.T1 : Bool × List (List Nat × List Nat) := (true, [([], []), ([0], [0]), ([], []), ([2], [2]), ([1, 3], [1, 3]), ([4], [4]), ([], []), ([6], [6]), ([5, 7, 5], [5, 7]), ([8, 8, 0, 1, 2, 3, 4, 5, 6, 7, 8], [8])])
def trivetref04_TxnForm.B1 : List Nat := [0, 1, 0, 4, 15, 31, 0, 64, 255, 511]
theorem trivetref04_TxnForm.tab1 : rtab .any (opsOf Tryz.f98 1) = trivetref04_TxnForm.T1 := by kernel_rfl
theorem trivetref04_TxnForm.bits1 : waitsOk trivetref04_TxnForm.T1.2 trivetref04_TxnForm.B1 = true := by kernel_rfl
def trivetref04_TxnForm.T2 : Bool × List (List Nat × List Nat) := (true, [([], []), ([], []), ([1], [1]), ([2], [2]), ([3], [3]), ([0, 4], [0, 4]), ([], []), ([6], [6]), ([5, 7, 5], [5, 7]), ([8, 8, 0, 1, 2, 3, 4, 5, 6, 7, 8], [0, 8])])
def trivetref04_TxnForm.B2 : List Nat := [0, 0, 2, 6, 14, 31, 0, 64, 255, 511]
theorem trivetref04_TxnForm.tab2 : rtab .any (opsOf Tryz.f98 2) = trivetref04_TxnForm.T2 := by kernel_rfl
theorem trivetref04_TxnForm.bits2 : waitsOk trivetref04_TxnForm.T2.2 trivetref04_TxnForm.B2 = true := by kernel_rfl
def trivetref04_TxnForm.T3 : Bool × List (List Nat × List Nat) := (true, [([], []), ([], []), ([1], [1]), ([0, 2], [0, 2]), ([], []), ([4], [4]), ([3, 5, 3], [3, 5]), ([6, 6, 0, 1, 2, 3, 4, 5, 6], [6])])
def trivetref04_TxnForm.B3 : List Nat := [0, 0, 2, 7, 0, 16, 63, 127]
theorem trivetref04_TxnForm.tab3 : rtab .any (opsOf Tryz.f98 3) = trivetref04_TxnForm.T3 := by kernel_rfl
theorem trivetref04_TxnForm.bits3 : waitsOk trivetref04_TxnForm.T3.2 trivetref04_TxnForm.B3 = true := by kernel_rfl
set_option maxHeartbeats 8000000 in
set_option maxRecDepth 100000 in
theorem trivetref04_TxnForm.calls (k : Nat) (a0_0 : Int) (a0_1 : Int) (A0_2 : Option Addr) (c0_2 : Nat) (l0_2 : List Int) (A0_3 : Option Addr) (c0_3 : Nat) (l0_3 : List Int) (A0_4 : Option Addr) (c0_4 : Nat) (l0_4 : List (S101)) (A0_5 : Option Addr) (c0_5 : Nat) (l0_5 : List (S101)) (r : List Int) (w : World) (hr0_2 : Kd.C (Kd.int .u8) w A0_2 l0_2.length l0_2) (hc0_2 : l0_2.length ≤ c0_2) (hr0_3 : Kd.C (Kd.int .i64) w A0_3 l0_3.length l0_3) (hc0_3 : l0_3.length ≤ c0_3) (hr0_4 : Kd.C k101 w A0_4 l0_4.length l0_4) (hc0_4 : l0_4.length ≤ c0_4) (hr0_5 : Kd.C k101 w A0_5 l0_5.length l0_5) (hc0_5 : l0_5.length ≤ c0_5) (h : trivetref04_TxnForm.f k a0_0 a0_1 l0_2 l0_3 l0_4 l0_5 = some r) :
  Calls Tryz.prog 98 #[.agg #[.int .i64 a0_0, .int .i64 a0_1, .slice A0_2 l0_2.length c0_2, .slice A0_3 l0_3.length c0_3, .slice A0_4 l0_4.length c0_4, .slice A0_5 l0_5.length c0_5]] w fun e w' => ∃ v0_ : Value, e = .returned (v0_) ∧ Kd.R (Kd.int .u8) 5 w' w.heap.size (fun _ => True) v0_ r ∧ Below w.heap.size w w' := by
 have hu26 := Tryz.underlying26
 have HR0_2 := Aside0.mk hr0_2
 have HC0_2 := Aside0.mk hc0_2
 clear hr0_2 hc0_2
 have HR0_3 := Aside0.mk hr0_3
 have HC0_3 := Aside0.mk hc0_3
 clear hr0_3 hc0_3
 have HR0_4 := Aside0.mk hr0_4
 have HC0_4 := Aside0.mk hc0_4
 clear hr0_4 hc0_4
 have HR0_5 := Aside0.mk hr0_5
 have HC0_5 := Aside0.mk hc0_5
 clear hr0_5 hc0_5
 have HB := Aside0.mk (Below.refl w.heap.size w)
 have H : ((trivetref04_num.f k ([] : List Int) (([a0_0, a0_1] : List Int))).bind fun t355 => ((trivetref01_Blob.f k t355 l0_2).bind fun t358 => ((trivetref04_num.f k t358 (([(l0_3.length : Int)] : List Int))).bind fun t364 => ((trivetref04_num.f k t364 l0_3).bind fun t367 => ((trivetref04_keys.f k t367 l0_4).bind fun t370 => ((trivetref04_keys.f k t370 l0_5).bind fun t373 => (some t373))))))) = some r := h
 clear h
 obtain ⟨y352, hy352⟩ : ∃ y_ : List Int, y_ = (([a0_0, a0_1] : List Int)) := ⟨_, rfl⟩
 replace H : ((trivetref04_num.f k ([] : List Int) y352).bind fun t355 => ((trivetref01_Blob.f k t355 l0_2).bind fun t358 => ((trivetref04_num.f k t358 (([(l0_3.length : Int)] : List Int))).bind fun t364 => ((trivetref04_num.f k t364 l0_3).bind fun t367 => ((trivetref04_keys.f k t367 l0_4).bind fun t370 => ((trivetref04_keys.f k t370 l0_5).bind fun t373 => (some t373))))))) = some r := by first | (rw [hy352]; with_reducible exact H) | (have H2_ := (Option.bind_some _ _).symm.trans H; rw [hy352]; with_reducible exact H2_) | (have H2_ := (Option.bind_some _ _).symm.trans H; with_reducible exact H2_) | with_reducible exact H | (rw [hy352]; exact H) | exact H
 have Ny352 := Aside0.mk hy352
 clear hy352
 replace H := Option.bind_eq_some_iff.mp H
 obtain ⟨t355, A20, H⟩ := H
 replace H : ((trivetref01_Blob.f k t355 l0_2).bind fun t358 => ((trivetref04_num.f k t358 (([(l0_3.length : Int)] : List Int))).bind fun t364 => ((trivetref04_num.f k t364 l0_3).bind fun t367 => ((trivetref04_keys.f k t367 l0_4).bind fun t370 => ((trivetref04_keys.f k t370 l0_5).bind fun t373 => (some t373)))))) = some r := H
 have A2 := Aside0.mk A20
 clear A20
 replace H := Option.bind_eq_some_iff.mp H
 obtain ⟨t358, A30, H⟩ := H
 replace H : ((trivetref04_num.f k t358 (([(l0_3.length : Int)] : List Int))).bind fun t364 => ((trivetref04_num.f k t364 l0_3).bind fun t367 => ((trivetref04_keys.f k t367 l0_4).bind fun t370 => ((trivetref04_keys.f k t370 l0_5).bind fun t373 => (some t373))))) = some r := H
 have A3 := Aside0.mk A30
 clear A30
 obtain ⟨y361, hy361⟩ : ∃ y_ : List Int, y_ = (([(l0_3.length : Int)] : List Int)) := ⟨_, rfl⟩
 replace H : ((trivetref04_num.f k t358 y361).bind fun t364 => ((trivetref04_num.f k t364 l0_3).bind fun t367 => ((trivetref04_keys.f k t367 l0_4).bind fun t370 => ((trivetref04_keys.f k t370 l0_5).bind fun t373 => (some t373))))) = some r := by first | (rw [hy361]; with_reducible exact H) | (have H2_ := (Option.bind_some _ _).symm.trans H; rw [hy361]; with_reducible exact H2_) | (have H2_ := (Option.bind_some _ _).symm.trans H; with_reducible exact H2_) | with_reducible exact H | (rw [hy361]; exact H) | exact H
 have Ny361 := Aside0.mk hy361
 clear hy361
 replace H := Option.bind_eq_some_iff.mp H
 obtain ⟨t364, A40, H⟩ := H
 replace H : ((trivetref04_num.f k t364 l0_3).bind fun t367 => ((trivetref04_keys.f k t367 l0_4).bind fun t370 => ((trivetref04_keys.f k t370 l0_5).bind fun t373 => (some t373)))) = some r := H
 have A4 := Aside0.mk A40
 clear A40
 replace H := Option.bind_eq_some_iff.mp H
 obtain ⟨t367, A50, H⟩ := H
 replace H : ((trivetref04_keys.f k t367 l0_4).bind fun t370 => ((trivetref04_keys.f k t370 l0_5).bind fun t373 => (some t373))) = some r := H
 have A5 := Aside0.mk A50
 clear A50
 replace H := Option.bind_eq_some_iff.mp H
 obtain ⟨t370, A60, H⟩ := H
 replace H : ((trivetref04_keys.f k t370 l0_5).bind fun t373 => (some t373)) = some r := H
 have A6 := Aside0.mk A60
 clear A60
 replace H := Option.bind_eq_some_iff.mp H
 obtain ⟨t373, A70, H⟩ := H
 replace H : (some t373) = some r := H
 have A7 := Aside0.mk A70
 clear A70
 obtain rfl := Option.some.inj H
 go_enter Tryz.func98, Tryz.ntmps98
 try go_wp2_with (first | ((with_reducible refine gate_dst (N := 1) rfl ?_); refine box_event ?hg (N := 1) ?hd (cs := #[.int .i64 a0_0, .int .i64 a0_1, .slice A0_2 l0_2.length c0_2, .slice A0_3 l0_3.length c0_3, .slice A0_4 l0_4.length c0_4, .slice A0_5 l0_5.length c0_5]) (t := 26) ?hr ?_; (case hd => rfl); (case hg => rfl); (case hr => first | (go_simp; done) | (go_simp; rfl)); intro gb351 hg w8 hbox hb; have n0_ := Aside0.mk (below_step (stB HB.out) hb); have n1_ := Aside0.mk (hbox); have n2_ := Aside0.mk ((by rw [hg]; exact (below_size (stB HB.out)) : w.heap.size ≤ gb351)); have n3_ := Aside0.mk ((by rw [hg]; exact (below_size (stB HB.out)) : w.heap.size ≤ gb351)); clear HB; have HB := n0_; have BK351 := n1_; have GW351 := n2_; have GE351 := n3_; clear n0_ n1_ n2_ n3_; clear hb hbox hg))
 have n0_ := Aside0.mk (blk_drew BK351.out)
 have n1_ := Aside0.mk (below_drew1 HB.out)
 clear BK351
 clear HB
 have BK351 := n0_
 have HB := n1_
 clear n0_ n1_
 refine start_ (n := 10) (S := fun w' => w'.cell? ⟨gb351, 0, none⟩ = some (.int .i64 a0_0) ∧ w'.cell? ⟨gb351, 1, none⟩ = some (.int .i64 a0_1) ∧ w'.cell? ⟨gb351, 2, none⟩ = some (.slice A0_2 l0_2.length c0_2) ∧ w'.cell? ⟨gb351, 3, none⟩ = some (.slice A0_3 l0_3.length c0_3) ∧ w'.cell? ⟨gb351, 4, none⟩ = some (.slice A0_4 l0_4.length c0_4) ∧ w'.cell? ⟨gb351, 5, none⟩ = some (.slice A0_5 l0_5.length c0_5)) (ds := []) #[false, false, false, false, false, false, false, false, false, false] (by kernel_rfl) rfl rfl (bc6 BK351.out) (fun hHeld => ?_); refine with_tabW trivetref04_TxnForm.tab1 trivetref04_TxnForm.bits1 (fun HT_ HW_ => ?_)
 generalize w8.drew = w9 at BK351 HB hHeld ⊢
 refine pure_ (i := 0) (N := some 4) (v := ?_) (a' := ?_) #[true, false, false, false, false, false, false, false, false, false] rfl rfl (any_of HT_.out (by kernel_rfl)) (fun _ _ _ h => h) (Or.inl ⟨by rfl, ?_⟩) ?_ ?_
 rotate_left
 ·intro w'
  go_simp
  with_reducible rfl
 rotate_left
 ·simp only [Act.put, List.setIfInBounds_toArray, List.set_cons_zero, List.set_cons_succ, i64_w, i32_w]
  rfl
 refine pure_ (i := 2) (N := some 6) (v := ?_) (a' := ?_) #[true, false, true, false, false, false, false, false, false, false] rfl rfl (any_of HT_.out (by kernel_rfl)) (fun _ _ _ h => h) (Or.inl ⟨by rfl, ?_⟩) ?_ ?_
 rotate_left
 ·intro w'
  go_simp
  with_reducible rfl
 rotate_left
 ·simp only [Act.put, List.setIfInBounds_toArray, List.set_cons_zero, List.set_cons_succ, i64_w, i32_w]
  rfl
 refine pure_ (i := 6) (N := some 10) (v := ?_) (a' := ?_) #[true, false, true, false, false, false, true, false, false, false] rfl rfl (any_of HT_.out (by kernel_rfl)) (fun _ _ _ h => h) (Or.inl ⟨by rfl, ?_⟩) ?_ ?_
 rotate_left
 ·intro w'
  go_simp
  with_reducible rfl
 rotate_left
 ·simp only [Act.put, List.setIfInBounds_toArray, List.set_cons_zero, List.set_cons_succ, i64_w, i32_w]
  rfl
 refine take_ (i := 1) (N := some 5) (v := ?_) (a' := ?_) #[true, true, true, false, false, false, true, false, false, false] rfl rfl (take_ofW HT_.out HW_.out (by kernel_rfl)) (fun _ _ _ h => h) (Or.inl ⟨by rfl, ?_⟩) hHeld ?_ ?_
 rotate_left
 ·rintro w' ⟨s0, s1, s2, s3, s4, s5⟩
  go_simp
  with_reducible rfl
 rotate_left
 ·simp only [Act.put, List.setIfInBounds_toArray, List.set_cons_zero, List.set_cons_succ, i64_w, i32_w]
  rfl
 refine take_ (i := 3) (N := some 7) (v := ?_) (a' := ?_) #[true, true, true, true, false, false, true, false, false, false] rfl rfl (take_ofW HT_.out HW_.out (by kernel_rfl)) (fun _ _ _ h => h) (Or.inl ⟨by rfl, ?_⟩) hHeld ?_ ?_
 rotate_left
 ·rintro w' ⟨s0, s1, s2, s3, s4, s5⟩
  go_simp
  with_reducible rfl
 rotate_left
 ·simp only [Act.put, List.setIfInBounds_toArray, List.set_cons_zero, List.set_cons_succ, i64_w, i32_w]
  rfl
 refine take_ (i := 7) (N := some 11) (v := ?_) (a' := ?_) #[true, true, true, true, false, false, true, true, false, false] rfl rfl (take_ofW HT_.out HW_.out (by kernel_rfl)) (fun _ _ _ h => h) (Or.inl ⟨by rfl, ?_⟩) hHeld ?_ ?_
 rotate_left
 ·rintro w' ⟨s0, s1, s2, s3, s4, s5⟩
  go_simp
  with_reducible rfl
 rotate_left
 ·simp only [Act.put, List.setIfInBounds_toArray, List.set_cons_zero, List.set_cons_succ, i64_w, i32_w]
  rfl
 refine one_ (i := 4) (N := some 8) #[true, true, true, true, true, false, true, true, false, false] rfl rfl (one_of HT_.out (by kernel_rfl)) (by decide) (fun K hK => ?_)
 refine Kd.R_lit_step (Kd.int .i64) _ 2 ?hg (N := 8) ?hd (xs := ([a0_0, a0_1] : List Int)) (inner := [.int .i64 a0_0, .int .i64 a0_1]) (ok := fun _ => True) (okp := fun _ => True) ?hr ?hp (fun _ hk => hk) trivial (Below.refl _ _) (Nat.le_refl _) (by simp) ?_; (case hd => rfl); (case hg => rfl); (case hr => first | (go_simp; done) | (go_simp; rfl)); (case hp => exact (Reps.one (show Kd.M (Kd.int .i64) _ _ _ a0_0 [.int .i64 a0_0] from rfl) (Reps.one (show Kd.M (Kd.int .i64) _ _ _ a0_1 [.int .i64 a0_1] from rfl) (Reps.none _ _))))
 intro v353 w10 ho11 hb hg_ hnew_
 clear hg_ hnew_
 (first | rw [← Ny352.out] at ho11 | (simp only [Int.reduceToNat] at ho11; rw [← Ny352.out] at ho11))
 have n0_ := Aside0.mk (Kd.R_lower ho11 (below_size (by repeat (first | (with_reducible first | exact HB.out | apply below_alloc | apply pw_below_drewN | apply below_drew1 | refine below_set ?_ GE351.out) | exact HB.out))))
 have n1_ := Aside0.mk (blk_below (g := gb351) (o := .cells #[.int .i64 a0_0, .int .i64 a0_1, .slice A0_2 l0_2.length c0_2, .slice A0_3 l0_3.length c0_3, .slice A0_4 l0_4.length c0_4, .slice A0_5 l0_5.length c0_5] 26 (0, 0)) (stK BK351.out) hb)
 have n2_ := Aside0.mk (below_step (by repeat (first | (with_reducible first | exact HB.out | apply below_alloc | apply pw_below_drewN | apply below_drew1 | refine below_set ?_ GE351.out) | exact HB.out)) hb)
 clear BK351
 clear HB
 have HO354 := n0_
 have BK351 := n1_
 have HB := n2_
 clear n0_ n1_ n2_
 clear hb ho11
 obtain ⟨Ao12, co12, eo12⟩ := Kd.R_slice HO354.out
 (first | subst eo12 | (injection eo12 with f1_ f2_ f3_; have f4_ := f1_.symm; have f5_ := f3_.symm; clear f1_ f2_ f3_; subst f4_; subst f5_))
 refine hK.out _ _ (bc6 BK351.out) (fun hHeld => ?_)
 clear hK K
 refine norm_ (a' := ?_) ?_ ?_
 rotate_left
 ·show Act.put _ (some 8) _ = _
  simp only [Act.put, List.setIfInBounds_toArray, List.set_cons_zero, List.set_cons_succ, i64_w, i32_w]
  rfl
 refine one_ (i := 5) (N := some 9) #[true, true, true, true, true, true, true, true, false, false] rfl rfl (one_of HT_.out (by kernel_rfl)) (by decide) (fun K hK => ?_)
 refine goes_ Tryz.func97 (by kernel_rfl) rfl #[.slice none 0 0, .slice Ao12 y352.length co12] (by rfl) rfl rfl (by (try simp only [List.map_toArray, List.map_cons, List.map_nil]); first | done | rfl | (simp only [List.length_drop, List.length_take]; rfl)) ?_
 refine (trivetref04_num.calls k _ _ ([] : List Int) _ _ y352 t355 _ ?side1 ?side2 ?side3 ?side4 A2.out).mono ?_
 (case side1 => exact Kd.C_nil _ _)
 (case side2 => exact Nat.le_refl _)
 (case side3 => exact stC ((Kd.R_reads' HO354.out).2.2))
 (case side4 => exact (Kd.R_reads' HO354.out).2.1)
 rintro e w13 ⟨v356, rfl, ho0, hb⟩
 refine ⟨_, rfl, ?_⟩
 have n0_ := Aside0.mk (Kd.R_below (stR HO354.out) hb)
 have n1_ := Aside0.mk (Kd.R_lower ho0 (below_size (by repeat (first | (with_reducible first | exact HB.out | apply below_alloc | apply pw_below_drewN | apply below_drew1 | refine below_set ?_ GE351.out) | exact HB.out))))
 have n2_ := Aside0.mk (blk_below (g := gb351) (o := .cells #[.int .i64 a0_0, .int .i64 a0_1, .slice A0_2 l0_2.length c0_2, .slice A0_3 l0_3.length c0_3, .slice A0_4 l0_4.length c0_4, .slice A0_5 l0_5.length c0_5] 26 (0, 0)) (stK BK351.out) hb)
 have n3_ := Aside0.mk (below_step (by repeat (first | (with_reducible first | exact HB.out | apply below_alloc | apply pw_below_drewN | apply below_drew1 | refine below_set ?_ GE351.out) | exact HB.out)) hb)
 clear HO354
 clear BK351
 clear HB
 have HO354 := n0_
 have HO357 := n1_
 have BK351 := n2_
 have HB := n3_
 clear n0_ n1_ n2_ n3_
 (try clear hb)
 (try clear hb2)
 (try clear hk)
 (try clear hi)
 (try clear ho0)
 obtain ⟨Ao14, co14, eo14⟩ := Kd.R_slice HO357.out
 (first | subst eo14 | (injection eo14 with f1_ f2_ f3_; have f4_ := f1_.symm; have f5_ := f3_.symm; clear f1_ f2_ f3_; subst f4_; subst f5_))
 refine hK.out _ _ (bc6 BK351.out) (fun hHeld => ?_)
 clear hK K
 refine norm_ (a' := ?_) ?_ ?_
 rotate_left
 ·show Act.put _ (some 9) _ = _
  simp only [Act.put, List.setIfInBounds_toArray, List.set_cons_zero, List.set_cons_succ, i64_w, i32_w]
  rfl
 refine one_ (i := 8) (N := some 12) #[true, true, true, true, true, true, true, true, true, false] rfl rfl (one_of HT_.out (by kernel_rfl)) (by decide) (fun K hK => ?_)
 refine goes_ Tryz.func107 (by kernel_rfl) rfl #[.slice Ao14 t355.length co14, .slice A0_2 l0_2.length c0_2] (by rfl) rfl rfl (by (try simp only [List.map_toArray, List.map_cons, List.map_nil]); first | done | rfl | (simp only [List.length_drop, List.length_take]; rfl)) ?_
 with_reducible refine (trivetref01_Blob.calls k _ _ t355 _ _ l0_2 t358 _ ?side1 ?side2 ?side3 ?side4 A3.out).mono ?_
 (case side1 => exact stC ((Kd.R_reads' HO357.out).2.2))
 (case side2 => exact (Kd.R_reads' HO357.out).2.1)
 (case side3 => exact stC (Kd.C_below HR0_2.out HB.out))
 (case side4 => exact HC0_2.out)
 rintro e w15 ⟨v359, rfl, ho0, hb⟩
 refine ⟨_, rfl, ?_⟩
 have n0_ := Aside0.mk (Kd.R_below (stR HO354.out) hb)
 have n1_ := Aside0.mk (Kd.R_elder' (stR HO357.out) (Kd.R_base ho0) hb)
 have n2_ := Aside0.mk (Kd.R_lower (Kd.R_new' ho0 (Kd.R_lt (stR HO357.out))) (below_size (by repeat (first | (with_reducible first | exact HB.out | apply below_alloc | apply pw_below_drewN | apply below_drew1 | refine below_set ?_ GE351.out) | exact HB.out))))
 have n3_ := Aside0.mk (blk_below (g := gb351) (o := .cells #[.int .i64 a0_0, .int .i64 a0_1, .slice A0_2 l0_2.length c0_2, .slice A0_3 l0_3.length c0_3, .slice A0_4 l0_4.length c0_4, .slice A0_5 l0_5.length c0_5] 26 (0, 0)) (stK BK351.out) hb)
 have n4_ := Aside0.mk (below_step (by repeat (first | (with_reducible first | exact HB.out | apply below_alloc | apply pw_below_drewN | apply below_drew1 | refine below_set ?_ GE351.out) | exact HB.out)) hb)
 clear HO354
 clear HO357
 clear BK351
 clear HB
 have HO354 := n0_
 have HO357 := n1_
 have HO360 := n2_
 have BK351 := n3_
 have HB := n4_
 clear n0_ n1_ n2_ n3_ n4_
 (try clear hb)
 (try clear hb2)
 (try clear hk)
 (try clear hi)
 (try clear ho0)
 refine hK.out _ _ (bc6 BK351.out) (fun hHeld => ?_)
 clear hK K
 refine norm_ (a' := ?_) ?_ ?_
 rotate_left
 ·show Act.put _ (some 12) _ = _
  simp only [Act.put, List.setIfInBounds_toArray, List.set_cons_zero, List.set_cons_succ, i64_w, i32_w]
  rfl
 refine pure_ (i := 9) (N := some 3) (v := ?_) (a' := ?_) #[true, true, true, true, true, true, true, true, true, true] rfl rfl (any_of HT_.out (by kernel_rfl)) (fun _ _ _ h => h) (Or.inl ⟨by rfl, ?_⟩) ?_ ?_
 rotate_left
 ·intro w'
  go_simp
  with_reducible rfl
 rotate_left
 ·simp only [Act.put, List.setIfInBounds_toArray, List.set_cons_zero, List.set_cons_succ, i64_w, i32_w]
  rfl
 refine done_ (done_of HT_.out (by kernel_rfl)) ?_
 try go_wp2
 have n0_ := Aside0.mk (Kd.R_drew HO354.out)
 have n1_ := Aside0.mk (Kd.R_drew HO357.out)
 have n2_ := Aside0.mk (Kd.R_drew HO360.out)
 have n3_ := Aside0.mk (blk_drew BK351.out)
 have n4_ := Aside0.mk (below_drew1 HB.out)
 clear HO354
 clear HO357
 clear HO360
 clear BK351
 clear HB
 have HO354 := n0_
 have HO357 := n1_
 have HO360 := n2_
 have BK351 := n3_
 have HB := n4_
 clear n0_ n1_ n2_ n3_ n4_
 refine start_ (n := 10) (S := fun w' => w'.cell? ⟨gb351, 0, none⟩ = some (.int .i64 a0_0) ∧ w'.cell? ⟨gb351, 1, none⟩ = some (.int .i64 a0_1) ∧ w'.cell? ⟨gb351, 2, none⟩ = some (.slice A0_2 l0_2.length c0_2) ∧ w'.cell? ⟨gb351, 3, none⟩ = some (.slice A0_3 l0_3.length c0_3) ∧ w'.cell? ⟨gb351, 4, none⟩ = some (.slice A0_4 l0_4.length c0_4) ∧ w'.cell? ⟨gb351, 5, none⟩ = some (.slice A0_5 l0_5.length c0_5)) (ds := []) #[false, false, false, false, false, false, false, false, false, false] (by kernel_rfl) rfl rfl (bc6 BK351.out) (fun hHeld => ?_); refine with_tabW trivetref04_TxnForm.tab2 trivetref04_TxnForm.bits2 (fun HT_ HW_ => ?_)
 generalize w15.drew = w16 at HO354 HO357 HO360 BK351 HB hHeld ⊢
 refine pure_ (i := 0) (N := some 13) (v := ?_) (a' := ?_) #[true, false, false, false, false, false, false, false, false, false] rfl rfl (any_of HT_.out (by kernel_rfl)) (fun _ _ _ h => h) (Or.inl ⟨by rfl, ?_⟩) ?_ ?_
 rotate_left
 ·intro w'
  go_simp
  with_reducible rfl
 rotate_left
 ·simp only [Act.put, List.setIfInBounds_toArray, List.set_cons_zero, List.set_cons_succ, i64_w, i32_w]
  rfl
 refine pure_ (i := 1) (N := some 14) (v := ?_) (a' := ?_) #[true, true, false, false, false, false, false, false, false, false] rfl rfl (any_of HT_.out (by kernel_rfl)) (fun _ _ _ h => h) (Or.inl ⟨by rfl, ?_⟩) ?_ ?_
 rotate_left
 ·intro w'
  go_simp
  with_reducible rfl
 rotate_left
 ·simp only [Act.put, List.setIfInBounds_toArray, List.set_cons_zero, List.set_cons_succ, i64_w, i32_w]
  rfl
 refine pure_ (i := 6) (N := some 19) (v := ?_) (a' := ?_) #[true, true, false, false, false, false, true, false, false, false] rfl rfl (any_of HT_.out (by kernel_rfl)) (fun _ _ _ h => h) (Or.inl ⟨by rfl, ?_⟩) ?_ ?_
 rotate_left
 ·intro w'
  go_simp
  with_reducible rfl
 rotate_left
 ·simp only [Act.put, List.setIfInBounds_toArray, List.set_cons_zero, List.set_cons_succ, i64_w, i32_w]
  rfl
 refine take_ (i := 2) (N := some 15) (v := ?_) (a' := ?_) #[true, true, true, false, false, false, true, false, false, false] rfl rfl (take_ofW HT_.out HW_.out (by kernel_rfl)) (fun _ _ _ h => h) (Or.inl ⟨by rfl, ?_⟩) hHeld ?_ ?_
 rotate_left
 ·rintro w' ⟨s0, s1, s2, s3, s4, s5⟩
  go_simp
  with_reducible rfl
 rotate_left
 ·simp only [Act.put, List.setIfInBounds_toArray, List.set_cons_zero, List.set_cons_succ, i64_w, i32_w]
  rfl
 refine pure_ (i := 3) (N := some 16) (v := ?_) (a' := ?_) #[true, true, true, true, false, false, true, false, false, false] rfl rfl (any_of HT_.out (by kernel_rfl)) (fun _ _ _ h => h) (Or.inl ⟨by rfl, ?_⟩) ?_ ?_
 rotate_left
 ·intro w'
  go_simp
  with_reducible rfl
 rotate_left
 ·simp only [Act.put, List.setIfInBounds_toArray, List.set_cons_zero, List.set_cons_succ, i64_w, i32_w]
  rfl
 refine take_ (i := 7) (N := some 20) (v := ?_) (a' := ?_) #[true, true, true, true, false, false, true, true, false, false] rfl rfl (take_ofW HT_.out HW_.out (by kernel_rfl)) (fun _ _ _ h => h) (Or.inl ⟨by rfl, ?_⟩) hHeld ?_ ?_
 rotate_left
 ·rintro w' ⟨s0, s1, s2, s3, s4, s5⟩
  go_simp
  with_reducible rfl
 rotate_left
 ·simp only [Act.put, List.setIfInBounds_toArray, List.set_cons_zero, List.set_cons_succ, i64_w, i32_w]
  rfl
 refine one_ (i := 4) (N := some 17) #[true, true, true, true, true, false, true, true, false, false] rfl rfl (one_of HT_.out (by kernel_rfl)) (by decide) (fun K hK => ?_)
 refine Kd.R_lit_step (Kd.int .i64) _ 2 ?hg (N := 17) ?hd (xs := ([(l0_3.length : Int)] : List Int)) (inner := [.int .i64 (l0_3.length : Int)]) (ok := fun _ => True) (okp := fun _ => True) ?hr ?hp (fun _ hk => hk) trivial (Below.refl _ _) (Nat.le_refl _) (by simp) ?_; (case hd => rfl); (case hg => rfl); (case hr => first | (go_simp; done) | (go_simp; rfl)); (case hp => exact (Reps.one (show Kd.M (Kd.int .i64) _ _ _ (l0_3.length : Int) [.int .i64 (l0_3.length : Int)] from rfl) (Reps.none _ _)))
 intro v362 w17 ho18 hb hg_ hnew_
 clear hg_ hnew_
 (first | rw [← Ny361.out] at ho18 | (simp only [Int.reduceToNat] at ho18; rw [← Ny361.out] at ho18))
 have n0_ := Aside0.mk (Kd.R_elder' (stR HO354.out) (Kd.R_base ho18) hb)
 have n1_ := Aside0.mk (Kd.R_below (stR HO357.out) hb)
 have n2_ := Aside0.mk (Kd.R_below (stR HO360.out) hb)
 have n3_ := Aside0.mk (Kd.R_lower (Kd.R_new' ho18 (Kd.R_lt (stR HO354.out))) (below_size (by repeat (first | (with_reducible first | exact HB.out | apply below_alloc | apply pw_below_drewN | apply below_drew1 | refine below_set ?_ GE351.out) | exact HB.out))))
 have n4_ := Aside0.mk (blk_below (g := gb351) (o := .cells #[.int .i64 a0_0, .int .i64 a0_1, .slice A0_2 l0_2.length c0_2, .slice A0_3 l0_3.length c0_3, .slice A0_4 l0_4.length c0_4, .slice A0_5 l0_5.length c0_5] 26 (0, 0)) (stK BK351.out) hb)
 have n5_ := Aside0.mk (below_step (by repeat (first | (with_reducible first | exact HB.out | apply below_alloc | apply pw_below_drewN | apply below_drew1 | refine below_set ?_ GE351.out) | exact HB.out)) hb)
 clear HO354
 clear HO357
 clear HO360
 clear BK351
 clear HB
 have HO354 := n0_
 have HO357 := n1_
 have HO360 := n2_
 have HO363 := n3_
 have BK351 := n4_
 have HB := n5_
 clear n0_ n1_ n2_ n3_ n4_ n5_
 clear hb ho18
 obtain ⟨Ao19, co19, eo19⟩ := Kd.R_slice HO360.out
 (first | subst eo19 | (injection eo19 with f1_ f2_ f3_; have f4_ := f1_.symm; have f5_ := f3_.symm; clear f1_ f2_ f3_; subst f4_; subst f5_))
 obtain ⟨Ao20, co20, eo20⟩ := Kd.R_slice HO363.out
 (first | subst eo20 | (injection eo20 with f1_ f2_ f3_; have f4_ := f1_.symm; have f5_ := f3_.symm; clear f1_ f2_ f3_; subst f4_; subst f5_))
 refine hK.out _ _ (bc6 BK351.out) (fun hHeld => ?_)
 clear hK K
 refine norm_ (a' := ?_) ?_ ?_
 rotate_left
 ·show Act.put _ (some 17) _ = _
  simp only [Act.put, List.setIfInBounds_toArray, List.set_cons_zero, List.set_cons_succ, i64_w, i32_w]
  rfl
 refine one_ (i := 5) (N := some 18) #[true, true, true, true, true, true, true, true, false, false] rfl rfl (one_of HT_.out (by kernel_rfl)) (by decide) (fun K hK => ?_)
 refine goes_ Tryz.func97 (by kernel_rfl) rfl #[.slice Ao19 t358.length co19, .slice Ao20 y361.length co20] (by rfl) rfl rfl (by (try simp only [List.map_toArray, List.map_cons, List.map_nil]); first | done | rfl | (simp only [List.length_drop, List.length_take]; rfl)) ?_
 with_reducible refine (trivetref04_num.calls k _ _ t358 _ _ y361 t364 _ ?side1 ?side2 ?side3 ?side4 A4.out).mono ?_
 (case side1 => exact stC ((Kd.R_reads' HO360.out).2.2))
 (case side2 => exact (Kd.R_reads' HO360.out).2.1)
 (case side3 => exact stC ((Kd.R_reads' HO363.out).2.2))
 (case side4 => exact (Kd.R_reads' HO363.out).2.1)
 rintro e w21 ⟨v365, rfl, ho0, hb⟩
 refine ⟨_, rfl, ?_⟩
 have n0_ := Aside0.mk (Kd.R_below (stR HO354.out) hb)
 have n1_ := Aside0.mk (Kd.R_elder' (stR HO357.out) (Kd.R_base ho0) hb)
 have n2_ := Aside0.mk (Kd.R_elder' (stR HO360.out) (Kd.R_base ho0) hb)
 have n3_ := Aside0.mk (Kd.R_below (stR HO363.out) hb)
 have n4_ := Aside0.mk (Kd.R_lower (Kd.R_new' (Kd.R_new' ho0 (Kd.R_lt (stR HO357.out))) (Kd.R_lt (stR HO360.out))) (below_size (by repeat (first | (with_reducible first | exact HB.out | apply below_alloc | apply pw_below_drewN | apply below_drew1 | refine below_set ?_ GE351.out) | exact HB.out))))
 have n5_ := Aside0.mk (blk_below (g := gb351) (o := .cells #[.int .i64 a0_0, .int .i64 a0_1, .slice A0_2 l0_2.length c0_2, .slice A0_3 l0_3.length c0_3, .slice A0_4 l0_4.length c0_4, .slice A0_5 l0_5.length c0_5] 26 (0, 0)) (stK BK351.out) hb)
 have n6_ := Aside0.mk (below_step (by repeat (first | (with_reducible first | exact HB.out | apply below_alloc | apply pw_below_drewN | apply below_drew1 | refine below_set ?_ GE351.out) | exact HB.out)) hb)
 clear HO354
 clear HO357
 clear HO360
 clear HO363
 clear BK351
 clear HB
 have HO354 := n0_
 have HO357 := n1_
 have HO360 := n2_
 have HO363 := n3_
 have HO366 := n4_
 have BK351 := n5_
 have HB := n6_
 clear n0_ n1_ n2_ n3_ n4_ n5_ n6_
 (try clear hb)
 (try clear hb2)
 (try clear hk)
 (try clear hi)
 (try clear ho0)
 obtain ⟨Ao22, co22, eo22⟩ := Kd.R_slice HO366.out
 (first | subst eo22 | (injection eo22 with f1_ f2_ f3_; have f4_ := f1_.symm; have f5_ := f3_.symm; clear f1_ f2_ f3_; subst f4_; subst f5_))
 refine hK.out _ _ (bc6 BK351.out) (fun hHeld => ?_)
 clear hK K
 refine norm_ (a' := ?_) ?_ ?_
 rotate_left
 ·show Act.put _ (some 18) _ = _
  simp only [Act.put, List.setIfInBounds_toArray, List.set_cons_zero, List.set_cons_succ, i64_w, i32_w]
  rfl
 refine one_ (i := 8) (N := some 21) #[true, true, true, true, true, true, true, true, true, false] rfl rfl (one_of HT_.out (by kernel_rfl)) (by decide) (fun K hK => ?_)
 refine goes_ Tryz.func97 (by kernel_rfl) rfl #[.slice Ao22 t364.length co22, .slice A0_3 l0_3.length c0_3] (by rfl) rfl rfl (by (try simp only [List.map_toArray, List.map_cons, List.map_nil]); first | done | rfl | (simp only [List.length_drop, List.length_take]; rfl)) ?_
 with_reducible refine (trivetref04_num.calls k _ _ t364 _ _ l0_3 t367 _ ?side1 ?side2 ?side3 ?side4 A5.out).mono ?_
 (case side1 => exact stC ((Kd.R_reads' HO366.out).2.2))
 (case side2 => exact (Kd.R_reads' HO366.out).2.1)
 (case side3 => exact stC (Kd.C_below HR0_3.out HB.out))
 (case side4 => exact HC0_3.out)
 rintro e w23 ⟨v368, rfl, ho0, hb⟩
 refine ⟨_, rfl, ?_⟩
 have n0_ := Aside0.mk (Kd.R_below (stR HO354.out) hb)
 have n1_ := Aside0.mk (Kd.R_elder' (stR HO357.out) (Kd.R_base ho0) hb)
 have n2_ := Aside0.mk (Kd.R_elder' (stR HO360.out) (Kd.R_base ho0) hb)
 have n3_ := Aside0.mk (Kd.R_below (stR HO363.out) hb)
 have n4_ := Aside0.mk (Kd.R_elder' (stR HO366.out) (Kd.R_base ho0) hb)
 have n5_ := Aside0.mk (Kd.R_lower (Kd.R_new' (Kd.R_new' (Kd.R_new' ho0 (Kd.R_lt (stR HO357.out))) (Kd.R_lt (stR HO360.out))) (Kd.R_lt (stR HO366.out))) (below_size (by repeat (first | (with_reducible first | exact HB.out | apply below_alloc | apply pw_below_drewN | apply below_drew1 | refine below_set ?_ GE351.out) | exact HB.out))))
 have n6_ := Aside0.mk (blk_below (g := gb351) (o := .cells #[.int .i64 a0_0, .int .i64 a0_1, .slice A0_2 l0_2.length c0_2, .slice A0_3 l0_3.length c0_3, .slice A0_4 l0_4.length c0_4, .slice A0_5 l0_5.length c0_5] 26 (0, 0)) (stK BK351.out) hb)
 have n7_ := Aside0.mk (below_step (by repeat (first | (with_reducible first | exact HB.out | apply below_alloc | apply pw_below_drewN | apply below_drew1 | refine below_set ?_ GE351.out) | exact HB.out)) hb)
 clear HO354
 clear HO357
 clear HO360
 clear HO363
 clear HO366
 clear BK351
 clear HB
 have HO354 := n0_
 have HO357 := n1_
 have HO360 := n2_
 have HO363 := n3_
 have HO366 := n4_
 have HO369 := n5_
 have BK351 := n6_
 have HB := n7_
 clear n0_ n1_ n2_ n3_ n4_ n5_ n6_ n7_
 (try clear hb)
 (try clear hb2)
 (try clear hk)
 (try clear hi)
 (try clear ho0)
 refine hK.out _ _ (bc6 BK351.out) (fun hHeld => ?_)
 clear hK K
 refine norm_ (a' := ?_) ?_ ?_
 rotate_left
 ·show Act.put _ (some 21) _ = _
  simp only [Act.put, List.setIfInBounds_toArray, List.set_cons_zero, List.set_cons_succ, i64_w, i32_w]
  rfl
 refine pure_ (i := 9) (N := some 3) (v := ?_) (a' := ?_) #[true, true, true, true, true, true, true, true, true, true] rfl rfl (any_of HT_.out (by kernel_rfl)) (fun _ _ _ h => h) (Or.inl ⟨by rfl, ?_⟩) ?_ ?_
 rotate_left
 ·intro w'
  go_simp
  with_reducible rfl
 rotate_left
 ·simp only [Act.put, List.setIfInBounds_toArray, List.set_cons_zero, List.set_cons_succ, i64_w, i32_w]
  rfl
 refine done_ (done_of HT_.out (by kernel_rfl)) ?_
 try go_wp2
 have n0_ := Aside0.mk (Kd.R_drew HO354.out)
 have n1_ := Aside0.mk (Kd.R_drew HO357.out)
 have n2_ := Aside0.mk (Kd.R_drew HO360.out)
 have n3_ := Aside0.mk (Kd.R_drew HO363.out)
 have n4_ := Aside0.mk (Kd.R_drew HO366.out)
 have n5_ := Aside0.mk (Kd.R_drew HO369.out)
 have n6_ := Aside0.mk (blk_drew BK351.out)
 have n7_ := Aside0.mk (below_drew1 HB.out)
 clear HO354
 clear HO357
 clear HO360
 clear HO363
 clear HO366
 clear HO369
 clear BK351
 clear HB
 have HO354 := n0_
 have HO357 := n1_
 have HO360 := n2_
 have HO363 := n3_
 have HO366 := n4_
 have HO369 := n5_
 have BK351 := n6_
 have HB := n7_
 clear n0_ n1_ n2_ n3_ n4_ n5_ n6_ n7_
 obtain ⟨Ao25, co25, eo25⟩ := Kd.R_slice HO369.out
 (first | subst eo25 | (injection eo25 with f1_ f2_ f3_; have f4_ := f1_.symm; have f5_ := f3_.symm; clear f1_ f2_ f3_; subst f4_; subst f5_))
 refine start_ (n := 8) (S := fun w' => w'.cell? ⟨gb351, 0, none⟩ = some (.int .i64 a0_0) ∧ w'.cell? ⟨gb351, 1, none⟩ = some (.int .i64 a0_1) ∧ w'.cell? ⟨gb351, 2, none⟩ = some (.slice A0_2 l0_2.length c0_2) ∧ w'.cell? ⟨gb351, 3, none⟩ = some (.slice A0_3 l0_3.length c0_3) ∧ w'.cell? ⟨gb351, 4, none⟩ = some (.slice A0_4 l0_4.length c0_4) ∧ w'.cell? ⟨gb351, 5, none⟩ = some (.slice A0_5 l0_5.length c0_5)) (ds := []) #[false, false, false, false, false, false, false, false] (by kernel_rfl) rfl rfl (bc6 BK351.out) (fun hHeld => ?_); refine with_tabW trivetref04_TxnForm.tab3 trivetref04_TxnForm.bits3 (fun HT_ HW_ => ?_)
 generalize w23.drew = w24 at HO354 HO357 HO360 HO363 HO366 HO369 BK351 HB hHeld ⊢
 refine pure_ (i := 0) (N := some 22) (v := ?_) (a' := ?_) #[true, false, false, false, false, false, false, false] rfl rfl (any_of HT_.out (by kernel_rfl)) (fun _ _ _ h => h) (Or.inl ⟨by rfl, ?_⟩) ?_ ?_
 rotate_left
 ·intro w'
  go_simp
  with_reducible rfl
 rotate_left
 ·simp only [Act.put, List.setIfInBounds_toArray, List.set_cons_zero, List.set_cons_succ, i64_w, i32_w]
  rfl
 refine pure_ (i := 1) (N := some 23) (v := ?_) (a' := ?_) #[true, true, false, false, false, false, false, false] rfl rfl (any_of HT_.out (by kernel_rfl)) (fun _ _ _ h => h) (Or.inl ⟨by rfl, ?_⟩) ?_ ?_
 rotate_left
 ·intro w'
  go_simp
  with_reducible rfl
 rotate_left
 ·simp only [Act.put, List.setIfInBounds_toArray, List.set_cons_zero, List.set_cons_succ, i64_w, i32_w]
  rfl
 refine pure_ (i := 4) (N := some 26) (v := ?_) (a' := ?_) #[true, true, false, false, true, false, false, false] rfl rfl (any_of HT_.out (by kernel_rfl)) (fun _ _ _ h => h) (Or.inl ⟨by rfl, ?_⟩) ?_ ?_
 rotate_left
 ·intro w'
  go_simp
  with_reducible rfl
 rotate_left
 ·simp only [Act.put, List.setIfInBounds_toArray, List.set_cons_zero, List.set_cons_succ, i64_w, i32_w]
  rfl
 refine take_ (i := 2) (N := some 24) (v := ?_) (a' := ?_) #[true, true, true, false, true, false, false, false] rfl rfl (take_ofW HT_.out HW_.out (by kernel_rfl)) (fun _ _ _ h => h) (Or.inl ⟨by rfl, ?_⟩) hHeld ?_ ?_
 rotate_left
 ·rintro w' ⟨s0, s1, s2, s3, s4, s5⟩
  go_simp
  with_reducible rfl
 rotate_left
 ·simp only [Act.put, List.setIfInBounds_toArray, List.set_cons_zero, List.set_cons_succ, i64_w, i32_w]
  rfl
 refine take_ (i := 5) (N := some 27) (v := ?_) (a' := ?_) #[true, true, true, false, true, true, false, false] rfl rfl (take_ofW HT_.out HW_.out (by kernel_rfl)) (fun _ _ _ h => h) (Or.inl ⟨by rfl, ?_⟩) hHeld ?_ ?_
 rotate_left
 ·rintro w' ⟨s0, s1, s2, s3, s4, s5⟩
  go_simp
  with_reducible rfl
 rotate_left
 ·simp only [Act.put, List.setIfInBounds_toArray, List.set_cons_zero, List.set_cons_succ, i64_w, i32_w]
  rfl
 refine one_ (i := 3) (N := some 25) #[true, true, true, true, true, true, false, false] rfl rfl (one_of HT_.out (by kernel_rfl)) (by decide) (fun K hK => ?_)
 refine goes_ Tryz.func150 (by kernel_rfl) rfl #[.slice Ao25 t367.length co25, .slice A0_4 l0_4.length c0_4] (by rfl) rfl rfl (by (try simp only [List.map_toArray, List.map_cons, List.map_nil]); first | done | rfl | (simp only [List.length_drop, List.length_take]; rfl)) ?_
 with_reducible refine (trivetref04_keys.calls k _ _ t367 _ _ l0_4 t370 _ ?side1 ?side2 ?side3 ?side4 A6.out).mono ?_
 (case side1 => exact stC ((Kd.R_reads' HO369.out).2.2))
 (case side2 => exact (Kd.R_reads' HO369.out).2.1)
 (case side3 => exact stC (Kd.C_below HR0_4.out HB.out))
 (case side4 => exact HC0_4.out)
 rintro e w26 ⟨v371, rfl, ho0, hb⟩
 refine ⟨_, rfl, ?_⟩
 have n0_ := Aside0.mk (Kd.R_below (stR HO354.out) hb)
 have n1_ := Aside0.mk (Kd.R_elder' (stR HO357.out) (Kd.R_base ho0) hb)
 have n2_ := Aside0.mk (Kd.R_elder' (stR HO360.out) (Kd.R_base ho0) hb)
 have n3_ := Aside0.mk (Kd.R_below (stR HO363.out) hb)
 have n4_ := Aside0.mk (Kd.R_elder' (stR HO366.out) (Kd.R_base ho0) hb)
 have n5_ := Aside0.mk (Kd.R_elder' (stR HO369.out) (Kd.R_base ho0) hb)
 have n6_ := Aside0.mk (Kd.R_lower (Kd.R_new' (Kd.R_new' (Kd.R_new' (Kd.R_new' ho0 (Kd.R_lt (stR HO357.out))) (Kd.R_lt (stR HO360.out))) (Kd.R_lt (stR HO366.out))) (Kd.R_lt (stR HO369.out))) (below_size (by repeat (first | (with_reducible first | exact HB.out | apply below_alloc | apply pw_below_drewN | apply below_drew1 | refine below_set ?_ GE351.out) | exact HB.out))))
 have n7_ := Aside0.mk (blk_below (g := gb351) (o := .cells #[.int .i64 a0_0, .int .i64 a0_1, .slice A0_2 l0_2.length c0_2, .slice A0_3 l0_3.length c0_3, .slice A0_4 l0_4.length c0_4, .slice A0_5 l0_5.length c0_5] 26 (0, 0)) (stK BK351.out) hb)
 have n8_ := Aside0.mk (below_step (by repeat (first | (with_reducible first | exact HB.out | apply below_alloc | apply pw_below_drewN | apply below_drew1 | refine below_set ?_ GE351.out) | exact HB.out)) hb)
 clear HO354
 clear HO357
 clear HO360
 clear HO363
 clear HO366
 clear HO369
 clear BK351
 clear HB
 have HO354 := n0_
 have HO357 := n1_
 have HO360 := n2_
 have HO363 := n3_
 have HO366 := n4_
 have HO369 := n5_
 have HO372 := n6_
 have BK351 := n7_
 have HB := n8_
 clear n0_ n1_ n2_ n3_ n4_ n5_ n6_ n7_ n8_
 (try clear hb)
 (try clear hb2)
 (try clear hk)
 (try clear hi)
 (try clear ho0)
 obtain ⟨Ao27, co27, eo27⟩ := Kd.R_slice HO372.out
 (first | subst eo27 | (injection eo27 with f1_ f2_ f3_; have f4_ := f1_.symm; have f5_ := f3_.symm; clear f1_ f2_ f3_; subst f4_; subst f5_))
 refine hK.out _ _ (bc6 BK351.out) (fun hHeld => ?_)
 clear hK K
 refine norm_ (a' := ?_) ?_ ?_
 rotate_left
 ·show Act.put _ (some 25) _ = _
  simp only [Act.put, List.setIfInBounds_toArray, List.set_cons_zero, List.set_cons_succ, i64_w, i32_w]
  rfl
 refine one_ (i := 6) (N := some 28) #[true, true, true, true, true, true, true, false] rfl rfl (one_of HT_.out (by kernel_rfl)) (by decide) (fun K hK => ?_)
 refine goes_ Tryz.func150 (by kernel_rfl) rfl #[.slice Ao27 t370.length co27, .slice A0_5 l0_5.length c0_5] (by rfl) rfl rfl (by (try simp only [List.map_toArray, List.map_cons, List.map_nil]); first | done | rfl | (simp only [List.length_drop, List.length_take]; rfl)) ?_
 with_reducible refine (trivetref04_keys.calls k _ _ t370 _ _ l0_5 t373 _ ?side1 ?side2 ?side3 ?side4 A7.out).mono ?_
 (case side1 => exact stC ((Kd.R_reads' HO372.out).2.2))
 (case side2 => exact (Kd.R_reads' HO372.out).2.1)
 (case side3 => exact stC (Kd.C_below HR0_5.out HB.out))
 (case side4 => exact HC0_5.out)
 rintro e w28 ⟨v374, rfl, ho0, hb⟩
 refine ⟨_, rfl, ?_⟩
 have n0_ := Aside0.mk (Kd.R_below (stR HO354.out) hb)
 have n1_ := Aside0.mk (Kd.R_elder' (stR HO357.out) (Kd.R_base ho0) hb)
 have n2_ := Aside0.mk (Kd.R_elder' (stR HO360.out) (Kd.R_base ho0) hb)
 have n3_ := Aside0.mk (Kd.R_below (stR HO363.out) hb)
 have n4_ := Aside0.mk (Kd.R_elder' (stR HO366.out) (Kd.R_base ho0) hb)
 have n5_ := Aside0.mk (Kd.R_elder' (stR HO369.out) (Kd.R_base ho0) hb)
 have n6_ := Aside0.mk (Kd.R_elder' (stR HO372.out) (Kd.R_base ho0) hb)
 have n7_ := Aside0.mk (Kd.R_lower (Kd.R_new' (Kd.R_new' (Kd.R_new' (Kd.R_new' (Kd.R_new' ho0 (Kd.R_lt (stR HO357.out))) (Kd.R_lt (stR HO360.out))) (Kd.R_lt (stR HO366.out))) (Kd.R_lt (stR HO369.out))) (Kd.R_lt (stR HO372.out))) (below_size (by repeat (first | (with_reducible first | exact HB.out | apply below_alloc | apply pw_below_drewN | apply below_drew1 | refine below_set ?_ GE351.out) | exact HB.out))))
 have n8_ := Aside0.mk (blk_below (g := gb351) (o := .cells #[.int .i64 a0_0, .int .i64 a0_1, .slice A0_2 l0_2.length c0_2, .slice A0_3 l0_3.length c0_3, .slice A0_4 l0_4.length c0_4, .slice A0_5 l0_5.length c0_5] 26 (0, 0)) (stK BK351.out) hb)
 have n9_ := Aside0.mk (below_step (by repeat (first | (with_reducible first | exact HB.out | apply below_alloc | apply pw_below_drewN | apply below_drew1 | refine below_set ?_ GE351.out) | exact HB.out)) hb)
 clear HO354
 clear HO357
 clear HO360
 clear HO363
 clear HO366
 clear HO369
 clear HO372
 clear BK351
 clear HB
 have HO354 := n0_
 have HO357 := n1_
 have HO360 := n2_
 have HO363 := n3_
 have HO366 := n4_
 have HO369 := n5_
 have HO372 := n6_
 have HO375 := n7_
 have BK351 := n8_
 have HB := n9_
 clear n0_ n1_ n2_ n3_ n4_ n5_ n6_ n7_ n8_ n9_
 (try clear hb)
 (try clear hb2)
 (try clear hk)
 (try clear hi)
 (try clear ho0)
 refine hK.out _ _ (bc6 BK351.out) (fun hHeld => ?_)
 clear hK K
 refine norm_ (a' := ?_) ?_ ?_
 rotate_left
 ·show Act.put _ (some 28) _ = _
  simp only [Act.put, List.setIfInBounds_toArray, List.set_cons_zero, List.set_cons_succ, i64_w, i32_w]
  rfl
 refine pure_ (i := 7) (N := some 2) (v := ?_) (a' := ?_) #[true, true, true, true, true, true, true, true] rfl rfl (any_of HT_.out (by kernel_rfl)) (fun _ _ _ h => h) (Or.inl ⟨by rfl, ?_⟩) ?_ ?_
 rotate_left
 ·intro w'
  go_simp
  with_reducible rfl
 rotate_left
 ·simp only [Act.put, List.setIfInBounds_toArray, List.set_cons_zero, List.set_cons_succ, i64_w, i32_w]
  rfl
 refine done_ (done_of HT_.out (by kernel_rfl)) ?_
 try go_wp2
 go_ret
 exact ⟨_, by first | rfl | (simp [errW_none, errW_some] <;> rfl) | (simp [*, errW_none, errW_some] <;> rfl), by (with_reducible repeat (first|apply Kd.R_alloc | apply Kd.R_drewN | apply Kd.R_drew)); exact Kd.R_mono HO375.out (fun _ hk => trivial), by repeat (first | (with_reducible first | exact HB.out | apply below_alloc | apply pw_below_drewN | apply below_drew1 | refine below_set ?_ GE351.out) | exact HB.out)⟩
end Go.Proofs.YtgiefblcckikeaaGreat.G
end

section
/- A transaction's form. -/
set_option maxRecDepth 100000
namespace Go.Proofs.YtgiefblcckikeaaGreat.M
open Go.RowKit Go.Proofs.YtgiefblcckikeaaGreatW.PrintWords Go.Proofs.YtgiefblcckikeaaGreat.G
theorem rnum_f (k : Nat) (l0 l1 : List Int) (hi : okI l1 = true) (hs : l0.length + 9 * l1.length < 140737488355328) (hk : l1.length + 10 ≤ k) : G.trivetref04_num.f k l0 l1 = some (l0 ++ numsB l1) := by
 unfold G.trivetref04_num.f
 rw [ref_put l0 l1 hi hs k hk]
 rfl
theorem okI1 {n : Int} (h : isI64 n) : okI [n] = true := by simp [okI, h]
theorem numsB1 (n : Int) : numsB [n] = numB n := by simp [numsB]
theorem rblob_f (k : Nat) (l d : List Int) (h : l.length + d.length + 9 < 140737488355328) (hk : 11 ≤ k) : G.trivetref01_Blob.f k l d = some (l ++ (numB d.length ++ d)) := by
 have hn : isI64 (d.length : Int) := by unfold isI64; omega
 unfold G.trivetref01_Blob.f
 rw [ref_put l [(d.length : Int)] (okI1 hn) (by simp; omega) k (by simp; omega), Option.bind_some, numsB1, if_pos]
 ·rw [List.append_assoc]
 ·have := (numB_len hn).2
  rw [List.length_append]
  omega
theorem rkeys_l : ∀ (k : Nat) (acc : List Int) (a : List KeyD) (i : Nat), a.length + 12 < i + k → i ≤ a.length → (∀ x ∈ a, okK x = true) → acc.length + 18 * (a.length - i) < 140737488355000 → a.length ≤ 1000000 → G.trivetref04_keys.l0 k acc a (i : Int) = some (acc ++ (a.drop i).flatMap keyB)
 | 0, acc, a, i, hk, hi, _, _, _ => by omega
 | k + 1, acc, a, i, hk, hi, ho, hs, hm => by
  simp only [G.trivetref04_keys.l0]
  by_cases hlt : i < a.length
  ·obtain ⟨x, hx⟩ : ∃ x, a[i]? = some x := ⟨_, List.getElem?_eq_getElem hlt⟩
   have d1 := drop_cons hx
   have hw : wrap64 ((i : Int) + 1) = ((i + 1 : Nat) : Int) := by unfold wrap64; omega
   have hox := ho x (List.mem_of_getElem? hx)
   have hkx := of_decide_eq_true hox
   have hwx : wrap64 x.f0 = x.f0 := by unfold wrap64; omega
   have hl := keyB_len hox
   rw [if_pos (by omega : (i : Int) < (a.length : Int)), if_pos (by omega : (0 : Int) ≤ (i : Int)), rdK_eq hx, hwx, rnum_f k acc [x.f0, x.f1] (okK_i x hox) (by simp; omega) (by simp; omega), Option.bind_some, hw]
   have hl2 : (numsB [x.f0, x.f1]).length ≤ 18 := hl
   rw [rkeys_l k _ a (i + 1) (by omega) (by omega) ho (by rw [List.length_append]; omega) hm, d1, List.flatMap_cons, List.append_assoc]
   rfl
  ·rw [if_neg (by omega), List.drop_of_length_le (by omega)]
   simp
theorem rkeys_f (k : Nat) (acc : List Int) (a : List KeyD) (hk : a.length + 12 < k) (ho : ∀ x ∈ a, okK x = true) (hs : acc.length + 9 + 18 * a.length < 140737488355000) (hm : a.length ≤ 1000000) : G.trivetref04_keys.f k acc a = some (acc ++ keysB a) := by
 have hn : isI64 (a.length : Int) := by unfold isI64; omega
 have hl := (numB_len hn).2
 unfold G.trivetref04_keys.f keysB
 rw [rnum_f k acc [(a.length : Int)] (okI1 hn) (by simp; omega) (by simp; omega), Option.bind_some, numsB1]
 have := rkeys_l k (acc ++ numB a.length) a 0 (by omega) (by omega) ho (by rw [List.length_append]; omega) hm
 rw [show ((0 : Nat) : Int) = 0 from rfl] at this
 rw [this, List.drop_zero, List.append_assoc]
theorem txform_f (k : Nat) (t : TxD) (ho : okT t = true) (hm : mayT t = true) (hk : 100 ≤ k) : G.trivetref04_TxnForm.f k t.f0 t.f1 t.f2 t.f3 t.f4 t.f5 = some (txB t) := by
 have hl := mayT_len hm
 obtain ⟨h0, h1, h2, h3, h4, h5⟩ := okT_all ho
 have e3 : okI t.f3 = true := List.all_eq_true.2 (fun x hx => by simpa using h3 x hx)
 have e0 : okI [t.f0, t.f1] = true := by simp [okI, h0, h1]
 have n0 := numsB2_len e0
 have n2 := (numB_len (nat_i64 t.f2.length (by omega))).2
 have n3 := (numB_len (nat_i64 t.f3.length (by omega))).2
 have n3' := numsB_len e3
 have n4 := keysB_len (l := t.f4) (List.all_eq_true.2 h4) (by omega)
 unfold G.trivetref04_TxnForm.f
 rw [rnum_f k [] [t.f0, t.f1] e0 (by simp) (by simp; omega), Option.bind_some]
 rw [rblob_f k _ t.f2 (by simp only [List.length_append, List.length_nil]; omega) (by omega), Option.bind_some]
 rw [rnum_f k _ [(t.f3.length : Int)] (okI1 (nat_i64 _ (by omega))) (by simp only [List.length_append, List.length_nil, List.length_cons]; omega) (by simp; omega), Option.bind_some]
 rw [rnum_f k _ t.f3 e3 (by simp only [List.length_append, List.length_nil, numsB1]; omega) (by omega), Option.bind_some]
 rw [rkeys_f k _ t.f4 (by omega) h4 (by simp only [List.length_append, List.length_nil, numsB1]; omega) (by omega), Option.bind_some]
 rw [rkeys_f k _ t.f5 (by omega) h5 (by simp only [List.length_append, List.length_nil, numsB1]; omega) (by omega), Option.bind_some]
 unfold txB
 rw [numsB1]
 simp only [List.nil_append, List.append_assoc]
end Go.Proofs.YtgiefblcckikeaaGreat.M
end

section
/- What a law is handed: any type of numbers, bools, slices and structs, opened as Lean data (its kind 'Kd'), with its bounds; the row's frame. -/
namespace Go.Proofs.YtgiefblcckikeaaGreat.M
open Go.RowKit Go.ChangeShapes Go.WideShapes Go.ChangeAt Go.Proofs.YtgiefblcckikeaaGreatW.PrintWords
structure Opens {α : Type} (P : Program) (T : TypeId) (d : Kd α) (ok : α → Prop) (sz : α → Nat) : Prop where
 cells : P.cellsOf T = d.sz
 heap : Kd.Heap d
 open_ : ∀ {H : Type} {enc : TypeId × Value → H} {W : World} {base : Nat} {spare : Nat → Bool} {held : Bool} {fuel : Nat} {cs : List Value} {x : DataW H × List MemPlace},
  DataW.trod enc P W base spare held fuel T cs = some x → ∃ y, d.K W y cs ∧ ok y ∧ sz y ≤ Rows.uptoBulk x.1
theorem opens_int {P : Program} {T : TypeId} {k : IntKind} (ht : P.underlying T = some (.int k)) (hc : P.cellsOf T = 1) : Opens P T (Kd.int k) (fun x => (Lit.int k x).wf = true) (fun _ => 1) :=
 ⟨hc, Kd.heap_int k, fun h => by
  obtain ⟨n, rfl, rfl, hw⟩ := DataW.trod_int ht h
  exact ⟨n, rfl, hw, Nat.le_refl _⟩⟩
theorem opens_bool {P : Program} {T : TypeId} (ht : P.underlying T = some .bool) (hc : P.cellsOf T = 1) : Opens P T Kd.bool (fun _ => True) (fun _ => 1) :=
 ⟨hc, Kd.heap_bool, fun h => by
  obtain ⟨n, rfl, rfl⟩ := DataW.trod_bool ht h
  exact ⟨n, rfl, trivial, Nat.le_refl _⟩⟩
theorem exists_list {α : Type} (p : Nat → α → Prop) : ∀ n, (∀ i, i < n → ∃ y, p i y) → ∃ l : List α, l.length = n ∧ ∀ i y, l[i]? = some y → p i y
 | 0, _ => ⟨[], rfl, fun i y h => by simp at h⟩
 | n + 1, h => by
  obtain ⟨l, hl, hp⟩ := exists_list p n (fun i hi => h i (by omega))
  obtain ⟨y, hy⟩ := h n (by omega)
  refine ⟨l ++ [y], by simp [hl], fun i z hz => ?_⟩
  rcases Nat.lt_or_ge i l.length with hi | hi
  ·rw [List.getElem?_append_left hi] at hz; exact hp i z hz
  ·have : i = l.length := by have := (List.getElem?_eq_some_iff.1 hz).1; simp at this; omega
   subst this
   simp at hz
   subst hz
   rw [hl]; exact hy
def szL {α : Type} (sz : α → Nat) (l : List α) : Nat := (l.map sz).sum + 1
theorem sum_le {α H : Type} (sz : α → Nat) : ∀ (l : List α) (ds : List (DataW H)), l.length = ds.length → (∀ (i : Nat) y d, l[i]? = some y → ds[i]? = some d → sz y ≤ Rows.uptoBulk d) → (l.map sz).sum ≤ Rows.uptoBulkAll ds
 | [], _, _, _ => by simp
 | y :: l, [], h, _ => by simp at h
 | y :: l, d :: ds, h, hp => by
  have h1 := hp 0 y d rfl rfl
  have h2 := sum_le sz l ds (by simpa using h) (fun i y' d' h3 h4 => hp (i + 1) y' d' (by simpa using h3) (by simpa using h4))
  simp only [List.map_cons, List.sum_cons, Rows.uptoBulkAll]
  omega
theorem opens_slice {α : Type} {P : Program} {T e : TypeId} {d : Kd α} {ok : α → Prop} {sz : α → Nat} (ht : P.underlying T = some (.slice e)) (hc : P.cellsOf T = 1) (he : Opens P e d ok sz) :
  Opens P T (Kd.slice e d) (fun l => l.length ≤ 9223372036854775807 ∧ ∀ x ∈ l, ok x) (szL sz) :=
 ⟨hc, Kd.heap_slice e he.heap, fun {H enc W base spare held fuel cs x} h => by
  rcases DataW.trod_slice ht h with ⟨rfl, rfl⟩ | ⟨a, len, cap, elems, rest, n, rfl, rfl, rfl, hb, hl, hm, hlen, hel, hsp, hns⟩
  ·exact ⟨[], ⟨none, 0, rfl, Nat.le_refl _, Kd.C_nil d W⟩, ⟨by simp, by simp⟩, by simp [szL, Rows.uptoBulk]⟩
  ·have each : ∀ i, i < len → ∃ y, (∃ c, c.length = d.sz ∧ d.K W y c ∧ ∀ j u, c[j]? = some u → W.cell? (a.add (i * d.sz + j)) = some u) ∧ ok y ∧ ∀ z, elems[i]? = some z → sz y ≤ Rows.uptoBulk z.1 := by
    intro i hi
    have h1 := hel i hi
    have h2 : elems[i]? = some (elems[i]'(by omega)) := List.getElem?_eq_getElem _
    rw [h2, Option.bind_eq_some_iff] at h1
    obtain ⟨c, h3, h4⟩ := h1
    obtain ⟨_, h5, h6⟩ := World.cells?_some h3
    obtain ⟨y, h7, h8, h9⟩ := he.open_ h4
    refine ⟨y, ⟨c, by rw [h5, he.cells], h7, fun j u hj => ?_⟩, h8, fun z hz => by rw [h2] at hz; cases hz; exact h9⟩
    have hjl : j < c.length := (List.getElem?_eq_some_iff.1 hj).1
    have := h6 j (by omega)
    rw [add_add, he.cells] at this
    rw [this, hj]
   obtain ⟨l, h1, h2⟩ := exists_list _ len each
   have hm2 : len ≤ 9223372036854775807 := by simp only [maxLen] at hm; omega
   refine ⟨l, ⟨some a, cap, by rw [h1], by omega, h1 ▸ ⟨h1, by omega, fun _ => ⟨a, rfl, fun j p hj => (h2 j p hj).1⟩⟩⟩, ⟨by omega, fun y hy => ?_⟩, ?_⟩
   ·obtain ⟨i, hi⟩ := List.getElem?_of_mem hy
    exact (h2 i y hi).2.1
   ·have h3 := sum_le sz l (elems.map (·.1)) (by simp; omega) (fun i y z hy hz => by
     rw [List.getElem?_map, Option.map_eq_some_iff] at hz
     obtain ⟨q, hq, rfl⟩ := hz
     exact (h2 i y hy).2.2 q hq)
    simp only [szL, Rows.uptoBulk]
    omega⟩
structure OpensL {α : Type} (P : Program) (fs : List Field) (off : Nat) (d : Kd α) (ok : α → Prop) (sz : α → Nat) : Prop where
 heap : Kd.Heap d
 open_ : ∀ {H : Type} {enc : TypeId × Value → H} {W : World} {base : Nat} {spare : Nat → Bool} {held : Bool} {fuel : Nat} {cs : List Value} {xs : List (DataW H × List MemPlace)},
  cs.length = off + d.sz → xs.length = fs.length → (∀ (i : Nat) (f : Field), fs[i]? = some f → DataW.trod enc P W base spare held fuel f.type ((cs.drop f.offset).take (P.cellsOf f.type)) = xs[i]?) →
  ∃ y, d.K W y (cs.drop off) ∧ ok y ∧ sz y ≤ Rows.uptoBulkAll (xs.map (·.1))
theorem opensL_one {α : Type} {P : Program} {f : Field} {off : Nat} {d : Kd α} {ok : α → Prop} {sz : α → Nat} (hf : f.offset = off) (he : Opens P f.type d ok sz) : OpensL P [f] off d ok sz :=
 ⟨he.heap, fun {H enc W base spare held fuel cs xs} hcs hxs h => by
  match xs, hxs with
  | [x], _ =>
   have h1 := h 0 f rfl
   rw [he.cells, hf, List.take_of_length_le (by simp; omega)] at h1
   obtain ⟨y, h2, h3, h4⟩ := he.open_ h1
   exact ⟨y, h2, h3, by simp [Rows.uptoBulkAll]; exact h4⟩⟩
theorem opensL_cons {α β : Type} {P : Program} {f : Field} {fs : List Field} {off : Nat} {a : Kd α} {b : Kd β} {oka : α → Prop} {okb : β → Prop} {sza : α → Nat} {szb : β → Nat} (hf : f.offset = off) (he : Opens P f.type a oka sza) (hl : OpensL P fs (off + a.sz) b okb szb) :
  OpensL P (f :: fs) off (Kd.pair a b) (fun x => oka x.1 ∧ okb x.2) (fun x => sza x.1 + szb x.2) :=
 ⟨Kd.heap_pair he.heap hl.heap, fun {H enc W base spare held fuel cs xs} hcs hxs h => by
  have hcs' : cs.length = off + (a.sz + b.sz) := hcs
  match xs, hxs with
  | x :: xs, hxs =>
   have h1 := h 0 f rfl
   rw [he.cells, hf] at h1
   obtain ⟨y, h2, h3, h4⟩ := he.open_ h1
   obtain ⟨z, h5, h6, h7⟩ := hl.open_ (cs := cs) (xs := xs) (by omega) (by simpa using hxs) (fun i f hi => h (i + 1) f (by simpa using hi))
   refine ⟨(y, z), ⟨_, _, ?_, h2, h5⟩, ⟨h3, h6⟩, ?_⟩
   ·rw [← List.drop_drop, List.take_append_drop]
   ·simp only [List.map_cons, Rows.uptoBulkAll]
    omega⟩
theorem opens_struct {α β : Type} {P : Program} {T : TypeId} {fs : Array Field} {d : Kd α} {ok : α → Prop} {sz : α → Nat} (f : β → α) (g : α → β) (hfg : ∀ a, f (g a) = a) (ht : P.underlying T = some (.struct fs)) (hc : P.cellsOf T = d.sz) (hl : OpensL P fs.toList 0 d ok sz) :
  Opens P T (Kd.iso d f) (fun y => ok (f y)) (fun y => sz (f y) + 1) :=
 ⟨hc, Kd.heap_iso f hl.heap, fun {H enc W base spare held fuel cs x} h => by
  obtain ⟨xs, n, rfl, rfl, h1, h2, h3⟩ := DataW.trod_struct ht h
  obtain ⟨y, h4, h5, h6⟩ := hl.open_ (cs := cs) (xs := xs) (by omega) (by simpa using h2) (fun i f hi => h3 i f (by simpa using hi))
  rw [List.drop_zero] at h4
  exact ⟨g y, by show d.K W (f (g y)) cs; rw [hfg]; exact h4, by rw [hfg]; exact h5, by rw [hfg]; simp only [Rows.uptoBulk]; omega⟩⟩
theorem FK_of_K {α : Type} {d : Kd α} (hd : Kd.Heap d) {W : World} {x : α} {cs : List Value} (h : d.K W x cs) : Kd.FK d W (fun k => k < W.heap.size) x cs :=
 fun W' hW => hd.K (fun k hk => hW k hk hk) h
section
variable {H : Type} {enc : TypeId × Value → H} {P : Program} {W : World} {base b0 : Nat} {spare : Nat → Bool} {held : Bool} {r : Reach} {t : TypeId} {v : Value} {x : DataW H} {ps : List MemPlace}
theorem arg_struct {α : Type} {fs : Array Field} {d : Kd α} {ok : α → Prop} {sz : α → Nat} (he : Opens P t d ok sz) (ht : P.underlying t = some (.struct fs)) (hv : Value.okWide P W r b0 t v) (h : DataW.Trod enc P W base spare held t v x ps) :
  ∃ (cs : Array Value) (y : α), v = .agg cs ∧ Kd.FK d W (fun k => k < W.heap.size) y cs.toList ∧ ok y ∧ sz y ≤ Rows.uptoBulk x := by
 obtain ⟨cs, rfl, hsz⟩ := okWide_struct ht hv
 obtain ⟨fuel, hf⟩ := h
 obtain ⟨y, h3, h4, h5⟩ := he.open_ hf
 exact ⟨cs, y, rfl, FK_of_K he.heap (by simpa [Value.cells] using h3), h4, h5⟩
end
theorem own : ownKnob Tryz.prog.godebug = none := by kernel_rfl
theorem laidOut : laidOutB Tryz.prog = true := by kernel_rfl
end Go.Proofs.YtgiefblcckikeaaGreat.M
end

section
/- The arguments of law04's statements, opened. -/
set_option maxRecDepth 100000
namespace Go.Proofs.YtgiefblcckikeaaGreat.M
open Go.RowKit Go.Proofs.YtgiefblcckikeaaGreatW.PrintWords Go.Proofs.YtgiefblcckikeaaGreat.G
abbrev I64 (x : Int) : Prop := (Lit.int .i64 x).wf = true
abbrev I32 (x : Int) : Prop := (Lit.int .i32 x).wf = true
abbrev U8 (x : Int) : Prop := (Lit.int .u8 x).wf = true
abbrev LenP {α : Type} (ok : α → Prop) (l : List α) : Prop := l.length ≤ 9223372036854775807 ∧ ∀ x ∈ l, ok x
def okKd (k : KeyD) : Prop := I32 k.f0 ∧ I64 k.f1
def okTd (t : TxD) : Prop := I64 t.f0 ∧ I64 t.f1 ∧ LenP U8 t.f2 ∧ LenP I64 t.f3 ∧ LenP okKd t.f4 ∧ LenP okKd t.f5
def okEd (e : S29) : Prop := I64 e.f0 ∧ I64 e.f1 ∧ I64 e.f2 ∧ LenP okTd e.f3
theorem i64_of {x : Int} (h : I64 x) : isI64 x := by
 have this : (Lit.int .i64 x).wf = true := h
 simp only [Lit.wf, Bool.and_eq_true, decide_eq_true_eq] at this
 have e1 : IntKind.i64.min = -9223372036854775808 := rfl
 have e2 : IntKind.i64.max = 9223372036854775807 := rfl
 unfold isI64
 omega
theorem i32_of {x : Int} (h : I32 x) : -2147483648 ≤ x ∧ x ≤ 2147483647 := by
 have this : (Lit.int .i32 x).wf = true := h
 simp only [Lit.wf, Bool.and_eq_true, decide_eq_true_eq] at this
 have e1 : IntKind.i32.min = -2147483648 := rfl
 have e2 : IntKind.i32.max = 2147483647 := rfl
 omega
abbrev szN (l : List Int) : Nat := szL (fun _ : Int => 1) l
abbrev szK (k : KeyD) : Nat := 1 + 1 + 1
abbrev szT (t : TxD) : Nat := 1 + (1 + (szN t.f2 + (szN t.f3 + (szL szK t.f4 + szL szK t.f5)))) + 1
abbrev szE (e : S29) : Nat := 1 + (1 + (1 + szL szT e.f3)) + 1
theorem opens_i64 : Opens Tryz.prog 3 (Kd.int .i64) I64 (fun _ => 1) := opens_int Tryz.underlying3 (by kernel_rfl)
theorem opens_j64 : Opens Tryz.prog 2 (Kd.int .i64) I64 (fun _ => 1) := opens_int Tryz.underlying2 (by kernel_rfl)
theorem opens_i32 : Opens Tryz.prog 21 (Kd.int .i32) I32 (fun _ => 1) := opens_int Tryz.underlying21 (by kernel_rfl)
theorem opens_u8 : Opens Tryz.prog 5 (Kd.int .u8) U8 (fun _ => 1) := opens_int Tryz.underlying5 (by kernel_rfl)
theorem opens_bytes : Opens Tryz.prog 23 (Kd.slice 5 (Kd.int .u8)) (LenP U8) szN := opens_slice Tryz.underlying23 (by kernel_rfl) opens_u8
theorem opens_nums : Opens Tryz.prog 24 (Kd.slice 2 (Kd.int .i64)) (LenP I64) szN := opens_slice Tryz.underlying24 (by kernel_rfl) opens_j64
theorem opens_key : Opens Tryz.prog 101 G.k101 okKd szK := opens_struct (d := Kd.pair (Kd.int .i32) (Kd.int .i64)) (fun x : KeyD => (x.f0, x.f1)) (fun x => ⟨x.1, x.2⟩) (fun _ => rfl) Tryz.underlying101 (by kernel_rfl) (opensL_cons rfl opens_i32 (opensL_one rfl opens_j64))
theorem opens_keys : Opens Tryz.prog 22 (Kd.slice 101 G.k101) (LenP okKd) (szL szK) := opens_slice Tryz.underlying22 (by kernel_rfl) opens_key
theorem opens_txn : Opens Tryz.prog 26 G.k26 okTd szT := opens_struct (fun x : TxD => (x.f0, x.f1, x.f2, x.f3, x.f4, x.f5)) (fun x => ⟨x.1, x.2.1, x.2.2.1, x.2.2.2.1, x.2.2.2.2.1, x.2.2.2.2.2⟩) (fun _ => rfl) Tryz.underlying26 (by kernel_rfl)
 (opensL_cons rfl opens_j64 (opensL_cons rfl opens_j64 (opensL_cons rfl opens_bytes (opensL_cons rfl opens_nums (opensL_cons rfl opens_keys (opensL_one rfl opens_keys))))))
theorem opens_txns : Opens Tryz.prog 27 (Kd.slice 26 G.k26) (LenP okTd) (szL szT) := opens_slice Tryz.underlying27 (by kernel_rfl) opens_txn
theorem opens_ent : Opens Tryz.prog 29 G.k29 okEd szE := opens_struct (fun x : S29 => (x.f0, x.f1, x.f2, x.f3)) (fun x => ⟨x.1, x.2.1, x.2.2.1, x.2.2.2⟩) (fun _ => rfl) Tryz.underlying29 (by kernel_rfl)
 (opensL_cons rfl opens_i64 (opensL_cons rfl opens_i64 (opensL_cons rfl opens_j64 (opensL_one rfl opens_txns))))
theorem okT_of {t : TxD} (h : okTd t) : okT t = true ∧ TxLs t := by
 obtain ⟨h0, h1, h2, h3, h4, h5⟩ := h
 have k4 : ∀ x : KeyD, okKd x → okK x = true := fun x hx => by
  obtain ⟨a, b⟩ := hx
  have a := i32_of a
  unfold okK
  exact decide_eq_true ⟨a.1, a.2, i64_of b⟩
 have i0 : isI64 t.f0 := i64_of h0
 have i1 : isI64 t.f1 := i64_of h1
 refine ⟨?_, h2.1, h3.1, h4.1, h5.1⟩
 unfold okT
 rw [decide_eq_true i0, decide_eq_true i1, okI_of_wf h3.2, List.all_eq_true.2 (fun x hx => k4 x (h4.2 x hx)), List.all_eq_true.2 (fun x hx => k4 x (h5.2 x hx))]
 rw [okB_of_wf h2.2]
 rfl
theorem okE_of {e : S29} (h : okEd e) : okE e.f0 e.f1 e.f2 e.f3 = true ∧ e.f3.length ≤ 9223372036854775807 ∧ ∀ t ∈ e.f3, TxLs t := by
 obtain ⟨h0, h1, h2, h3⟩ := h
 have i0 : isI64 e.f0 := i64_of h0
 have i1 : isI64 e.f1 := i64_of h1
 have i2 : isI64 e.f2 := i64_of h2
 refine ⟨?_, h3.1, fun t ht => (okT_of (h3.2 t ht)).2⟩
 unfold okE
 rw [decide_eq_true i0, decide_eq_true i1, decide_eq_true i2, List.all_eq_true.2 (fun t ht => (okT_of (h3.2 t ht)).1)]
 rfl
end Go.Proofs.YtgiefblcckikeaaGreat.M
end

section
/- Messages as Lean data. -/
set_option maxRecDepth 100000
namespace Go.Proofs.YtgiefblcckikeaaGreat.M
open Go.RowKit Go.Proofs.YtgiefblcckikeaaGreatW.PrintWords Go.Proofs.YtgiefblcckikeaaGreat.G
abbrev EntD := G.S29
abbrev TrD := G.S63
structure PartD where
 f0 : Int
 f1 : Int
 f2 : Int
 f3 : List Int
structure MsgD where
 f0 : Int
 f1 : Int
 f2 : Int
 f3 : Int
 f4 : Int
 f5 : Int
 f6 : Int
 f7 : Bool
 f8 : List TrD
 f9 : EntD
 f10 : PartD
def eqTr (a b : TrD) : Bool := a.f0 == b.f0 && eqEn a.f1.f0 a.f1.f1 a.f1.f2 a.f1.f3 b.f1.f0 b.f1.f1 b.f1.f2 b.f1.f3
def eqTrs : List TrD → List TrD → Bool
 | [], [] => true
 | a :: l, b :: m => eqTr a b && eqTrs l m
 | _, _ => false
theorem eqTrs_len : ∀ {a b : List TrD}, a.length ≠ b.length → eqTrs a b = false
 | [], [], h => absurd rfl h
 | [], _ :: _, _ => rfl
 | _ :: _, [], _ => rfl
 | _ :: _, _ :: _, h => by
  unfold eqTrs
  rw [eqTrs_len (by simpa using h), Bool.and_false]
theorem eqTrs_take {a b : List TrD} {i : Nat} {x y : TrD} (hx : a[i]? = some x) (hy : b[i]? = some y) : eqTrs (a.drop i) (b.drop i) = (eqTr x y && eqTrs (a.drop (i + 1)) (b.drop (i + 1))) := by
 rw [drop_cons hx, drop_cons hy]; rfl
def eqPt (a b : PartD) : Bool := a.f0 == b.f0 && (a.f1 == b.f1 && (a.f2 == b.f2 && eqS a.f3 b.f3))
def eqMs (m n : MsgD) : Bool := m.f0 == n.f0 && (m.f1 == n.f1 && (m.f2 == n.f2 && (m.f3 == n.f3 && (m.f4 == n.f4 && (m.f5 == n.f5 && (m.f6 == n.f6 && (m.f7 == n.f7 && (eqTrs m.f8 n.f8 && (eqEn m.f9.f0 m.f9.f1 m.f9.f2 m.f9.f3 n.f9.f0 n.f9.f1 n.f9.f2 n.f9.f3 && eqPt m.f10 n.f10)))))))))
abbrev msgCells (m : MsgD) (A8 : Option Addr) (c8 : Nat) (A12 : Option Addr) (c12 : Nat) (A16 : Option Addr) (c16 : Nat) : Array Value := #[.int .i64 m.f0, .int .i64 m.f1, .int .i64 m.f2, .int .i64 m.f3, .int .i64 m.f4, .int .i64 m.f5, .int .i64 m.f6, .bool m.f7, .slice A8 m.f8.length c8, .int .i64 m.f9.f0, .int .i64 m.f9.f1, .int .i64 m.f9.f2, .slice A12 m.f9.f3.length c12, .int .i64 m.f10.f0, .int .i64 m.f10.f1, .int .i64 m.f10.f2, .slice A16 m.f10.f3.length c16]
structure MsgC (w : World) (m : MsgD) (A8 : Option Addr) (c8 : Nat) (A12 : Option Addr) (c12 : Nat) (A16 : Option Addr) (c16 : Nat) : Prop where
 l8 : m.f8.length ≤ c8
 g8 : G.k63.C w A8 m.f8.length m.f8
 l12 : m.f9.f3.length ≤ c12
 g12 : G.k26.C w A12 m.f9.f3.length m.f9.f3
 l16 : m.f10.f3.length ≤ c16
 g16 : (Kd.int .u8).C w A16 m.f10.f3.length m.f10.f3
section
variable {w w' : World} {m : MsgD} {A8 A12 A16 : Option Addr} {c8 c12 c16 : Nat}
theorem MsgC.below (h : MsgC w m A8 c8 A12 c12 A16 c16) (hb : Below w.heap.size w w') : MsgC w' m A8 c8 A12 c12 A16 c16 :=
 ⟨h.l8, Kd.C_below h.g8 hb, h.l12, Kd.C_below h.g12 hb, h.l16, Kd.C_below h.g16 hb⟩
end
def MsBox (W : World) (b : Nat) (m : MsgD) (A8 : Option Addr) (c8 : Nat) (A12 : Option Addr) (c12 : Nat) (A16 : Option Addr) (c16 : Nat) : Prop := W.heap[b]? = some (.cells (msgCells m A8 c8 A12 c12 A16 c16) 34)
def kP : Kd PartD := Kd.iso (Kd.pair (Kd.int .i64) (Kd.pair (Kd.int .i64) (Kd.pair (Kd.int .i64) (Kd.slice 5 (Kd.int .u8))))) (fun x : PartD => (x.f0, x.f1, x.f2, x.f3))
def kM : Kd MsgD := Kd.iso (Kd.pair (Kd.int .i64) (Kd.pair (Kd.int .i64) (Kd.pair (Kd.int .i64) (Kd.pair (Kd.int .i64) (Kd.pair (Kd.int .i64) (Kd.pair (Kd.int .i64) (Kd.pair (Kd.int .i64) (Kd.pair Kd.bool (Kd.pair (Kd.slice 63 G.k63) (Kd.pair G.k29 kP)))))))))) (fun x : MsgD => (x.f0, x.f1, x.f2, x.f3, x.f4, x.f5, x.f6, x.f7, x.f8, x.f9, x.f10))
theorem kM_open {w : World} {m : MsgD} {cs : List Value} (h : kM.K w m cs) : ∃ A8 c8 A12 c12 A16 c16, cs = (msgCells m A8 c8 A12 c12 A16 c16).toList ∧ MsgC w m A8 c8 A12 c12 A16 c16 := by
 obtain ⟨_, _, rfl, rfl, ⟨_, _, rfl, rfl, ⟨_, _, rfl, rfl, ⟨_, _, rfl, rfl, ⟨_, _, rfl, rfl, ⟨_, _, rfl, rfl, ⟨_, _, rfl, rfl, ⟨_, _, rfl, rfl, ⟨_, _, rfl, ⟨A8, c8, rfl, l8, g8⟩, ⟨_, _, rfl, s9, s10⟩⟩⟩⟩⟩⟩⟩⟩⟩⟩ := h
 obtain ⟨A12, c12, rfl, l12, g12⟩ := G.k29_open s9
 obtain ⟨_, _, rfl, rfl, ⟨_, _, rfl, rfl, ⟨_, _, rfl, rfl, ⟨A16, c16, rfl, l16, g16⟩⟩⟩⟩ := s10
 exact ⟨A8, c8, A12, c12, A16, c16, rfl, l8, g8, l12, g12, l16, g16⟩
def okTrd (x : TrD) : Prop := I64 x.f0 ∧ okEd x.f1
def okPd (p : PartD) : Prop := I64 p.f0 ∧ I64 p.f1 ∧ I64 p.f2 ∧ LenP U8 p.f3
def okMd (m : MsgD) : Prop := I64 m.f0 ∧ I64 m.f1 ∧ I64 m.f2 ∧ I64 m.f3 ∧ I64 m.f4 ∧ I64 m.f5 ∧ I64 m.f6 ∧ True ∧ LenP okTrd m.f8 ∧ okEd m.f9 ∧ okPd m.f10
theorem opens_bo : Opens Tryz.prog 4 Kd.bool (fun _ => True) (fun _ => 1) := opens_bool Tryz.underlying4 (by kernel_rfl)
theorem opens_tr : Opens Tryz.prog 63 G.k63 okTrd (fun x => 1 + szE x.f1 + 1) := opens_struct (d := Kd.pair (Kd.int .i64) G.k29) (fun x : TrD => (x.f0, x.f1)) (fun x => ⟨x.1, x.2⟩) (fun _ => rfl) Tryz.underlying63 (by kernel_rfl) (opensL_cons rfl opens_j64 (opensL_one rfl opens_ent))
theorem opens_trs : Opens Tryz.prog 30 (Kd.slice 63 G.k63) (LenP okTrd) (szL (fun x => 1 + szE x.f1 + 1)) := opens_slice Tryz.underlying30 (by kernel_rfl) opens_tr
def szP (p : PartD) : Nat := 1 + (1 + (1 + szN p.f3)) + 1
theorem opens_part : Opens Tryz.prog 32 kP okPd szP := opens_struct (fun x : PartD => (x.f0, x.f1, x.f2, x.f3)) (fun x => ⟨x.1, x.2.1, x.2.2.1, x.2.2.2⟩) (fun _ => rfl) Tryz.underlying32 (by kernel_rfl) (opensL_cons rfl opens_j64 (opensL_cons rfl opens_i64 (opensL_cons rfl opens_i64 (opensL_one rfl opens_bytes))))
def szM (m : MsgD) : Nat := 1 + (1 + (1 + (1 + (1 + (1 + (1 + (1 + (szL (fun x => 1 + szE x.f1 + 1) m.f8 + (szE m.f9 + szP m.f10))))))))) + 1
theorem opens_msg : Opens Tryz.prog 34 kM okMd szM := opens_struct (fun x : MsgD => (x.f0, x.f1, x.f2, x.f3, x.f4, x.f5, x.f6, x.f7, x.f8, x.f9, x.f10)) (fun x => ⟨x.1, x.2.1, x.2.2.1, x.2.2.2.1, x.2.2.2.2.1, x.2.2.2.2.2.1, x.2.2.2.2.2.2.1, x.2.2.2.2.2.2.2.1, x.2.2.2.2.2.2.2.2.1, x.2.2.2.2.2.2.2.2.2.1, x.2.2.2.2.2.2.2.2.2.2⟩) (fun _ => rfl) Tryz.underlying34 (by kernel_rfl)
 (opensL_cons rfl opens_i64 (opensL_cons rfl opens_i64 (opensL_cons rfl opens_i64 (opensL_cons rfl opens_j64 (opensL_cons rfl opens_j64 (opensL_cons rfl opens_j64 (opensL_cons rfl opens_j64 (opensL_cons rfl opens_bo (opensL_cons rfl opens_trs (opensL_cons rfl opens_ent (opensL_one rfl opens_part)))))))))))
end Go.Proofs.YtgiefblcckikeaaGreat.M
end

section
-- Written by a program of this session's (wip/gprint.py over the kit's printer).
namespace Go.Proofs.YtgiefblcckikeaaGreat.G
open Go.RowKit Go.Proofs.YtgiefblcckikeaaGreatW.PrintWords Go.Proofs.YtgiefblcckikeaaGreatW.PrintLast Go.Proofs.YtgiefblcckikeaaGreatW.PrintMore
attribute [local go_sem] max2_int min2_int max_two min_two max_three min_three max_four min_four   -- for this text's walks alone
def IsS81 (w0 W : World) (g : Nat) (f0 : List Int) (f1 : Int) (f2 : Bool) : Prop := ∃ A0 c0, W.heap[g]? = some (.cells #[.slice A0 f0.length c0, .int .i64 f1, .bool f2] 81 (0, 0)) ∧ w0.heap.size ≤ g ∧ Kd.C (Kd.int .u8) w0 A0 f0.length f0
theorem IsS81.grown {w0 W : World} {g : Nat} {f0 : List Int} {f1 : Int} {f2 : Bool} {W1 : World} {row : Option Nat} (h : IsS81 w0 W g f0 f1 f2) (hw : W.grownBy W1 row) (hne : some g ≠ row) : IsS81 w0 W1 g f0 f1 f2 := by
 obtain ⟨A0, c0, hb, hg, hr0⟩ := h
 exact ⟨A0, c0, blk_grown hb hw hne, hg, hr0⟩
theorem IsS81.own_neN {w0 W : World} {g : Nat} {f0 : List Int} {f1 : Int} {f2 : Bool} {α : Type} {d : Kd α} {e : Nat} {base : Nat} {ok : Nat → Prop} {v : Value} {xs : List α} (h : IsS81 w0 W g f0 f1 f2) (ho : Kd.N d e W base ok v xs) (ht : e ≠ 81) : some g ≠ v.ownBlock := by
 obtain ⟨A0, c0, hb, hg, hr0⟩ := h
 exact Kd.N_ne ho hb ht
theorem IsS81.fresh {w0 W : World} {g : Nat} {f0 : List Int} {f1 : Int} {f2 : Bool} (h : IsS81 w0 W g f0 f1 f2) : ∀ k, W.heap.size ≤ k → k ≠ g := by
 obtain ⟨A0, c0, hb, hg, hr0⟩ := h
 exact Kd.freshB hb
theorem IsS81.kept {w0 W : World} {g : Nat} {f0 : List Int} {f1 : Int} {f2 : Bool} {W1 : World} {S : Nat → Prop} (h : IsS81 w0 W g f0 f1 f2) (hk : Kept W W1 S) (hne : ¬ S g) : IsS81 w0 W1 g f0 f1 f2 := by
 obtain ⟨A0, c0, hb, hg, hr0⟩ := h
 exact ⟨A0, c0, blk_kept hb hk hne, hg, hr0⟩
theorem IsS81.below {w0 W : World} {g : Nat} {f0 : List Int} {f1 : Int} {f2 : Bool} {W1 : World} (h : IsS81 w0 W g f0 f1 f2) (hw : Below W.heap.size W W1) : IsS81 w0 W1 g f0 f1 f2 := h.grown (grown_of_below hw none) (by simp)
theorem IsS81.alloc {w0 W : World} {g : Nat} {f0 : List Int} {f1 : Int} {f2 : Bool} (h : IsS81 w0 W g f0 f1 f2) (o : Obj) : IsS81 w0 (W.alloc o) g f0 f1 f2 := h.below (below_alloc (Below.refl _ _) o)
theorem IsS81.drewN {w0 W : World} {g : Nat} {f0 : List Int} {f1 : Int} {f2 : Bool} (h : IsS81 w0 W g f0 f1 f2) (m : Nat) : IsS81 w0 (W.drewN m) g f0 f1 f2 := h
theorem IsS81.drew {w0 W : World} {g : Nat} {f0 : List Int} {f1 : Int} {f2 : Bool} (h : IsS81 w0 W g f0 f1 f2) : IsS81 w0 W.drew g f0 f1 f2 := h
theorem IsS81.at_ {w0 W : World} {g : Nat} {f0 : List Int} {f1 : Int} {f2 : Bool} {w' : World} {m : Nat} (hq : W.drewN m = w') (h : IsS81 w0 W g f0 f1 f2) : IsS81 w0 w' g f0 f1 f2 := by subst hq; exact IsS81.drewN h m
theorem IsS81.apart {w0 W : World} {g : Nat} {f0 : List Int} {f1 : Int} {f2 : Bool} {α : Type} {d : Kd α} {e : Nat} {base : Nat} {ok : Nat → Prop} {v : Value} {xs : List α} (h : IsS81 w0 W g f0 f1 f2) (ho : d.R e W base ok v xs) (ht : ∀ q, q ∈ e :: d.E → q ≠ 81) : d.R e W base (fun k => ok k ∧ k ≠ g) v xs := by
 obtain ⟨A0, c0, hb, hg, hr0⟩ := h
 exact Kd.R_types ho hb ht
theorem IsS81.own_ne {w0 W : World} {g : Nat} {f0 : List Int} {f1 : Int} {f2 : Bool} {α : Type} {d : Kd α} {e : Nat} {base : Nat} {ok : Nat → Prop} {v : Value} {xs : List α} (h : IsS81 w0 W g f0 f1 f2) (ho : d.R e W base ok v xs) (ht : e ≠ 81) : some g ≠ v.ownBlock := by
 obtain ⟨A0, c0, hb, hg, hr0⟩ := h
 exact Kd.R_ne ho hb ht
theorem IsS81.apartQ {w0 W : World} {g : Nat} {f0 : List Int} {f1 : Int} {f2 : Bool} {α : Type} {d : Kd α} {e : Nat} {base : Nat} {ok : Nat → Prop} {v : Value} {xs : List α} (h : IsS81 w0 W g f0 f1 f2) (ho : d.Q e W base ok v xs) (ht : ∀ q, q ∈ e :: d.E → q ≠ 81) : d.Q e W base (fun k => ok k ∧ k ≠ g) v xs := by
 obtain ⟨A0, c0, hb, hg, hr0⟩ := h
 exact Kd.Q_types ho hb ht
theorem IsS81.own_neQ {w0 W : World} {g : Nat} {f0 : List Int} {f1 : Int} {f2 : Bool} {α : Type} {d : Kd α} {e : Nat} {base : Nat} {ok : Nat → Prop} {v : Value} {xs : List α} (h : IsS81 w0 W g f0 f1 f2) (ho : d.Q e W base ok v xs) (ht : e ≠ 81) : some g ≠ v.ownBlock := by
 obtain ⟨A0, c0, hb, hg, hr0⟩ := h
 exact Kd.Q_ne ho hb ht
theorem IsS81.apartS {w0 W : World} {g : Nat} {f0 : List Int} {f1 : Int} {f2 : Bool} {α : Type} {d : Kd α} {e : Nat} {base : Nat} {ok : Nat → Prop} {v : Value} {xs : List α} (h : IsS81 w0 W g f0 f1 f2) (ho : d.S e W base ok v xs) (ht : ∀ q, q ∈ e :: d.E → q ≠ 81) : d.S e W base (fun k => ok k ∧ k ≠ g) v xs := by
 obtain ⟨A0, c0, hb, hg, hr0⟩ := h
 exact Kd.S_types ho hb ht
theorem IsS81.own_neS {w0 W : World} {g : Nat} {f0 : List Int} {f1 : Int} {f2 : Bool} {α : Type} {d : Kd α} {e : Nat} {base : Nat} {ok : Nat → Prop} {v : Value} {xs : List α} (h : IsS81 w0 W g f0 f1 f2) (ho : d.S e W base ok v xs) (ht : e ≠ 81) : some g ≠ v.ownBlock := by
 obtain ⟨A0, c0, hb, hg, hr0⟩ := h
 exact Kd.S_ne ho hb ht
theorem IsS81.lt {w0 W : World} {g : Nat} {f0 : List Int} {f1 : Int} {f2 : Bool} (h : IsS81 w0 W g f0 f1 f2) : g < W.heap.size := by
 obtain ⟨A0, c0, hb, hg, hr0⟩ := h
 exact blk_lt hb
theorem IsS81.ge {w0 W : World} {g : Nat} {f0 : List Int} {f1 : Int} {f2 : Bool} (h : IsS81 w0 W g f0 f1 f2) : w0.heap.size ≤ g := by
 obtain ⟨A0, c0, hb, hg, hr0⟩ := h
 exact hg
theorem IsS81.ne_blk {w0 W : World} {g : Nat} {f0 : List Int} {f1 : Int} {f2 : Bool} {a : Nat} {cs : Array Value} {t : TypeId} {fr : Nat × Nat} (h : IsS81 w0 W g f0 f1 f2) (hb2 : W.heap[a]? = some (.cells cs t fr)) (ht : t ≠ 81) : g ≠ a := by
 obtain ⟨A0, c0, hb, hg, hr0⟩ := h
 rintro rfl
 rw [hb] at hb2
 injection hb2 with hb2
 injection hb2 with _ ht2
 exact ht ht2.symm
theorem IsS81.far {w0 W : World} {g : Nat} {f0 : List Int} {f1 : Int} {f2 : Bool} {p : Addr} (h : IsS81 w0 W g f0 f1 f2) (hne : g ≠ p.block) (u : Value) : IsS81 w0 (W.setCell p u) g f0 f1 f2 := by
 obtain ⟨A0, c0, hb, hg, hr0⟩ := h
 exact ⟨A0, c0, blk_far hb hne u, hg, hr0⟩
theorem cellS81_0 {W : World} {g : Nat} {A0 : Option Addr} {c0 : Nat} {f0 : List Int} {f1 : Int} {f2 : Bool} (h : W.heap[g]? = some (.cells #[.slice A0 f0.length c0, .int .i64 f1, .bool f2] 81 (0, 0))) : W.cell? ⟨g, 0, none⟩ = some (.slice A0 f0.length c0) := (blk_cell h 0).trans rfl
theorem cellS81_1 {W : World} {g : Nat} {A0 : Option Addr} {c0 : Nat} {f0 : List Int} {f1 : Int} {f2 : Bool} (h : W.heap[g]? = some (.cells #[.slice A0 f0.length c0, .int .i64 f1, .bool f2] 81 (0, 0))) : W.cell? ⟨g, 1, none⟩ = some (.int .i64 f1) := (blk_cell h 1).trans rfl
theorem IsS81.set_1 {w0 W : World} {g : Nat} {f0 : List Int} {f1 : Int} {f2 : Bool} (h : IsS81 w0 W g f0 f1 f2) (x : Int) : IsS81 w0 (W.setCell ⟨g, 1, none⟩ (.int .i64 x)) g f0 x f2 := by
 obtain ⟨A0, c0, hb, hg, hr0⟩ := h
 exact ⟨A0, c0, by simpa using blk_set hb 1 (.int .i64 x), hg, hr0⟩
theorem cellS81_2 {W : World} {g : Nat} {A0 : Option Addr} {c0 : Nat} {f0 : List Int} {f1 : Int} {f2 : Bool} (h : W.heap[g]? = some (.cells #[.slice A0 f0.length c0, .int .i64 f1, .bool f2] 81 (0, 0))) : W.cell? ⟨g, 2, none⟩ = some (.bool f2) := (blk_cell h 2).trans rfl
theorem IsS81.set_2 {w0 W : World} {g : Nat} {f0 : List Int} {f1 : Int} {f2 : Bool} (h : IsS81 w0 W g f0 f1 f2) (x : Bool) : IsS81 w0 (W.setCell ⟨g, 2, none⟩ (.bool x)) g f0 f1 x := by
 obtain ⟨A0, c0, hb, hg, hr0⟩ := h
 exact ⟨A0, c0, by simpa using blk_set hb 2 (.bool x), hg, hr0⟩
theorem IsS81.new (w0 W : World) (A0 : Option Addr) (c0 : Nat) (f0 : List Int) (f1 : Int) (f2 : Bool) (hB : Below w0.heap.size w0 W) (hr0 : Kd.C (Kd.int .u8) w0 A0 f0.length f0) : IsS81 w0 (W.alloc (.cells #[.slice A0 f0.length c0, .int .i64 f1, .bool f2] 81)) W.heap.size f0 f1 f2 := ⟨A0, c0, by simpa using heap_alloc_new W _, hB.size, hr0⟩
end Go.Proofs.YtgiefblcckikeaaGreat.G
end

section
/- Contract of trivet/shape.take. -/
set_option maxRecDepth 100000
namespace Go.Proofs.YtgiefblcckikeaaGreat.M
open Go.RowKit Go.Proofs.YtgiefblcckikeaaGreatW.PrintWords
def takeEnd (l : List Int) : Ending := if tkE l = 0 then .returned (.tuple #[.int .i64 (tkN l), .int .i64 (tkS l)]) else .panicked [{ v := wrongV (tkE l), recovered := false }]
theorem takeEnd_bad {l : List Int} {e : Int} (h : tkE l = e) (he : ¬ e = 0) : takeEnd l = .panicked [{ v := wrongV e, recovered := false }] := by
 unfold takeEnd
 rw [h, if_neg he]
theorem takeEnd_good {l : List Int} (h : tkE l = 0) : takeEnd l = .returned (.tuple #[.int .i64 (tkN l), .int .i64 (tkS l)]) := by
 unfold takeEnd
 rw [if_pos h]
set_option maxHeartbeats 1000000 in
theorem take_any (A : Option Addr) (c : Nat) (l : List Int) (w : World) (hr : Kd.C (Kd.int .u8) w A l.length l) (hc : l.length ≤ c) (hb : okB l = true) :
  Calls Tryz.prog 160 #[.slice A l.length c] w fun e w' => e = takeEnd l ∧ w' = w := by
 have HR := Aside0.mk hr
 have HC := Aside0.mk hc
 have HB := Aside0.mk hb
 clear hr hc hb
 obtain ⟨E, hE⟩ : ∃ E, takeEnd l = E := ⟨_, rfl⟩
 rw [hE]
 have HE := Aside0.mk hE
 clear hE
 by_cases h1 : l = []
 ·have he : tkE l = 10 := by unfold tkE; rw [if_pos h1]
  have HF := Aside0.mk (HE.out.symm.trans (takeEnd_bad he (by decide)))
  subst h1
  clear he
  go_enter Tryz.func160, Tryz.ntmps160
  go_wp2_with (go_at_call 123; first | ((with_reducible refine (give_no _ _).mono ?_); rintro e w' ⟨rfl, rfl⟩) | ((with_reducible refine (give_yes _ _).mono ?_); rintro e w' ⟨rfl, rfl⟩))
  exact ⟨rfl, HF.out.symm, rfl⟩
 have hl : 0 < l.length := List.length_pos_iff.2 h1
 have hlz : ((l.length : Int) == 0) = false := beq_eq_false_iff_ne.2 (by omega)
 have hb0 := okB_rd HB.out 0
 obtain ⟨ad, hA, hx0⟩ := Kd.at_int HR.out 0 (by omega) (by omega)
 rw [show ((0 : Int)).toNat = 0 from rfl, Addr.add_zero'] at hx0
 subst hA
 by_cases h2 : 17 < rd l 0 ∨ rd l 0 = 1
 ·have he : tkE l = 11 := by unfold tkE; rw [if_neg h1, if_pos h2]
  have HF := Aside0.mk (HE.out.symm.trans (takeEnd_bad he (by decide)))
  have h3 : decide (17 < rd l 0) = true ∨ (decide (17 < rd l 0) = false ∧ (rd l 0 == 1) = true) := by
   rcases h2 with h | h
   ·exact .inl (decide_eq_true h)
   ·exact .inr ⟨decide_eq_false (by omega), by rw [h]; rfl⟩
  clear h2 he h1
  rcases h3 with h3 | ⟨h3, h4⟩
  all_goals
   go_enter Tryz.func160, Tryz.ntmps160
   go_wp2_with (go_at_call 123; first | ((with_reducible refine (give_no _ _).mono ?_); rintro e w' ⟨rfl, rfl⟩) | ((with_reducible refine (give_yes _ _).mono ?_); rintro e w' ⟨rfl, rfl⟩))
   exact ⟨rfl, HF.out.symm, rfl⟩
 have h3 : decide (17 < rd l 0) = false := decide_eq_false (by omega)
 have h4 : (rd l 0 == 1) = false := beq_eq_false_iff_ne.2 (by omega)
 obtain ⟨k, hk⟩ : ∃ k, tkK l = k := ⟨_, rfl⟩
 have hk8 : k ≤ 8 := by unfold tkK at hk; omega
 have hq : rd l 0 / 2 = (k : Int) := by unfold tkK at hk; omega
 by_cases h5 : l.length ≤ k
 ·have he : tkE l = 10 := by unfold tkE; rw [if_neg h1, if_neg h2, hk, if_pos h5]
  have HF := Aside0.mk (HE.out.symm.trans (takeEnd_bad he (by decide)))
  have h6 : decide (l.length ≤ k) = true := decide_eq_true h5
  clear h2 he h1
  have HK := Lib.hid hk
  clear hk
  go_enter Tryz.func160, Tryz.ntmps160
  go_wp2_with (go_at_call 123; first | ((with_reducible refine (give_no _ _).mono ?_); rintro e w' ⟨rfl, rfl⟩) | ((with_reducible refine (give_yes _ _).mono ?_); rintro e w' ⟨rfl, rfl⟩))
  exact ⟨rfl, HF.out.symm, rfl⟩
 have h6 : decide (l.length ≤ k) = false := decide_eq_false h5
 have hrk : ∀ i : Nat, i ≤ k → w.cell? (ad.add i) = some (.int .u8 (rd l (i : Int))) := by
  intro i hi
  obtain ⟨ad', hA, hx⟩ := Kd.at_int HR.out (i : Int) (by omega) (by omega)
  obtain rfl : ad = ad' := by injection hA
  simpa using hx
 by_cases h7 : 0 < k ∧ rd l k = 0
 ·have he : tkE l = 11 := by unfold tkE; rw [if_neg h1, if_neg h2, hk, if_neg h5, if_pos h7]
  have HF := Aside0.mk (HE.out.symm.trans (takeEnd_bad he (by decide)))
  have hxk := hrk k (Nat.le_refl _)
  obtain ⟨h8, h9⟩ := h7
  rw [h9] at hxk
  have h10 : decide (0 < (k : Int)) = true := decide_eq_true (by omega)
  have h11 : (k : Int) < (l.length : Int) := by omega
  clear h2 he h1 hrk h9
  have HK := Lib.hid hk
  clear hk
  go_enter Tryz.func160, Tryz.ntmps160
  go_wp2_with (go_at_call 123; first | ((with_reducible refine (give_no _ _).mono ?_); rintro e w' ⟨rfl, rfl⟩) | ((with_reducible refine (give_yes _ _).mono ?_); rintro e w' ⟨rfl, rfl⟩))
  exact ⟨rfl, HF.out.symm, rfl⟩
 have h8 : (decide (0 < (k : Int)) = false ∧ k = 0) ∨ (0 < k ∧ (rd l k == 0) = false) := by
  rcases Nat.eq_zero_or_pos k with h | h
  ·exact .inl ⟨decide_eq_false (by omega), h⟩
  ·exact .inr ⟨h, beq_eq_false_iff_ne.2 (fun h' => h7 ⟨h, h'⟩)⟩
 have hxk := hrk k (Nat.le_refl _)
 have h11 : (k : Int) < (l.length : Int) := by omega
 have HP := Aside0.mk (show (if l = [] then (10:Int) else if 17 < rd l 0 ∨ rd l 0 = 1 then 11 else if l.length ≤ tkK l then 10 else if 0 < tkK l ∧ rd l (tkK l) = 0 then 11 else if big63 < tkU l ∨ (tkU l = big63 ∧ rd l 0 % 2 = 0) then 11 else 0) = if big63 < tkU l ∨ (tkU l = big63 ∧ rd l 0 % 2 = 0) then 11 else 0 by rw [if_neg h1, if_neg h2, hk, if_neg h5, if_neg h7])
 have HK := Lib.hid hk
 have HRK := Aside0.mk hrk
 clear hk hrk h2 h5 h7
 go_enter Tryz.func160, Tryz.ntmps160
 rcases h8 with ⟨h8, h9⟩ | ⟨h8, h9⟩
 all_goals
  (try (subst h9; clear h6))
  go_wp2_with (go_at_call 123; first | ((with_reducible refine (give_no _ _).mono ?_); rintro e w' ⟨rfl, rfl⟩) | ((with_reducible refine (give_yes _ _).mono ?_); rintro e w' ⟨rfl, rfl⟩))
  go_loop [5, 6] (fun u i => ∃ (j : Nat) (U : Int), j ≤ tkK l ∧ i = .int .i64 (j : Int) ∧ u = .int .u64 U ∧ Aside0 (U = upFrom l j (tkK l))) (fun _ i => (intOf i).toNat)
  case atStart => exact ⟨tkK l, 0, Nat.le_refl _, by first | (rw [HK.out]; done) | (rw [HK.out]; rfl), rfl, ⟨(upFrom_end _ _).symm⟩⟩
  case round =>
   obtain ⟨j, U, hj, rfl, rfl, HU⟩ := hrel
   have hk8' : tkK l ≤ 8 := by rw [HK.out]; exact hk8
   have hkl : tkK l < l.length := by rw [HK.out]; omega
   by_cases hlt : 0 < j
   ·have hxj := HRK.out j (by rw [← HK.out]; exact hj)
    have hj0 : (0 : Int) ≤ (j : Int) := by omega
    have hj1 : (j : Int) < (l.length : Int) := by omega
    have hbj := okB_rd HB.out (j : Int)
    have HV := Aside0.mk (show bits BinOp.or IntKind.u64 (U * 256) (rd l j) = upFrom l (j - 1) (tkK l) by
     rw [HU.out, or_byte _ _ (upFrom_nonneg HB.out _ _) (upFrom_lt HB.out hlt hk8') hbj.1 hbj.2, upFrom_step hlt hj hkl])
    have hU0 : 0 ≤ U := by rw [HU.out]; exact upFrom_nonneg HB.out _ _
    have hU1 : U < 72057594037927936 := by rw [HU.out]; exact upFrom_lt HB.out hlt hk8'
    go_wp2
    go_round
    case rel =>
     refine ⟨j - 1, _, by omega, by go_num, rfl, ⟨?_⟩⟩
     exact HV.out
    case measure => simp [intOf]; omega
   ·obtain rfl : j = 0 := by omega
    have hU : U = tkU l := by rw [HU.out, upFrom_zero]
    have hu0 : 0 ≤ U := by rw [HU.out]; exact upFrom_nonneg HB.out 0 _
    have hu1 : U < 18446744073709551616 := by rw [HU.out]; exact upFrom_lt8 HB.out (j := 0) hk8'
    have hT : tkE l = if big63 < U ∨ (U = big63 ∧ rd l 0 % 2 = 0) then 11 else 0 := by rw [hU]; exact HP.out
    have hS : tkS l = (tkK l : Int) + 1 := rfl
    rw [HK.out] at hS
    unfold big63 at hT
    have hm : rd l 0 % 2 = 0 ∨ rd l 0 % 2 = 1 := by omega
    rcases hm with hm | hm
    ·by_cases hg : U < 9223372036854775808
     ·have hN : tkN l = U := by unfold tkN; rw [if_neg (by omega), hU]
      have HF := Aside0.mk (HE.out.symm.trans (takeEnd_good (by rw [hT, if_neg (by omega)])))
      rw [hN, hS] at HF
      clear hU HU hN hS hT
      have hg1 : decide (9223372036854775808 < U) = false := decide_eq_false (by omega)
      have hg2 : (U == 9223372036854775808) = false := beq_eq_false_iff_ne.2 (by omega)
      have hw : wrap64 U = U := by unfold wrap64; omega
      go_wp2_with (go_at_call 123; first | ((with_reducible refine (give_no _ _).mono ?_); rintro e w' ⟨rfl, rfl⟩) | ((with_reducible refine (give_yes _ _).mono ?_); rintro e w' ⟨rfl, rfl⟩))
      go_ret2
      exact ⟨HF.out.symm, rfl⟩
     ·have HF := Aside0.mk (HE.out.symm.trans (takeEnd_bad (e := 11) (by rw [hT, if_pos (by omega)]) (by decide)))
      clear hU HU hS hT
      have hg3 : (decide (9223372036854775808 < U) = true) ∨ (decide (9223372036854775808 < U) = false ∧ (U == 9223372036854775808) = true) := by
       by_cases h : 9223372036854775808 < U
       ·exact .inl (decide_eq_true h)
       ·exact .inr ⟨decide_eq_false h, beq_iff_eq.2 (by omega)⟩
      rcases hg3 with hg1 | ⟨hg1, hg2⟩
      all_goals
       go_wp2_with (go_at_call 123; first | ((with_reducible refine (give_no _ _).mono ?_); rintro e w' ⟨rfl, rfl⟩) | ((with_reducible refine (give_yes _ _).mono ?_); rintro e w' ⟨rfl, rfl⟩))
       exact ⟨rfl, HF.out.symm, rfl⟩
    ·by_cases hg : 9223372036854775808 < U
     ·have HF := Aside0.mk (HE.out.symm.trans (takeEnd_bad (e := 11) (by rw [hT, if_pos (by omega)]) (by decide)))
      clear hU HU hS hT
      have hg1 : decide (9223372036854775808 < U) = true := decide_eq_true hg
      go_wp2_with (go_at_call 123; first | ((with_reducible refine (give_no _ _).mono ?_); rintro e w' ⟨rfl, rfl⟩) | ((with_reducible refine (give_yes _ _).mono ?_); rintro e w' ⟨rfl, rfl⟩))
      exact ⟨rfl, HF.out.symm, rfl⟩
     ·have hN : tkN l = wrap64 (IntKind.u64.wrap (-U)) := by
       unfold tkN; rw [if_pos hm, hU, IntKind.wrap_u64]; unfold wrap64; omega
      have HF := Aside0.mk (HE.out.symm.trans (takeEnd_good (by rw [hT, if_neg (by omega)])))
      rw [hN, hS] at HF
      clear hU HU hN hS hT
      have hg1 : decide (9223372036854775808 < U) = false := decide_eq_false (by omega)
      go_wp2_with (go_at_call 123; first | ((with_reducible refine (give_no _ _).mono ?_); rintro e w' ⟨rfl, rfl⟩) | ((with_reducible refine (give_yes _ _).mono ?_); rintro e w' ⟨rfl, rfl⟩))
      ·have h : U = 9223372036854775808 := by assumption
       rw [h] at HF
       go_ret2
       exact ⟨HF.out.symm, rfl⟩
      ·go_ret2
       exact ⟨HF.out.symm, rfl⟩
end Go.Proofs.YtgiefblcckikeaaGreat.M
end

section
/- Contract of trivet/shape.TakeNum. -/
set_option maxRecDepth 100000
namespace Go.Proofs.YtgiefblcckikeaaGreat.M
open Go.RowKit Go.Proofs.YtgiefblcckikeaaGreatW.PrintWords
def takeNum (l : List Int) : Int × Int × Int := if tkE l = 0 then (tkN l, tkS l, 0) else (0, 0, tkE l)
structure Boxes (b : Nat) (A : Option Addr) (c n : Nat) (z1 z2 : Value) (w : World) : Prop where
 b0 : w.cell? ⟨b, 0, none⟩ = some (.slice A n c)
 n0 : w.cell? ⟨b + 1, 0, none⟩ = some z1
 n1 : w.frozen? ⟨b + 1, 0, none⟩ = false
 s0 : w.cell? ⟨b + 2, 0, none⟩ = some z2
 s1 : w.frozen? ⟨b + 2, 0, none⟩ = false
theorem takenum1 (A : Option Addr) (c : Nat) (l : List Int) (w : World) (hr : Kd.C (Kd.int .u8) w A l.length l) (hc : l.length ≤ c) (hb : okB l = true) (b : Nat) (hx : Boxes b A c l.length (.int .i64 0) (.int .i64 0) w) :
  Calls Tryz.prog 168 #[.pointer (some ⟨b, 0, none⟩), .pointer (some ⟨b + 1, 0, none⟩), .pointer (some ⟨b + 2, 0, none⟩)] w fun e W => Keep2 b w W ∧
   (W.cell? ⟨b + 1, 0, none⟩ = some (.int .i64 (takeNum l).1) ∧ W.cell? ⟨b + 2, 0, none⟩ = some (.int .i64 (takeNum l).2.1) ∧ W.frozen? ⟨b + 1, 0, none⟩ = false ∧ W.frozen? ⟨b + 2, 0, none⟩ = false) ∧
   ((e = .returned (.tuple #[]) ∧ tkE l = 0) ∨ e = .panicked [{ v := wrongV (tkE l), recovered := false }]) := by
 have HT := Lib.hid (take_any A c l w hr hc hb)
 obtain ⟨hb0, hn0, hn1, hs0, hs1⟩ := hx
 by_cases he : tkE l = 0
 ·have HE := Aside0.mk (takeEnd_good he)
  have HZ := Aside0.mk he
  have HN := Aside0.mk (show takeNum l = (tkN l, tkS l, 0) by unfold takeNum; rw [if_pos he])
  clear he
  go_enter Tryz.func168, Tryz.ntmps168
  go_wp2_with (go_at_call 160; refine HT.out.mono ?_; rintro e w' ⟨rfl, rfl⟩; rw [HE.out])
  go_end0
  rw [HN.out]
  exact ⟨((Keep2.refl _ _).set1 _).set2 _, ⟨by simp [go_sem, hn0], by simp [go_sem, hs0], by simp [go_sem, hn1], by simp [go_sem, hs1]⟩, .inl ⟨rfl, HZ.out⟩⟩
 ·have HE := Aside0.mk (takeEnd_bad rfl he)
  have HN := Aside0.mk (show takeNum l = (0, 0, tkE l) by unfold takeNum; rw [if_neg he])
  clear he
  go_enter Tryz.func168, Tryz.ntmps168
  go_wp2_with (go_at_call 160; refine HT.out.mono ?_; rintro e w' ⟨rfl, rfl⟩; rw [HE.out])
  rw [HN.out]
  exact ⟨rfl, Keep2.refl _ _, ⟨hn0, hs0, hn1, hs1⟩, .inr rfl⟩
theorem takeNum_calls (A : Option Addr) (c : Nat) (l : List Int) (w : World) (hr : Kd.C (Kd.int .u8) w A l.length l) (hc : l.length ≤ c) (hb : okB l = true) :
  Calls Tryz.prog 153 #[.slice A l.length c] w fun e w' => e = .returned (.tuple #[.int .i64 (takeNum l).1, .int .i64 (takeNum l).2.1, .int .i64 (takeNum l).2.2]) ∧ Below w.heap.size w w' := by
 have HR := Aside0.mk hr
 have HC := Aside0.mk hc
 have HB := Aside0.mk hb
 clear hr hc hb
 have hmf : ∀ (fn : Fn) (first cap : Array Value) (w : World), (Instr.makeFunc fn first cap).run Tryz.prog w = .ok (.func fn first cap) w := fun _ _ _ _ => rfl
 go_enter Tryz.func153, Tryz.ntmps153
 go_wp2_with fail
 have HX : Boxes w.heap.size A c l.length (.int .i64 0) (.int .i64 0) ((((w.alloc (.cells #[.slice A l.length c] 23)).alloc (.cells #[.int .i64 0] 2)).alloc (.cells #[.int .i64 0] 3)).alloc (.cells #[.int .i64 0] 36)) := by
  constructor <;> simp [go_sem]
 refine (try_calls 168 _ w.heap.size _ _ (tkE l) (by simp) (enter_any _ _ _ Tryz.func168 rfl (by kernel_rfl))
  (takenum1 A c l _ (Kd.C_alloc (Kd.C_alloc (Kd.C_alloc (Kd.C_alloc HR.out _) _) _) _) HC.out HB.out w.heap.size HX)).mono ?_
 rintro e w1 ⟨W, ⟨hn, hs, hnf, hsf⟩, rfl, hk, hz, hbl, _⟩
 have hn1 : w1.cell? ⟨w.heap.size + 1, 0, none⟩ = some (.int .i64 (takeNum l).1) := (hbl.cell (by simp)).trans hn
 have hs1 : w1.cell? ⟨w.heap.size + 1 + 1, 0, none⟩ = some (.int .i64 (takeNum l).2.1) := (hbl.cell (by simp)).trans hs
 have hnf1 : w1.frozen? ⟨w.heap.size + 1, 0, none⟩ = false := (hbl.frozen (by simp)).trans hnf
 have hsf1 : w1.frozen? ⟨w.heap.size + 1 + 1, 0, none⟩ = false := (hbl.frozen (by simp)).trans hsf
 have HBL := Aside0.mk (show Below w.heap.size w w1 from
  (((((Below.refl w.heap.size w).alloc (Nat.le_refl _) _).alloc (by simp) _).alloc (by simp; omega) _).trans (hk.below (by omega) (by simp; omega))).trans (hbl.mono (by simp; omega)))
 have HT := Aside0.mk (show tkE l = (takeNum l).2.2 by unfold takeNum; split <;> simp [*])
 clear hn hs hnf hsf hk hz hbl HX
 go_wp2
 go_region
 all_goals
  go_wp2
  refine bodyPost_ret (v := .tuple #[.int .i64 (takeNum l).1, .int .i64 (takeNum l).2.1, .int .i64 (tkE l)]) (by simp [results, Tryz.results153, go_sem, hn1, hs1]) rfl ⟨by rw [HT.out], ?_⟩
  repeat first | exact HBL.out | exact (by assumption) | apply Below.drew | refine Below.setCell ?_ (by first | (simp; done) | (simp; omega)) _
end Go.Proofs.YtgiefblcckikeaaGreat.M
namespace Go.Proofs.YtgiefblcckikeaaGreat.G
open Go.RowKit Go.Proofs.YtgiefblcckikeaaGreatW.PrintWords Go.Proofs.YtgiefblcckikeaaGreat.M
def shape_TakeNum.f (l0 : List Int) : Option (Int × Int × Int) := if okB l0 = true then some (takeNum l0) else none
theorem shape_TakeNum.calls (A0 : Option Addr) (c0 : Nat) (l0 : List Int) (r1 : Int) (r2 : Int) (r3 : Int) (w : World) (hr0 : Kd.C (Kd.int .u8) w A0 l0.length l0) (hc0 : l0.length ≤ c0) (h : shape_TakeNum.f l0 = some (r1, r2, r3)) :
  Calls Tryz.prog 153 #[.slice A0 l0.length c0] w fun e w' => e = .returned (.tuple #[.int .i64 r1, .int .i64 r2, .int .i64 r3]) ∧ Below w.heap.size w w' := by
 unfold shape_TakeNum.f at h
 split at h
 ·rename_i hb
  have h := Option.some.inj h
  have h1 : r1 = (takeNum l0).1 := by rw [h]
  have h2 : r2 = (takeNum l0).2.1 := by rw [h]
  have h3 : r3 = (takeNum l0).2.2 := by rw [h]
  rw [h1, h2, h3]
  exact takeNum_calls A0 c0 l0 w hr0 hc0 hb
 ·cases h
end Go.Proofs.YtgiefblcckikeaaGreat.G
end

section
/- Contracts of trivet/shape.blob and trivet/shape.TakeBlob. -/
set_option maxRecDepth 100000
namespace Go.Proofs.YtgiefblcckikeaaGreat.M
open Go.RowKit Go.Proofs.YtgiefblcckikeaaGreatW.PrintWords
theorem tkN_bound {l : List Int} (hb : okB l = true) (h : tkE l = 0) : -9223372036854775808 ≤ tkN l ∧ tkN l ≤ 9223372036854775807 := by
 have h0 : 0 ≤ tkU l := by rw [← upFrom_zero]; exact upFrom_nonneg hb _ _
 unfold tkE at h
 split at h
 ·omega
 ·split at h
  ·omega
  ·split at h
   ·omega
   ·split at h
    ·omega
    ·split at h
     ·omega
     ·rename_i hh
      unfold big63 at hh
      unfold tkN
      have hr := okB_rd hb 0
      split
      ·unfold wrap64; omega
      ·omega
def blobV (A : Option Addr) (c : Nat) (l : List Int) : Value := .slice (if c = (blLo l).toNat then A else A.map (·.add ((blLo l).toNat * 1))) ((blHi l).toNat - (blLo l).toNat) (c - (blLo l).toNat)
set_option maxHeartbeats 1000000 in
theorem blob_any (A : Option Addr) (c : Nat) (l : List Int) (most more : Int) (w : World) (hr : Kd.C (Kd.int .u8) w A l.length l) (hc : l.length ≤ c) (hb : okB l = true) (hm0 : 0 ≤ more) (hm1 : more ≤ 8) (hlen : l.length < 140737488355328) :
  Calls Tryz.prog 122 #[.slice A l.length c, .int .i64 most, .int .i64 more] w fun e w' => w = w' ∧
   ((blE l most more = 0 ∧ e = .returned (.tuple #[blobV A c l, .int .i64 (blHi l)])) ∨ (¬ blE l most more = 0 ∧ e = .panicked [{ v := wrongV (blE l most more), recovered := false }])) := by
 have HT := Lib.hid (take_any A c l w hr hc hb)
 have HR := Aside0.mk hr
 have HBD := Aside0.mk (fun h => tkN_bound hb h)
 have HSZ := Aside0.mk (fun h => tkE_size (l := l) h)
 clear hr hb
 by_cases he : tkE l = 0
 ·have HE := Aside0.mk (takeEnd_good he)
  have hn := HBD.out he
  have hs := HSZ.out he
  have hs1 := tkS_pos l
  obtain ⟨n, HN⟩ : ∃ n, Aside0 (tkN l = n) := ⟨_, ⟨rfl⟩⟩
  obtain ⟨s, HS⟩ : ∃ s, Aside0 (tkS l = s) := ⟨_, ⟨rfl⟩⟩
  rw [HN.out, HS.out] at HE
  rw [HN.out] at hn
  rw [HS.out] at hs hs1
  have HBE := Aside0.mk (show blE l most more = if n < 0 then 11 else if most < n then 3 else if (l.length : Int) - s - more < n then 10 else 0 by unfold blE; rw [if_neg (by omega), HN.out, HS.out])
  clear he HBD HSZ
  by_cases h1 : n < 0
  ·have HZ := Aside0.mk (HBE.out.trans (if_pos h1))
   go_enter Tryz.func122, Tryz.ntmps122
   go_wp2_with (first | (go_at_call 160; refine HT.out.mono ?_; rintro e w' ⟨rfl, rfl⟩; rw [HE.out]) | (go_at_call 123; first | ((with_reducible refine (give_no _ _).mono ?_); rintro e w' ⟨rfl, rfl⟩) | ((with_reducible refine (give_yes _ _).mono ?_); rintro e w' ⟨rfl, rfl⟩)))
   exact ⟨rfl, rfl, .inr ⟨by rw [HZ.out]; decide, by rw [HZ.out]⟩⟩
  have g1 : decide (n < 0) = false := decide_eq_false h1
  by_cases h2 : most < n
  ·have HZ := Aside0.mk (HBE.out.trans ((if_neg h1).trans (if_pos h2)))
   go_enter Tryz.func122, Tryz.ntmps122
   go_wp2_with (first | (go_at_call 160; refine HT.out.mono ?_; rintro e w' ⟨rfl, rfl⟩; rw [HE.out]) | (go_at_call 123; first | ((with_reducible refine (give_no _ _).mono ?_); rintro e w' ⟨rfl, rfl⟩) | ((with_reducible refine (give_yes _ _).mono ?_); rintro e w' ⟨rfl, rfl⟩)))
   exact ⟨rfl, rfl, .inr ⟨by rw [HZ.out]; decide, by rw [HZ.out]⟩⟩
  have g2 : decide (most < n) = false := decide_eq_false h2
  by_cases h3 : (l.length : Int) - s - more < n
  ·have HZ := Aside0.mk (HBE.out.trans ((if_neg h1).trans ((if_neg h2).trans (if_pos h3))))
   go_enter Tryz.func122, Tryz.ntmps122
   go_wp2_with (first | (go_at_call 160; refine HT.out.mono ?_; rintro e w' ⟨rfl, rfl⟩; rw [HE.out]) | (go_at_call 123; first | ((with_reducible refine (give_no _ _).mono ?_); rintro e w' ⟨rfl, rfl⟩) | ((with_reducible refine (give_yes _ _).mono ?_); rintro e w' ⟨rfl, rfl⟩)))
   exact ⟨rfl, rfl, .inr ⟨by rw [HZ.out]; decide, by rw [HZ.out]⟩⟩
  have HZ := Aside0.mk (HBE.out.trans ((if_neg h1).trans ((if_neg h2).trans (if_neg h3))))
  have g3 : decide ((l.length : Int) - s - more < n) = false := decide_eq_false h3
  obtain ⟨i0, hi, hz0, hz1, hz2⟩ := info_parts infoU8
  have hcut := cut_mid (P := Tryz.prog) 23 5 .i64 .i64 Tryz.underlying23 hi 1 hz1 A l.length c s (s + n) (by omega) (by omega) (by omega) hc
  have hV0 : blobV A c l = .slice (if c = s.toNat then A else A.map (·.add (s.toNat * 1))) ((s + n).toNat - s.toNat) (c - s.toNat) := by unfold blobV blHi blLo; rw [HS.out, HN.out]
  rw [← hV0] at hcut
  clear hV0
  have HH := Aside0.mk (show blHi l = s + n by unfold blHi; rw [HS.out, HN.out])
  clear hi hz0 hz1 hz2
  go_enter Tryz.func122, Tryz.ntmps122
  go_wp2_with (first | (go_at_call 160; refine HT.out.mono ?_; rintro e w' ⟨rfl, rfl⟩; rw [HE.out]) | (go_at_call 123; first | ((with_reducible refine (give_no _ _).mono ?_); rintro e w' ⟨rfl, rfl⟩) | ((with_reducible refine (give_yes _ _).mono ?_); rintro e w' ⟨rfl, rfl⟩)))
  go_ret2
  exact ⟨rfl, .inl ⟨HZ.out, by rw [HH.out]; rfl⟩⟩
 ·have HE := Aside0.mk (takeEnd_bad rfl he)
  have HZ := Aside0.mk (show blE l most more = tkE l by unfold blE; rw [if_pos he])
  have HZ2 := Aside0.mk he
  clear he HBD HSZ
  go_enter Tryz.func122, Tryz.ntmps122
  go_wp2_with (go_at_call 160; refine HT.out.mono ?_; rintro e w' ⟨rfl, rfl⟩; rw [HE.out])
  exact ⟨rfl, rfl, .inr ⟨by rw [HZ.out]; exact HZ2.out, by rw [HZ.out]⟩⟩
theorem blD_length {l : List Int} (h : 1 ≤ blLo l ∧ blLo l ≤ blHi l ∧ blHi l ≤ (l.length : Int)) : (blD l).length = (blHi l).toNat - (blLo l).toNat := by
 unfold blD
 rw [List.length_drop, List.length_take]
 omega
theorem blobV_form {A : Option Addr} {c : Nat} {l : List Int} {w : World} (hr : Kd.C (Kd.int .u8) w A l.length l) (hc : l.length ≤ c) (h : 1 ≤ blLo l ∧ blLo l ≤ blHi l ∧ blHi l ≤ (l.length : Int)) :
  ∃ A' c', blobV A c l = .slice A' (blD l).length c' ∧ (blD l).length ≤ c' ∧ Kd.C (Kd.int .u8) w A' (blD l).length (blD l) := by
 refine ⟨_, c - (blLo l).toNat, ?_, ?_, Kd.C_mid (c := c) hr (by omega : (blLo l).toNat ≤ (blHi l).toNat) (by omega) hc⟩
 ·unfold blobV
  rw [blD_length h]
  rfl
 ·rw [blD_length h]; omega
theorem Own.set {W : World} {base : Nat} {v : Value} {l : List Int} (h : Own W base v l) {p : Addr} (hp : p.block < base) (u : Value) : Own (W.setCell p u) base v l :=
 Kd.R_mono (Kd.R_far (Kd.R_bound h) (p := p) (fun k hk e => by have := hk.2.1; omega) u) (fun _ _ => trivial)
theorem Own.below {W W' : World} {base : Nat} {v : Value} {l : List Int} (h : Own W base v l) (hb : Below W.heap.size W W') : Own W' base v l := Kd.R_below h hb
theorem Own.lower {W : World} {base base' : Nat} {v : Value} {l : List Int} (h : Own W base v l) (hb : base' ≤ base) : Own W base' v l := Kd.R_lower h hb
theorem Own.drew {W : World} {base : Nat} {v : Value} {l : List Int} (h : Own W base v l) : Own W.drew base v l := Kd.R_drew h
theorem Own.nil (W : World) (base : Nat) : Own W base (.slice none 0 0) [] := Kd.R_nil _ _ _ _ _
theorem Own.form {W : World} {base : Nat} {v : Value} {l : List Int} (h : Own W base v l) : ∃ A c, v = .slice A l.length c := Kd.R_slice h
theorem C_cells_imp {w W : World} {k : IntKind} {A : Option Addr} {n : Nat} {l : List Int} (h : Kd.C (Kd.int k) w A n l) (hk : ∀ (p : Addr) (x : Int), w.cell? p = some (.int k x) → W.cell? p = some (.int k x)) : Kd.C (Kd.int k) W A n l := by
 obtain ⟨h1, h2, h3⟩ := Kd.reads_of_C (d := (0 : Int)) h
 refine Kd.C_of_reads (d := (0 : Int)) (h1 := fun _ => rfl) ⟨h1, h2, fun hp => ?_⟩
 obtain ⟨ad, e, hc⟩ := h3 hp
 exact ⟨ad, e, fun j hj => hk _ _ (hc j hj)⟩
theorem C_over1 {w : World} {k : IntKind} {A : Option Addr} {n : Nat} {l : List Int} (h : Kd.C (Kd.int k) w A n l) {q : Addr} {z u : Value} (h1 : w.cell? q = some z) (hz : ∀ x, z ≠ .int k x) : Kd.C (Kd.int k) (w.setCell q u) A n l :=
 C_cells_imp h fun p x hp => (World.cell?_setCell_other _ _ _ _ (fun e => by subst e; rw [h1] at hp; exact hz x (Option.some.inj hp))).trans hp
def big62 : Int := 9223372036854775807
def takeBlob (l : List Int) : List Int × Int × Int := if blE l big62 0 = 0 then (blD l, blHi l, 0) else ([], 0, blE l big62 0)
set_option maxHeartbeats 1000000 in
theorem takeblob1 (A : Option Addr) (c : Nat) (l : List Int) (w : World) (hr : Kd.C (Kd.int .u8) w A l.length l) (hc : l.length ≤ c) (hb : okB l = true) (hlen : l.length < 140737488355328) (b : Nat) (hx : Boxes b A c l.length (.slice none 0 0) (.int .i64 0) w) (hbs : b + 3 ≤ w.heap.size) :
  Calls Tryz.prog 170 #[.pointer (some ⟨b, 0, none⟩), .pointer (some ⟨b + 1, 0, none⟩), .pointer (some ⟨b + 2, 0, none⟩)] w fun e W => Keep2 b w W ∧
   (∃ v, W.cell? ⟨b + 1, 0, none⟩ = some v ∧ W.cell? ⟨b + 2, 0, none⟩ = some (.int .i64 (takeBlob l).2.1) ∧ W.frozen? ⟨b + 1, 0, none⟩ = false ∧ W.frozen? ⟨b + 2, 0, none⟩ = false ∧ Own W w.heap.size v (takeBlob l).1) ∧
   ((e = .returned (.tuple #[]) ∧ blE l big62 0 = 0) ∨ e = .panicked [{ v := wrongV (blE l big62 0), recovered := false }]) := by
 have hT := blob_any A c l big62 0 w hr hc hb (by decide) (by decide) hlen
 obtain ⟨hb0, hn0, hn1, hs0, hs1⟩ := hx
 by_cases he : blE l big62 0 = 0
 ·obtain ⟨g1, g2, g3, g4, g5, g6⟩ := blE_good he
  obtain ⟨A', c', hV, hc', hr'⟩ := blobV_form hr hc ⟨g6, g5, by omega⟩
  have hl' : (blD l).length < 140737488355328 := by rw [blD_length ⟨g6, g5, by omega⟩]; omega
  have HN := Aside0.mk (show takeBlob l = (blD l, blHi l, 0) by unfold takeBlob; rw [if_pos he])
  have HZ := Aside0.mk he
  have HT := Lib.hid (hT.mono (R' := fun e w' => w = w' ∧ e = .returned (.tuple #[.slice A' (blD l).length c', .int .i64 (blHi l)])) (by
   rintro e w' ⟨rfl, ⟨_, rfl⟩ | ⟨h, _⟩⟩
   ·exact ⟨rfl, by rw [hV]⟩
   ·exact absurd he h))
  have HR := Aside0.mk hr'
  clear he hV hr' g1 g2 g3 g4 g5 g6 hr hT
  unfold big62 at HT
  go_enter Tryz.func170, Tryz.ntmps170
  go_wp2_with (go_at_call 122; refine HT.out.mono ?_; rintro e w' ⟨rfl, rfl⟩)
  refine (clone_calls A' c' (blD l) _ (C_over1 (C_over1 HR.out hn0 (by simp)) (z := .int .i64 0) (by rw [World.cell?_setCell_other _ _ _ _ (by simp)]; exact hs0) (by simp)) hc' hl').mono ?_
  rintro e w1 ⟨v, rfl, ho, hbl⟩
  obtain ⟨Av, cv, rfl⟩ := ho.form
  have HO := Aside0.mk ho
  have HBL := Aside0.mk hbl
  have k1 : w1.cell? ⟨b + 1, 0, none⟩ = some (.slice A' (blD l).length c') := by
   rw [hbl.cell (by simp [World.setCell]; omega), World.cell?_setCell_other _ _ _ _ (by simp)]; exact World.cell?_setCell_same' _ _ _ (by rw [hn0]; rfl)
  have k2 : w1.cell? ⟨b + 2, 0, none⟩ = some (.int .i64 (blHi l)) := by
   rw [hbl.cell (by simp [World.setCell]; omega)]; exact World.cell?_setCell_same' _ _ _ (by rw [World.cell?_setCell_other _ _ _ _ (by simp), hs0]; rfl)
  have k3 : w1.frozen? ⟨b + 1, 0, none⟩ = false := by
   rw [hbl.frozen (by simp [World.setCell]; omega)]; simp [hn1]
  have k4 : w1.frozen? ⟨b + 2, 0, none⟩ = false := by
   rw [hbl.frozen (by simp [World.setCell]; omega)]; simp [hs1]
  clear ho hbl
  go_wp2
  go_end0
  rw [HN.out]
  refine ⟨(((Keep2.refl b w).set1 _).set2 _ |>.trans (Keep2.of_below HBL.out)).set1 _, ⟨_, World.cell?_setCell_same' _ _ _ (by rw [k1]; rfl), ?_, ?_, ?_, ?_⟩, .inl ⟨rfl, HZ.out⟩⟩
  ·rw [World.cell?_setCell_other _ _ _ _ (by simp)]; exact k2
  ·simp [k3]
  ·simp [k4]
  ·exact (HO.out.lower (by simp [World.setCell])).set (p := ⟨b + 1, 0, none⟩) (by show b + 1 < _; omega) _
 ·have HN := Aside0.mk (show takeBlob l = ([], 0, blE l big62 0) by unfold takeBlob; rw [if_neg he])
  have HT := Lib.hid (hT.mono (R' := fun e w' => w = w' ∧ e = .panicked [{ v := wrongV (blE l big62 0), recovered := false }]) (by
   rintro e w' ⟨rfl, ⟨h, _⟩ | ⟨_, rfl⟩⟩
   ·exact absurd h he
   ·exact ⟨rfl, rfl⟩))
  clear he hr hT
  obtain ⟨er, HER⟩ : ∃ er, Aside0 (blE l big62 0 = er) := ⟨_, ⟨rfl⟩⟩
  rw [HER.out] at HT HN ⊢
  unfold big62 at HT
  go_enter Tryz.func170, Tryz.ntmps170
  go_wp2_with (go_at_call 122; refine HT.out.mono ?_; rintro e w' ⟨rfl, rfl⟩)
  rw [HN.out]
  exact ⟨rfl, Keep2.refl _ _, ⟨_, hn0, hs0, hn1, hs1, Own.nil _ _⟩, .inr rfl⟩
end Go.Proofs.YtgiefblcckikeaaGreat.M
namespace Go.Proofs.YtgiefblcckikeaaGreat.M
open Go.RowKit Go.Proofs.YtgiefblcckikeaaGreatW.PrintWords
theorem takeBlob_calls (A : Option Addr) (c : Nat) (l : List Int) (w : World) (hr : Kd.C (Kd.int .u8) w A l.length l) (hc : l.length ≤ c) (hb : okB l = true) (hlen : l.length < 140737488355328) :
  Calls Tryz.prog 161 #[.slice A l.length c] w fun e w' => ∃ v0_ : Value, e = .returned (.tuple #[v0_, .int .i64 (takeBlob l).2.1, .int .i64 (takeBlob l).2.2]) ∧ Own w' w.heap.size v0_ (takeBlob l).1 ∧ Below w.heap.size w w' := by
 have HR := Aside0.mk hr
 have HC := Aside0.mk hc
 have HB := Aside0.mk hb
 have HL := Aside0.mk hlen
 clear hr hc hb hlen
 have hmf : ∀ (fn : Fn) (first cap : Array Value) (w : World), (Instr.makeFunc fn first cap).run Tryz.prog w = .ok (.func fn first cap) w := fun _ _ _ _ => rfl
 go_enter Tryz.func161, Tryz.ntmps161
 go_wp2_with fail
 have HX : Boxes w.heap.size A c l.length (.slice none 0 0) (.int .i64 0) ((((w.alloc (.cells #[.slice A l.length c] 23)).alloc (.cells #[.slice none 0 0] 23)).alloc (.cells #[.int .i64 0] 3)).alloc (.cells #[.int .i64 0] 36)) := by
  constructor <;> simp [go_sem]
 refine (try_calls 170 _ w.heap.size _ _ (blE l big62 0) (by simp) (enter_any _ _ _ Tryz.func170 rfl (by kernel_rfl))
  (takeblob1 A c l _ (Kd.C_alloc (Kd.C_alloc (Kd.C_alloc (Kd.C_alloc HR.out _) _) _) _) HC.out HB.out HL.out w.heap.size HX (by simp))).mono ?_
 rintro e w1 ⟨W, ⟨v, hn, hs, hnf, hsf, ho⟩, rfl, hk, hz, hbl, hg⟩
 simp only [World.size_alloc] at hz hbl hg ho
 obtain ⟨Av, cv, rfl⟩ := ho.form
 have hn1 : w1.cell? ⟨w.heap.size + 1, 0, none⟩ = some (.slice Av (takeBlob l).1.length cv) := (hbl.cell (by simp)).trans hn
 have hs1 : w1.cell? ⟨w.heap.size + 1 + 1, 0, none⟩ = some (.int .i64 (takeBlob l).2.1) := (hbl.cell (by simp)).trans hs
 have hnf1 : w1.frozen? ⟨w.heap.size + 1, 0, none⟩ = false := (hbl.frozen (by simp)).trans hnf
 have hsf1 : w1.frozen? ⟨w.heap.size + 1 + 1, 0, none⟩ = false := (hbl.frozen (by simp)).trans hsf
 have HO1 := Aside0.mk (show Own w1 (w.heap.size + 1 + 1 + 1 + 1) (.slice Av (takeBlob l).1.length cv) (takeBlob l).1 from
  Kd.R_mono (Kd.R_grown (Kd.R_bound ho) hg (fun k hk e => by have := hk.2.1; have := Option.some.inj e; omega)) (fun _ _ => trivial))
 have HBL := Aside0.mk (show Below w.heap.size w w1 from
  (((((Below.refl w.heap.size w).alloc (Nat.le_refl _) _).alloc (by simp) _).alloc (by simp; omega) _).trans (hk.below (by omega) (by simp; omega))).trans (hbl.mono (by omega)))
 have HT := Aside0.mk (show blE l big62 0 = (takeBlob l).2.2 by unfold takeBlob; split <;> simp [*])
 obtain ⟨er, her⟩ : ∃ er, blE l big62 0 = er := ⟨_, rfl⟩
 rw [her] at HT ⊢
 clear hn hs hnf hsf hk hz hbl HX hg ho her
 go_wp2
 go_region
 all_goals
  go_wp2
  refine bodyPost_ret (v := .tuple #[.slice Av (takeBlob l).1.length cv, .int .i64 (takeBlob l).2.1, .int .i64 er]) (by simp [results, Tryz.results161, go_sem, hn1, hs1]) rfl ⟨_, by rw [HT.out], ?_, ?_⟩
  ·refine Own.lower (base := w.heap.size + 1 + 1 + 1 + 1) ?_ (by omega)
   repeat first | exact HO1.out | apply Own.drew | refine Own.set ?_ (by first | (simp; done) | (simp; omega)) _
  ·repeat first | exact HBL.out | exact (by assumption) | apply Below.drew | refine Below.setCell ?_ (by first | (simp; done) | (simp; omega)) _
end Go.Proofs.YtgiefblcckikeaaGreat.M
namespace Go.Proofs.YtgiefblcckikeaaGreat.G
open Go.RowKit Go.Proofs.YtgiefblcckikeaaGreatW.PrintWords Go.Proofs.YtgiefblcckikeaaGreat.M
def shape_TakeBlob.f (l0 : List Int) : Option (List Int × Int × Int) := if okB l0 = true ∧ l0.length < 140737488355328 then some (takeBlob l0) else none
theorem shape_TakeBlob.calls (A0 : Option Addr) (c0 : Nat) (l0 : List Int) (r1 : List Int) (r2 : Int) (r3 : Int) (w : World) (hr0 : Kd.C (Kd.int .u8) w A0 l0.length l0) (hc0 : l0.length ≤ c0) (h : shape_TakeBlob.f l0 = some (r1, r2, r3)) :
  Calls Tryz.prog 161 #[.slice A0 l0.length c0] w fun e w' => ∃ v0_ : Value, e = .returned (.tuple #[v0_, .int .i64 r2, .int .i64 r3]) ∧ Kd.R (Kd.int .u8) 5 w' w.heap.size (fun _ => True) v0_ r1 ∧ Below w.heap.size w w' := by
 unfold shape_TakeBlob.f at h
 split at h
 ·rename_i hb
  have h := Option.some.inj h
  have h1 : r1 = (takeBlob l0).1 := by rw [h]
  have h2 : r2 = (takeBlob l0).2.1 := by rw [h]
  have h3 : r3 = (takeBlob l0).2.2 := by rw [h]
  rw [h1, h2, h3]
  exact takeBlob_calls A0 c0 l0 w hr0 hc0 hb.1 hb.2
 ·cases h
end Go.Proofs.YtgiefblcckikeaaGreat.G
end

section
/- The eye: numbers and bytes read off bytes. -/
set_option maxRecDepth 100000
attribute [local irreducible] Go.wpStill
namespace Go.Proofs.YtgiefblcckikeaaGreat.M
open Go.RowKit Go.Proofs.YtgiefblcckikeaaGreatW.PrintWords Go.Proofs.YtgiefblcckikeaaGreatW.PrintLast Go.Proofs.YtgiefblcckikeaaGreatW.PrintMore Go.Proofs.YtgiefblcckikeaaGreat.G
structure EyeS where
 l : List Int
 e : Int
 o : Bool
def eNum (s : EyeS) : Int × EyeS := if s.e = 0 then ((takeNum s.l).1, ⟨s.l.drop (takeNum s.l).2.1.toNat, (takeNum s.l).2.2, s.o⟩) else (0, s)
def eSmall (s : EyeS) : Int × EyeS := if IntKind.i32.wrap (eNum s).1 = (eNum s).1 then eNum s else (0, { (eNum s).2 with o := true })
def eData (s : EyeS) : List Int × EyeS := if s.e = 0 then ((takeBlob s.l).1, ⟨s.l.drop (takeBlob s.l).2.1.toNat, (takeBlob s.l).2.2, s.o⟩) else ([], s)
def eWrong (b : Bool) (s : EyeS) : EyeS := if s.e = 0 ∧ b = true then { s with e := 40 } else s
def okS (s : EyeS) : Prop := okB s.l = true ∧ s.l.length < 140737488355328
theorem okS_num {s : EyeS} (h : okS s) : okS (eNum s).2 := by
 unfold eNum
 split
 ·exact ⟨okB_drop h.1 _, by have := h.2; simp only [List.length_drop]; omega⟩
 ·exact h
theorem okS_small {s : EyeS} (h : okS s) : okS (eSmall s).2 := by
 unfold eSmall
 split
 ·exact okS_num h
 ·exact okS_num h
theorem okS_data {s : EyeS} (h : okS s) : okS (eData s).2 := by
 unfold eData
 split
 ·exact ⟨okB_drop h.1 _, by have := h.2; simp only [List.length_drop]; omega⟩
 ·exact h
theorem okS_wrong {s : EyeS} (b : Bool) (h : okS s) : okS (eWrong b s) := by
 unfold eWrong
 split <;> exact h
def IsEye (w0 W : World) (x : Nat) (s : EyeS) : Prop := ∃ (A : Option Addr) (c : Nat), W.heap[x]? = some (.cells #[.slice A s.l.length c, .int .i64 s.e, .bool s.o] 81) ∧ w0.heap.size ≤ x ∧ s.l.length ≤ c ∧ Kd.C (Kd.int .u8) w0 A s.l.length s.l
theorem IsEye.lt {w0 W : World} {x : Nat} {s : EyeS} (h : IsEye w0 W x s) : x < W.heap.size := by
 obtain ⟨A, c, h1, _⟩ := h
 exact (Array.getElem?_eq_some_iff.1 h1).1
theorem IsEye.below {w0 W W' : World} {x : Nat} {s : EyeS} (h : IsEye w0 W x s) (hb : Below W.heap.size W W') : IsEye w0 W' x s := by
 have hl := h.lt
 obtain ⟨A, c, h1, h2⟩ := h
 exact ⟨A, c, (hb.block x hl).trans h1, h2⟩
theorem IsEye.ge {w0 W : World} {x : Nat} {s : EyeS} (h : IsEye w0 W x s) : w0.heap.size ≤ x := by
 obtain ⟨A, c, h1, h2, _⟩ := h
 exact h2
def EyP (w0 w : World) (x : Nat) (r : Value) (s' : EyeS) (e : Ending) (w' : World) : Prop := e = .returned r ∧ IsEye w0 w' x s' ∧ Below w0.heap.size w0 w' ∧ KeepS (fun i => i = x) w w'
theorem cutE {A : Option Addr} {c : Nat} {l : List Int} (j : Nat) (hj : j ≤ l.length) (hc : l.length ≤ c) :
  ∃ A' : Option Addr, (∀ W : World, (Instr.slice 23 (.slice A l.length c) (some (.int .i64 (j : Int))) none none).run Tryz.prog W = .ok (.slice A' (l.drop j).length (c - j)) W) ∧ (∀ w : World, Kd.C (Kd.int .u8) w A l.length l → Kd.C (Kd.int .u8) w A' (l.drop j).length (l.drop j)) ∧ (l.drop j).length ≤ c - j := by
 obtain ⟨i0, hi, hzz⟩ := Option.map_eq_some_iff.1 infoU8
 simp only [Prod.mk.injEq] at hzz
 obtain ⟨hz0, hz1, hz2⟩ := hzz
 refine ⟨if c = j then A else A.map (·.add (j * 1)), fun W => ?_, fun w h => ?_, ?_⟩
 ·have := cut_from (P := Tryz.prog) 23 5 .i64 Tryz.underlying23 hi 1 hz1 A l.length c (j : Int) (by omega) (by omega) W
  rw [Int.toNat_natCast] at this
  rw [List.length_drop]
  exact this
 ·have := Kd.C_drop h hj hc
  exact this
 ·rw [List.length_drop]; omega
theorem takeNum_size (l : List Int) : 0 ≤ (takeNum l).2.1 ∧ (takeNum l).2.1 ≤ l.length := by
 unfold takeNum
 by_cases h : tkE l = 0
 ·rw [if_pos h]
  simp only
  unfold tkE at h
  unfold tkS
  split at h
  ·omega
  ·split at h
   ·omega
   ·split at h
    ·omega
    ·omega
 ·rw [if_neg h]
  simp
set_option maxHeartbeats 1000000 in
theorem eNum_is {w0 w : World} {x : Nat} {s : EyeS} (hI : IsEye w0 w x s) (hB : Below w0.heap.size w0 w) (hok : okS s) :
  Calls Tryz.prog 110 #[.pointer (some ⟨x, 0, none⟩)] w fun e w' => EyP w0 w x (.int .i64 (eNum s).1) (eNum s).2 e w' := by
 have HI := Lib.hid hI; have HB := Lib.hid hB
 obtain ⟨A, c, h1, h2, h3, h4⟩ := hI
 have c0 : w.cell? ⟨x, 0, none⟩ = some (.slice A s.l.length c) := by simp [World.cell?, h1]
 have c1 : w.cell? ⟨x, 1, none⟩ = some (.int .i64 s.e) := by simp [World.cell?, h1]
 have HGE := Lib.hid h2
 by_cases he : s.e = 0
 ·have hb : (s.e != 0) = false := by rw [he]; rfl
  have HN := Lib.hid (takeNum_calls A c s.l w (Kd.C_below h4 hB) h3 hok.1)
  have HF := Lib.hid (show eNum s = ((takeNum s.l).1, ⟨s.l.drop (takeNum s.l).2.1.toNat, (takeNum s.l).2.2, s.o⟩) by unfold eNum; rw [if_pos he])
  obtain ⟨z0, z1⟩ := takeNum_size s.l
  obtain ⟨j, hj⟩ : ∃ j : Nat, (takeNum s.l).2.1 = (j : Int) := ⟨(takeNum s.l).2.1.toNat, by omega⟩
  obtain ⟨A', hcut, hC, hc'⟩ := cutE (A := A) (c := c) (l := s.l) j (by omega) h3
  obtain ⟨n, hn⟩ : ∃ n, (takeNum s.l).1 = n := ⟨_, rfl⟩
  obtain ⟨er, her⟩ : ∃ er, (takeNum s.l).2.2 = er := ⟨_, rfl⟩
  rw [hn, hj, her] at HN HF
  rw [Int.toNat_natCast] at HF
  have HC := Lib.hid (hC w0 h4)
  have HCC := Lib.hid hc'
  have HHE := Lib.hid h1
  obtain ⟨l2, hl2⟩ : ∃ l2, s.l.drop j = l2 := ⟨_, rfl⟩
  rw [hl2] at hcut HC HF HCC
  clear hB hok h1 h2 h3 h4 he z0 z1 hj hC hc' hn her hl2
  go_enter Tryz.func110, Tryz.ntmps110
  go_wp2_with fail
  refine HN.out.mono ?_
  rintro e w1 ⟨rfl, hb⟩
  have HB1 := Lib.hid (HB.out.trans (hb.mono HB.out.size))
  have HH1 := Lib.hid ((hb.block x HI.out.lt).trans HHE.out)
  have HK1 := Lib.hid (KeepS.of_below (fun i => i = x) hb)
  have d0 : w1.cell? ⟨x, 0, none⟩ = some (.slice A s.l.length c) := by simp [World.cell?, HH1.out]
  have d1 : w1.cell? ⟨x, 1, none⟩ = some (.int .i64 s.e) := by simp [World.cell?, HH1.out]
  have z0 : w1.frozen? ⟨x, 0, none⟩ = false := by simp [World.frozen?, HH1.out]
  have z1 : w1.frozen? ⟨x, 1, none⟩ = false := by simp [World.frozen?, HH1.out]
  clear hb c0 c1
  go_wp2_with fail
  go_ret
  refine ⟨by rw [HF.out]; rfl, ⟨A', c - j, ?_, HGE.out, ?_, ?_⟩, (HB1.out.setCell (by exact HGE.out) _).setCell (by exact HGE.out) _, (HK1.out.set (p := ⟨x, 1, none⟩) (.inl rfl) _).set (p := ⟨x, 0, none⟩) (.inl rfl) _⟩
  ·rw [HF.out]
   have e1 := heap_same w1 ⟨x, 1, none⟩ (.int .i64 er) HH1.out rfl
   have e2 := heap_same _ ⟨x, 0, none⟩ (.slice A' l2.length (c - j)) e1 rfl
   simpa using e2
  ·rw [HF.out]; exact HCC.out
  ·rw [HF.out]; exact HC.out
 ·have hb : (s.e != 0) = true := bne_iff_ne.2 he
  have HF := Lib.hid (show eNum s = (0, s) by unfold eNum; rw [if_neg he])
  clear hB hok h1 h2 h3 h4 he
  go_enter Tryz.func110, Tryz.ntmps110
  go_wp2_with fail
  go_ret
  exact ⟨by rw [HF.out]; rfl, by rw [HF.out]; exact HI.out, HB.out, KeepS.refl _ _⟩
theorem takeBlob_size {l : List Int} (h : okB l = true) (hl : l.length < 140737488355328) : 0 ≤ (takeBlob l).2.1 ∧ (takeBlob l).2.1 ≤ l.length := by
 unfold takeBlob
 by_cases h0 : blE l big62 0 = 0
 ·rw [if_pos h0]
  obtain ⟨h1, h2, h3, h4, h5, h6⟩ := blE_good h0
  show 0 ≤ blHi l ∧ blHi l ≤ l.length
  omega
 ·rw [if_neg h0]
  show (0 : Int) ≤ 0 ∧ (0 : Int) ≤ l.length
  omega
def DaP (w0 w : World) (x : Nat) (l : List Int) (s' : EyeS) (e : Ending) (w' : World) : Prop := ∃ v : Value, e = .returned v ∧ Kd.R (Kd.int .u8) 5 w' w.heap.size (fun k => k ≠ x) v l ∧ IsEye w0 w' x s' ∧ Below w0.heap.size w0 w' ∧ KeepS (fun i => i = x) w w'
set_option maxHeartbeats 1000000 in
theorem eData_is {w0 w : World} {x : Nat} {s : EyeS} (hI : IsEye w0 w x s) (hB : Below w0.heap.size w0 w) (hok : okS s) :
  Calls Tryz.prog 128 #[.pointer (some ⟨x, 0, none⟩)] w fun e w' => DaP w0 w x (eData s).1 (eData s).2 e w' := by
 have HI := Lib.hid hI; have HB := Lib.hid hB
 obtain ⟨A, c, h1, h2, h3, h4⟩ := hI
 have c0 : w.cell? ⟨x, 0, none⟩ = some (.slice A s.l.length c) := by simp [World.cell?, h1]
 have c1 : w.cell? ⟨x, 1, none⟩ = some (.int .i64 s.e) := by simp [World.cell?, h1]
 have HGE := Lib.hid h2
 by_cases he : s.e = 0
 ·have hb : (s.e != 0) = false := by rw [he]; rfl
  have HN := Lib.hid (takeBlob_calls A c s.l w (Kd.C_below h4 hB) h3 hok.1 hok.2)
  have HF := Lib.hid (show eData s = ((takeBlob s.l).1, ⟨s.l.drop (takeBlob s.l).2.1.toNat, (takeBlob s.l).2.2, s.o⟩) by unfold eData; rw [if_pos he])
  obtain ⟨z0, z1⟩ := takeBlob_size hok.1 hok.2
  obtain ⟨j, hj⟩ : ∃ j : Nat, (takeBlob s.l).2.1 = (j : Int) := ⟨(takeBlob s.l).2.1.toNat, by omega⟩
  obtain ⟨A', hcut, hC, hc'⟩ := cutE (A := A) (c := c) (l := s.l) j (by omega) h3
  obtain ⟨n, hn⟩ : ∃ n, (takeBlob s.l).1 = n := ⟨_, rfl⟩
  obtain ⟨er, her⟩ : ∃ er, (takeBlob s.l).2.2 = er := ⟨_, rfl⟩
  rw [hn, hj, her] at HN HF
  rw [Int.toNat_natCast] at HF
  have HC := Lib.hid (hC w0 h4)
  have HCC := Lib.hid hc'
  have HHE := Lib.hid h1
  obtain ⟨l2, hl2⟩ : ∃ l2, s.l.drop j = l2 := ⟨_, rfl⟩
  rw [hl2] at hcut HC HF HCC
  clear hB hok h1 h2 h3 h4 he z0 z1 hj hC hc' hn her hl2
  go_enter Tryz.func128, Tryz.ntmps128
  go_wp2_with fail
  refine HN.out.mono ?_
  rintro e w1 ⟨v, rfl, hv, hb⟩
  have HB1 := Lib.hid (HB.out.trans (hb.mono HB.out.size))
  have HH1 := Lib.hid ((hb.block x HI.out.lt).trans HHE.out)
  have HK1 := Lib.hid (KeepS.of_below (fun i => i = x) hb)
  have d0 : w1.cell? ⟨x, 0, none⟩ = some (.slice A s.l.length c) := by simp [World.cell?, HH1.out]
  have d1 : w1.cell? ⟨x, 1, none⟩ = some (.int .i64 s.e) := by simp [World.cell?, HH1.out]
  have z0 : w1.frozen? ⟨x, 0, none⟩ = false := by simp [World.frozen?, HH1.out]
  have z1 : w1.frozen? ⟨x, 1, none⟩ = false := by simp [World.frozen?, HH1.out]
  have HV := Lib.hid (show Kd.R (Kd.int .u8) 5 w1 w.heap.size (fun k => k ≠ x) v n from Kd.R_mono (Kd.R_bound hv) (fun k hk => by have := hk.2.1; have := HI.out.lt; omega))
  clear hb hv c0 c1
  go_wp2_with fail
  go_ret
  refine ⟨v, rfl, ?_, ⟨A', c - j, ?_, HGE.out, ?_, ?_⟩, (HB1.out.setCell (by exact HGE.out) _).setCell (by exact HGE.out) _, (HK1.out.set (p := ⟨x, 1, none⟩) (.inl rfl) _).set (p := ⟨x, 0, none⟩) (.inl rfl) _⟩
  ·rw [HF.out]
   exact Kd.R_step HV.out (fun k hk hl => (Below.heap_setCell _ ⟨x, 0, none⟩ _ k hk).trans (Below.heap_setCell w1 ⟨x, 1, none⟩ _ k hk))
  ·rw [HF.out]
   have e1 := heap_same w1 ⟨x, 1, none⟩ (.int .i64 er) HH1.out rfl
   have e2 := heap_same _ ⟨x, 0, none⟩ (.slice A' l2.length (c - j)) e1 rfl
   simpa using e2
  ·rw [HF.out]; exact HCC.out
  ·rw [HF.out]; exact HC.out
 ·have hb : (s.e != 0) = true := bne_iff_ne.2 he
  have HF := Lib.hid (show eData s = ([], s) by unfold eData; rw [if_neg he])
  clear hB hok h1 h2 h3 h4 he
  go_enter Tryz.func128, Tryz.ntmps128
  go_wp2_with fail
  go_ret
  exact ⟨.slice none 0 0, rfl, by rw [HF.out]; exact Kd.R_nil _ _ _ _ _, by rw [HF.out]; exact HI.out, HB.out, KeepS.refl _ _⟩
theorem eSmall_is {w0 w : World} {x : Nat} {s : EyeS} (hI : IsEye w0 w x s) (hB : Below w0.heap.size w0 w) (hok : okS s) :
  Calls Tryz.prog 112 #[.pointer (some ⟨x, 0, none⟩)] w fun e w' => EyP w0 w x (.int .i64 (eSmall s).1) (eSmall s).2 e w' := by
 have HN := Lib.hid (eNum_is hI hB hok)
 obtain ⟨n, hn⟩ : ∃ n, (eNum s).1 = n := ⟨_, rfl⟩
 obtain ⟨s2, hs2⟩ : ∃ s2, (eNum s).2 = s2 := ⟨_, rfl⟩
 rw [hn, hs2] at HN
 clear hI hB hok
 by_cases h : IntKind.i32.wrap n = n
 ·have HF := Lib.hid (show eSmall s = (n, s2) by unfold eSmall; rw [hn, if_pos h, ← hn, ← hs2])
  have hb : (n != wrap64 (wrap32 n)) = false := by
   rw [bne_eq_false_iff_eq]
   rw [IntKind.wrap_i32] at h
   unfold wrap64 wrap32
   omega
  clear hn hs2 h
  go_enter Tryz.func112, Tryz.ntmps112
  go_wp2_with fail
  refine HN.out.mono ?_
  rintro e w1 ⟨rfl, h1, h2, h3⟩
  have H1 := Lib.hid h1; have H2 := Lib.hid h2; have H3 := Lib.hid h3
  clear h1 h2 h3
  go_wp2_with fail
  go_ret
  exact ⟨by rw [HF.out]; rfl, by rw [HF.out]; exact H1.out, H2.out, H3.out⟩
 ·have HF := Lib.hid (show eSmall s = (0, { s2 with o := true }) by unfold eSmall; rw [hn, if_neg h, ← hs2])
  have hb : (n != wrap64 (wrap32 n)) = true := by
   rw [bne_iff_ne]
   rw [IntKind.wrap_i32] at h
   unfold wrap64 wrap32
   omega
  clear hn hs2 h
  go_enter Tryz.func112, Tryz.ntmps112
  go_wp2_with fail
  refine HN.out.mono ?_
  rintro e w1 ⟨rfl, h1, h2, h3⟩
  have H2 := Lib.hid h2; have H3 := Lib.hid h3
  obtain ⟨A, c, g1, g2, g3, g4⟩ := h1
  have HG := Lib.hid g1; have HGE := Lib.hid g2; have H34 := Lib.hid (And.intro g3 g4)
  have d2 : w1.cell? ⟨x, 2, none⟩ = some (.bool s2.o) := by simp [World.cell?, g1]
  have z2 : w1.frozen? ⟨x, 2, none⟩ = false := by simp [World.frozen?, g1]
  clear h2 h3 g1 g2 g3 g4
  go_wp2_with fail
  go_ret
  refine ⟨by rw [HF.out]; rfl, ?_, H2.out.setCell (by exact HGE.out) _, H3.out.set (p := ⟨x, 2, none⟩) (.inl rfl) _⟩
  rw [HF.out]
  refine ⟨A, c, ?_, HGE.out, H34.out.1, H34.out.2⟩
  have e1 := heap_same w1 ⟨x, 2, none⟩ (.bool true) HG.out rfl
  simpa using e1
theorem eWrong_is {w0 w : World} {x : Nat} {s : EyeS} (hI : IsEye w0 w x s) (hB : Below w0.heap.size w0 w) (b : Bool) :
  Calls Tryz.prog 111 #[.pointer (some ⟨x, 0, none⟩), .bool b] w fun e w' => EyP w0 w x (.tuple #[]) (eWrong b s) e w' := by
 have HI := Lib.hid hI; have HB := Lib.hid hB
 obtain ⟨A, c, h1, h2, h3, h4⟩ := hI
 have HGE := Lib.hid h2; have HH := Lib.hid h1; have H34 := Lib.hid (And.intro h3 h4)
 have c1 : w.cell? ⟨x, 1, none⟩ = some (.int .i64 s.e) := by simp [World.cell?, h1]
 have z1 : w.frozen? ⟨x, 1, none⟩ = false := by simp [World.frozen?, h1]
 clear h1 h2 h3 h4 hB
 by_cases he : s.e = 0
 ·have hb : (s.e == 0) = true := by rw [he]; rfl
  cases b with
  | true =>
   have HF := Lib.hid (show eWrong true s = { s with e := 40 } by unfold eWrong; rw [if_pos ⟨he, rfl⟩])
   clear he
   go_enter Tryz.func111, Tryz.ntmps111
   go_wp2_with fail
   go_end0
   refine ⟨rfl, ?_, HB.out.setCell (by exact HGE.out) _, (KeepS.refl (fun i => i = x) w).set (p := ⟨x, 1, none⟩) (.inl rfl) _⟩
   rw [HF.out]
   refine ⟨A, c, ?_, HGE.out, H34.out.1, H34.out.2⟩
   have e1 := heap_same w ⟨x, 1, none⟩ (.int .i64 40) HH.out rfl
   simpa using e1
  | false =>
   have HF := Lib.hid (show eWrong false s = s by unfold eWrong; rw [if_neg (fun h => by cases h.2)])
   clear he
   go_enter Tryz.func111, Tryz.ntmps111
   go_wp2_with fail
   go_end0
   exact ⟨rfl, by rw [HF.out]; exact HI.out, HB.out, KeepS.refl _ _⟩
 ·have hb : (s.e == 0) = false := beq_eq_false_iff_ne.2 he
  have HF := Lib.hid (show eWrong b s = s by unfold eWrong; rw [if_neg (fun h => he h.1)])
  clear he
  go_enter Tryz.func111, Tryz.ntmps111
  go_wp2_with fail
  go_end0
  exact ⟨rfl, by rw [HF.out]; exact HI.out, HB.out, KeepS.refl _ _⟩
end Go.Proofs.YtgiefblcckikeaaGreat.M
end
