/- RecordReadsSaid: contracts of the functions that the law goes through, put together in build order (part 6 of 7). -/
import Derived.Test.YtgiefblcckikeaaGreatPart4
import Derived.Laws.Tables
set_option linter.unusedVariables false
set_option linter.unusedSimpArgs false
set_option maxRecDepth 100000
section
/- The reference's Reader: a transaction (printed by genrdt04.py). -/
attribute [local irreducible] Go.wpStill
namespace Go.Proofs.YtgiefblcckikeaaGreat.M
open Go.RowKit Go.Proofs.YtgiefblcckikeaaGreatW.PrintWords Go.Proofs.YtgiefblcckikeaaGreatW.PrintLast Go.Proofs.YtgiefblcckikeaaGreatW.PrintMore Go.Proofs.YtgiefblcckikeaaGreat.G
def RdX (B : List Int) (w0 w : World) (x : Nat) (y : TxD) (s' : EyeS) (e : Ending) (w' : World) : Prop := ∃ v2 v3 v4 v5 : Value, e = .returned (.agg #[.int .i64 y.f0, .int .i64 y.f1, v2, v3, v4, v5]) ∧ Kd.R (Kd.int .u8) 5 w' w.heap.size (fun _ => True) v2 y.f2 ∧ Kd.R (Kd.int .i64) 2 w' w.heap.size (fun _ => True) v3 y.f3 ∧ Kd.R G.k101 101 w' w.heap.size (fun k => some k ≠ v5.ownBlock) v4 y.f4 ∧ Kd.R G.k101 101 w' w.heap.size (fun k => some k ≠ v4.ownBlock) v5 y.f5 ∧ IsRd B w0 w' x s' ∧ Below w0.heap.size w0 w' ∧ KeepS (fun i => i = x) w w'
def RdJ (P : World → Prop) (n : Int) (r : List Int × EyeS) (B : List Int) (w0 w W1 : World) (x g : Nat) (h3 : Array Value) (i : Value) (W : World) : Prop := ∃ (U : List Int) (s : EyeS) (Av : Option Addr) (cv : Nat), i = .int .i64 (U.length : Int) ∧ U.length ≤ n.toNat ∧ Fr (fun W s => IsRd B w0 W x s) w0 w x g 26 #[.int .i64 0, .int .i64 0, .slice none 0 0, .slice none 0 0, .slice none 0 0, .slice none 0 0] (h3 ++ #[.slice Av U.length cv, .slice none 0 0, .slice none 0 0]) s P W ∧ KeepS (fun k => k = x ∨ k = g) W1 W ∧ Kd.R (Kd.int .i64) 2 W W1.heap.size (fun k => W1.heap.size ≤ k) (.slice Av U.length cv) U ∧ okS s ∧ r = (U ++ (eMany eNum (n.toNat - U.length) s).1, (eMany eNum (n.toNat - U.length) s).2)
theorem infoI64' : (Tryz.prog.info? 2).map (fun i => (i.zero, i.size, i.bytes)) = some (some (.int .i64 0), 1, 8) := by kernel_rfl
set_option maxHeartbeats 4000000 in
theorem rdTxn_is {B : List Int} {w0 w : World} {x : Nat} {s : EyeS} (hI : IsRd B w0 w x s) (hB : Below w0.heap.size w0 w) (hok : okS s) :
  Calls Tryz.prog 118 #[.pointer (some ⟨x, 0, none⟩)] w fun e w' => RdX B w0 w x (eTxn s).1 (eTxn s).2 e w' := by
 obtain ⟨r, HF0⟩ : ∃ r, eTxn s = r := ⟨_, rfl⟩
 have HF := HF0
 unfold eTxn at HF
 obtain ⟨a, ha⟩ : ∃ a, (eNum s).1 = a := ⟨_, rfl⟩
 obtain ⟨s1, hs1⟩ : ∃ s1, (eNum s).2 = s1 := ⟨_, rfl⟩
 have ho1 := okS_num hok
 rw [ha, hs1] at HF
 rw [hs1] at ho1
 obtain ⟨b, hb⟩ : ∃ b, (eNum s1).1 = b := ⟨_, rfl⟩
 obtain ⟨s2, hs2⟩ : ∃ s2, (eNum s1).2 = s2 := ⟨_, rfl⟩
 have ho2 := okS_num ho1
 rw [hb, hs2] at HF
 rw [hs2] at ho2
 obtain ⟨l2, hl2⟩ : ∃ l2, (eData s2).1 = l2 := ⟨_, rfl⟩
 obtain ⟨s3, hs3⟩ : ∃ s3, (eData s2).2 = s3 := ⟨_, rfl⟩
 have ho3 := okS_data ho2
 rw [hl2, hs3] at HF
 rw [hs3] at ho3
 obtain ⟨l3, hl3⟩ : ∃ l3, (eList eNum s3).1 = l3 := ⟨_, rfl⟩
 obtain ⟨s4, hs4⟩ : ∃ s4, (eList eNum s3).2 = s4 := ⟨_, rfl⟩
 have ho4 := okS_list (g := eNum) (fun _ => okS_num) ho3
 rw [hl3, hs4] at HF
 rw [hs4] at ho4
 obtain ⟨l4, hl4⟩ : ∃ l4, (eList eKey s4).1 = l4 := ⟨_, rfl⟩
 obtain ⟨s5, hs5⟩ : ∃ s5, (eList eKey s4).2 = s5 := ⟨_, rfl⟩
 have ho5 := okS_list (g := eKey) (fun _ => okS_key) ho4
 rw [hl4, hs5] at HF
 rw [hs5] at ho5
 obtain ⟨l5, hl5⟩ : ∃ l5, (eList eKey s5).1 = l5 := ⟨_, rfl⟩
 obtain ⟨s6, hs6⟩ : ∃ s6, (eList eKey s5).2 = s6 := ⟨_, rfl⟩
 rw [hl5, hs6] at HF
 have HF := Lib.hid (HF0.trans HF.symm)
 have HO1 := Lib.hid ho1; have HO2 := Lib.hid ho2; have HO3 := Lib.hid ho3; have HO4 := Lib.hid ho4; have HO5 := Lib.hid ho5
 have HE2 := Lib.hid (And.intro hb hs2); have HE3 := Lib.hid (And.intro hl2 hs3); have HE5 := Lib.hid (And.intro hl4 hs5); have HE6 := Lib.hid (And.intro hl5 hs6)
 have HE1 := Lib.hid (And.intro ha hs1)
 have HO0 := Lib.hid hok
 have HL3 := Lib.hid (show eMany eNum (rLen s3).1.toNat (rLen s3).2 = (l3, s4) by rw [← eList_len, ← hl3, ← hs4])
 have HSZ := Lib.hid (rLen_size s3)
 have HOL := Lib.hid (okS_len ho3)
 obtain ⟨n, hn⟩ : ∃ n, (rLen s3).1 = n := ⟨_, rfl⟩
 obtain ⟨sl, hsl⟩ : ∃ sl, (rLen s3).2 = sl := ⟨_, rfl⟩
 rw [hn, hsl] at HL3
 rw [hn] at HSZ
 rw [hsl] at HOL
 have HEL := Lib.hid (And.intro hn hsl)
 have hb1 := ((Below.refl _ w).alloc (Nat.le_refl _) zTxn).alloc (by simp) zTxn
 have hz1 : (w.alloc zTxn).heap.size = w.heap.size + 1 := by simp
 have hz2 : ((w.alloc zTxn).alloc zTxn).heap.size = w.heap.size + 1 + 1 := by simp
 have hy := heap_alloc_new (w.alloc zTxn) zTxn
 rw [hz1] at hy
 have hg0 : ((w.alloc zTxn).alloc zTxn).heap[w.heap.size]? = some zTxn := ((((Below.refl _ (w.alloc zTxn)).alloc (Nat.le_refl _) zTxn).block w.heap.size (by omega)).trans (heap_alloc_new w zTxn))
 have HT0 := Lib.hid (show Fr (fun W s => IsRd B w0 W x s) w0 w x (w.heap.size + 1) 26 #[.int .i64 0, .int .i64 0, .slice none 0 0, .slice none 0 0, .slice none 0 0, .slice none 0 0] #[.int .i64 0, .int .i64 0, .slice none 0 0, .slice none 0 0, .slice none 0 0, .slice none 0 0] s (fun _ => True) ((w.alloc zTxn).alloc zTxn) from ⟨hg0, hy, hI.below hb1, (hB.alloc hB.size zTxn).alloc (by have := hB.size; simp; omega) zTxn, KeepS.of_below _ hb1, by omega, by omega, hI.lt, hI.ge, Held.true _ _, fun _ _ _ e h => h.at e⟩)
 clear hI hB hok hb1 hz1 hz2 hy hg0 ha hs1 hb hs2 hl2 hs3 hl3 hs4 hl4 hs5 hl5 hs6 ho1 ho2 ho3 ho4 ho5 hn hsl
 go_enter Tryz.func118, Tryz.ntmps118
 go_wp2_with fail
 obtain ⟨g, hg⟩ : ∃ g, w.heap.size + 1 = g := ⟨_, rfl⟩
 obtain ⟨w0_, hw1⟩ : ∃ w0_, (w.alloc zTxn).alloc zTxn = w0_ := ⟨_, rfl⟩
 rw [hg, hw1] at HT0 ⊢
 clear hg hw1
 have HT1 := HT0
 obtain ⟨w1, hw1⟩ : ∃ w1, w0_ = w1 := ⟨_, rfl⟩
 rw [hw1] at HT0 HT1 ⊢
 clear hw1 HT0
 have h4 := rdNum_is HT1.out.i HT1.out.d HO0.out
 rw [HE1.out.1, HE1.out.2] at h4
 refine h4.mono ?_
 rintro e w2 ⟨rfl, h1, h2, h3⟩
 have HT2 := Lib.hid (HT1.out.call h1 h2 h3)
 clear h1 h2 h3 h4 HT1
 have d0 : w2.cell? ⟨g, 0, none⟩ = some (.int .i64 0) := (blk_cell HT2.out.y 0).trans rfl
 have z0 : w2.frozen? ⟨g, 0, none⟩ = false := blk_frozen HT2.out.y 0
 go_wp2_with fail
 have HT3 := Lib.hid (HT2.out.set 0 (.int .i64 a) #[.int .i64 a, .int .i64 0, .slice none 0 0, .slice none 0 0, .slice none 0 0, .slice none 0 0] (blk_put HT2.out.y 0 _ rfl))
 have HLO3 := Lib.hid (show w2.heap.size ≤ (w2.setCell ⟨g, 0, none⟩ (.int .i64 a)).heap.size by rw [World.size_setCell]; exact Nat.le_refl _)
 obtain ⟨w3, hw3⟩ : ∃ w3, w2.setCell ⟨g, 0, none⟩ (.int .i64 a) = w3 := ⟨_, rfl⟩
 rw [hw3] at HT3 HLO3 ⊢
 clear hw3 HT2 d0 z0
 have h4 := rdNum_is HT3.out.i HT3.out.d HO1.out
 rw [HE2.out.1, HE2.out.2] at h4
 refine h4.mono ?_
 rintro e w4 ⟨rfl, h1, h2, h3⟩
 have HT4 := Lib.hid (HT3.out.call h1 h2 h3)
 clear h1 h2 h3 h4 HT3
 have d1 : w4.cell? ⟨g, 1, none⟩ = some (.int .i64 0) := (blk_cell HT4.out.y 1).trans rfl
 have z1 : w4.frozen? ⟨g, 1, none⟩ = false := blk_frozen HT4.out.y 1
 go_wp2_with fail
 have HT5 := Lib.hid (HT4.out.set 1 (.int .i64 b) #[.int .i64 a, .int .i64 b, .slice none 0 0, .slice none 0 0, .slice none 0 0, .slice none 0 0] (blk_put HT4.out.y 1 _ rfl))
 have HLO5 := Lib.hid (show w4.heap.size ≤ (w4.setCell ⟨g, 1, none⟩ (.int .i64 b)).heap.size by rw [World.size_setCell]; exact Nat.le_refl _)
 obtain ⟨w5, hw5⟩ : ∃ w5, w4.setCell ⟨g, 1, none⟩ (.int .i64 b) = w5 := ⟨_, rfl⟩
 rw [hw5] at HT5 HLO5 ⊢
 clear hw5 HT4 d1 z1
 have h4 := rdData_is HT5.out.i HT5.out.d HO2.out
 rw [HE3.out.1, HE3.out.2] at h4
 refine h4.mono ?_
 rintro e w6 ⟨v_, rfl, hv, h1, h2, h3⟩
 obtain ⟨A2, c2, rfl⟩ := Kd.R_slice hv
 have HT6 := Lib.hid (HT5.out.callR h1 h2 h3 hv)
 have HLO6 := Lib.hid (show w5.heap.size ≤ w6.heap.size from h3.size)
 clear h1 h2 h3 h4 hv HT5
 have d2 : w6.cell? ⟨g, 2, none⟩ = some (.slice none 0 0) := (blk_cell HT6.out.y 2).trans rfl
 have z2 : w6.frozen? ⟨g, 2, none⟩ = false := blk_frozen HT6.out.y 2
 go_wp2_with fail
 have HT7 := Lib.hid (HT6.out.set 2 (.slice A2 l2.length c2) #[.int .i64 a, .int .i64 b, .slice A2 l2.length c2, .slice none 0 0, .slice none 0 0, .slice none 0 0] (blk_put HT6.out.y 2 _ rfl))
 have HLO7 := Lib.hid (show w6.heap.size ≤ (w6.setCell ⟨g, 2, none⟩ (.slice A2 l2.length c2)).heap.size by rw [World.size_setCell]; exact Nat.le_refl _)
 obtain ⟨w7, hw7⟩ : ∃ w7, w6.setCell ⟨g, 2, none⟩ (.slice A2 l2.length c2) = w7 := ⟨_, rfl⟩
 rw [hw7] at HT7 HLO7 ⊢
 clear hw7 HT6 d2 z2
 have h4 := rdLen_is HT7.out.i HT7.out.d HO3.out
 rw [HEL.out.1, HEL.out.2] at h4
 refine h4.mono ?_
 rintro e w8 ⟨rfl, h1, h2, h3⟩
 have HT8 := Lib.hid (HT7.out.call h1 h2 h3)
 clear h1 h2 h3 h4 HT7
 go_upto_block 0 with fail
 have HST := Lib.hid HT8.out.h
 have HGZ := Lib.hid HT8.out.hz
 have HGZ0 := Lib.hid (show w.heap.size < w8.heap.size from Nat.lt_trans HT8.out.hg HT8.out.hz)
 obtain ⟨P, hP⟩ : ∃ P : World → Prop, (fun V => True ∧ Iv (Kd.int .u8) 5 w w5.heap.size w6.heap.size (.slice A2 l2.length c2) l2 V) = P := ⟨_, rfl⟩
 rw [hP] at HT8 HST
 have HP := Lib.hid hP
 clear hP
 go_cut [] (fun wx => ∃ A3 c3, Fr (fun W s => IsRd B w0 W x s) w0 w x g 26 #[.int .i64 0, .int .i64 0, .slice none 0 0, .slice none 0 0, .slice none 0 0, .slice none 0 0] #[.int .i64 a, .int .i64 b, .slice A2 l2.length c2, .slice A3 l3.length c3, .slice none 0 0, .slice none 0 0] s4 (fun V => P V ∧ Iv (Kd.int .i64) 2 w w8.heap.size wx.heap.size (.slice A3 l3.length c3) l3 V) wx ∧ w8.heap.size ≤ wx.heap.size)
 case first =>
  go_wp2_with fail
  go_wp2_with fail
  go_loopw [5] (fun i wr => RdJ P n (l3, s4) B w0 w w8 x g #[.int .i64 a, .int .i64 b, .slice A2 l2.length c2] i wr) (fun i _ => n.toNat - (intOf i).toNat)
  case atStart => exact ⟨[], sl, none, 0, rfl, by simp, HT8.out, KeepS.refl _ _, Kd.R_nil _ _ _ _ _, HOL.out, by simp [HL3.out]⟩
  case round =>
   obtain ⟨U, s5', Av, cv, rfl, hUn, hT, hK, hR, hO, hF⟩ := hrel
   have HT := Lib.hid hT; have HK := Lib.hid hK; have HR := Lib.hid hR; have HO := Lib.hid hO; have HF := Lib.hid hF; have HUN := Lib.hid hUn
   obtain ⟨A, c, k, g1, g2, g3⟩ := HT.out.i
   have c1 : wr.cell? ⟨x, 2, none⟩ = some (.int .i64 s5'.e) := by simp [World.cell?, g1]
   clear hT hK hR hO hF hUn g1 g2 g3 k c A
   by_cases hlt : (U.length : Int) < n
   ·by_cases he : s5'.e = 0
    ·have hq1 : decide ((U.length : Int) < n) = true := decide_eq_true hlt
     have hq2 : (s5'.e == 0) = true := by rw [he]; rfl
     have HT := Lib.hid HT.out.drew; have HK := Lib.hid HK.out.drew; have HR := Lib.hid (Kd.R_drew HR.out)
     have HN := Lib.hid (rdNum_is HT.out.i HT.out.d HO.out)
     obtain ⟨m, hm⟩ : ∃ m, (eNum s5').1 = m := ⟨_, rfl⟩
     obtain ⟨s6', hs6⟩ : ∃ s6', (eNum s5').2 = s6' := ⟨_, rfl⟩
     have HO6 := Lib.hid (show okS s6' by rw [← hs6]; exact okS_num HO.out)
     have HF2 := Lib.hid (show (l3, s4) = ((U ++ [m]) ++ (eMany eNum (n.toNat - (U ++ [m]).length) s6').1, (eMany eNum (n.toNat - (U ++ [m]).length) s6').2) by
      rw [HF.out]
      have e1 : n.toNat - U.length = (n.toNat - (U ++ [m]).length) + 1 := by simp; omega
      rw [e1]
      simp only [eMany, he, if_true, hm, hs6, List.append_assoc, List.singleton_append])
     have HLT2 := Lib.hid hlt
     have hul : U.length ≤ 4096 := by have h1 := HUN.out; have h2 := HSZ.out; omega
     have q3 : wr.cell? ⟨g, 3, none⟩ = some (.slice Av U.length cv) := (blk_cell HT.out.y 3).trans rfl
     rw [hm, hs6] at HN
     clear hlt he hm hs6
     go_wp2_with fail
     refine start_ (n := 8) (S := fun w' => w'.cell? ⟨g, 3, none⟩ = some (.slice Av U.length cv)) (ds := [7]) #[false, false, false, false, false, false, false, false] (by kernel_rfl) rfl rfl ((blk_cell HT.out.y 3).trans rfl) (fun hHeld => ?_)
     obtain ⟨wd, hwd⟩ : ∃ wd, wr.drew = wd := ⟨_, rfl⟩
     rw [hwd] at HT HK HR HN hHeld ⊢
     clear hwd
     refine pure_ (i := 0) (N := some 29) (v := ?_) (a' := ?_) #[true, false, false, false, false, false, false, false] rfl rfl (by kernel_rfl) (fun _ _ _ h => h) (Or.inl ⟨by rfl, ?_⟩) ?_ ?_
     rotate_left
     ·intro w'
      go_simp
      try with_reducible rfl
     rotate_left
     ·simp only [Act.put, sq1, sq2, sq3, i64_w, i32_w]
      rfl
     refine pure_ (i := 2) (N := some 31) (v := ?_) (a' := ?_) #[true, false, true, false, false, false, false, false] rfl rfl (by kernel_rfl) (fun _ _ _ h => h) (Or.inl ⟨by rfl, ?_⟩) ?_ ?_
     rotate_left
     ·intro w'
      go_simp
      try with_reducible rfl
     rotate_left
     ·simp only [Act.put, sq1, sq2, sq3, i64_w, i32_w]
      rfl
     refine take_ (i := 1) (N := some 30) (v := ?_) (a' := ?_) #[true, true, true, false, false, false, false, false] rfl rfl (by kernel_rfl) (fun _ _ _ h => h) (Or.inl ⟨by rfl, ?_⟩) hHeld ?_ ?_
     rotate_left
     ·intro w' hS
      go_simp
      try with_reducible rfl
     rotate_left
     ·simp only [Act.put, sq1, sq2, sq3, i64_w, i32_w]
      rfl
     refine one_ (i := 3) (N := some 32) #[true, true, true, true, false, false, false, false] rfl rfl (by kernel_rfl) (by decide) (fun K hK => ?_)
     go_simp
     refine HN.out.mono ?_
     rintro e w_ ⟨rfl, h1, h2, h3⟩
     have HTa := Lib.hid (HT.out.call h1 h2 h3)
     have HRa := Lib.hid (Kd.R_step HR.out (fun k h7 h8 => h3.block k h8 (by have := HT.out.hxg; have := HGZ.out; omega)))
     have HKa := Lib.hid (HK.out.trans (h3.mono (fun i (e : i = x) => Or.inl e) : KeepS (fun k => k = x ∨ k = g) wd w_))
     clear h1 h2 h3 HN
     refine hK.out _ _ ((blk_cell HTa.out.y 3).trans rfl) (fun hHeld => ?_)
     clear hK K
     refine one_ (i := 4) (N := some 33) #[true, true, true, true, true, false, false, false] rfl rfl (by kernel_rfl) (by decide) (fun K hK => ?_)
     refine value_ (w1 := ?_) (v := ?_) (by rfl) rfl ?_ ?_
     rotate_left 2
     ·go_simp
      constructor <;> rfl
     refine hK.out _ _ ((blk_cell (blk_alloc HTa.out.y _) 3).trans rfl) (fun hHeld => ?_)
     clear hK K
     refine norm_ (a' := ?_) ?_ ?_
     rotate_left
     ·show Act.put _ (some 33) _ = _
      simp only [Act.put, sq1, sq2, sq3, i64_w, i32_w]
      rfl
     refine one_ (i := 5) (N := some 34) #[true, true, true, true, true, true, false, false] rfl rfl (by kernel_rfl) (by decide) (fun K hK => ?_)
     refine Kd.R_append_step (Kd.int .i64) w8.heap.size (by rfl) (.tmp 30) (.tmp 33) 24 2 (.int .i64 0) 8 rfl Tryz.underlying24 infoI64' rfl (by decide) (by omega) (.slice Av U.length cv) U m [.int .i64 m] (fun k => w8.heap.size ≤ k) (fun _ => False) rfl rfl rfl (fun _ hk => hk.elim) (fun k hk => Nat.le_trans HKa.out.size hk) HRa.out (Below.refl _ _) HKa.out.size (by omega) ?_
     intro v_ wb ho hb hg_ hat
     have hb' : Below w8.heap.size w_ wb := hb
     obtain ⟨Aw, cw, rfl⟩ := Kd.R_slice ho
     have HRb := Lib.hid ho
     have HTb := Lib.hid (HTa.out.grow HST.out HKa.out HGZ.out hb')
     have HKb := Lib.hid (HKa.out.then_base hb')
     clear ho hb hg_ hat hb' HTa HRa HKa
     refine hK.out _ _ ((blk_cell HTb.out.y 3).trans rfl) (fun hHeld => ?_)
     clear hK K
     refine norm_ (a' := ?_) ?_ ?_
     rotate_left
     ·show Act.put _ (some 34) _ = _
      simp only [Act.put, sq1, sq2, sq3, i64_w, i32_w]
      rfl
     refine pure_ (i := 6) (N := some 35) (v := ?_) (a' := ?_) #[true, true, true, true, true, true, true, false] rfl rfl (by kernel_rfl) (fun _ _ _ h => h) (Or.inl ⟨by rfl, ?_⟩) ?_ ?_
     rotate_left
     ·intro w'
      go_simp
      try with_reducible rfl
     rotate_left
     ·simp only [Act.put, sq1, sq2, sq3, i64_w, i32_w]
      rfl
     refine last_ (i := 7) (N := none) #[true, true, true, true, true, true, true, true] rfl rfl (by kernel_rfl) (by decide) (fun K hK => ?_)
     have q3 : wb.cell? ⟨g, 3, none⟩ = some (.slice Av U.length cv) := (blk_cell HTb.out.y 3).trans rfl
     have z3 : wb.frozen? ⟨g, 3, none⟩ = false := blk_frozen HTb.out.y 3
     refine skip_ (w1 := ?_) (by rfl) rfl ?_ ?_
     rotate_left
     ·go_simp
      rfl
     refine hK.out _ _ ?_
     clear hK K
     refine done_ (by kernel_rfl) ?_
     try go_wp2
     go_roundw
     case rel =>
      refine ⟨U ++ [m], s6', Aw, cw, by rw [List.length_append]; go_num, ?_, HTb.out.set 3 _ _ (blk_put HTb.out.y 3 _ (by simp)), HKb.out.set (p := ⟨g, 3, none⟩) (.inl (.inr rfl)) _, Kd.R_far (p := ⟨g, 3, none⟩) HRb.out (fun k (hk : _ ≤ k) => by have := HGZ.out; show k ≠ g; omega) _, HO6.out, HF2.out⟩
      have h2 := HLT2.out
      rw [List.length_append, List.length_singleton]
      omega
     case measure => simp [intOf]; have h2 := HLT2.out; omega
    ·have hq1 : decide ((U.length : Int) < n) = true := decide_eq_true hlt
     have hq2 : (s5'.e == 0) = false := beq_eq_false_iff_ne.2 he
     obtain ⟨rfl, rfl⟩ : l3 = U ∧ s4 = s5' := by
      have := HF.out
      rw [eMany_stop he, List.append_nil] at this
      simpa using this
     clear he
     have HFI := Lib.hid (HT.out.and ((show Iv (Kd.int .i64) 2 w w8.heap.size wr.heap.size (.slice Av l3.length cv) l3 wr from Iv.of HR.out (Nat.le_of_lt HGZ0.out)).held (fun k hk => by have h7 := HGZ.out; have h8 := HT.out.hxg; have h9 := HT.out.hg; rcases hk with rfl | rfl | rfl <;> omega)))
     have HFZ := Lib.hid HK.out.size
     clear hlt HT HK HR HF
     go_wp2_with fail
     go_meet
     exact ⟨_, _, HFI.out, HFZ.out⟩
   ·have hq1 : decide ((U.length : Int) < n) = false := decide_eq_false hlt
    obtain ⟨rfl, rfl⟩ : l3 = U ∧ s4 = s5' := by
     have e1 : n.toNat - U.length = 0 := by omega
     have := HF.out
     rw [e1] at this
     simpa [eMany] using this
    have HFI := Lib.hid (HT.out.and ((show Iv (Kd.int .i64) 2 w w8.heap.size wr.heap.size (.slice Av l3.length cv) l3 wr from Iv.of HR.out (Nat.le_of_lt HGZ0.out)).held (fun k hk => by have h7 := HGZ.out; have h8 := HT.out.hxg; have h9 := HT.out.hg; rcases hk with rfl | rfl | rfl <;> omega)))
    have HFZ := Lib.hid HK.out.size
    clear hlt HT HK HR HF
    go_wp2_with fail
    go_meet
    exact ⟨_, _, HFI.out, HFZ.out⟩
 case rest =>
  obtain ⟨A3, c3, hT, hz⟩ := hcut
  obtain ⟨w9, rfl⟩ : ∃ w9, w9 = wc := ⟨_, rfl⟩
  have HT9 := Lib.hid hT
  have HZ3 := Lib.hid hz
  clear hT hz HT8 HST HGZ
  go_wp2_with fail
  have h4 := rdKeys_is HT9.out.i HT9.out.d HO4.out
  rw [HE5.out.1, HE5.out.2] at h4
  refine h4.mono ?_
  rintro e w10 ⟨v_, rfl, hv, h1, h2, h3⟩
  obtain ⟨A4, c4, rfl⟩ := Kd.R_slice (Kd.S_R hv)
  have HT10 := Lib.hid (HT9.out.callS h1 h2 h3 hv)
  have HLO10 := Lib.hid (show w9.heap.size ≤ w10.heap.size from h3.size)
  clear h1 h2 h3 h4 hv HT9
  have d4 : w10.cell? ⟨g, 4, none⟩ = some (.slice none 0 0) := (blk_cell HT10.out.y 4).trans rfl
  have z4 : w10.frozen? ⟨g, 4, none⟩ = false := blk_frozen HT10.out.y 4
  go_wp2_with fail
  have HT11 := Lib.hid (HT10.out.set 4 (.slice A4 l4.length c4) #[.int .i64 a, .int .i64 b, .slice A2 l2.length c2, .slice A3 l3.length c3, .slice A4 l4.length c4, .slice none 0 0] (blk_put HT10.out.y 4 _ rfl))
  have HLO11 := Lib.hid (show w10.heap.size ≤ (w10.setCell ⟨g, 4, none⟩ (.slice A4 l4.length c4)).heap.size by rw [World.size_setCell]; exact Nat.le_refl _)
  obtain ⟨w11, hw11⟩ : ∃ w11, w10.setCell ⟨g, 4, none⟩ (.slice A4 l4.length c4) = w11 := ⟨_, rfl⟩
  rw [hw11] at HT11 HLO11 ⊢
  clear hw11 HT10 d4 z4
  have HZ45 := Lib.hid (show w10.heap.size ≤ w11.heap.size from HLO11.out)
  have h4 := rdKeys_is HT11.out.i HT11.out.d HO5.out
  rw [HE6.out.1, HE6.out.2] at h4
  refine h4.mono ?_
  rintro e w12 ⟨v_, rfl, hv, h1, h2, h3⟩
  obtain ⟨A5, c5, rfl⟩ := Kd.R_slice (Kd.S_R hv)
  have HT12 := Lib.hid (HT11.out.callS h1 h2 h3 hv)
  have HLO12 := Lib.hid (show w11.heap.size ≤ w12.heap.size from h3.size)
  clear h1 h2 h3 h4 hv HT11
  have d0 : w12.cell? ⟨g, 0, none⟩ = some (.int .i64 a) := (blk_cell HT12.out.y 0).trans rfl
  have z0 : w12.frozen? ⟨g, 0, none⟩ = false := blk_frozen HT12.out.y 0
  have d1 : w12.cell? ⟨g, 1, none⟩ = some (.int .i64 b) := (blk_cell HT12.out.y 1).trans rfl
  have z1 : w12.frozen? ⟨g, 1, none⟩ = false := blk_frozen HT12.out.y 1
  have d2 : w12.cell? ⟨g, 2, none⟩ = some (.slice A2 l2.length c2) := (blk_cell HT12.out.y 2).trans rfl
  have z2 : w12.frozen? ⟨g, 2, none⟩ = false := blk_frozen HT12.out.y 2
  have d3 : w12.cell? ⟨g, 3, none⟩ = some (.slice A3 l3.length c3) := (blk_cell HT12.out.y 3).trans rfl
  have z3 : w12.frozen? ⟨g, 3, none⟩ = false := blk_frozen HT12.out.y 3
  have d4 : w12.cell? ⟨g, 4, none⟩ = some (.slice A4 l4.length c4) := (blk_cell HT12.out.y 4).trans rfl
  have z4 : w12.frozen? ⟨g, 4, none⟩ = false := blk_frozen HT12.out.y 4
  have d5 : w12.cell? ⟨g, 5, none⟩ = some (.slice none 0 0) := (blk_cell HT12.out.y 5).trans rfl
  have z5 : w12.frozen? ⟨g, 5, none⟩ = false := blk_frozen HT12.out.y 5
  have e0 : w12.cell? ⟨w.heap.size, 0, none⟩ = some (.int .i64 0) := (blk_cell HT12.out.g0 0).trans rfl
  have y0 : w12.frozen? ⟨w.heap.size, 0, none⟩ = false := blk_frozen HT12.out.g0 0
  have e1 : w12.cell? ⟨w.heap.size, 1, none⟩ = some (.int .i64 0) := (blk_cell HT12.out.g0 1).trans rfl
  have y1 : w12.frozen? ⟨w.heap.size, 1, none⟩ = false := blk_frozen HT12.out.g0 1
  have e2 : w12.cell? ⟨w.heap.size, 2, none⟩ = some (.slice none 0 0) := (blk_cell HT12.out.g0 2).trans rfl
  have y2 : w12.frozen? ⟨w.heap.size, 2, none⟩ = false := blk_frozen HT12.out.g0 2
  have e3 : w12.cell? ⟨w.heap.size, 3, none⟩ = some (.slice none 0 0) := (blk_cell HT12.out.g0 3).trans rfl
  have y3 : w12.frozen? ⟨w.heap.size, 3, none⟩ = false := blk_frozen HT12.out.g0 3
  have e4 : w12.cell? ⟨w.heap.size, 4, none⟩ = some (.slice none 0 0) := (blk_cell HT12.out.g0 4).trans rfl
  have y4 : w12.frozen? ⟨w.heap.size, 4, none⟩ = false := blk_frozen HT12.out.g0 4
  have e5 : w12.cell? ⟨w.heap.size, 5, none⟩ = some (.slice none 0 0) := (blk_cell HT12.out.g0 5).trans rfl
  have y5 : w12.frozen? ⟨w.heap.size, 5, none⟩ = false := blk_frozen HT12.out.g0 5
  have HGN : w.heap.size ≠ g := by have := HT12.out.hg; omega
  go_wp2_with fail
  have HEB := Lib.hid (blk_put (cs := #[.int .i64 a, .int .i64 b, .slice A2 l2.length c2, .slice A3 l3.length c3, .slice A4 l4.length c4, .slice none 0 0]) (blk_put (cs := #[.int .i64 a, .int .i64 b, .slice A2 l2.length c2, .slice A3 l3.length c3, .slice none 0 0, .slice none 0 0]) (blk_put (cs := #[.int .i64 a, .int .i64 b, .slice A2 l2.length c2, .slice none 0 0, .slice none 0 0, .slice none 0 0]) (blk_put (cs := #[.int .i64 a, .int .i64 b, .slice none 0 0, .slice none 0 0, .slice none 0 0, .slice none 0 0]) (blk_put (cs := #[.int .i64 a, .int .i64 0, .slice none 0 0, .slice none 0 0, .slice none 0 0, .slice none 0 0]) (blk_put (cs := #[.int .i64 0, .int .i64 0, .slice none 0 0, .slice none 0 0, .slice none 0 0, .slice none 0 0]) ((Below.heap_setCell w12 ⟨g, 5, none⟩ (.slice A5 l5.length c5) w.heap.size HGN).trans HT12.out.g0) 0 (.int .i64 a) rfl) 1 (.int .i64 b) rfl) 2 (.slice A2 l2.length c2) rfl) 3 (.slice A3 l3.length c3) rfl) 4 (.slice A4 l4.length c4) rfl) 5 (.slice A5 l5.length c5) rfl)
  have HD := Lib.hid (HT12.out.done ((((((((KeepS.refl (fun k => k = w.heap.size ∨ k = g) w12).set (p := ⟨g, 5, none⟩) (.inl (.inr rfl)) (.slice A5 l5.length c5)).set (p := ⟨w.heap.size, 0, none⟩) (.inl (.inl rfl)) (.int .i64 a)).set (p := ⟨w.heap.size, 1, none⟩) (.inl (.inl rfl)) (.int .i64 b)).set (p := ⟨w.heap.size, 2, none⟩) (.inl (.inl rfl)) (.slice A2 l2.length c2)).set (p := ⟨w.heap.size, 3, none⟩) (.inl (.inl rfl)) (.slice A3 l3.length c3)).set (p := ⟨w.heap.size, 4, none⟩) (.inl (.inl rfl)) (.slice A4 l4.length c4)).set (p := ⟨w.heap.size, 5, none⟩) (.inl (.inl rfl)) (.slice A5 l5.length c5)))
  obtain ⟨W, hW⟩ : ∃ W, (((((((w12.setCell ⟨g, 5, none⟩ (.slice A5 l5.length c5)).setCell ⟨w.heap.size, 0, none⟩ (.int .i64 a)).setCell ⟨w.heap.size, 1, none⟩ (.int .i64 b)).setCell ⟨w.heap.size, 2, none⟩ (.slice A2 l2.length c2)).setCell ⟨w.heap.size, 3, none⟩ (.slice A3 l3.length c3)).setCell ⟨w.heap.size, 4, none⟩ (.slice A4 l4.length c4)).setCell ⟨w.heap.size, 5, none⟩ (.slice A5 l5.length c5)) = W := ⟨_, rfl⟩
  rw [hW] at HEB HD ⊢
  clear hW
  refine bodyPost_ret (results_cell_row rfl _ _ w.heap.size 26 #[.int .i64 a, .int .i64 b, .slice A2 l2.length c2, .slice A3 l3.length c3, .slice A4 l4.length c4, .slice A5 l5.length c5] (0, 0) _ rfl HEB.out Tryz.underlying26 rfl (by kernel_rfl)) rfl ?_
  rw [HF.out]
  obtain ⟨⟨⟨⟨p1, p3⟩, p4⟩, p5⟩, di, dd, dq⟩ := HD.out
  rw [← HP.out] at p1
  have r4 := Kd.S_R p4; have r5 := Kd.S_R p5
  exact ⟨_, _, _, _, rfl, Kd.R_mono p1.2 (fun _ _ => trivial), Kd.R_mono p3 (fun _ _ => trivial), Iv.apart r4 r5 (.inl HZ45.out), Iv.apart r5 r4 (.inr HZ45.out), di, dd, dq⟩
end Go.Proofs.YtgiefblcckikeaaGreat.M
end

section
/- The reference's Reader: Small, yes, End, Part (printed by genrdm04.py). -/
attribute [local irreducible] Go.wpStill
namespace Go.Proofs.YtgiefblcckikeaaGreat.M
open Go.RowKit Go.Proofs.YtgiefblcckikeaaGreatW.PrintWords Go.Proofs.YtgiefblcckikeaaGreatW.PrintLast Go.Proofs.YtgiefblcckikeaaGreatW.PrintMore Go.Proofs.YtgiefblcckikeaaGreat.G
theorem rdSmall_is {B : List Int} {w0 w : World} {x : Nat} {s : EyeS} (hI : IsRd B w0 w x s) (hB : Below w0.heap.size w0 w) (hok : okS s) :
  Calls Tryz.prog 115 #[.pointer (some ⟨x, 0, none⟩)] w fun e w' => RdP B w0 w x (.int .i64 (rSmall s).1) (rSmall s).2 e w' := by
 have HN := Lib.hid (rdNum_is hI hB hok)
 obtain ⟨n, hn⟩ : ∃ n, (eNum s).1 = n := ⟨_, rfl⟩
 obtain ⟨s1, hs1⟩ : ∃ s1, (eNum s).2 = s1 := ⟨_, rfl⟩
 by_cases h1 : n < -2147483648
 ·have HF := Lib.hid (show rSmall s = (-2147483648, s1) by unfold rSmall; rw [hn, hs1, if_pos (.inl h1)])
  have q1 : decide (n < -2147483648) = true := decide_eq_true h1
  rw [hn, hs1] at HN
  clear hn hs1 hI hB hok h1
  go_enter Tryz.func115, Tryz.ntmps115
  go_wp2_with fail
  refine HN.out.mono ?_
  rintro e w1 ⟨rfl, h1, h2, h3⟩
  have H1 := Lib.hid h1; have H2 := Lib.hid h2; have H3 := Lib.hid h3
  clear h1 h2 h3 HN
  go_wp2_with fail
  go_ret
  exact ⟨by rw [HF.out]; rfl, by rw [HF.out]; exact H1.out, H2.out, H3.out⟩
 ·have q1 : decide (n < -2147483648) = false := decide_eq_false h1
  by_cases h2 : 2147483648 < n
  ·have HF := Lib.hid (show rSmall s = (-2147483648, s1) by unfold rSmall; rw [hn, hs1, if_pos (.inr h2)])
   have q2 : decide ((2147483648 : Int) < n) = true := decide_eq_true h2
   rw [hn, hs1] at HN
   clear hn hs1 hI hB hok h1 h2
   go_enter Tryz.func115, Tryz.ntmps115
   go_wp2_with fail
   refine HN.out.mono ?_
   rintro e w1 ⟨rfl, h1, h2, h3⟩
   have H1 := Lib.hid h1; have H2 := Lib.hid h2; have H3 := Lib.hid h3
   clear h1 h2 h3 HN
   go_wp2_with fail
   go_ret
   exact ⟨by rw [HF.out]; rfl, by rw [HF.out]; exact H1.out, H2.out, H3.out⟩
  ·have HF := Lib.hid (show rSmall s = (n, s1) by unfold rSmall; rw [hn, if_neg (by omega)]; exact Prod.ext hn hs1)
   have q2 : decide ((2147483648 : Int) < n) = false := decide_eq_false h2
   rw [hn, hs1] at HN
   clear hn hs1 hI hB hok h1 h2
   go_enter Tryz.func115, Tryz.ntmps115
   go_wp2_with fail
   refine HN.out.mono ?_
   rintro e w1 ⟨rfl, h1, h2, h3⟩
   have H1 := Lib.hid h1; have H2 := Lib.hid h2; have H3 := Lib.hid h3
   clear h1 h2 h3 HN
   go_wp2_with fail
   go_ret
   exact ⟨by rw [HF.out]; rfl, by rw [HF.out]; exact H1.out, H2.out, H3.out⟩
theorem rdFail40 {B : List Int} {w0 w : World} {x : Nat} {s : EyeS} (hI : IsRd B w0 w x s) (hB : Below w0.heap.size w0 w) :
  Calls Tryz.prog 119 #[.pointer (some ⟨x, 0, none⟩), .int .i64 40] w fun e w' => RdP B w0 w x (.tuple #[]) (eWrong true s) e w' := by
 have h := rdFail_is hI hB 40
 have hw : (if s.e = 0 then { s with e := 40 } else s) = eWrong true s := by
  unfold eWrong
  by_cases h : s.e = 0
  ·rw [if_pos h, if_pos ⟨h, rfl⟩]
  ·rw [if_neg h, if_neg (fun q => h q.1)]
 rw [hw] at h
 exact h
theorem rdYes_is {B : List Int} {w0 w : World} {x : Nat} {s : EyeS} (hI : IsRd B w0 w x s) (hB : Below w0.heap.size w0 w) (hok : okS s) :
  Calls Tryz.prog 130 #[.pointer (some ⟨x, 0, none⟩)] w fun e w' => RdP B w0 w x (.bool (eYes s).1) (eYes s).2 e w' := by
 have HN := Lib.hid (rdNum_is hI hB hok)
 obtain ⟨k, hk⟩ : ∃ k, (eNum s).1 = k := ⟨_, rfl⟩
 obtain ⟨s1, hs1⟩ : ∃ s1, (eNum s).2 = s1 := ⟨_, rfl⟩
 have HF := Lib.hid (show eYes s = (decide (k = 1), eWrong (decide (k ≠ 0) && decide (k ≠ 1)) s1) by unfold eYes eKind; rw [hk, hs1])
 rw [hk, hs1] at HN
 clear hk hs1 hI hB hok
 by_cases ha : k = 0
 ·have q0 : (k != 0) = false := by rw [ha]; rfl
  have q2 : (k == 1) = false := by rw [ha]; rfl
  have HR := Lib.hid (show eYes s = (false, s1) by rw [HF.out]; simp [ha, eWrong_false])
  clear ha HF
  go_enter Tryz.func130, Tryz.ntmps130
  go_wp2_with fail
  refine HN.out.mono ?_
  rintro e w1 ⟨rfl, h1, h2, h3⟩
  have G1 := Lib.hid h1; have G2 := Lib.hid h2; have G3 := Lib.hid h3
  clear h1 h2 h3 HN
  go_wp2_with fail
  go_ret
  exact ⟨by rw [HR.out]; rfl, by rw [HR.out]; exact G1.out, G2.out, G3.out⟩
 ·by_cases hb : k = 1
  ·have q0 : (k != 0) = true := bne_iff_ne.2 ha
   have q1 : (k != 1) = false := by rw [hb]; rfl
   have q2 : (k == 1) = true := by rw [hb]; rfl
   have HR := Lib.hid (show eYes s = (true, s1) by rw [HF.out]; simp [ha, hb, eWrong_false])
   clear ha hb HF
   go_enter Tryz.func130, Tryz.ntmps130
   go_wp2_with fail
   refine HN.out.mono ?_
   rintro e w1 ⟨rfl, h1, h2, h3⟩
   have G1 := Lib.hid h1; have G2 := Lib.hid h2; have G3 := Lib.hid h3
   clear h1 h2 h3 HN
   go_wp2_with fail
   go_ret
   exact ⟨by rw [HR.out]; rfl, by rw [HR.out]; exact G1.out, G2.out, G3.out⟩
  ·have q0 : (k != 0) = true := bne_iff_ne.2 ha
   have q1 : (k != 1) = true := bne_iff_ne.2 hb
   have q2 : (k == 1) = false := beq_eq_false_iff_ne.2 hb
   have HR := Lib.hid (show eYes s = (false, eWrong true s1) by rw [HF.out]; simp [ha, hb, eWrong_false])
   clear ha hb HF
   go_enter Tryz.func130, Tryz.ntmps130
   go_wp2_with fail
   refine HN.out.mono ?_
   rintro e w1 ⟨rfl, h1, h2, h3⟩
   have HW := Lib.hid (rdFail40 h1 h2); have H3 := Lib.hid h3
   clear h1 h2 h3 HN
   go_wp2_with fail
   refine HW.out.mono ?_
   rintro e w2 ⟨rfl, h1, h2, h3⟩
   have G1 := Lib.hid h1; have G2 := Lib.hid h2; have G3 := Lib.hid (H3.out.trans h3)
   clear h1 h2 h3 HW H3
   go_wp2_with fail
   go_ret
   exact ⟨by rw [HR.out]; rfl, by rw [HR.out]; exact G1.out, G2.out, G3.out⟩
theorem rdEnd_is {B : List Int} {w0 w : World} {x : Nat} {s : EyeS} (hI : IsRd B w0 w x s) (hB : Below w0.heap.size w0 w) :
  Calls Tryz.prog 57 #[.pointer (some ⟨x, 0, none⟩)] w fun e w' => RdP B w0 w x (.tuple #[]) (rEnd s) e w' := by
 have HI := Lib.hid hI; have HB := Lib.hid hB
 obtain ⟨A, c, k, h1, h2, h3, h4, h5, h6, h7⟩ := hI
 have c0 : w.cell? ⟨x, 0, none⟩ = some (.slice A B.length c) := by simp [World.cell?, h1]
 have c1 : w.cell? ⟨x, 1, none⟩ = some (.int .i64 (k : Int)) := by simp [World.cell?, h1]
 have hsl : s.l.length = B.length - k := by rw [← h6, List.length_drop]
 by_cases hk : k < B.length
 ·have q1 : decide ((k : Int) < (B.length : Int)) = true := decide_eq_true (by omega)
  have q2 : decide (k < B.length) = true := decide_eq_true hk
  have HR := Lib.hid (show rEnd s = if s.e = 0 then { s with e := 13 } else s by
   unfold rEnd
   by_cases he : s.e = 0
   ·rw [if_pos he, if_pos ⟨he, by omega⟩]
   ·rw [if_neg he, if_neg (fun q => he q.1)])
  have HW := Lib.hid (rdFail_is (HI.out.at (W' := w.drew) rfl) HB.out.drew 13)
  rw [← HR.out] at HW
  clear h1 h2 h3 h4 h5 h6 h7 hsl hk HR HI
  go_enter Tryz.func57, Tryz.ntmps57
  go_wp2_with fail
  go_region
  go_wp2_with fail
  refine HW.out.mono ?_
  rintro e w2 ⟨rfl, h1, h2, h3⟩
  have G1 := Lib.hid h1; have G2 := Lib.hid h2; have G3 := Lib.hid ((KeepS.refl (fun i => i = x) w).drew.trans h3)
  clear h1 h2 h3
  go_wp2_with fail
  go_end0
  exact ⟨rfl, G1.out, G2.out, G3.out⟩
 ·have q1 : decide ((k : Int) < (B.length : Int)) = false := decide_eq_false (by omega)
  have q2 : decide (k < B.length) = false := decide_eq_false hk
  have HR := Lib.hid (show rEnd s = s by unfold rEnd; rw [if_neg (fun q => by omega)])
  clear h1 h2 h3 h4 h5 h6 h7 hsl hk
  go_enter Tryz.func57, Tryz.ntmps57
  go_wp2_with fail
  go_region
  go_wp2_with fail
  go_end0
  exact ⟨rfl, by rw [HR.out]; exact HI.out.at rfl, HB.out.drew, (KeepS.refl (fun i => i = x) w).drew⟩
theorem okS_rsmall {s : EyeS} (h : okS s) : okS (rSmall s).2 := by rw [rSmall_2]; exact okS_num h
def RdPt (B : List Int) (w0 w : World) (x : Nat) (y : PartD) (s' : EyeS) (e : Ending) (w' : World) : Prop := ∃ v : Value, e = .returned (.agg #[.int .i64 y.f0, .int .i64 y.f1, .int .i64 y.f2, v]) ∧ Kd.R (Kd.int .u8) 5 w' w.heap.size (fun _ => True) v y.f3 ∧ IsRd B w0 w' x s' ∧ Below w0.heap.size w0 w' ∧ KeepS (fun i => i = x) w w'
set_option maxHeartbeats 4000000 in
theorem rdPart_is {B : List Int} {w0 w : World} {x : Nat} {s : EyeS} (hI : IsRd B w0 w x s) (hB : Below w0.heap.size w0 w) (hok : okS s) :
  Calls Tryz.prog 132 #[.pointer (some ⟨x, 0, none⟩)] w fun e w' => RdPt B w0 w x (ptOf rSmall s).1 (ptOf rSmall s).2 e w' := by
 have HT1 := Lib.hid ((Fo.start (I := fun W s => IsRd B w0 W x s) (T := 32) (zs := #[.int .i64 0, .int .i64 0, .int .i64 0, .slice none 0 0]) hI hB hI.lt hI.ge (fun _ _ _ e h => h.at e)).lay #[.int .i64 0, .int .i64 0, .int .i64 0, .slice none 0 0])
 obtain ⟨s1, hs1⟩ : ∃ t, s = t := ⟨_, rfl⟩
 have ho1 := hok
 rw [hs1] at ho1 HT1
 obtain ⟨v1, hv1⟩ : ∃ v, (eNum s1).1 = v := ⟨_, rfl⟩
 obtain ⟨s2, hs2⟩ : ∃ t, (eNum s1).2 = t := ⟨_, rfl⟩
 have ho2 := okS_num ho1
 rw [hs2] at ho2
 have HO1 := Lib.hid ho1; have HE1 := Lib.hid (And.intro hv1 hs2)
 obtain ⟨v2, hv2⟩ : ∃ v, (rSmall s2).1 = v := ⟨_, rfl⟩
 obtain ⟨s3, hs3⟩ : ∃ t, (rSmall s2).2 = t := ⟨_, rfl⟩
 have ho3 := okS_rsmall ho2
 rw [hs3] at ho3
 have HO2 := Lib.hid ho2; have HE2 := Lib.hid (And.intro hv2 hs3)
 obtain ⟨v3, hv3⟩ : ∃ v, (rSmall s3).1 = v := ⟨_, rfl⟩
 obtain ⟨s4, hs4⟩ : ∃ t, (rSmall s3).2 = t := ⟨_, rfl⟩
 have ho4 := okS_rsmall ho3
 rw [hs4] at ho4
 have HO3 := Lib.hid ho3; have HE3 := Lib.hid (And.intro hv3 hs4)
 obtain ⟨v4, hv4⟩ : ∃ v, (eData s4).1 = v := ⟨_, rfl⟩
 obtain ⟨s5, hs5⟩ : ∃ t, (eData s4).2 = t := ⟨_, rfl⟩
 have ho5 := okS_data ho4
 rw [hs5] at ho5
 have HO4 := Lib.hid ho4; have HE4 := Lib.hid (And.intro hv4 hs5)
 have HF := Lib.hid (show ptOf rSmall s = (⟨v1, v2, v3, v4⟩, s5) by
  unfold ptOf
  simp only [FM, PR, hs1, hv1, hs2, hv2, hs3, hv3, hs4, hv4, hs5])
 clear hI hB hok hs1 hv1 hs2 ho1 hv2 hs3 ho2 hv3 hs4 ho3 hv4 hs5 ho4 ho5
 go_enter Tryz.func132, Tryz.ntmps132
 go_wp2_with fail
 obtain ⟨g, hg⟩ : ∃ g, (w.alloc (.cells #[.int .i64 0, .int .i64 0, .int .i64 0, .slice none 0 0] 32)).heap.size = g := ⟨_, rfl⟩
 have hg' : w.heap.size + 1 = g := by rw [← hg]; simp
 obtain ⟨w1, hw1⟩ : ∃ W, (w.alloc (.cells #[.int .i64 0, .int .i64 0, .int .i64 0, .slice none 0 0] 32)).alloc (.cells #[.int .i64 0, .int .i64 0, .int .i64 0, .slice none 0 0] 32) = W := ⟨_, rfl⟩
 rw [hg, hw1] at HT1
 rw [hw1, hg']
 clear hg hw1 hg'
 have h4 := rdNum_is HT1.out.i HT1.out.d HO1.out
 rw [HE1.out.1, HE1.out.2] at h4
 refine h4.mono ?_
 rintro e w2 ⟨rfl, h1, h2, h3⟩
 have HT2 := Lib.hid (HT1.out.call h1 h2 h3)
 clear h1 h2 h3 h4 HT1
 have d0 : w2.cell? ⟨g, 0, none⟩ = some (.int .i64 0) := (blk_cell HT2.out.y 0).trans rfl
 have z0 : w2.frozen? ⟨g, 0, none⟩ = false := blk_frozen HT2.out.y 0
 go_wp2_with fail
 have HT3 := Lib.hid (HT2.out.set 0 (.int .i64 v1) #[.int .i64 v1, .int .i64 0, .int .i64 0, .slice none 0 0] (blk_put HT2.out.y 0 _ rfl))
 have HLO3 := Lib.hid (show w2.heap.size ≤ (w2.setCell ⟨g, 0, none⟩ (.int .i64 v1)).heap.size by rw [World.size_setCell]; exact Nat.le_refl _)
 obtain ⟨w3, hw3⟩ : ∃ w3, w2.setCell ⟨g, 0, none⟩ (.int .i64 v1) = w3 := ⟨_, rfl⟩
 rw [hw3] at HT3 HLO3 ⊢
 clear hw3 HT2 d0 z0
 have h4 := rdSmall_is HT3.out.i HT3.out.d HO2.out
 rw [HE2.out.1, HE2.out.2] at h4
 refine h4.mono ?_
 rintro e w4 ⟨rfl, h1, h2, h3⟩
 have HT4 := Lib.hid (HT3.out.call h1 h2 h3)
 clear h1 h2 h3 h4 HT3
 have d1 : w4.cell? ⟨g, 1, none⟩ = some (.int .i64 0) := (blk_cell HT4.out.y 1).trans rfl
 have z1 : w4.frozen? ⟨g, 1, none⟩ = false := blk_frozen HT4.out.y 1
 go_wp2_with fail
 have HT5 := Lib.hid (HT4.out.set 1 (.int .i64 v2) #[.int .i64 v1, .int .i64 v2, .int .i64 0, .slice none 0 0] (blk_put HT4.out.y 1 _ rfl))
 have HLO5 := Lib.hid (show w4.heap.size ≤ (w4.setCell ⟨g, 1, none⟩ (.int .i64 v2)).heap.size by rw [World.size_setCell]; exact Nat.le_refl _)
 obtain ⟨w5, hw5⟩ : ∃ w5, w4.setCell ⟨g, 1, none⟩ (.int .i64 v2) = w5 := ⟨_, rfl⟩
 rw [hw5] at HT5 HLO5 ⊢
 clear hw5 HT4 d1 z1
 have h4 := rdSmall_is HT5.out.i HT5.out.d HO3.out
 rw [HE3.out.1, HE3.out.2] at h4
 refine h4.mono ?_
 rintro e w6 ⟨rfl, h1, h2, h3⟩
 have HT6 := Lib.hid (HT5.out.call h1 h2 h3)
 clear h1 h2 h3 h4 HT5
 have d2 : w6.cell? ⟨g, 2, none⟩ = some (.int .i64 0) := (blk_cell HT6.out.y 2).trans rfl
 have z2 : w6.frozen? ⟨g, 2, none⟩ = false := blk_frozen HT6.out.y 2
 go_wp2_with fail
 have HT7 := Lib.hid (HT6.out.set 2 (.int .i64 v3) #[.int .i64 v1, .int .i64 v2, .int .i64 v3, .slice none 0 0] (blk_put HT6.out.y 2 _ rfl))
 have HLO7 := Lib.hid (show w6.heap.size ≤ (w6.setCell ⟨g, 2, none⟩ (.int .i64 v3)).heap.size by rw [World.size_setCell]; exact Nat.le_refl _)
 obtain ⟨w7, hw7⟩ : ∃ w7, w6.setCell ⟨g, 2, none⟩ (.int .i64 v3) = w7 := ⟨_, rfl⟩
 rw [hw7] at HT7 HLO7 ⊢
 clear hw7 HT6 d2 z2
 have h4 := rdData_is HT7.out.i HT7.out.d HO4.out
 rw [HE4.out.1, HE4.out.2] at h4
 refine h4.mono ?_
 rintro e w8 ⟨v_, rfl, hv, h1, h2, h3⟩
 obtain ⟨A16, c16, rfl⟩ := Kd.R_slice hv
 have HT8 := Lib.hid (HT7.out.callR h1 h2 h3 hv)
 have HLO8 := Lib.hid (show w7.heap.size ≤ w8.heap.size from h3.size)
 clear h1 h2 h3 h4 hv HT7
 have d0 : w8.cell? ⟨g, 0, none⟩ = some (.int .i64 v1) := (blk_cell HT8.out.y 0).trans rfl
 have z0 : w8.frozen? ⟨g, 0, none⟩ = false := blk_frozen HT8.out.y 0
 have d1 : w8.cell? ⟨g, 1, none⟩ = some (.int .i64 v2) := (blk_cell HT8.out.y 1).trans rfl
 have z1 : w8.frozen? ⟨g, 1, none⟩ = false := blk_frozen HT8.out.y 1
 have d2 : w8.cell? ⟨g, 2, none⟩ = some (.int .i64 v3) := (blk_cell HT8.out.y 2).trans rfl
 have z2 : w8.frozen? ⟨g, 2, none⟩ = false := blk_frozen HT8.out.y 2
 have d3 : w8.cell? ⟨g, 3, none⟩ = some (.slice none 0 0) := (blk_cell HT8.out.y 3).trans rfl
 have z3 : w8.frozen? ⟨g, 3, none⟩ = false := blk_frozen HT8.out.y 3
 have e0 : w8.cell? ⟨w.heap.size, 0, none⟩ = some (.int .i64 0) := (blk_cell HT8.out.g0 0).trans rfl
 have y0 : w8.frozen? ⟨w.heap.size, 0, none⟩ = false := blk_frozen HT8.out.g0 0
 have e1 : w8.cell? ⟨w.heap.size, 1, none⟩ = some (.int .i64 0) := (blk_cell HT8.out.g0 1).trans rfl
 have y1 : w8.frozen? ⟨w.heap.size, 1, none⟩ = false := blk_frozen HT8.out.g0 1
 have e2 : w8.cell? ⟨w.heap.size, 2, none⟩ = some (.int .i64 0) := (blk_cell HT8.out.g0 2).trans rfl
 have y2 : w8.frozen? ⟨w.heap.size, 2, none⟩ = false := blk_frozen HT8.out.g0 2
 have e3 : w8.cell? ⟨w.heap.size, 3, none⟩ = some (.slice none 0 0) := (blk_cell HT8.out.g0 3).trans rfl
 have y3 : w8.frozen? ⟨w.heap.size, 3, none⟩ = false := blk_frozen HT8.out.g0 3
 have HGN : w.heap.size ≠ g := by have := HT8.out.hg; omega
 go_wp2_with fail
 have HEB := Lib.hid (blk_put (cs := #[.int .i64 v1, .int .i64 v2, .int .i64 v3, .slice none 0 0]) (blk_put (cs := #[.int .i64 v1, .int .i64 v2, .int .i64 0, .slice none 0 0]) (blk_put (cs := #[.int .i64 v1, .int .i64 0, .int .i64 0, .slice none 0 0]) (blk_put (cs := #[.int .i64 0, .int .i64 0, .int .i64 0, .slice none 0 0]) ((Below.heap_setCell w8 ⟨g, 3, none⟩ (.slice A16 v4.length c16) w.heap.size HGN).trans HT8.out.g0) 0 (.int .i64 v1) rfl) 1 (.int .i64 v2) rfl) 2 (.int .i64 v3) rfl) 3 (.slice A16 v4.length c16) rfl)
 have HD := Lib.hid (HT8.out.done ((((((KeepS.refl (fun k => k = w.heap.size ∨ k = g) w8).set (p := ⟨g, 3, none⟩) (.inl (.inr rfl)) (.slice A16 v4.length c16)).set (p := ⟨w.heap.size, 0, none⟩) (.inl (.inl rfl)) (.int .i64 v1)).set (p := ⟨w.heap.size, 1, none⟩) (.inl (.inl rfl)) (.int .i64 v2)).set (p := ⟨w.heap.size, 2, none⟩) (.inl (.inl rfl)) (.int .i64 v3)).set (p := ⟨w.heap.size, 3, none⟩) (.inl (.inl rfl)) (.slice A16 v4.length c16)))
 obtain ⟨W, hW⟩ : ∃ W, (((((w8.setCell ⟨g, 3, none⟩ (.slice A16 v4.length c16)).setCell ⟨w.heap.size, 0, none⟩ (.int .i64 v1)).setCell ⟨w.heap.size, 1, none⟩ (.int .i64 v2)).setCell ⟨w.heap.size, 2, none⟩ (.int .i64 v3)).setCell ⟨w.heap.size, 3, none⟩ (.slice A16 v4.length c16)) = W := ⟨_, rfl⟩
 rw [hW] at HEB HD ⊢
 clear hW
 refine bodyPost_ret (results_cell_row rfl _ _ w.heap.size 32 #[.int .i64 v1, .int .i64 v2, .int .i64 v3, .slice A16 v4.length c16] (0, 0) _ rfl HEB.out Tryz.underlying32 rfl (by kernel_rfl)) rfl ?_
 rw [HF.out]
 obtain ⟨⟨_, p3⟩, di, dd, dq⟩ := HD.out
 exact ⟨_, rfl, Kd.R_mono p3 (fun _ _ => trivial), di, dd, dq⟩
end Go.Proofs.YtgiefblcckikeaaGreat.M
end

section
/- The reference's Reader: an entry (printed by genrden04.py). -/
attribute [local irreducible] Go.wpStill
namespace Go.Proofs.YtgiefblcckikeaaGreat.M
open Go.RowKit Go.Proofs.YtgiefblcckikeaaGreatW.PrintWords Go.Proofs.YtgiefblcckikeaaGreatW.PrintLast Go.Proofs.YtgiefblcckikeaaGreatW.PrintMore Go.Proofs.YtgiefblcckikeaaGreat.G
def RdEn (B : List Int) (w0 w : World) (x : Nat) (y : EnD) (s' : EyeS) (e : Ending) (w' : World) : Prop := ∃ v : Value, e = .returned (.agg #[.int .i64 y.1, .int .i64 y.2.1, .int .i64 y.2.2.1, v]) ∧ Kd.R G.k26 26 w' w.heap.size (fun _ => True) v y.2.2.2 ∧ IsRd B w0 w' x s' ∧ Below w0.heap.size w0 w' ∧ KeepS (fun i => i = x) w w'
def RdJE (n : Int) (r : List TxD × EyeS) (B : List Int) (w0 w W1 : World) (x g : Nat) (h3 : Array Value) (i : Value) (W : World) : Prop := ∃ (U : List TxD) (s : EyeS) (Av : Option Addr) (cv : Nat), i = .int .i64 (U.length : Int) ∧ U.length ≤ n.toNat ∧ Fr (fun W s => IsRd B w0 W x s) w0 w x g 29 #[.int .i64 0, .int .i64 0, .int .i64 0, .slice none 0 0] (h3 ++ #[.slice Av U.length cv]) s (fun _ => True) W ∧ KeepS (fun k => k = x ∨ k = g) W1 W ∧ Kd.R G.k26 26 W W1.heap.size (fun k => W1.heap.size ≤ k) (.slice Av U.length cv) U ∧ okS s ∧ r = (U ++ (eMany eTxn (n.toNat - U.length) s).1, (eMany eTxn (n.toNat - U.length) s).2)
set_option maxHeartbeats 4000000 in
theorem rdEntry0 {B : List Int} {w0 w : World} {x : Nat} {s : EyeS} (hI : IsRd B w0 w x s) (hB : Below w0.heap.size w0 w) (hok : okS s) (hk : (rSmall s).1 = 0) :
  Calls Tryz.prog 56 #[.pointer (some ⟨x, 0, none⟩)] w fun e w' => RdEn B w0 w x (rEntry s).1 (rEntry s).2 e w' := by
 have HT1 := Lib.hid ((Fo.start (I := (fun W s => IsRd B w0 W x s)) (T := 29) (zs := #[.int .i64 0, .int .i64 0, .int .i64 0, .slice none 0 0]) hI hB hI.lt hI.ge (fun _ _ _ e h => h.at e)).lay #[.int .i64 0, .int .i64 0, .int .i64 0, .slice none 0 0])
 obtain ⟨s1, hs1⟩ : ∃ t, (rSmall s).2 = t := ⟨_, rfl⟩
 have ho1 := okS_rsmall hok
 rw [hs1] at ho1
 have HO0 := Lib.hid hok
 have HE0 := Lib.hid (And.intro hk hs1)
 have HF := Lib.hid (show rEntry s = ((0, 0, 0, []), s1) by unfold rEntry; rw [if_pos hk, hs1])
 clear hI hB hok hk hs1 ho1
 go_enter Tryz.func56, Tryz.ntmps56
 go_wp2_with fail
 obtain ⟨g, hg⟩ : ∃ g, (w.alloc (.cells #[.int .i64 0, .int .i64 0, .int .i64 0, .slice none 0 0] 29)).heap.size = g := ⟨_, rfl⟩
 have hg' : w.heap.size + 1 = g := by rw [← hg]; simp
 obtain ⟨w1, hw1⟩ : ∃ W, (w.alloc (.cells #[.int .i64 0, .int .i64 0, .int .i64 0, .slice none 0 0] 29)).alloc (.cells #[.int .i64 0, .int .i64 0, .int .i64 0, .slice none 0 0] 29) = W := ⟨_, rfl⟩
 rw [hg, hw1] at HT1
 rw [hw1, hg']
 clear hg hw1 hg'
 have h4 := rdSmall_is HT1.out.i HT1.out.d HO0.out
 rw [HE0.out.1, HE0.out.2] at h4
 refine h4.mono ?_
 rintro e w2 ⟨rfl, h1, h2, h3⟩
 have HT2 := Lib.hid (HT1.out.call h1 h2 h3)
 clear h1 h2 h3 h4 HT1
 have d0 : w2.cell? ⟨g, 0, none⟩ = some (.int .i64 0) := (blk_cell HT2.out.y 0).trans rfl
 have z0 : w2.frozen? ⟨g, 0, none⟩ = false := blk_frozen HT2.out.y 0
 go_upto_region 3 with fail
 have hT : Fr _ w0 w x g 29 _ #[.int .i64 0, .int .i64 0, .int .i64 0, .slice none 0 0] _ _ _ := HT2.out.put 0 (.int .i64 0)
 have HT3 := Lib.hid hT
 obtain ⟨w3, hw⟩ : ∃ W, w2.setCell ⟨g, 0, none⟩ (.int .i64 0) = W := ⟨_, rfl⟩
 rw [hw] at HT3 ⊢
 clear hT hw HT2 d0 z0
 have d0 : w3.cell? ⟨g, 0, none⟩ = some (.int .i64 0) := (blk_cell HT3.out.y 0).trans rfl
 have e0 : w3.cell? ⟨w.heap.size, 0, none⟩ = some (.int .i64 0) := (blk_cell HT3.out.g0 0).trans rfl
 have y0 : w3.frozen? ⟨w.heap.size, 0, none⟩ = false := blk_frozen HT3.out.g0 0
 have d1 : w3.cell? ⟨g, 1, none⟩ = some (.int .i64 0) := (blk_cell HT3.out.y 1).trans rfl
 have e1 : w3.cell? ⟨w.heap.size, 1, none⟩ = some (.int .i64 0) := (blk_cell HT3.out.g0 1).trans rfl
 have y1 : w3.frozen? ⟨w.heap.size, 1, none⟩ = false := blk_frozen HT3.out.g0 1
 have d2 : w3.cell? ⟨g, 2, none⟩ = some (.int .i64 0) := (blk_cell HT3.out.y 2).trans rfl
 have e2 : w3.cell? ⟨w.heap.size, 2, none⟩ = some (.int .i64 0) := (blk_cell HT3.out.g0 2).trans rfl
 have y2 : w3.frozen? ⟨w.heap.size, 2, none⟩ = false := blk_frozen HT3.out.g0 2
 have d3 : w3.cell? ⟨g, 3, none⟩ = some (.slice none 0 0) := (blk_cell HT3.out.y 3).trans rfl
 have e3 : w3.cell? ⟨w.heap.size, 3, none⟩ = some (.slice none 0 0) := (blk_cell HT3.out.g0 3).trans rfl
 have y3 : w3.frozen? ⟨w.heap.size, 3, none⟩ = false := blk_frozen HT3.out.g0 3
 have HGN : w.heap.size ≠ g := by have := HT3.out.hg; omega
 go_wp2_with fail
 have HEB := Lib.hid (blk_put (cs := #[.int .i64 0, .int .i64 0, .int .i64 0, .slice none 0 0]) (blk_put (cs := #[.int .i64 0, .int .i64 0, .int .i64 0, .slice none 0 0]) (blk_put (cs := #[.int .i64 0, .int .i64 0, .int .i64 0, .slice none 0 0]) (blk_put (cs := #[.int .i64 0, .int .i64 0, .int .i64 0, .slice none 0 0]) HT3.out.g0 0 (.int .i64 0) rfl) 1 (.int .i64 0) rfl) 2 (.int .i64 0) rfl) 3 (.slice none 0 0) rfl)
 have HD := Lib.hid (HT3.out.done (((((KeepS.refl (fun k => k = w.heap.size ∨ k = g) w3).set (p := ⟨w.heap.size, 0, none⟩) (.inl (.inl rfl)) (.int .i64 0)).set (p := ⟨w.heap.size, 1, none⟩) (.inl (.inl rfl)) (.int .i64 0)).set (p := ⟨w.heap.size, 2, none⟩) (.inl (.inl rfl)) (.int .i64 0)).set (p := ⟨w.heap.size, 3, none⟩) (.inl (.inl rfl)) (.slice none 0 0)))
 obtain ⟨W, hW⟩ : ∃ W, ((((w3.setCell ⟨w.heap.size, 0, none⟩ (.int .i64 0)).setCell ⟨w.heap.size, 1, none⟩ (.int .i64 0)).setCell ⟨w.heap.size, 2, none⟩ (.int .i64 0)).setCell ⟨w.heap.size, 3, none⟩ (.slice none 0 0)) = W := ⟨_, rfl⟩
 rw [hW] at HEB HD ⊢
 clear hW
 refine bodyPost_ret (results_cell_row rfl _ _ w.heap.size 29 #[.int .i64 0, .int .i64 0, .int .i64 0, .slice none 0 0] (0, 0) _ rfl HEB.out Tryz.underlying29 rfl (by kernel_rfl)) rfl ?_
 rw [HF.out]
 obtain ⟨_, di, dd, dq⟩ := HD.out
 exact ⟨_, rfl, Kd.R_nil _ _ _ _ _, di, dd, dq⟩
set_option maxHeartbeats 4000000 in
theorem rdEntryX {B : List Int} {w0 w : World} {x : Nat} {s : EyeS} (hI : IsRd B w0 w x s) (hB : Below w0.heap.size w0 w) (hok : okS s) {k : Int} (hk : (rSmall s).1 = k) (h0 : ¬ k = 0) (h1 : ¬ k = 1) :
  Calls Tryz.prog 56 #[.pointer (some ⟨x, 0, none⟩)] w fun e w' => RdEn B w0 w x (rEntry s).1 (rEntry s).2 e w' := by
 have HT1 := Lib.hid ((Fo.start (I := (fun W s => IsRd B w0 W x s)) (T := 29) (zs := #[.int .i64 0, .int .i64 0, .int .i64 0, .slice none 0 0]) hI hB hI.lt hI.ge (fun _ _ _ e h => h.at e)).lay #[.int .i64 0, .int .i64 0, .int .i64 0, .slice none 0 0])
 obtain ⟨s1, hs1⟩ : ∃ t, (rSmall s).2 = t := ⟨_, rfl⟩
 have ho1 := okS_rsmall hok
 rw [hs1] at ho1
 have HO0 := Lib.hid hok
 have HE0 := Lib.hid (And.intro hk hs1)
 have HF := Lib.hid (show rEntry s = ((k, 0, 0, []), eWrong true s1) by unfold rEntry; rw [if_neg (by rw [hk]; exact h0), if_neg (by rw [hk]; exact h1), hk, hs1])
 have HQ := Lib.hid (And.intro (beq_eq_false_iff_ne.2 h0) (beq_eq_false_iff_ne.2 h1))
 clear hI hB hok hk hs1 ho1 h0 h1
 go_enter Tryz.func56, Tryz.ntmps56
 go_wp2_with fail
 obtain ⟨g, hg⟩ : ∃ g, (w.alloc (.cells #[.int .i64 0, .int .i64 0, .int .i64 0, .slice none 0 0] 29)).heap.size = g := ⟨_, rfl⟩
 have hg' : w.heap.size + 1 = g := by rw [← hg]; simp
 obtain ⟨w1, hw1⟩ : ∃ W, (w.alloc (.cells #[.int .i64 0, .int .i64 0, .int .i64 0, .slice none 0 0] 29)).alloc (.cells #[.int .i64 0, .int .i64 0, .int .i64 0, .slice none 0 0] 29) = W := ⟨_, rfl⟩
 rw [hg, hw1] at HT1
 rw [hw1, hg']
 clear hg hw1 hg'
 have h4 := rdSmall_is HT1.out.i HT1.out.d HO0.out
 rw [HE0.out.1, HE0.out.2] at h4
 refine h4.mono ?_
 rintro e w2 ⟨rfl, h1, h2, h3⟩
 have HT2 := Lib.hid (HT1.out.call h1 h2 h3)
 clear h1 h2 h3 h4 HT1
 have d0 : w2.cell? ⟨g, 0, none⟩ = some (.int .i64 0) := (blk_cell HT2.out.y 0).trans rfl
 have z0 : w2.frozen? ⟨g, 0, none⟩ = false := blk_frozen HT2.out.y 0
 go_upto_region 3 with fail
 have hT : Fr _ w0 w x g 29 _ #[.int .i64 k, .int .i64 0, .int .i64 0, .slice none 0 0] _ _ _ := HT2.out.put 0 (.int .i64 k)
 have HT3 := Lib.hid hT
 obtain ⟨w3, hw⟩ : ∃ W, w2.setCell ⟨g, 0, none⟩ (.int .i64 k) = W := ⟨_, rfl⟩
 rw [hw] at HT3 ⊢
 clear hT hw HT2 d0 z0
 have d0 : w3.cell? ⟨g, 0, none⟩ = some (.int .i64 k) := (blk_cell HT3.out.y 0).trans rfl
 have q0 : (k == 0) = false := HQ.out.1
 have q1 : (k == 1) = false := HQ.out.2
 go_wp2_with fail
 have h4 := rdFail40 HT3.out.i HT3.out.d
 refine h4.mono ?_
 rintro e w4 ⟨rfl, h1, h2, h3⟩
 have HT4 := Lib.hid (HT3.out.call h1 h2 h3)
 clear h1 h2 h3 h4 HT3 d0 q0 q1
 have d0 : w4.cell? ⟨g, 0, none⟩ = some (.int .i64 k) := (blk_cell HT4.out.y 0).trans rfl
 have e0 : w4.cell? ⟨w.heap.size, 0, none⟩ = some (.int .i64 0) := (blk_cell HT4.out.g0 0).trans rfl
 have y0 : w4.frozen? ⟨w.heap.size, 0, none⟩ = false := blk_frozen HT4.out.g0 0
 have d1 : w4.cell? ⟨g, 1, none⟩ = some (.int .i64 0) := (blk_cell HT4.out.y 1).trans rfl
 have e1 : w4.cell? ⟨w.heap.size, 1, none⟩ = some (.int .i64 0) := (blk_cell HT4.out.g0 1).trans rfl
 have y1 : w4.frozen? ⟨w.heap.size, 1, none⟩ = false := blk_frozen HT4.out.g0 1
 have d2 : w4.cell? ⟨g, 2, none⟩ = some (.int .i64 0) := (blk_cell HT4.out.y 2).trans rfl
 have e2 : w4.cell? ⟨w.heap.size, 2, none⟩ = some (.int .i64 0) := (blk_cell HT4.out.g0 2).trans rfl
 have y2 : w4.frozen? ⟨w.heap.size, 2, none⟩ = false := blk_frozen HT4.out.g0 2
 have d3 : w4.cell? ⟨g, 3, none⟩ = some (.slice none 0 0) := (blk_cell HT4.out.y 3).trans rfl
 have e3 : w4.cell? ⟨w.heap.size, 3, none⟩ = some (.slice none 0 0) := (blk_cell HT4.out.g0 3).trans rfl
 have y3 : w4.frozen? ⟨w.heap.size, 3, none⟩ = false := blk_frozen HT4.out.g0 3
 have HGN : w.heap.size ≠ g := by have := HT4.out.hg; omega
 go_wp2_with fail
 have HEB := Lib.hid (blk_put (cs := #[.int .i64 k, .int .i64 0, .int .i64 0, .slice none 0 0]) (blk_put (cs := #[.int .i64 k, .int .i64 0, .int .i64 0, .slice none 0 0]) (blk_put (cs := #[.int .i64 k, .int .i64 0, .int .i64 0, .slice none 0 0]) (blk_put (cs := #[.int .i64 0, .int .i64 0, .int .i64 0, .slice none 0 0]) HT4.out.g0 0 (.int .i64 k) rfl) 1 (.int .i64 0) rfl) 2 (.int .i64 0) rfl) 3 (.slice none 0 0) rfl)
 have HD := Lib.hid (HT4.out.done (((((KeepS.refl (fun k => k = w.heap.size ∨ k = g) w4).set (p := ⟨w.heap.size, 0, none⟩) (.inl (.inl rfl)) (.int .i64 k)).set (p := ⟨w.heap.size, 1, none⟩) (.inl (.inl rfl)) (.int .i64 0)).set (p := ⟨w.heap.size, 2, none⟩) (.inl (.inl rfl)) (.int .i64 0)).set (p := ⟨w.heap.size, 3, none⟩) (.inl (.inl rfl)) (.slice none 0 0)))
 obtain ⟨W, hW⟩ : ∃ W, ((((w4.setCell ⟨w.heap.size, 0, none⟩ (.int .i64 k)).setCell ⟨w.heap.size, 1, none⟩ (.int .i64 0)).setCell ⟨w.heap.size, 2, none⟩ (.int .i64 0)).setCell ⟨w.heap.size, 3, none⟩ (.slice none 0 0)) = W := ⟨_, rfl⟩
 rw [hW] at HEB HD ⊢
 clear hW
 refine bodyPost_ret (results_cell_row rfl _ _ w.heap.size 29 #[.int .i64 k, .int .i64 0, .int .i64 0, .slice none 0 0] (0, 0) _ rfl HEB.out Tryz.underlying29 rfl (by kernel_rfl)) rfl ?_
 rw [HF.out]
 obtain ⟨_, di, dd, dq⟩ := HD.out
 exact ⟨_, rfl, Kd.R_nil _ _ _ _ _, di, dd, dq⟩
set_option maxHeartbeats 4000000 in
theorem rdEntry1 {B : List Int} {w0 w : World} {x : Nat} {s : EyeS} (hI : IsRd B w0 w x s) (hB : Below w0.heap.size w0 w) (hok : okS s) (hk : (rSmall s).1 = 1) :
  Calls Tryz.prog 56 #[.pointer (some ⟨x, 0, none⟩)] w fun e w' => RdEn B w0 w x (rEntry s).1 (rEntry s).2 e w' := by
 have HT1 := Lib.hid ((Fo.start (I := (fun W s => IsRd B w0 W x s)) (T := 29) (zs := #[.int .i64 0, .int .i64 0, .int .i64 0, .slice none 0 0]) hI hB hI.lt hI.ge (fun _ _ _ e h => h.at e)).lay #[.int .i64 0, .int .i64 0, .int .i64 0, .slice none 0 0])
 obtain ⟨s1, hs1⟩ : ∃ t, (rSmall s).2 = t := ⟨_, rfl⟩
 have ho1 := okS_rsmall hok
 rw [hs1] at ho1
 have HO0 := Lib.hid hok
 have HE0 := Lib.hid (And.intro hk hs1)
 obtain ⟨v1, hv1⟩ : ∃ v, (rSmall s1).1 = v := ⟨_, rfl⟩
 obtain ⟨s2, hs2⟩ : ∃ t, (rSmall s1).2 = t := ⟨_, rfl⟩
 have ho2 := okS_rsmall ho1
 rw [hs2] at ho2
 have HO1 := Lib.hid ho1; have HE1 := Lib.hid (And.intro hv1 hs2)
 obtain ⟨v2, hv2⟩ : ∃ v, (eNum s2).1 = v := ⟨_, rfl⟩
 obtain ⟨s3, hs3⟩ : ∃ t, (eNum s2).2 = t := ⟨_, rfl⟩
 have ho3 := okS_num ho2
 rw [hs3] at ho3
 have HO2 := Lib.hid ho2; have HE2 := Lib.hid (And.intro hv2 hs3)
 obtain ⟨v3, hv3⟩ : ∃ v, (eList eTxn s3).1 = v := ⟨_, rfl⟩
 obtain ⟨s4, hs4⟩ : ∃ t, (eList eTxn s3).2 = t := ⟨_, rfl⟩
 have HL3 := Lib.hid (show eMany eTxn (rLen s3).1.toNat (rLen s3).2 = (v3, s4) by rw [← eList_len, ← hv3, ← hs4])
 have HSZ := Lib.hid (rLen_size s3)
 have HOL := Lib.hid (okS_len ho3)
 have HO3 := Lib.hid ho3
 obtain ⟨n, hn⟩ : ∃ n, (rLen s3).1 = n := ⟨_, rfl⟩
 obtain ⟨sl, hsl⟩ : ∃ sl, (rLen s3).2 = sl := ⟨_, rfl⟩
 rw [hn, hsl] at HL3
 rw [hn] at HSZ
 rw [hsl] at HOL
 have HEL := Lib.hid (And.intro hn hsl)
 have HF := Lib.hid (show rEntry s = ((1, v1, v2, v3), s4) by
  unfold rEntry bEntry
  rw [hk, if_neg (by decide), if_pos rfl]
  simp only [FM, PR, hs1, hv1, hs2, hv2, hs3, hv3, hs4])
 clear hI hB hok hk hs1 ho1 hv1 hs2 ho2 hv2 hs3 ho3 hv3 hs4 hn hsl
 go_enter Tryz.func56, Tryz.ntmps56
 go_wp2_with fail
 obtain ⟨g, hg⟩ : ∃ g, (w.alloc (.cells #[.int .i64 0, .int .i64 0, .int .i64 0, .slice none 0 0] 29)).heap.size = g := ⟨_, rfl⟩
 have hg' : w.heap.size + 1 = g := by rw [← hg]; simp
 obtain ⟨w1, hw1⟩ : ∃ W, (w.alloc (.cells #[.int .i64 0, .int .i64 0, .int .i64 0, .slice none 0 0] 29)).alloc (.cells #[.int .i64 0, .int .i64 0, .int .i64 0, .slice none 0 0] 29) = W := ⟨_, rfl⟩
 rw [hg, hw1] at HT1
 rw [hw1, hg']
 clear hg hw1 hg'
 have h4 := rdSmall_is HT1.out.i HT1.out.d HO0.out
 rw [HE0.out.1, HE0.out.2] at h4
 refine h4.mono ?_
 rintro e w2 ⟨rfl, h1, h2, h3⟩
 have HT2 := Lib.hid (HT1.out.call h1 h2 h3)
 clear h1 h2 h3 h4 HT1
 have d0 : w2.cell? ⟨g, 0, none⟩ = some (.int .i64 0) := (blk_cell HT2.out.y 0).trans rfl
 have z0 : w2.frozen? ⟨g, 0, none⟩ = false := blk_frozen HT2.out.y 0
 go_upto_region 3 with fail
 have hT : Fr _ w0 w x g 29 _ #[.int .i64 1, .int .i64 0, .int .i64 0, .slice none 0 0] _ _ _ := HT2.out.put 0 (.int .i64 1)
 have HT3 := Lib.hid hT
 obtain ⟨w3, hw⟩ : ∃ W, w2.setCell ⟨g, 0, none⟩ (.int .i64 1) = W := ⟨_, rfl⟩
 rw [hw] at HT3 ⊢
 clear hT hw HT2 d0 z0
 have d0 : w3.cell? ⟨g, 0, none⟩ = some (.int .i64 1) := (blk_cell HT3.out.y 0).trans rfl
 go_upto_block 0 with fail
 clear d0
 have HGZ0_ := Lib.hid HT3.out.hz
 go_cut [] (fun wx => ∃ lo A3 c3, Fr (fun W s => IsRd B w0 W x s) w0 w x g 29 #[.int .i64 0, .int .i64 0, .int .i64 0, .slice none 0 0] #[.int .i64 1, .int .i64 v1, .int .i64 v2, .slice A3 v3.length c3] s4 (fun V => True ∧ Iv G.k26 26 w lo wx.heap.size (.slice A3 v3.length c3) v3 V) wx)
 case first =>
  go_wp2_with fail
  have h4 := rdSmall_is HT3.out.i HT3.out.d HO1.out
  rw [HE1.out.1, HE1.out.2] at h4
  refine h4.mono ?_
  rintro e w4 ⟨rfl, h1, h2, h3⟩
  have HT4 := Lib.hid (HT3.out.call h1 h2 h3)
  clear h1 h2 h3 h4 HT3
  have d1 : w4.cell? ⟨g, 1, none⟩ = some (.int .i64 0) := (blk_cell HT4.out.y 1).trans rfl
  have z1 : w4.frozen? ⟨g, 1, none⟩ = false := blk_frozen HT4.out.y 1
  go_wp2_with fail
  have HT5 := Lib.hid (HT4.out.set 1 (.int .i64 v1) #[.int .i64 1, .int .i64 v1, .int .i64 0, .slice none 0 0] (blk_put HT4.out.y 1 _ rfl))
  have HLO5 := Lib.hid (show w4.heap.size ≤ (w4.setCell ⟨g, 1, none⟩ (.int .i64 v1)).heap.size by rw [World.size_setCell]; exact Nat.le_refl _)
  obtain ⟨w5, hw5⟩ : ∃ w5, w4.setCell ⟨g, 1, none⟩ (.int .i64 v1) = w5 := ⟨_, rfl⟩
  rw [hw5] at HT5 HLO5 ⊢
  clear hw5 HT4 d1 z1
  have h4 := rdNum_is HT5.out.i HT5.out.d HO2.out
  rw [HE2.out.1, HE2.out.2] at h4
  refine h4.mono ?_
  rintro e w6 ⟨rfl, h1, h2, h3⟩
  have HT6 := Lib.hid (HT5.out.call h1 h2 h3)
  clear h1 h2 h3 h4 HT5
  have d2 : w6.cell? ⟨g, 2, none⟩ = some (.int .i64 0) := (blk_cell HT6.out.y 2).trans rfl
  have z2 : w6.frozen? ⟨g, 2, none⟩ = false := blk_frozen HT6.out.y 2
  go_wp2_with fail
  have HT7 := Lib.hid (HT6.out.set 2 (.int .i64 v2) #[.int .i64 1, .int .i64 v1, .int .i64 v2, .slice none 0 0] (blk_put HT6.out.y 2 _ rfl))
  have HLO7 := Lib.hid (show w6.heap.size ≤ (w6.setCell ⟨g, 2, none⟩ (.int .i64 v2)).heap.size by rw [World.size_setCell]; exact Nat.le_refl _)
  obtain ⟨w7, hw7⟩ : ∃ w7, w6.setCell ⟨g, 2, none⟩ (.int .i64 v2) = w7 := ⟨_, rfl⟩
  rw [hw7] at HT7 HLO7 ⊢
  clear hw7 HT6 d2 z2
  have h4 := rdLen_is HT7.out.i HT7.out.d HO3.out
  rw [HEL.out.1, HEL.out.2] at h4
  refine h4.mono ?_
  rintro e w8 ⟨rfl, h1, h2, h3⟩
  have HT8 := Lib.hid (HT7.out.call h1 h2 h3)
  clear h1 h2 h3 h4 HT7
  go_upto_block 1 with fail
  have HST := Lib.hid HT8.out.h
  have HGZ := Lib.hid HT8.out.hz
  have HGZ0 := Lib.hid (show w.heap.size < w8.heap.size from Nat.lt_trans HT8.out.hg HT8.out.hz)
  go_wp2_with fail
  go_loopw [5] (fun i wr => RdJE n (v3, s4) B w0 w w8 x g #[.int .i64 1, .int .i64 v1, .int .i64 v2] i wr) (fun i _ => n.toNat - (intOf i).toNat)
  case atStart => exact ⟨[], sl, none, 0, rfl, by simp, HT8.out, KeepS.refl _ _, Kd.R_nil _ _ _ _ _, HOL.out, by simp [HL3.out]⟩
  case round =>
   obtain ⟨U, s5', Av, cv, rfl, hUn, hT, hK, hR, hO, hF⟩ := hrel
   have HT := Lib.hid hT; have HK := Lib.hid hK; have HR := Lib.hid hR; have HO := Lib.hid hO; have HF := Lib.hid hF; have HUN := Lib.hid hUn
   obtain ⟨A, c, k, g1, g2, g3⟩ := HT.out.i
   have c1 : wr.cell? ⟨x, 2, none⟩ = some (.int .i64 s5'.e) := by simp [World.cell?, g1]
   clear hT hK hR hO hF hUn g1 g2 g3 k c A
   by_cases hlt : (U.length : Int) < n
   ·by_cases he : s5'.e = 0
    ·have hq1 : decide ((U.length : Int) < n) = true := decide_eq_true hlt
     have hq2 : (s5'.e == 0) = true := by rw [he]; rfl
     have HT := Lib.hid HT.out.drew; have HK := Lib.hid HK.out.drew; have HR := Lib.hid (Kd.R_drew HR.out)
     have HN := Lib.hid (rdTxn_is HT.out.i HT.out.d HO.out)
     obtain ⟨m, hm⟩ : ∃ m, (eTxn s5').1 = m := ⟨_, rfl⟩
     obtain ⟨s6', hs6⟩ : ∃ s6', (eTxn s5').2 = s6' := ⟨_, rfl⟩
     have HO6 := Lib.hid (show okS s6' by rw [← hs6]; exact okS_txn HO.out)
     have HF2 := Lib.hid (show (v3, s4) = ((U ++ [m]) ++ (eMany eTxn (n.toNat - (U ++ [m]).length) s6').1, (eMany eTxn (n.toNat - (U ++ [m]).length) s6').2) by
      rw [HF.out]
      have e1 : n.toNat - U.length = (n.toNat - (U ++ [m]).length) + 1 := by simp; omega
      rw [e1]
      simp only [eMany, he, if_true, hm, hs6, List.append_assoc, List.singleton_append])
     have HLT2 := Lib.hid hlt
     have hul : U.length ≤ 4096 := by have h1 := HUN.out; have h2 := HSZ.out; omega
     have q3 : wr.cell? ⟨g, 3, none⟩ = some (.slice Av U.length cv) := (blk_cell HT.out.y 3).trans rfl
     rw [hm, hs6] at HN
     clear hlt he hm hs6
     go_wp2_with fail
     refine start_ (n := 8) (S := fun w' => w'.cell? ⟨g, 3, none⟩ = some (.slice Av U.length cv)) (ds := [7]) #[false, false, false, false, false, false, false, false] (by kernel_rfl) rfl rfl ((blk_cell HT.out.y 3).trans rfl) (fun hHeld => ?_)
     obtain ⟨wd, hwd⟩ : ∃ wd, wr.drew = wd := ⟨_, rfl⟩
     rw [hwd] at HT HK HR HN hHeld ⊢
     clear hwd
     refine pure_ (i := 0) (N := some 37) (v := ?_) (a' := ?_) #[true, false, false, false, false, false, false, false] rfl rfl (by kernel_rfl) (fun _ _ _ h => h) (Or.inl ⟨by rfl, ?_⟩) ?_ ?_
     rotate_left
     ·intro w'
      go_simp
      try with_reducible rfl
     rotate_left
     ·simp only [Act.put, sq1, sq2, sq3, i64_w, i32_w]
      rfl
     refine pure_ (i := 2) (N := some 39) (v := ?_) (a' := ?_) #[true, false, true, false, false, false, false, false] rfl rfl (by kernel_rfl) (fun _ _ _ h => h) (Or.inl ⟨by rfl, ?_⟩) ?_ ?_
     rotate_left
     ·intro w'
      go_simp
      try with_reducible rfl
     rotate_left
     ·simp only [Act.put, sq1, sq2, sq3, i64_w, i32_w]
      rfl
     refine take_ (i := 1) (N := some 38) (v := ?_) (a' := ?_) #[true, true, true, false, false, false, false, false] rfl rfl (by kernel_rfl) (fun _ _ _ h => h) (Or.inl ⟨by rfl, ?_⟩) hHeld ?_ ?_
     rotate_left
     ·intro w' hS
      go_simp
      try with_reducible rfl
     rotate_left
     ·simp only [Act.put, sq1, sq2, sq3, i64_w, i32_w]
      rfl
     refine one_ (i := 3) (N := some 40) #[true, true, true, true, false, false, false, false] rfl rfl (by kernel_rfl) (by decide) (fun K hK => ?_)
     go_simp
     refine HN.out.mono ?_
     rintro e w_ ⟨v2_, v3_, v4_, v5_, rfl, r2, r3, r4, r5, h1, h2, h3⟩
     obtain ⟨A2, c2, rfl⟩ := Kd.R_slice r2
     obtain ⟨A3, c3, rfl⟩ := Kd.R_slice r3
     obtain ⟨A4, c4, rfl⟩ := Kd.R_slice r4
     obtain ⟨A5, c5, rfl⟩ := Kd.R_slice r5
     have HTa := Lib.hid (HT.out.call h1 h2 h3)
     have HRa := Lib.hid (Kd.R_step HR.out (fun k h7 h8 => h3.block k h8 (by have := HT.out.hxg; have := HGZ.out; omega)))
     have HKa := Lib.hid (HK.out.trans (h3.mono (fun i (e : i = x) => Or.inl e) : KeepS (fun k => k = x ∨ k = g) wd w_))
     have HOWN := Lib.hid (Kd.R_lt HR.out)
     have HBW := Lib.hid HK.out.size
     have R2 := Lib.hid (show Kd.R (Kd.int .u8) 5 w_ w8.heap.size (fun k => wd.heap.size ≤ k) _ m.f2 from Kd.R_mono (Kd.R_lower (Kd.R_bound r2) HBW.out) (fun k hk => hk.2.1))
     have R3 := Lib.hid (show Kd.R (Kd.int .i64) 2 w_ w8.heap.size (fun k => wd.heap.size ≤ k) _ m.f3 from Kd.R_mono (Kd.R_lower (Kd.R_bound r3) HBW.out) (fun k hk => hk.2.1))
     have R4 := Lib.hid (show Kd.R G.k101 101 w_ w8.heap.size (fun k => wd.heap.size ≤ k) _ m.f4 from Kd.R_mono (Kd.R_lower (Kd.R_bound r4) HBW.out) (fun k hk => hk.2.1))
     have R5 := Lib.hid (show Kd.R G.k101 101 w_ w8.heap.size (fun k => wd.heap.size ≤ k) _ m.f5 from Kd.R_mono (Kd.R_lower (Kd.R_bound r5) HBW.out) (fun k hk => hk.2.1))
     clear h1 h2 h3 HN r2 r3 r4 r5
     refine hK.out _ _ ((blk_cell HTa.out.y 3).trans rfl) (fun hHeld => ?_)
     clear hK K
     refine one_ (i := 4) (N := some 41) #[true, true, true, true, true, false, false, false] rfl rfl (by kernel_rfl) (by decide) (fun K hK => ?_)
     refine value_ (w1 := ?_) (v := ?_) (by rfl) rfl ?_ ?_
     rotate_left 2
     ·go_simp
      constructor <;> rfl
     refine hK.out _ _ ((blk_cell (blk_alloc HTa.out.y _) 3).trans rfl) (fun hHeld => ?_)
     clear hK K
     refine norm_ (a' := ?_) ?_ ?_
     rotate_left
     ·show Act.put _ (some 41) _ = _
      simp only [Act.put, sq1, sq2, sq3, i64_w, i32_w]
      rfl
     refine one_ (i := 5) (N := some 42) #[true, true, true, true, true, true, false, false] rfl rfl (by kernel_rfl) (by decide) (fun K hK => ?_)
     refine Kd.R_append_step G.k26 w8.heap.size (by rfl) (.tmp 38) (.tmp 41) 27 26 (.agg #[.int .i64 0, .int .i64 0, .slice none 0 0, .slice none 0 0, .slice none 0 0, .slice none 0 0]) 112 rfl Tryz.underlying27 G.info26 rfl (by decide) (by omega) (.slice Av U.length cv) U m [.int .i64 m.f0, .int .i64 m.f1, .slice A2 m.f2.length c2, .slice A3 m.f3.length c3, .slice A4 m.f4.length c4, .slice A5 m.f5.length c5] (fun k => w8.heap.size ≤ k) (fun k => wd.heap.size ≤ k) rfl rfl (G.k26_mkM _ _ _ m R2.out R3.out R4.out R5.out) (fun k hk => ⟨Nat.le_trans HBW.out hk, fun e => by have := HOWN.out k e.symm; omega⟩) (fun k hk => Nat.le_trans HKa.out.size hk) HRa.out (Below.refl _ _) HKa.out.size (by omega) ?_
     intro v_ wb ho hb hg_ hat
     have hb' : Below w8.heap.size w_ wb := hb
     obtain ⟨Aw, cw, rfl⟩ := Kd.R_slice ho
     have HRb := Lib.hid ho
     have HTb := Lib.hid (HTa.out.grow HST.out HKa.out HGZ.out hb')
     have HKb := Lib.hid (HKa.out.then_base hb')
     clear ho hb hg_ hat hb' HTa HRa HKa R2 R3 R4 R5
     refine hK.out _ _ ((blk_cell HTb.out.y 3).trans rfl) (fun hHeld => ?_)
     clear hK K
     refine norm_ (a' := ?_) ?_ ?_
     rotate_left
     ·show Act.put _ (some 42) _ = _
      simp only [Act.put, sq1, sq2, sq3, i64_w, i32_w]
      rfl
     refine pure_ (i := 6) (N := some 43) (v := ?_) (a' := ?_) #[true, true, true, true, true, true, true, false] rfl rfl (by kernel_rfl) (fun _ _ _ h => h) (Or.inl ⟨by rfl, ?_⟩) ?_ ?_
     rotate_left
     ·intro w'
      go_simp
      try with_reducible rfl
     rotate_left
     ·simp only [Act.put, sq1, sq2, sq3, i64_w, i32_w]
      rfl
     refine last_ (i := 7) (N := none) #[true, true, true, true, true, true, true, true] rfl rfl (by kernel_rfl) (by decide) (fun K hK => ?_)
     have q3 : wb.cell? ⟨g, 3, none⟩ = some (.slice Av U.length cv) := (blk_cell HTb.out.y 3).trans rfl
     have z3 : wb.frozen? ⟨g, 3, none⟩ = false := blk_frozen HTb.out.y 3
     refine skip_ (w1 := ?_) (by rfl) rfl ?_ ?_
     rotate_left
     ·go_simp
      rfl
     refine hK.out _ _ ?_
     clear hK K
     refine done_ (by kernel_rfl) ?_
     try go_wp2
     go_roundw
     case rel =>
      refine ⟨U ++ [m], s6', Aw, cw, by rw [List.length_append]; go_num, ?_, HTb.out.set 3 _ _ (blk_put HTb.out.y 3 _ (by simp)), HKb.out.set (p := ⟨g, 3, none⟩) (.inl (.inr rfl)) _, Kd.R_far (p := ⟨g, 3, none⟩) HRb.out (fun k (hk : _ ≤ k) => by have := HGZ.out; show k ≠ g; omega) _, HO6.out, HF2.out⟩
      have h2 := HLT2.out
      rw [List.length_append, List.length_singleton]
      omega
     case measure => simp [intOf]; have h2 := HLT2.out; omega
    ·have hq1 : decide ((U.length : Int) < n) = true := decide_eq_true hlt
     have hq2 : (s5'.e == 0) = false := beq_eq_false_iff_ne.2 he
     obtain ⟨rfl, rfl⟩ : v3 = U ∧ s4 = s5' := by
      have := HF.out
      rw [eMany_stop he, List.append_nil] at this
      simpa using this
     clear he
     have HFI := Lib.hid (HT.out.and ((show Iv G.k26 26 w w8.heap.size wr.heap.size (.slice Av v3.length cv) v3 wr from Iv.of HR.out (Nat.le_of_lt HGZ0.out)).held (fun k hk => by have h7 := HGZ.out; have h8 := HT.out.hxg; have h9 := HT.out.hg; rcases hk with rfl | rfl | rfl <;> omega)))
     clear hlt HT HK HR HF
     go_wp2_with fail
     go_meet
     exact ⟨_, _, _, HFI.out⟩
   ·have hq1 : decide ((U.length : Int) < n) = false := decide_eq_false hlt
    obtain ⟨rfl, rfl⟩ : v3 = U ∧ s4 = s5' := by
     have e1 : n.toNat - U.length = 0 := by omega
     have := HF.out
     rw [e1] at this
     simpa [eMany] using this
    have HFI := Lib.hid (HT.out.and ((show Iv G.k26 26 w w8.heap.size wr.heap.size (.slice Av v3.length cv) v3 wr from Iv.of HR.out (Nat.le_of_lt HGZ0.out)).held (fun k hk => by have h7 := HGZ.out; have h8 := HT.out.hxg; have h9 := HT.out.hg; rcases hk with rfl | rfl | rfl <;> omega)))
    clear hlt HT HK HR HF
    go_wp2_with fail
    go_meet
    exact ⟨_, _, _, HFI.out⟩
 case rest =>
  obtain ⟨lo, A3, c3, hT⟩ := hcut
  obtain ⟨w9, rfl⟩ : ∃ w9, w9 = wc := ⟨_, rfl⟩
  have HT9 := Lib.hid hT
  clear hT
  have d0 : w9.cell? ⟨g, 0, none⟩ = some (.int .i64 1) := (blk_cell HT9.out.y 0).trans rfl
  have e0 : w9.cell? ⟨w.heap.size, 0, none⟩ = some (.int .i64 0) := (blk_cell HT9.out.g0 0).trans rfl
  have y0 : w9.frozen? ⟨w.heap.size, 0, none⟩ = false := blk_frozen HT9.out.g0 0
  have d1 : w9.cell? ⟨g, 1, none⟩ = some (.int .i64 v1) := (blk_cell HT9.out.y 1).trans rfl
  have e1 : w9.cell? ⟨w.heap.size, 1, none⟩ = some (.int .i64 0) := (blk_cell HT9.out.g0 1).trans rfl
  have y1 : w9.frozen? ⟨w.heap.size, 1, none⟩ = false := blk_frozen HT9.out.g0 1
  have d2 : w9.cell? ⟨g, 2, none⟩ = some (.int .i64 v2) := (blk_cell HT9.out.y 2).trans rfl
  have e2 : w9.cell? ⟨w.heap.size, 2, none⟩ = some (.int .i64 0) := (blk_cell HT9.out.g0 2).trans rfl
  have y2 : w9.frozen? ⟨w.heap.size, 2, none⟩ = false := blk_frozen HT9.out.g0 2
  have d3 : w9.cell? ⟨g, 3, none⟩ = some (.slice A3 v3.length c3) := (blk_cell HT9.out.y 3).trans rfl
  have e3 : w9.cell? ⟨w.heap.size, 3, none⟩ = some (.slice none 0 0) := (blk_cell HT9.out.g0 3).trans rfl
  have y3 : w9.frozen? ⟨w.heap.size, 3, none⟩ = false := blk_frozen HT9.out.g0 3
  have HGN : w.heap.size ≠ g := by have := HT9.out.hg; omega
  go_wp2_with fail
  have HEB := Lib.hid (blk_put (cs := #[.int .i64 1, .int .i64 v1, .int .i64 v2, .slice none 0 0]) (blk_put (cs := #[.int .i64 1, .int .i64 v1, .int .i64 0, .slice none 0 0]) (blk_put (cs := #[.int .i64 1, .int .i64 0, .int .i64 0, .slice none 0 0]) (blk_put (cs := #[.int .i64 0, .int .i64 0, .int .i64 0, .slice none 0 0]) HT9.out.g0 0 (.int .i64 1) rfl) 1 (.int .i64 v1) rfl) 2 (.int .i64 v2) rfl) 3 (.slice A3 v3.length c3) rfl)
  have HD := Lib.hid (HT9.out.done (((((KeepS.refl (fun k => k = w.heap.size ∨ k = g) w9).set (p := ⟨w.heap.size, 0, none⟩) (.inl (.inl rfl)) (.int .i64 1)).set (p := ⟨w.heap.size, 1, none⟩) (.inl (.inl rfl)) (.int .i64 v1)).set (p := ⟨w.heap.size, 2, none⟩) (.inl (.inl rfl)) (.int .i64 v2)).set (p := ⟨w.heap.size, 3, none⟩) (.inl (.inl rfl)) (.slice A3 v3.length c3)))
  obtain ⟨W, hW⟩ : ∃ W, ((((w9.setCell ⟨w.heap.size, 0, none⟩ (.int .i64 1)).setCell ⟨w.heap.size, 1, none⟩ (.int .i64 v1)).setCell ⟨w.heap.size, 2, none⟩ (.int .i64 v2)).setCell ⟨w.heap.size, 3, none⟩ (.slice A3 v3.length c3)) = W := ⟨_, rfl⟩
  rw [hW] at HEB HD ⊢
  clear hW
  refine bodyPost_ret (results_cell_row rfl _ _ w.heap.size 29 #[.int .i64 1, .int .i64 v1, .int .i64 v2, .slice A3 v3.length c3] (0, 0) _ rfl HEB.out Tryz.underlying29 rfl (by kernel_rfl)) rfl ?_
  rw [HF.out]
  obtain ⟨⟨_, p3⟩, di, dd, dq⟩ := HD.out
  exact ⟨_, rfl, Kd.R_mono p3 (fun _ _ => trivial), di, dd, dq⟩
theorem rdEntry_is {B : List Int} {w0 w : World} {x : Nat} {s : EyeS} (hI : IsRd B w0 w x s) (hB : Below w0.heap.size w0 w) (hok : okS s) :
  Calls Tryz.prog 56 #[.pointer (some ⟨x, 0, none⟩)] w fun e w' => RdEn B w0 w x (rEntry s).1 (rEntry s).2 e w' := by
 by_cases h0 : (rSmall s).1 = 0
 ·exact rdEntry0 hI hB hok h0
 by_cases h1 : (rSmall s).1 = 1
 ·exact rdEntry1 hI hB hok h1
 exact rdEntryX hI hB hok rfl h0 h1
theorem okS_rentry {s : EyeS} (h : okS s) : okS (rEntry s).2 := by
 unfold rEntry
 split
 ·exact okS_rsmall h
 split
 ·exact okS_list (fun _ => okS_txn) (okS_num (okS_rsmall (okS_rsmall h)))
 ·exact okS_wrong _ (okS_rsmall h)
end Go.Proofs.YtgiefblcckikeaaGreat.M
end

section
/- The reference's Reader: a list of termed entries (printed by genrdl04.py). -/
attribute [local irreducible] Go.wpStill
namespace Go.Proofs.YtgiefblcckikeaaGreat.M
open Go.RowKit Go.Proofs.YtgiefblcckikeaaGreatW.PrintWords Go.Proofs.YtgiefblcckikeaaGreatW.PrintLast Go.Proofs.YtgiefblcckikeaaGreatW.PrintMore Go.Proofs.YtgiefblcckikeaaGreat.G
theorem okS_rtr {s : EyeS} (h : okS s) : okS (rTr s).2 := okS_rentry (okS_num h)
def RdR {α : Type} (d : Kd α) (el : Nat) (B : List Int) (w0 w : World) (x : Nat) (l : List α) (s' : EyeS) (e : Ending) (w' : World) : Prop := ∃ v : Value, e = .returned v ∧ Kd.R d el w' w.heap.size (fun _ => True) v l ∧ IsRd B w0 w' x s' ∧ Below w0.heap.size w0 w' ∧ KeepS (fun i => i = x) w w'
def RdIT (n : Int) (s0 : EyeS) (B : List Int) (w0 w : World) (x : Nat) (v i : Value) (W : World) : Prop := ∃ (U : List TrD) (s : EyeS), i = .int .i64 (U.length : Int) ∧ U.length ≤ n.toNat ∧ Kd.R G.k63 63 W w.heap.size (fun _ => True) v U ∧ IsRd B w0 W x s ∧ Below w0.heap.size w0 W ∧ KeepS (fun i => i = x) w W ∧ okS s ∧ eList rTr s0 = (U ++ (eMany rTr (n.toNat - U.length) s).1, (eMany rTr (n.toNat - U.length) s).2)
set_option maxHeartbeats 2000000 in
theorem rdList_is {B : List Int} {w0 w : World} {x : Nat} {s : EyeS} (hI : IsRd B w0 w x s) (hB : Below w0.heap.size w0 w) (hok : okS s) :
  Calls Tryz.prog 131 #[.pointer (some ⟨x, 0, none⟩)] w fun e w' => RdR G.k63 63 B w0 w x (eList rTr s).1 (eList rTr s).2 e w' := by
 have HN := Lib.hid (rdLen_is hI hB hok)
 have HOK := Lib.hid (okS_len hok)
 have HLT := Lib.hid hI.lt
 have HGEW := Lib.hid (show w0.heap.size ≤ w.heap.size from hB.size)
 have HSZ := Lib.hid (rLen_size s)
 have HEL := Lib.hid (eList_len rTr s)
 obtain ⟨n, hn⟩ : ∃ n, (rLen s).1 = n := ⟨_, rfl⟩
 obtain ⟨s1, hs1⟩ : ∃ s1, (rLen s).2 = s1 := ⟨_, rfl⟩
 rw [hn] at HSZ
 rw [hn, hs1] at HN HEL
 rw [hs1] at HOK
 clear hI hB hok hn hs1
 go_enter Tryz.func131, Tryz.ntmps131
 go_wp2_with fail
 refine HN.out.mono ?_
 rintro e w1 ⟨rfl, h1, h2, h3⟩
 have G1 := Lib.hid h1; have G2 := Lib.hid h2; have G3 := Lib.hid h3
 clear h1 h2 h3 HN
 go_wp2_with fail
 go_loopw [4, 5, 6] (fun v i t wr => RdIT n s B w0 w x v i wr) (fun _ i _ _ => n.toNat - (intOf i).toNat)
 case atStart => exact ⟨[], s1, rfl, by simp, Kd.R_nil _ _ _ _ _, G1.out, G2.out, G3.out, HOK.out, by simpa using HEL.out⟩
 case round =>
  obtain ⟨U, s2, rfl, hUn, hS, hI, hB, hK, hO, hF⟩ := hrel
  have HT1 := Lib.hid (Fo.start (w := wr) (I := fun W s => IsRd B w0 W x s) (T := 63) (zs := #[.int .i64 0, .int .i64 0, .int .i64 0, .int .i64 0, .slice none 0 0]) hI hB hI.lt hI.ge (fun _ _ _ e h => h.at e))
  have HI := Lib.hid hI; have HB := Lib.hid hB; have HK := Lib.hid hK; have HO := Lib.hid hO; have HF := Lib.hid hF; have HS := Lib.hid hS; have HUN := Lib.hid hUn
  obtain ⟨Av, cv, rfl⟩ := Kd.R_slice hS
  obtain ⟨A, c, k, g1, g2, g3⟩ := hI
  have c1 : wr.cell? ⟨x, 2, none⟩ = some (.int .i64 s2.e) := by simp [World.cell?, g1]
  clear hB hK hO hF hS hUn g1 g2 g3 k
  by_cases hlt : (U.length : Int) < n
  ·by_cases he : s2.e = 0
   ·have hq1 : decide ((U.length : Int) < n) = true := decide_eq_true hlt
    have hq2 : (s2.e == 0) = true := by rw [he]; rfl
    obtain ⟨a, ha⟩ : ∃ a, (eNum s2).1 = a := ⟨_, rfl⟩
    obtain ⟨s3, hs3⟩ : ∃ s3, (eNum s2).2 = s3 := ⟨_, rfl⟩
    have ho3 := okS_num HO.out
    rw [hs3] at ho3
    obtain ⟨⟨y0, y1, y2, yl⟩, hy⟩ : ∃ y, (rEntry s3).1 = y := ⟨_, rfl⟩
    obtain ⟨s4, hs4⟩ : ∃ s4, (rEntry s3).2 = s4 := ⟨_, rfl⟩
    have ho4 := okS_rentry ho3
    rw [hs4] at ho4
    have hTR : rTr s2 = ((⟨a, ⟨y0, y1, y2, yl⟩⟩ : TrD), s4) := by unfold rTr trOf FM PR; rw [ha, hs3, hy, hs4]
    have HF2 := Lib.hid (show eList rTr s = ((U ++ [(⟨a, ⟨y0, y1, y2, yl⟩⟩ : TrD)]) ++ (eMany rTr (n.toNat - (U ++ [(⟨a, ⟨y0, y1, y2, yl⟩⟩ : TrD)]).length) s4).1, (eMany rTr (n.toNat - (U ++ [(⟨a, ⟨y0, y1, y2, yl⟩⟩ : TrD)]).length) s4).2) by
     rw [HF.out]
     have e1 : n.toNat - U.length = (n.toNat - (U ++ [(⟨a, ⟨y0, y1, y2, yl⟩⟩ : TrD)]).length) + 1 := by simp; omega
     rw [e1]
     simp only [eMany, he, if_true, hTR, List.append_assoc, List.singleton_append])
    have HO3 := Lib.hid ho3; have HO4 := Lib.hid ho4; have HE1 := Lib.hid (And.intro ha hs3); have HE2 := Lib.hid (And.intro hy hs4)
    have HLT2 := Lib.hid hlt; have HOWN := Lib.hid (Kd.R_lt HS.out)
    clear hlt he ha hs3 ho3 hy hs4 ho4 hTR
    go_upto_region 7 with fail
    obtain ⟨w2, hw2⟩ : ∃ W, wr.alloc (.cells #[.int .i64 0, .int .i64 0, .int .i64 0, .int .i64 0, .slice none 0 0] 63) = W := ⟨_, rfl⟩
    rw [hw2] at HT1 ⊢
    clear hw2 c1 hq1 hq2
    go_wp2_with fail
    have h4 := rdNum_is HT1.out.i HT1.out.d HO.out
    rw [HE1.out.1, HE1.out.2] at h4
    refine h4.mono ?_
    rintro e w3 ⟨rfl, h1, h2, h3⟩
    have HT2 := Lib.hid (HT1.out.call h1 h2 h3)
    clear h1 h2 h3 h4 HT1
    have d0 : w3.cell? ⟨wr.heap.size, 0, none⟩ = some (.int .i64 0) := (blk_cell HT2.out.g0 0).trans rfl
    have z0 : w3.frozen? ⟨wr.heap.size, 0, none⟩ = false := blk_frozen HT2.out.g0 0
    go_upto_region 8 with fail
    have hT : Fo _ w0 wr x 63 #[.int .i64 a, .int .i64 0, .int .i64 0, .int .i64 0, .slice none 0 0] _ _ := HT2.out.put 0 (.int .i64 a)
    have HT3 := Lib.hid hT
    obtain ⟨w3', hw⟩ : ∃ W, w3.setCell ⟨wr.heap.size, 0, none⟩ (.int .i64 a) = W := ⟨_, rfl⟩
    rw [hw] at HT3 ⊢
    clear hT hw HT2 d0 z0
    go_wp2_with fail
    have h4 := rdEntry_is HT3.out.i HT3.out.d HO3.out
    rw [HE2.out.1, HE2.out.2] at h4
    refine h4.mono ?_
    rintro e w4 ⟨v_, rfl, hv, h1, h2, h3⟩
    have hv : Kd.R G.k26 26 w4 w3'.heap.size (fun _ => True) v_ yl := hv
    obtain ⟨A4, c4, rfl⟩ := Kd.R_slice hv
    have HT4 := Lib.hid (HT3.out.call h1 h2 h3)
    have HZ := Lib.hid HT3.out.hz
    have HV := Lib.hid (Kd.R_bound hv)
    clear h1 h2 h3 h4 hv HT3
    have d0 : w4.cell? ⟨wr.heap.size, 0, none⟩ = some (.int .i64 a) := (blk_cell HT4.out.g0 0).trans rfl
    have z0 : w4.frozen? ⟨wr.heap.size, 0, none⟩ = false := blk_frozen HT4.out.g0 0
    have d1 : w4.cell? ⟨wr.heap.size, 1, none⟩ = some (.int .i64 0) := (blk_cell HT4.out.g0 1).trans rfl
    have z1 : w4.frozen? ⟨wr.heap.size, 1, none⟩ = false := blk_frozen HT4.out.g0 1
    have d2 : w4.cell? ⟨wr.heap.size, 2, none⟩ = some (.int .i64 0) := (blk_cell HT4.out.g0 2).trans rfl
    have z2 : w4.frozen? ⟨wr.heap.size, 2, none⟩ = false := blk_frozen HT4.out.g0 2
    have d3 : w4.cell? ⟨wr.heap.size, 3, none⟩ = some (.int .i64 0) := (blk_cell HT4.out.g0 3).trans rfl
    have z3 : w4.frozen? ⟨wr.heap.size, 3, none⟩ = false := blk_frozen HT4.out.g0 3
    have d4 : w4.cell? ⟨wr.heap.size, 4, none⟩ = some (.slice none 0 0) := (blk_cell HT4.out.g0 4).trans rfl
    have z4 : w4.frozen? ⟨wr.heap.size, 4, none⟩ = false := blk_frozen HT4.out.g0 4
    go_upto_region 9 with fail
    have hT : Fo _ w0 wr x 63 #[.int .i64 a, .int .i64 y0, .int .i64 y1, .int .i64 y2, .slice A4 yl.length c4] _ _ := (((HT4.out.put 1 (.int .i64 y0)).put 2 (.int .i64 y1)).put 3 (.int .i64 y2)).put 4 (.slice A4 yl.length c4)
    have HT5 := Lib.hid hT
    have R4 := Lib.hid (show Kd.R G.k26 26 ((((w4.setCell ⟨wr.heap.size, 1, none⟩ (.int .i64 y0)).setCell ⟨wr.heap.size, 2, none⟩ (.int .i64 y1)).setCell ⟨wr.heap.size, 3, none⟩ (.int .i64 y2)).setCell ⟨wr.heap.size, 4, none⟩ (.slice A4 yl.length c4)) w.heap.size (fun k => wr.heap.size < k) (.slice A4 yl.length c4) yl from by
     have h0 : Kd.R G.k26 26 w4 w.heap.size (fun k => wr.heap.size < k) (.slice A4 yl.length c4) yl := Kd.R_mono (Kd.R_lower HV.out (Nat.le_trans HK.out.size (Nat.le_of_lt HZ.out))) (fun k hk => Nat.lt_of_lt_of_le HZ.out hk.2.1)
     exact Kd.R_far (p := ⟨wr.heap.size, 4, none⟩) (Kd.R_far (p := ⟨wr.heap.size, 3, none⟩) (Kd.R_far (p := ⟨wr.heap.size, 2, none⟩) (Kd.R_far (p := ⟨wr.heap.size, 1, none⟩) h0 (fun k hk => Nat.ne_of_gt hk) _) (fun k hk => Nat.ne_of_gt hk) _) (fun k hk => Nat.ne_of_gt hk) _) (fun k hk => Nat.ne_of_gt hk) _)
    obtain ⟨w5, hw⟩ : ∃ W, (((w4.setCell ⟨wr.heap.size, 1, none⟩ (.int .i64 y0)).setCell ⟨wr.heap.size, 2, none⟩ (.int .i64 y1)).setCell ⟨wr.heap.size, 3, none⟩ (.int .i64 y2)).setCell ⟨wr.heap.size, 4, none⟩ (.slice A4 yl.length c4) = W := ⟨_, rfl⟩
    rw [hw] at HT5 R4 ⊢
    clear hT hw HT4 HZ HV d0 z0 d1 z1 d2 z2 d3 z3 d4 z4
    have d0 : w5.cell? ⟨wr.heap.size, 0, none⟩ = some (.int .i64 a) := (blk_cell HT5.out.g0 0).trans rfl
    have d1 : w5.cell? ⟨wr.heap.size, 1, none⟩ = some (.int .i64 y0) := (blk_cell HT5.out.g0 1).trans rfl
    have d2 : w5.cell? ⟨wr.heap.size, 2, none⟩ = some (.int .i64 y1) := (blk_cell HT5.out.g0 2).trans rfl
    have d3 : w5.cell? ⟨wr.heap.size, 3, none⟩ = some (.int .i64 y2) := (blk_cell HT5.out.g0 3).trans rfl
    have d4 : w5.cell? ⟨wr.heap.size, 4, none⟩ = some (.slice A4 yl.length c4) := (blk_cell HT5.out.g0 4).trans rfl
    have HS3 := Lib.hid (show Kd.R G.k63 63 w5 w.heap.size (fun _ => True) (.slice Av U.length cv) U from R_keep' HLT.out HS.out HT5.out.q)
    have K3 := Lib.hid (HK.out.trans HT5.out.q)
    have HZ3 := Lib.hid K3.out.size
    have hul : U.length ≤ 4096 := by have h1 := HUN.out; have h2 := HSZ.out; omega
    go_wp2_with ((with_reducible refine gate_builtin (b := .append) (xs := #[.tmp 27, .tmp 29]) rfl ?_); at_builtin; refine Kd.R_append G.k63 (w0 := w5) w.heap.size rfl (.tmp 27) (.tmp 29) 30 63 (.agg #[.int .i64 0, .int .i64 0, .int .i64 0, .int .i64 0, .slice none 0 0]) 56 rfl Tryz.underlying30 G.info63 rfl (by decide) (by omega) _ U (⟨a, ⟨y0, y1, y2, yl⟩⟩ : TrD) [.int .i64 a, .int .i64 y0, .int .i64 y1, .int .i64 y2, .slice A4 yl.length c4] (fun _ => True) (fun k => wr.heap.size < k) rfl rfl (G.k63_mkM _ _ _ (⟨a, ⟨y0, y1, y2, yl⟩⟩ : TrD) R4.out) (fun k hk => ⟨trivial, fun e => by have := HOWN.out k e.symm; omega⟩) (fun _ _ => trivial) HS3.out (Below.refl _ _) HZ3.out (by omega) ?_; intro v1 w6 ho hb5 hg5 hat; obtain ⟨A9, c9, rfl⟩ := Kd.R_slice ho; have HS5 := Lib.hid ho; have HK5 := Lib.hid (K3.out.then_base hb5); have HI5 := Lib.hid (HT5.out.i.at (hb5.block x HLT.out)); have HB5 := Lib.hid (HT5.out.d.trans (hb5.mono HGEW.out)); clear ho hb5 hg5 hat)
    go_roundw
    case rel =>
     refine ⟨U ++ [(⟨a, ⟨y0, y1, y2, yl⟩⟩ : TrD)], s4, by rw [List.length_append]; go_num, ?_, (by have h9 := HS5.out; rw [List.length_append] at h9; exact h9), HI5.out, HB5.out, HK5.out, HO4.out, HF2.out⟩
     have h2 := HLT2.out
     rw [List.length_append, List.length_singleton]
     omega
    case measure => simp [intOf]; have h2 := HLT2.out; omega
   ·have hq1 : decide ((U.length : Int) < n) = true := decide_eq_true hlt
    have hq2 : (s2.e == 0) = false := beq_eq_false_iff_ne.2 he
    have HF2 := Lib.hid (show eList rTr s = (U, s2) by rw [HF.out, eMany_stop he, List.append_nil])
    clear hlt he
    go_wp2_with fail
    go_ret
    exact ⟨_, rfl, by rw [HF2.out]; exact HS.out, by rw [HF2.out]; exact HI.out, HB.out, HK.out⟩
  ·have hq1 : decide ((U.length : Int) < n) = false := decide_eq_false hlt
   have HF2 := Lib.hid (show eList rTr s = (U, s2) by
    have e1 : n.toNat - U.length = 0 := by omega
    rw [HF.out, e1]
    simp only [eMany, List.append_nil])
   clear hlt
   go_wp2_with fail
   go_ret
   exact ⟨_, rfl, by rw [HF2.out]; exact HS.out, by rw [HF2.out]; exact HI.out, HB.out, HK.out⟩
end Go.Proofs.YtgiefblcckikeaaGreat.M
end

section
/- The reference's Reader: a message, kinds 1, 2, 4 (printed by genrdq04.py). -/
attribute [local irreducible] Go.wpStill
namespace Go.Proofs.YtgiefblcckikeaaGreat.M
open Go.RowKit Go.Proofs.YtgiefblcckikeaaGreatW.PrintWords Go.Proofs.YtgiefblcckikeaaGreatW.PrintLast Go.Proofs.YtgiefblcckikeaaGreatW.PrintMore Go.Proofs.YtgiefblcckikeaaGreat.G
theorem okS_rtrs {s : EyeS} (h : okS s) : okS (eList rTr s).2 := okS_list (fun _ => okS_rtr) h
theorem okS_part {s : EyeS} (h : okS s) : okS (ptOf rSmall s).2 := okS_data (okS_rsmall (okS_rsmall (okS_num h)))
set_option maxHeartbeats 4000000 in
theorem rdMsg1 {B : List Int} {w0 w : World} {x : Nat} {s : EyeS} (hI : IsRd B w0 w x s) (hB : Below w0.heap.size w0 w) (hok : okS s) (hk : (rSmall s).1 = 1) (he : (rSmall s).2.e = 0) :
  Calls Tryz.prog 62 #[.pointer (some ⟨x, 0, none⟩)] w fun e w' => MsP (fun W s => IsRd B w0 W x s) w0 w x (rMsg s).1 (rMsg s).2 e w' := by
 have HT1 := Lib.hid ((Fo.start (I := fun W s => IsRd B w0 W x s) (T := 34) (zs := #[.int .i64 0, .int .i64 0, .int .i64 0, .int .i64 0, .int .i64 0, .int .i64 0, .int .i64 0, .bool false, .slice none 0 0, .int .i64 0, .int .i64 0, .int .i64 0, .slice none 0 0, .int .i64 0, .int .i64 0, .int .i64 0, .slice none 0 0]) hI hB hI.lt hI.ge (fun _ _ _ e h => h.at e)).lay #[.int .i64 0, .int .i64 0, .int .i64 0, .int .i64 0, .int .i64 0, .int .i64 0, .int .i64 0, .bool false, .slice none 0 0, .int .i64 0, .int .i64 0, .int .i64 0, .slice none 0 0, .int .i64 0, .int .i64 0, .int .i64 0, .slice none 0 0])
 obtain ⟨s0, hs0⟩ : ∃ s0, (rSmall s).2 = s0 := ⟨_, rfl⟩
 have HN := Lib.hid (And.intro hk hs0)
 have HO0 := Lib.hid hok
 have ho1 := okS_rsmall hok
 rw [hs0] at ho1 he
 obtain ⟨s1, hs1⟩ : ∃ s1, s0 = s1 := ⟨_, rfl⟩
 rw [hs1] at hs0 ho1 he HN
 have HF0 := Lib.hid (show rMsg s = mBody rSmall rEntry (eList rTr) 1 s1 by
  have hm : rMk s = s1 := by unfold rMk; rw [hk, hs0]; exact eWrong_false _
  unfold rMsg
  rw [hm, hk])
 have HQ := Lib.hid (show (s1.e == 0) = true by rw [he]; rfl)
 clear hI hB hok hk hs0 hs1 he
 obtain ⟨v1, hv1⟩ : ∃ v, (rSmall s1).1 = v := ⟨_, rfl⟩
 obtain ⟨s2, hs2⟩ : ∃ t, (rSmall s1).2 = t := ⟨_, rfl⟩
 have ho2 := okS_rsmall ho1
 rw [hs2] at ho2
 have HO1 := Lib.hid ho1; have HE1 := Lib.hid (And.intro hv1 hs2)
 obtain ⟨v2, hv2⟩ : ∃ v, (rSmall s2).1 = v := ⟨_, rfl⟩
 obtain ⟨s3, hs3⟩ : ∃ t, (rSmall s2).2 = t := ⟨_, rfl⟩
 have ho3 := okS_rsmall ho2
 rw [hs3] at ho3
 have HO2 := Lib.hid ho2; have HE2 := Lib.hid (And.intro hv2 hs3)
 obtain ⟨v3, hv3⟩ : ∃ v, (eNum s3).1 = v := ⟨_, rfl⟩
 obtain ⟨s4, hs4⟩ : ∃ t, (eNum s3).2 = t := ⟨_, rfl⟩
 have ho4 := okS_num ho3
 rw [hs4] at ho4
 have HO3 := Lib.hid ho3; have HE3 := Lib.hid (And.intro hv3 hs4)
 obtain ⟨v4, hv4⟩ : ∃ v, (eNum s4).1 = v := ⟨_, rfl⟩
 obtain ⟨s5, hs5⟩ : ∃ t, (eNum s4).2 = t := ⟨_, rfl⟩
 have ho5 := okS_num ho4
 rw [hs5] at ho5
 have HO4 := Lib.hid ho4; have HE4 := Lib.hid (And.intro hv4 hs5)
 obtain ⟨v5, hv5⟩ : ∃ v, (eNum s5).1 = v := ⟨_, rfl⟩
 obtain ⟨s6, hs6⟩ : ∃ t, (eNum s5).2 = t := ⟨_, rfl⟩
 have ho6 := okS_num ho5
 rw [hs6] at ho6
 have HO5 := Lib.hid ho5; have HE5 := Lib.hid (And.intro hv5 hs6)
 have HF := Lib.hid (show rMsg s = (⟨1, v1, v2, v3, v4, v5, 0, false, [], zE, zP⟩, s6) by
  rw [HF0.out]
  unfold mBody
  rw [if_pos rfl]
  simp only [FM, PR, enOf, hv1, hs2, hv2, hs3, hv3, hs4, hv4, hs5, hv5, hs6])
 clear HF0 hv1 hs2 ho1 hv2 hs3 ho2 hv3 hs4 ho3 hv4 hs5 ho4 hv5 hs6 ho5 ho6
 go_enter Tryz.func62, Tryz.ntmps62
 go_upto_region 2 with fail
 obtain ⟨g, hg⟩ : ∃ g, (w.alloc (.cells #[.int .i64 0, .int .i64 0, .int .i64 0, .int .i64 0, .int .i64 0, .int .i64 0, .int .i64 0, .bool false, .slice none 0 0, .int .i64 0, .int .i64 0, .int .i64 0, .slice none 0 0, .int .i64 0, .int .i64 0, .int .i64 0, .slice none 0 0] 34)).heap.size = g := ⟨_, rfl⟩
 have hg' : w.heap.size + 1 = g := by rw [← hg]; simp
 obtain ⟨w1, hw1⟩ : ∃ W, (w.alloc (.cells #[.int .i64 0, .int .i64 0, .int .i64 0, .int .i64 0, .int .i64 0, .int .i64 0, .int .i64 0, .bool false, .slice none 0 0, .int .i64 0, .int .i64 0, .int .i64 0, .slice none 0 0, .int .i64 0, .int .i64 0, .int .i64 0, .slice none 0 0] 34)).alloc (.cells #[.int .i64 0, .int .i64 0, .int .i64 0, .int .i64 0, .int .i64 0, .int .i64 0, .int .i64 0, .bool false, .slice none 0 0, .int .i64 0, .int .i64 0, .int .i64 0, .slice none 0 0, .int .i64 0, .int .i64 0, .int .i64 0, .slice none 0 0] 34) = W := ⟨_, rfl⟩
 rw [hg, hw1] at HT1
 rw [hw1, hg']
 clear hg hw1 hg'
 go_wp2_with fail
 have h4 := rdSmall_is HT1.out.i HT1.out.d HO0.out
 rw [HN.out.1, HN.out.2] at h4
 refine h4.mono ?_
 rintro e w2 ⟨rfl, h1, h2, h3⟩
 have HT2 := Lib.hid (HT1.out.call h1 h2 h3)
 clear h1 h2 h3 h4 HT1 HN
 have d0 : w2.cell? ⟨g, 0, none⟩ = some (.int .i64 0) := (blk_cell HT2.out.y 0).trans rfl
 have z0 : w2.frozen? ⟨g, 0, none⟩ = false := blk_frozen HT2.out.y 0
 go_upto_region 3 with fail
 have HT3 := Lib.hid (HT2.out.put 0 (.int .i64 1))
 obtain ⟨w3, hw⟩ : ∃ W, w2.setCell ⟨g, 0, none⟩ (.int .i64 1) = W := ⟨_, rfl⟩
 rw [hw] at HT3 ⊢
 clear hw HT2 d0 z0
 have c2 : w3.cell? ⟨x, 2, none⟩ = some (.int .i64 s1.e) := by
  obtain ⟨A, c, j, g1, _⟩ := HT3.out.i
  simp [World.cell?, g1]
 have hq := HQ.out
 have d0 : w3.cell? ⟨g, 0, none⟩ = some (.int .i64 1) := (blk_cell HT3.out.y 0).trans rfl
 go_wp2_with fail
 clear c2 hq d0
 have h4 := rdSmall_is HT3.out.i HT3.out.d HO1.out
 rw [HE1.out.1, HE1.out.2] at h4
 refine h4.mono ?_
 rintro e w4 ⟨rfl, h1, h2, h3⟩
 have HT4 := Lib.hid (HT3.out.call h1 h2 h3)
 clear h1 h2 h3 h4 HT3
 have d1 : w4.cell? ⟨g, 1, none⟩ = some (.int .i64 0) := (blk_cell HT4.out.y 1).trans rfl
 have z1 : w4.frozen? ⟨g, 1, none⟩ = false := blk_frozen HT4.out.y 1
 have d0 : w4.cell? ⟨g, 0, none⟩ = some (.int .i64 1) := (blk_cell HT4.out.y 0).trans rfl
 have z0 : w4.frozen? ⟨g, 0, none⟩ = false := blk_frozen HT4.out.y 0
 go_wp2_with fail
 have HT5 := Lib.hid (HT4.out.put 1 (.int .i64 v1))
 obtain ⟨w5, hw⟩ : ∃ W, (w4.setCell ⟨g, 1, none⟩ (.int .i64 v1)) = W := ⟨_, rfl⟩
 rw [hw] at HT5 ⊢
 clear hw HT4 d1 z1 d0 z0
 have h4 := rdSmall_is HT5.out.i HT5.out.d HO2.out
 rw [HE2.out.1, HE2.out.2] at h4
 refine h4.mono ?_
 rintro e w6 ⟨rfl, h1, h2, h3⟩
 have HT6 := Lib.hid (HT5.out.call h1 h2 h3)
 clear h1 h2 h3 h4 HT5
 have d2 : w6.cell? ⟨g, 2, none⟩ = some (.int .i64 0) := (blk_cell HT6.out.y 2).trans rfl
 have z2 : w6.frozen? ⟨g, 2, none⟩ = false := blk_frozen HT6.out.y 2
 have d0 : w6.cell? ⟨g, 0, none⟩ = some (.int .i64 1) := (blk_cell HT6.out.y 0).trans rfl
 have z0 : w6.frozen? ⟨g, 0, none⟩ = false := blk_frozen HT6.out.y 0
 go_wp2_with fail
 have HT7 := Lib.hid (HT6.out.put 2 (.int .i64 v2))
 obtain ⟨w7, hw⟩ : ∃ W, (w6.setCell ⟨g, 2, none⟩ (.int .i64 v2)) = W := ⟨_, rfl⟩
 rw [hw] at HT7 ⊢
 clear hw HT6 d2 z2 d0 z0
 have h4 := rdNum_is HT7.out.i HT7.out.d HO3.out
 rw [HE3.out.1, HE3.out.2] at h4
 refine h4.mono ?_
 rintro e w8 ⟨rfl, h1, h2, h3⟩
 have HT8 := Lib.hid (HT7.out.call h1 h2 h3)
 clear h1 h2 h3 h4 HT7
 have d3 : w8.cell? ⟨g, 3, none⟩ = some (.int .i64 0) := (blk_cell HT8.out.y 3).trans rfl
 have z3 : w8.frozen? ⟨g, 3, none⟩ = false := blk_frozen HT8.out.y 3
 have d0 : w8.cell? ⟨g, 0, none⟩ = some (.int .i64 1) := (blk_cell HT8.out.y 0).trans rfl
 have z0 : w8.frozen? ⟨g, 0, none⟩ = false := blk_frozen HT8.out.y 0
 go_wp2_with fail
 have HT9 := Lib.hid (HT8.out.put 3 (.int .i64 v3))
 obtain ⟨w9, hw⟩ : ∃ W, (w8.setCell ⟨g, 3, none⟩ (.int .i64 v3)) = W := ⟨_, rfl⟩
 rw [hw] at HT9 ⊢
 clear hw HT8 d3 z3 d0 z0
 have h4 := rdNum_is HT9.out.i HT9.out.d HO4.out
 rw [HE4.out.1, HE4.out.2] at h4
 refine h4.mono ?_
 rintro e w10 ⟨rfl, h1, h2, h3⟩
 have HT10 := Lib.hid (HT9.out.call h1 h2 h3)
 clear h1 h2 h3 h4 HT9
 have d4 : w10.cell? ⟨g, 4, none⟩ = some (.int .i64 0) := (blk_cell HT10.out.y 4).trans rfl
 have z4 : w10.frozen? ⟨g, 4, none⟩ = false := blk_frozen HT10.out.y 4
 have d0 : w10.cell? ⟨g, 0, none⟩ = some (.int .i64 1) := (blk_cell HT10.out.y 0).trans rfl
 have z0 : w10.frozen? ⟨g, 0, none⟩ = false := blk_frozen HT10.out.y 0
 go_wp2_with fail
 have HT11 := Lib.hid (HT10.out.put 4 (.int .i64 v4))
 obtain ⟨w11, hw⟩ : ∃ W, (w10.setCell ⟨g, 4, none⟩ (.int .i64 v4)) = W := ⟨_, rfl⟩
 rw [hw] at HT11 ⊢
 clear hw HT10 d4 z4 d0 z0
 have h4 := rdNum_is HT11.out.i HT11.out.d HO5.out
 rw [HE5.out.1, HE5.out.2] at h4
 refine h4.mono ?_
 rintro e w12 ⟨rfl, h1, h2, h3⟩
 have HT12 := Lib.hid (HT11.out.call h1 h2 h3)
 clear h1 h2 h3 h4 HT11
 have d5 : w12.cell? ⟨g, 5, none⟩ = some (.int .i64 0) := (blk_cell HT12.out.y 5).trans rfl
 have z5 : w12.frozen? ⟨g, 5, none⟩ = false := blk_frozen HT12.out.y 5
 have d0 : w12.cell? ⟨g, 0, none⟩ = some (.int .i64 1) := (blk_cell HT12.out.y 0).trans rfl
 have z0 : w12.frozen? ⟨g, 0, none⟩ = false := blk_frozen HT12.out.y 0
 go_upto_region 28 with fail
 have HT13 := Lib.hid (HT12.out.put 5 (.int .i64 v5))
 obtain ⟨w13, hw⟩ : ∃ W, (w12.setCell ⟨g, 5, none⟩ (.int .i64 v5)) = W := ⟨_, rfl⟩
 rw [hw] at HT13 ⊢
 clear hw HT12 d5 z5 d0 z0
 have hT : Fr _ w0 w x g 34 _ #[.int .i64 1, .int .i64 v1, .int .i64 v2, .int .i64 v3, .int .i64 v4, .int .i64 v5, .int .i64 0, .bool false, .slice none 0 0, .int .i64 0, .int .i64 0, .int .i64 0, .slice none 0 0, .int .i64 0, .int .i64 0, .int .i64 0, .slice none 0 0] _ _ _ := HT13.out
 refine wp_region_list ?_
 refine wpList_load_row rfl 34 (.tmp 3) rfl g rfl 34 _ (0, 0) _ hT.y Tryz.underlying34 rfl (by kernel_rfl) ?_
 refine wpList_store_row rfl 34 (.tmp 2) (.tmp 78) rfl w.heap.size _ rfl rfl 34 _ hT.g0 (by kernel_rfl) rfl (by simp [Value.oneCell']) ?_
 go_wp2_with fail
 refine bodyPost_ret (results_cell_row rfl _ _ w.heap.size 34 _ (0, 0) _ rfl hT.fin.1 Tryz.underlying34 rfl (by kernel_rfl)) rfl ?_
 rw [HF.out]
 exact ⟨_, _, _, rfl, Kd.R_nil _ _ _ _ _, Kd.R_nil _ _ _ _ _, Kd.R_nil _ _ _ _ _, hT.fin.2.2.1, hT.fin.2.2.2.1, hT.fin.2.2.2.2⟩
set_option maxHeartbeats 4000000 in
theorem rdMsg2 {B : List Int} {w0 w : World} {x : Nat} {s : EyeS} (hI : IsRd B w0 w x s) (hB : Below w0.heap.size w0 w) (hok : okS s) (hk : (rSmall s).1 = 2) (he : (rSmall s).2.e = 0) :
  Calls Tryz.prog 62 #[.pointer (some ⟨x, 0, none⟩)] w fun e w' => MsP (fun W s => IsRd B w0 W x s) w0 w x (rMsg s).1 (rMsg s).2 e w' := by
 have HT1 := Lib.hid ((Fo.start (I := fun W s => IsRd B w0 W x s) (T := 34) (zs := #[.int .i64 0, .int .i64 0, .int .i64 0, .int .i64 0, .int .i64 0, .int .i64 0, .int .i64 0, .bool false, .slice none 0 0, .int .i64 0, .int .i64 0, .int .i64 0, .slice none 0 0, .int .i64 0, .int .i64 0, .int .i64 0, .slice none 0 0]) hI hB hI.lt hI.ge (fun _ _ _ e h => h.at e)).lay #[.int .i64 0, .int .i64 0, .int .i64 0, .int .i64 0, .int .i64 0, .int .i64 0, .int .i64 0, .bool false, .slice none 0 0, .int .i64 0, .int .i64 0, .int .i64 0, .slice none 0 0, .int .i64 0, .int .i64 0, .int .i64 0, .slice none 0 0])
 obtain ⟨s0, hs0⟩ : ∃ s0, (rSmall s).2 = s0 := ⟨_, rfl⟩
 have HN := Lib.hid (And.intro hk hs0)
 have HO0 := Lib.hid hok
 have ho1 := okS_rsmall hok
 rw [hs0] at ho1 he
 obtain ⟨s1, hs1⟩ : ∃ s1, s0 = s1 := ⟨_, rfl⟩
 rw [hs1] at hs0 ho1 he HN
 have HF0 := Lib.hid (show rMsg s = mBody rSmall rEntry (eList rTr) 2 s1 by
  have hm : rMk s = s1 := by unfold rMk; rw [hk, hs0]; exact eWrong_false _
  unfold rMsg
  rw [hm, hk])
 have HQ := Lib.hid (show (s1.e == 0) = true by rw [he]; rfl)
 clear hI hB hok hk hs0 hs1 he
 obtain ⟨v1, hv1⟩ : ∃ v, (rSmall s1).1 = v := ⟨_, rfl⟩
 obtain ⟨s2, hs2⟩ : ∃ t, (rSmall s1).2 = t := ⟨_, rfl⟩
 have ho2 := okS_rsmall ho1
 rw [hs2] at ho2
 have HO1 := Lib.hid ho1; have HE1 := Lib.hid (And.intro hv1 hs2)
 obtain ⟨v2, hv2⟩ : ∃ v, (rSmall s2).1 = v := ⟨_, rfl⟩
 obtain ⟨s3, hs3⟩ : ∃ t, (rSmall s2).2 = t := ⟨_, rfl⟩
 have ho3 := okS_rsmall ho2
 rw [hs3] at ho3
 have HO2 := Lib.hid ho2; have HE2 := Lib.hid (And.intro hv2 hs3)
 obtain ⟨v3, hv3⟩ : ∃ v, (eNum s3).1 = v := ⟨_, rfl⟩
 obtain ⟨s4, hs4⟩ : ∃ t, (eNum s3).2 = t := ⟨_, rfl⟩
 have ho4 := okS_num ho3
 rw [hs4] at ho4
 have HO3 := Lib.hid ho3; have HE3 := Lib.hid (And.intro hv3 hs4)
 obtain ⟨v4, hv4⟩ : ∃ v, (eYes s4).1 = v := ⟨_, rfl⟩
 obtain ⟨s5, hs5⟩ : ∃ t, (eYes s4).2 = t := ⟨_, rfl⟩
 have ho5 := okS_yes ho4
 rw [hs5] at ho5
 have HO4 := Lib.hid ho4; have HE4 := Lib.hid (And.intro hv4 hs5)
 have HF := Lib.hid (show rMsg s = (⟨2, v1, v2, v3, 0, 0, 0, v4, [], zE, zP⟩, s5) by
  rw [HF0.out]
  unfold mBody
  rw [if_neg (by decide)]; rw [if_pos rfl]
  simp only [FM, PR, enOf, hv1, hs2, hv2, hs3, hv3, hs4, hv4, hs5])
 clear HF0 hv1 hs2 ho1 hv2 hs3 ho2 hv3 hs4 ho3 hv4 hs5 ho4 ho5
 go_enter Tryz.func62, Tryz.ntmps62
 go_upto_region 2 with fail
 obtain ⟨g, hg⟩ : ∃ g, (w.alloc (.cells #[.int .i64 0, .int .i64 0, .int .i64 0, .int .i64 0, .int .i64 0, .int .i64 0, .int .i64 0, .bool false, .slice none 0 0, .int .i64 0, .int .i64 0, .int .i64 0, .slice none 0 0, .int .i64 0, .int .i64 0, .int .i64 0, .slice none 0 0] 34)).heap.size = g := ⟨_, rfl⟩
 have hg' : w.heap.size + 1 = g := by rw [← hg]; simp
 obtain ⟨w1, hw1⟩ : ∃ W, (w.alloc (.cells #[.int .i64 0, .int .i64 0, .int .i64 0, .int .i64 0, .int .i64 0, .int .i64 0, .int .i64 0, .bool false, .slice none 0 0, .int .i64 0, .int .i64 0, .int .i64 0, .slice none 0 0, .int .i64 0, .int .i64 0, .int .i64 0, .slice none 0 0] 34)).alloc (.cells #[.int .i64 0, .int .i64 0, .int .i64 0, .int .i64 0, .int .i64 0, .int .i64 0, .int .i64 0, .bool false, .slice none 0 0, .int .i64 0, .int .i64 0, .int .i64 0, .slice none 0 0, .int .i64 0, .int .i64 0, .int .i64 0, .slice none 0 0] 34) = W := ⟨_, rfl⟩
 rw [hg, hw1] at HT1
 rw [hw1, hg']
 clear hg hw1 hg'
 go_wp2_with fail
 have h4 := rdSmall_is HT1.out.i HT1.out.d HO0.out
 rw [HN.out.1, HN.out.2] at h4
 refine h4.mono ?_
 rintro e w2 ⟨rfl, h1, h2, h3⟩
 have HT2 := Lib.hid (HT1.out.call h1 h2 h3)
 clear h1 h2 h3 h4 HT1 HN
 have d0 : w2.cell? ⟨g, 0, none⟩ = some (.int .i64 0) := (blk_cell HT2.out.y 0).trans rfl
 have z0 : w2.frozen? ⟨g, 0, none⟩ = false := blk_frozen HT2.out.y 0
 go_upto_region 3 with fail
 have HT3 := Lib.hid (HT2.out.put 0 (.int .i64 2))
 obtain ⟨w3, hw⟩ : ∃ W, w2.setCell ⟨g, 0, none⟩ (.int .i64 2) = W := ⟨_, rfl⟩
 rw [hw] at HT3 ⊢
 clear hw HT2 d0 z0
 have c2 : w3.cell? ⟨x, 2, none⟩ = some (.int .i64 s1.e) := by
  obtain ⟨A, c, j, g1, _⟩ := HT3.out.i
  simp [World.cell?, g1]
 have hq := HQ.out
 have d0 : w3.cell? ⟨g, 0, none⟩ = some (.int .i64 2) := (blk_cell HT3.out.y 0).trans rfl
 go_wp2_with fail
 clear c2 hq d0
 have h4 := rdSmall_is HT3.out.i HT3.out.d HO1.out
 rw [HE1.out.1, HE1.out.2] at h4
 refine h4.mono ?_
 rintro e w4 ⟨rfl, h1, h2, h3⟩
 have HT4 := Lib.hid (HT3.out.call h1 h2 h3)
 clear h1 h2 h3 h4 HT3
 have d1 : w4.cell? ⟨g, 1, none⟩ = some (.int .i64 0) := (blk_cell HT4.out.y 1).trans rfl
 have z1 : w4.frozen? ⟨g, 1, none⟩ = false := blk_frozen HT4.out.y 1
 have d0 : w4.cell? ⟨g, 0, none⟩ = some (.int .i64 2) := (blk_cell HT4.out.y 0).trans rfl
 have z0 : w4.frozen? ⟨g, 0, none⟩ = false := blk_frozen HT4.out.y 0
 go_wp2_with fail
 have HT5 := Lib.hid (HT4.out.put 1 (.int .i64 v1))
 obtain ⟨w5, hw⟩ : ∃ W, (w4.setCell ⟨g, 1, none⟩ (.int .i64 v1)) = W := ⟨_, rfl⟩
 rw [hw] at HT5 ⊢
 clear hw HT4 d1 z1 d0 z0
 have h4 := rdSmall_is HT5.out.i HT5.out.d HO2.out
 rw [HE2.out.1, HE2.out.2] at h4
 refine h4.mono ?_
 rintro e w6 ⟨rfl, h1, h2, h3⟩
 have HT6 := Lib.hid (HT5.out.call h1 h2 h3)
 clear h1 h2 h3 h4 HT5
 have d2 : w6.cell? ⟨g, 2, none⟩ = some (.int .i64 0) := (blk_cell HT6.out.y 2).trans rfl
 have z2 : w6.frozen? ⟨g, 2, none⟩ = false := blk_frozen HT6.out.y 2
 have d0 : w6.cell? ⟨g, 0, none⟩ = some (.int .i64 2) := (blk_cell HT6.out.y 0).trans rfl
 have z0 : w6.frozen? ⟨g, 0, none⟩ = false := blk_frozen HT6.out.y 0
 go_wp2_with fail
 have HT7 := Lib.hid (HT6.out.put 2 (.int .i64 v2))
 obtain ⟨w7, hw⟩ : ∃ W, (w6.setCell ⟨g, 2, none⟩ (.int .i64 v2)) = W := ⟨_, rfl⟩
 rw [hw] at HT7 ⊢
 clear hw HT6 d2 z2 d0 z0
 have h4 := rdNum_is HT7.out.i HT7.out.d HO3.out
 rw [HE3.out.1, HE3.out.2] at h4
 refine h4.mono ?_
 rintro e w8 ⟨rfl, h1, h2, h3⟩
 have HT8 := Lib.hid (HT7.out.call h1 h2 h3)
 clear h1 h2 h3 h4 HT7
 have d3 : w8.cell? ⟨g, 3, none⟩ = some (.int .i64 0) := (blk_cell HT8.out.y 3).trans rfl
 have z3 : w8.frozen? ⟨g, 3, none⟩ = false := blk_frozen HT8.out.y 3
 have d0 : w8.cell? ⟨g, 0, none⟩ = some (.int .i64 2) := (blk_cell HT8.out.y 0).trans rfl
 have z0 : w8.frozen? ⟨g, 0, none⟩ = false := blk_frozen HT8.out.y 0
 go_wp2_with fail
 have HT9 := Lib.hid (HT8.out.put 3 (.int .i64 v3))
 obtain ⟨w9, hw⟩ : ∃ W, (w8.setCell ⟨g, 3, none⟩ (.int .i64 v3)) = W := ⟨_, rfl⟩
 rw [hw] at HT9 ⊢
 clear hw HT8 d3 z3 d0 z0
 have h4 := rdYes_is HT9.out.i HT9.out.d HO4.out
 rw [HE4.out.1, HE4.out.2] at h4
 refine h4.mono ?_
 rintro e w10 ⟨rfl, h1, h2, h3⟩
 have HT10 := Lib.hid (HT9.out.call h1 h2 h3)
 clear h1 h2 h3 h4 HT9
 have d7 : w10.cell? ⟨g, 7, none⟩ = some (.bool false) := (blk_cell HT10.out.y 7).trans rfl
 have z7 : w10.frozen? ⟨g, 7, none⟩ = false := blk_frozen HT10.out.y 7
 have d0 : w10.cell? ⟨g, 0, none⟩ = some (.int .i64 2) := (blk_cell HT10.out.y 0).trans rfl
 have z0 : w10.frozen? ⟨g, 0, none⟩ = false := blk_frozen HT10.out.y 0
 go_upto_region 28 with fail
 have HT11 := Lib.hid (HT10.out.put 7 (.bool v4))
 obtain ⟨w11, hw⟩ : ∃ W, (w10.setCell ⟨g, 7, none⟩ (.bool v4)) = W := ⟨_, rfl⟩
 rw [hw] at HT11 ⊢
 clear hw HT10 d7 z7 d0 z0
 have hT : Fr _ w0 w x g 34 _ #[.int .i64 2, .int .i64 v1, .int .i64 v2, .int .i64 v3, .int .i64 0, .int .i64 0, .int .i64 0, .bool v4, .slice none 0 0, .int .i64 0, .int .i64 0, .int .i64 0, .slice none 0 0, .int .i64 0, .int .i64 0, .int .i64 0, .slice none 0 0] _ _ _ := HT11.out
 refine wp_region_list ?_
 refine wpList_load_row rfl 34 (.tmp 3) rfl g rfl 34 _ (0, 0) _ hT.y Tryz.underlying34 rfl (by kernel_rfl) ?_
 refine wpList_store_row rfl 34 (.tmp 2) (.tmp 78) rfl w.heap.size _ rfl rfl 34 _ hT.g0 (by kernel_rfl) rfl (by simp [Value.oneCell']) ?_
 go_wp2_with fail
 refine bodyPost_ret (results_cell_row rfl _ _ w.heap.size 34 _ (0, 0) _ rfl hT.fin.1 Tryz.underlying34 rfl (by kernel_rfl)) rfl ?_
 rw [HF.out]
 exact ⟨_, _, _, rfl, Kd.R_nil _ _ _ _ _, Kd.R_nil _ _ _ _ _, Kd.R_nil _ _ _ _ _, hT.fin.2.2.1, hT.fin.2.2.2.1, hT.fin.2.2.2.2⟩
set_option maxHeartbeats 4000000 in
theorem rdMsg4 {B : List Int} {w0 w : World} {x : Nat} {s : EyeS} (hI : IsRd B w0 w x s) (hB : Below w0.heap.size w0 w) (hok : okS s) (hk : (rSmall s).1 = 4) (he : (rSmall s).2.e = 0) :
  Calls Tryz.prog 62 #[.pointer (some ⟨x, 0, none⟩)] w fun e w' => MsP (fun W s => IsRd B w0 W x s) w0 w x (rMsg s).1 (rMsg s).2 e w' := by
 have HT1 := Lib.hid ((Fo.start (I := fun W s => IsRd B w0 W x s) (T := 34) (zs := #[.int .i64 0, .int .i64 0, .int .i64 0, .int .i64 0, .int .i64 0, .int .i64 0, .int .i64 0, .bool false, .slice none 0 0, .int .i64 0, .int .i64 0, .int .i64 0, .slice none 0 0, .int .i64 0, .int .i64 0, .int .i64 0, .slice none 0 0]) hI hB hI.lt hI.ge (fun _ _ _ e h => h.at e)).lay #[.int .i64 0, .int .i64 0, .int .i64 0, .int .i64 0, .int .i64 0, .int .i64 0, .int .i64 0, .bool false, .slice none 0 0, .int .i64 0, .int .i64 0, .int .i64 0, .slice none 0 0, .int .i64 0, .int .i64 0, .int .i64 0, .slice none 0 0])
 obtain ⟨s0, hs0⟩ : ∃ s0, (rSmall s).2 = s0 := ⟨_, rfl⟩
 have HN := Lib.hid (And.intro hk hs0)
 have HO0 := Lib.hid hok
 have ho1 := okS_rsmall hok
 rw [hs0] at ho1 he
 obtain ⟨s1, hs1⟩ : ∃ s1, s0 = s1 := ⟨_, rfl⟩
 rw [hs1] at hs0 ho1 he HN
 have HF0 := Lib.hid (show rMsg s = mBody rSmall rEntry (eList rTr) 4 s1 by
  have hm : rMk s = s1 := by unfold rMk; rw [hk, hs0]; exact eWrong_false _
  unfold rMsg
  rw [hm, hk])
 have HQ := Lib.hid (show (s1.e == 0) = true by rw [he]; rfl)
 clear hI hB hok hk hs0 hs1 he
 obtain ⟨v1, hv1⟩ : ∃ v, (rSmall s1).1 = v := ⟨_, rfl⟩
 obtain ⟨s2, hs2⟩ : ∃ t, (rSmall s1).2 = t := ⟨_, rfl⟩
 have ho2 := okS_rsmall ho1
 rw [hs2] at ho2
 have HO1 := Lib.hid ho1; have HE1 := Lib.hid (And.intro hv1 hs2)
 obtain ⟨v2, hv2⟩ : ∃ v, (rSmall s2).1 = v := ⟨_, rfl⟩
 obtain ⟨s3, hs3⟩ : ∃ t, (rSmall s2).2 = t := ⟨_, rfl⟩
 have ho3 := okS_rsmall ho2
 rw [hs3] at ho3
 have HO2 := Lib.hid ho2; have HE2 := Lib.hid (And.intro hv2 hs3)
 obtain ⟨v3, hv3⟩ : ∃ v, (eNum s3).1 = v := ⟨_, rfl⟩
 obtain ⟨s4, hs4⟩ : ∃ t, (eNum s3).2 = t := ⟨_, rfl⟩
 have ho4 := okS_num ho3
 rw [hs4] at ho4
 have HO3 := Lib.hid ho3; have HE3 := Lib.hid (And.intro hv3 hs4)
 obtain ⟨v4, hv4⟩ : ∃ v, (eYes s4).1 = v := ⟨_, rfl⟩
 obtain ⟨s5, hs5⟩ : ∃ t, (eYes s4).2 = t := ⟨_, rfl⟩
 have ho5 := okS_yes ho4
 rw [hs5] at ho5
 have HO4 := Lib.hid ho4; have HE4 := Lib.hid (And.intro hv4 hs5)
 obtain ⟨v5, hv5⟩ : ∃ v, (eNum s5).1 = v := ⟨_, rfl⟩
 obtain ⟨s6, hs6⟩ : ∃ t, (eNum s5).2 = t := ⟨_, rfl⟩
 have ho6 := okS_num ho5
 rw [hs6] at ho6
 have HO5 := Lib.hid ho5; have HE5 := Lib.hid (And.intro hv5 hs6)
 have HF := Lib.hid (show rMsg s = (⟨4, v1, v2, v3, v5, 0, 0, v4, [], zE, zP⟩, s6) by
  rw [HF0.out]
  unfold mBody
  rw [if_neg (by decide)]; rw [if_neg (by decide)]; rw [if_neg (by decide)]; rw [if_pos rfl]
  simp only [FM, PR, enOf, hv1, hs2, hv2, hs3, hv3, hs4, hv4, hs5, hv5, hs6])
 clear HF0 hv1 hs2 ho1 hv2 hs3 ho2 hv3 hs4 ho3 hv4 hs5 ho4 hv5 hs6 ho5 ho6
 go_enter Tryz.func62, Tryz.ntmps62
 go_upto_region 2 with fail
 obtain ⟨g, hg⟩ : ∃ g, (w.alloc (.cells #[.int .i64 0, .int .i64 0, .int .i64 0, .int .i64 0, .int .i64 0, .int .i64 0, .int .i64 0, .bool false, .slice none 0 0, .int .i64 0, .int .i64 0, .int .i64 0, .slice none 0 0, .int .i64 0, .int .i64 0, .int .i64 0, .slice none 0 0] 34)).heap.size = g := ⟨_, rfl⟩
 have hg' : w.heap.size + 1 = g := by rw [← hg]; simp
 obtain ⟨w1, hw1⟩ : ∃ W, (w.alloc (.cells #[.int .i64 0, .int .i64 0, .int .i64 0, .int .i64 0, .int .i64 0, .int .i64 0, .int .i64 0, .bool false, .slice none 0 0, .int .i64 0, .int .i64 0, .int .i64 0, .slice none 0 0, .int .i64 0, .int .i64 0, .int .i64 0, .slice none 0 0] 34)).alloc (.cells #[.int .i64 0, .int .i64 0, .int .i64 0, .int .i64 0, .int .i64 0, .int .i64 0, .int .i64 0, .bool false, .slice none 0 0, .int .i64 0, .int .i64 0, .int .i64 0, .slice none 0 0, .int .i64 0, .int .i64 0, .int .i64 0, .slice none 0 0] 34) = W := ⟨_, rfl⟩
 rw [hg, hw1] at HT1
 rw [hw1, hg']
 clear hg hw1 hg'
 go_wp2_with fail
 have h4 := rdSmall_is HT1.out.i HT1.out.d HO0.out
 rw [HN.out.1, HN.out.2] at h4
 refine h4.mono ?_
 rintro e w2 ⟨rfl, h1, h2, h3⟩
 have HT2 := Lib.hid (HT1.out.call h1 h2 h3)
 clear h1 h2 h3 h4 HT1 HN
 have d0 : w2.cell? ⟨g, 0, none⟩ = some (.int .i64 0) := (blk_cell HT2.out.y 0).trans rfl
 have z0 : w2.frozen? ⟨g, 0, none⟩ = false := blk_frozen HT2.out.y 0
 go_upto_region 3 with fail
 have HT3 := Lib.hid (HT2.out.put 0 (.int .i64 4))
 obtain ⟨w3, hw⟩ : ∃ W, w2.setCell ⟨g, 0, none⟩ (.int .i64 4) = W := ⟨_, rfl⟩
 rw [hw] at HT3 ⊢
 clear hw HT2 d0 z0
 have c2 : w3.cell? ⟨x, 2, none⟩ = some (.int .i64 s1.e) := by
  obtain ⟨A, c, j, g1, _⟩ := HT3.out.i
  simp [World.cell?, g1]
 have hq := HQ.out
 have d0 : w3.cell? ⟨g, 0, none⟩ = some (.int .i64 4) := (blk_cell HT3.out.y 0).trans rfl
 go_wp2_with fail
 clear c2 hq d0
 have h4 := rdSmall_is HT3.out.i HT3.out.d HO1.out
 rw [HE1.out.1, HE1.out.2] at h4
 refine h4.mono ?_
 rintro e w4 ⟨rfl, h1, h2, h3⟩
 have HT4 := Lib.hid (HT3.out.call h1 h2 h3)
 clear h1 h2 h3 h4 HT3
 have d1 : w4.cell? ⟨g, 1, none⟩ = some (.int .i64 0) := (blk_cell HT4.out.y 1).trans rfl
 have z1 : w4.frozen? ⟨g, 1, none⟩ = false := blk_frozen HT4.out.y 1
 have d0 : w4.cell? ⟨g, 0, none⟩ = some (.int .i64 4) := (blk_cell HT4.out.y 0).trans rfl
 have z0 : w4.frozen? ⟨g, 0, none⟩ = false := blk_frozen HT4.out.y 0
 go_wp2_with fail
 have HT5 := Lib.hid (HT4.out.put 1 (.int .i64 v1))
 obtain ⟨w5, hw⟩ : ∃ W, (w4.setCell ⟨g, 1, none⟩ (.int .i64 v1)) = W := ⟨_, rfl⟩
 rw [hw] at HT5 ⊢
 clear hw HT4 d1 z1 d0 z0
 have h4 := rdSmall_is HT5.out.i HT5.out.d HO2.out
 rw [HE2.out.1, HE2.out.2] at h4
 refine h4.mono ?_
 rintro e w6 ⟨rfl, h1, h2, h3⟩
 have HT6 := Lib.hid (HT5.out.call h1 h2 h3)
 clear h1 h2 h3 h4 HT5
 have d2 : w6.cell? ⟨g, 2, none⟩ = some (.int .i64 0) := (blk_cell HT6.out.y 2).trans rfl
 have z2 : w6.frozen? ⟨g, 2, none⟩ = false := blk_frozen HT6.out.y 2
 have d0 : w6.cell? ⟨g, 0, none⟩ = some (.int .i64 4) := (blk_cell HT6.out.y 0).trans rfl
 have z0 : w6.frozen? ⟨g, 0, none⟩ = false := blk_frozen HT6.out.y 0
 go_wp2_with fail
 have HT7 := Lib.hid (HT6.out.put 2 (.int .i64 v2))
 obtain ⟨w7, hw⟩ : ∃ W, (w6.setCell ⟨g, 2, none⟩ (.int .i64 v2)) = W := ⟨_, rfl⟩
 rw [hw] at HT7 ⊢
 clear hw HT6 d2 z2 d0 z0
 have h4 := rdNum_is HT7.out.i HT7.out.d HO3.out
 rw [HE3.out.1, HE3.out.2] at h4
 refine h4.mono ?_
 rintro e w8 ⟨rfl, h1, h2, h3⟩
 have HT8 := Lib.hid (HT7.out.call h1 h2 h3)
 clear h1 h2 h3 h4 HT7
 have d3 : w8.cell? ⟨g, 3, none⟩ = some (.int .i64 0) := (blk_cell HT8.out.y 3).trans rfl
 have z3 : w8.frozen? ⟨g, 3, none⟩ = false := blk_frozen HT8.out.y 3
 have d0 : w8.cell? ⟨g, 0, none⟩ = some (.int .i64 4) := (blk_cell HT8.out.y 0).trans rfl
 have z0 : w8.frozen? ⟨g, 0, none⟩ = false := blk_frozen HT8.out.y 0
 go_wp2_with fail
 have HT9 := Lib.hid (HT8.out.put 3 (.int .i64 v3))
 obtain ⟨w9, hw⟩ : ∃ W, (w8.setCell ⟨g, 3, none⟩ (.int .i64 v3)) = W := ⟨_, rfl⟩
 rw [hw] at HT9 ⊢
 clear hw HT8 d3 z3 d0 z0
 have h4 := rdYes_is HT9.out.i HT9.out.d HO4.out
 rw [HE4.out.1, HE4.out.2] at h4
 refine h4.mono ?_
 rintro e w10 ⟨rfl, h1, h2, h3⟩
 have HT10 := Lib.hid (HT9.out.call h1 h2 h3)
 clear h1 h2 h3 h4 HT9
 have d7 : w10.cell? ⟨g, 7, none⟩ = some (.bool false) := (blk_cell HT10.out.y 7).trans rfl
 have z7 : w10.frozen? ⟨g, 7, none⟩ = false := blk_frozen HT10.out.y 7
 have d0 : w10.cell? ⟨g, 0, none⟩ = some (.int .i64 4) := (blk_cell HT10.out.y 0).trans rfl
 have z0 : w10.frozen? ⟨g, 0, none⟩ = false := blk_frozen HT10.out.y 0
 go_wp2_with fail
 have HT11 := Lib.hid (HT10.out.put 7 (.bool v4))
 obtain ⟨w11, hw⟩ : ∃ W, (w10.setCell ⟨g, 7, none⟩ (.bool v4)) = W := ⟨_, rfl⟩
 rw [hw] at HT11 ⊢
 clear hw HT10 d7 z7 d0 z0
 have h4 := rdNum_is HT11.out.i HT11.out.d HO5.out
 rw [HE5.out.1, HE5.out.2] at h4
 refine h4.mono ?_
 rintro e w12 ⟨rfl, h1, h2, h3⟩
 have HT12 := Lib.hid (HT11.out.call h1 h2 h3)
 clear h1 h2 h3 h4 HT11
 have d4 : w12.cell? ⟨g, 4, none⟩ = some (.int .i64 0) := (blk_cell HT12.out.y 4).trans rfl
 have z4 : w12.frozen? ⟨g, 4, none⟩ = false := blk_frozen HT12.out.y 4
 have d0 : w12.cell? ⟨g, 0, none⟩ = some (.int .i64 4) := (blk_cell HT12.out.y 0).trans rfl
 have z0 : w12.frozen? ⟨g, 0, none⟩ = false := blk_frozen HT12.out.y 0
 go_upto_region 28 with fail
 have HT13 := Lib.hid (HT12.out.put 4 (.int .i64 v5))
 obtain ⟨w13, hw⟩ : ∃ W, (w12.setCell ⟨g, 4, none⟩ (.int .i64 v5)) = W := ⟨_, rfl⟩
 rw [hw] at HT13 ⊢
 clear hw HT12 d4 z4 d0 z0
 have hT : Fr _ w0 w x g 34 _ #[.int .i64 4, .int .i64 v1, .int .i64 v2, .int .i64 v3, .int .i64 v5, .int .i64 0, .int .i64 0, .bool v4, .slice none 0 0, .int .i64 0, .int .i64 0, .int .i64 0, .slice none 0 0, .int .i64 0, .int .i64 0, .int .i64 0, .slice none 0 0] _ _ _ := HT13.out
 refine wp_region_list ?_
 refine wpList_load_row rfl 34 (.tmp 3) rfl g rfl 34 _ (0, 0) _ hT.y Tryz.underlying34 rfl (by kernel_rfl) ?_
 refine wpList_store_row rfl 34 (.tmp 2) (.tmp 78) rfl w.heap.size _ rfl rfl 34 _ hT.g0 (by kernel_rfl) rfl (by simp [Value.oneCell']) ?_
 go_wp2_with fail
 refine bodyPost_ret (results_cell_row rfl _ _ w.heap.size 34 _ (0, 0) _ rfl hT.fin.1 Tryz.underlying34 rfl (by kernel_rfl)) rfl ?_
 rw [HF.out]
 exact ⟨_, _, _, rfl, Kd.R_nil _ _ _ _ _, Kd.R_nil _ _ _ _ _, Kd.R_nil _ _ _ _ _, hT.fin.2.2.1, hT.fin.2.2.2.1, hT.fin.2.2.2.2⟩
end Go.Proofs.YtgiefblcckikeaaGreat.M
end

section
/- The reference's Reader: a message, kinds 3, 5, 6 (printed by genrdq04.py). -/
attribute [local irreducible] Go.wpStill
namespace Go.Proofs.YtgiefblcckikeaaGreat.M
open Go.RowKit Go.Proofs.YtgiefblcckikeaaGreatW.PrintWords Go.Proofs.YtgiefblcckikeaaGreatW.PrintLast Go.Proofs.YtgiefblcckikeaaGreatW.PrintMore Go.Proofs.YtgiefblcckikeaaGreat.G
set_option maxHeartbeats 4000000 in
theorem rdMsg3 {B : List Int} {w0 w : World} {x : Nat} {s : EyeS} (hI : IsRd B w0 w x s) (hB : Below w0.heap.size w0 w) (hok : okS s) (hk : (rSmall s).1 = 3) (he : (rSmall s).2.e = 0) :
  Calls Tryz.prog 62 #[.pointer (some ⟨x, 0, none⟩)] w fun e w' => MsP (fun W s => IsRd B w0 W x s) w0 w x (rMsg s).1 (rMsg s).2 e w' := by
 have HT1 := Lib.hid ((Fo.start (I := fun W s => IsRd B w0 W x s) (T := 34) (zs := #[.int .i64 0, .int .i64 0, .int .i64 0, .int .i64 0, .int .i64 0, .int .i64 0, .int .i64 0, .bool false, .slice none 0 0, .int .i64 0, .int .i64 0, .int .i64 0, .slice none 0 0, .int .i64 0, .int .i64 0, .int .i64 0, .slice none 0 0]) hI hB hI.lt hI.ge (fun _ _ _ e h => h.at e)).lay #[.int .i64 0, .int .i64 0, .int .i64 0, .int .i64 0, .int .i64 0, .int .i64 0, .int .i64 0, .bool false, .slice none 0 0, .int .i64 0, .int .i64 0, .int .i64 0, .slice none 0 0, .int .i64 0, .int .i64 0, .int .i64 0, .slice none 0 0])
 obtain ⟨s0, hs0⟩ : ∃ s0, (rSmall s).2 = s0 := ⟨_, rfl⟩
 have HN := Lib.hid (And.intro hk hs0)
 have HO0 := Lib.hid hok
 have ho1 := okS_rsmall hok
 rw [hs0] at ho1 he
 obtain ⟨s1, hs1⟩ : ∃ s1, s0 = s1 := ⟨_, rfl⟩
 rw [hs1] at hs0 ho1 he HN
 have HF0 := Lib.hid (show rMsg s = mBody rSmall rEntry (eList rTr) 3 s1 by
  have hm : rMk s = s1 := by unfold rMk; rw [hk, hs0]; exact eWrong_false _
  unfold rMsg
  rw [hm, hk])
 have HQ := Lib.hid (show (s1.e == 0) = true by rw [he]; rfl)
 clear hI hB hok hk hs0 hs1 he
 obtain ⟨v1, hv1⟩ : ∃ v, (rSmall s1).1 = v := ⟨_, rfl⟩
 obtain ⟨s2, hs2⟩ : ∃ t, (rSmall s1).2 = t := ⟨_, rfl⟩
 have ho2 := okS_rsmall ho1
 rw [hs2] at ho2
 have HO1 := Lib.hid ho1; have HE1 := Lib.hid (And.intro hv1 hs2)
 obtain ⟨v2, hv2⟩ : ∃ v, (rSmall s2).1 = v := ⟨_, rfl⟩
 obtain ⟨s3, hs3⟩ : ∃ t, (rSmall s2).2 = t := ⟨_, rfl⟩
 have ho3 := okS_rsmall ho2
 rw [hs3] at ho3
 have HO2 := Lib.hid ho2; have HE2 := Lib.hid (And.intro hv2 hs3)
 obtain ⟨v3, hv3⟩ : ∃ v, (eNum s3).1 = v := ⟨_, rfl⟩
 obtain ⟨s4, hs4⟩ : ∃ t, (eNum s3).2 = t := ⟨_, rfl⟩
 have ho4 := okS_num ho3
 rw [hs4] at ho4
 have HO3 := Lib.hid ho3; have HE3 := Lib.hid (And.intro hv3 hs4)
 obtain ⟨v4, hv4⟩ : ∃ v, (eNum s4).1 = v := ⟨_, rfl⟩
 obtain ⟨s5, hs5⟩ : ∃ t, (eNum s4).2 = t := ⟨_, rfl⟩
 have ho5 := okS_num ho4
 rw [hs5] at ho5
 have HO4 := Lib.hid ho4; have HE4 := Lib.hid (And.intro hv4 hs5)
 obtain ⟨v5, hv5⟩ : ∃ v, (eNum s5).1 = v := ⟨_, rfl⟩
 obtain ⟨s6, hs6⟩ : ∃ t, (eNum s5).2 = t := ⟨_, rfl⟩
 have ho6 := okS_num ho5
 rw [hs6] at ho6
 have HO5 := Lib.hid ho5; have HE5 := Lib.hid (And.intro hv5 hs6)
 obtain ⟨v6, hv6⟩ : ∃ v, (eNum s6).1 = v := ⟨_, rfl⟩
 obtain ⟨s7, hs7⟩ : ∃ t, (eNum s6).2 = t := ⟨_, rfl⟩
 have ho7 := okS_num ho6
 rw [hs7] at ho7
 have HO6 := Lib.hid ho6; have HE6 := Lib.hid (And.intro hv6 hs7)
 obtain ⟨v7, hv7⟩ : ∃ v, ((eList rTr) s7).1 = v := ⟨_, rfl⟩
 obtain ⟨s8, hs8⟩ : ∃ t, ((eList rTr) s7).2 = t := ⟨_, rfl⟩
 have ho8 := okS_rtrs ho7
 rw [hs8] at ho8
 have HO7 := Lib.hid ho7; have HE7 := Lib.hid (And.intro hv7 hs8)
 have HF := Lib.hid (show rMsg s = (⟨3, v1, v2, v3, v4, v5, v6, false, v7, zE, zP⟩, s8) by
  rw [HF0.out]
  unfold mBody
  rw [if_neg (by decide)]; rw [if_neg (by decide)]; rw [if_pos rfl]
  simp only [FM, PR, enOf, hv1, hs2, hv2, hs3, hv3, hs4, hv4, hs5, hv5, hs6, hv6, hs7, hv7, hs8])
 clear HF0 hv1 hs2 ho1 hv2 hs3 ho2 hv3 hs4 ho3 hv4 hs5 ho4 hv5 hs6 ho5 hv6 hs7 ho6 hv7 hs8 ho7 ho8
 go_enter Tryz.func62, Tryz.ntmps62
 go_upto_region 2 with fail
 obtain ⟨g, hg⟩ : ∃ g, (w.alloc (.cells #[.int .i64 0, .int .i64 0, .int .i64 0, .int .i64 0, .int .i64 0, .int .i64 0, .int .i64 0, .bool false, .slice none 0 0, .int .i64 0, .int .i64 0, .int .i64 0, .slice none 0 0, .int .i64 0, .int .i64 0, .int .i64 0, .slice none 0 0] 34)).heap.size = g := ⟨_, rfl⟩
 have hg' : w.heap.size + 1 = g := by rw [← hg]; simp
 obtain ⟨w1, hw1⟩ : ∃ W, (w.alloc (.cells #[.int .i64 0, .int .i64 0, .int .i64 0, .int .i64 0, .int .i64 0, .int .i64 0, .int .i64 0, .bool false, .slice none 0 0, .int .i64 0, .int .i64 0, .int .i64 0, .slice none 0 0, .int .i64 0, .int .i64 0, .int .i64 0, .slice none 0 0] 34)).alloc (.cells #[.int .i64 0, .int .i64 0, .int .i64 0, .int .i64 0, .int .i64 0, .int .i64 0, .int .i64 0, .bool false, .slice none 0 0, .int .i64 0, .int .i64 0, .int .i64 0, .slice none 0 0, .int .i64 0, .int .i64 0, .int .i64 0, .slice none 0 0] 34) = W := ⟨_, rfl⟩
 rw [hg, hw1] at HT1
 rw [hw1, hg']
 clear hg hw1 hg'
 go_wp2_with fail
 have h4 := rdSmall_is HT1.out.i HT1.out.d HO0.out
 rw [HN.out.1, HN.out.2] at h4
 refine h4.mono ?_
 rintro e w2 ⟨rfl, h1, h2, h3⟩
 have HT2 := Lib.hid (HT1.out.call h1 h2 h3)
 clear h1 h2 h3 h4 HT1 HN
 have d0 : w2.cell? ⟨g, 0, none⟩ = some (.int .i64 0) := (blk_cell HT2.out.y 0).trans rfl
 have z0 : w2.frozen? ⟨g, 0, none⟩ = false := blk_frozen HT2.out.y 0
 go_upto_region 3 with fail
 have HT3 := Lib.hid (HT2.out.put 0 (.int .i64 3))
 obtain ⟨w3, hw⟩ : ∃ W, w2.setCell ⟨g, 0, none⟩ (.int .i64 3) = W := ⟨_, rfl⟩
 rw [hw] at HT3 ⊢
 clear hw HT2 d0 z0
 have c2 : w3.cell? ⟨x, 2, none⟩ = some (.int .i64 s1.e) := by
  obtain ⟨A, c, j, g1, _⟩ := HT3.out.i
  simp [World.cell?, g1]
 have hq := HQ.out
 have d0 : w3.cell? ⟨g, 0, none⟩ = some (.int .i64 3) := (blk_cell HT3.out.y 0).trans rfl
 go_wp2_with fail
 clear c2 hq d0
 have h4 := rdSmall_is HT3.out.i HT3.out.d HO1.out
 rw [HE1.out.1, HE1.out.2] at h4
 refine h4.mono ?_
 rintro e w4 ⟨rfl, h1, h2, h3⟩
 have HT4 := Lib.hid (HT3.out.call h1 h2 h3)
 clear h1 h2 h3 h4 HT3
 have d1 : w4.cell? ⟨g, 1, none⟩ = some (.int .i64 0) := (blk_cell HT4.out.y 1).trans rfl
 have z1 : w4.frozen? ⟨g, 1, none⟩ = false := blk_frozen HT4.out.y 1
 have d0 : w4.cell? ⟨g, 0, none⟩ = some (.int .i64 3) := (blk_cell HT4.out.y 0).trans rfl
 have z0 : w4.frozen? ⟨g, 0, none⟩ = false := blk_frozen HT4.out.y 0
 go_wp2_with fail
 have HT5 := Lib.hid (HT4.out.put 1 (.int .i64 v1))
 obtain ⟨w5, hw⟩ : ∃ W, (w4.setCell ⟨g, 1, none⟩ (.int .i64 v1)) = W := ⟨_, rfl⟩
 rw [hw] at HT5 ⊢
 clear hw HT4 d1 z1 d0 z0
 have h4 := rdSmall_is HT5.out.i HT5.out.d HO2.out
 rw [HE2.out.1, HE2.out.2] at h4
 refine h4.mono ?_
 rintro e w6 ⟨rfl, h1, h2, h3⟩
 have HT6 := Lib.hid (HT5.out.call h1 h2 h3)
 clear h1 h2 h3 h4 HT5
 have d2 : w6.cell? ⟨g, 2, none⟩ = some (.int .i64 0) := (blk_cell HT6.out.y 2).trans rfl
 have z2 : w6.frozen? ⟨g, 2, none⟩ = false := blk_frozen HT6.out.y 2
 have d0 : w6.cell? ⟨g, 0, none⟩ = some (.int .i64 3) := (blk_cell HT6.out.y 0).trans rfl
 have z0 : w6.frozen? ⟨g, 0, none⟩ = false := blk_frozen HT6.out.y 0
 go_wp2_with fail
 have HT7 := Lib.hid (HT6.out.put 2 (.int .i64 v2))
 obtain ⟨w7, hw⟩ : ∃ W, (w6.setCell ⟨g, 2, none⟩ (.int .i64 v2)) = W := ⟨_, rfl⟩
 rw [hw] at HT7 ⊢
 clear hw HT6 d2 z2 d0 z0
 have h4 := rdNum_is HT7.out.i HT7.out.d HO3.out
 rw [HE3.out.1, HE3.out.2] at h4
 refine h4.mono ?_
 rintro e w8 ⟨rfl, h1, h2, h3⟩
 have HT8 := Lib.hid (HT7.out.call h1 h2 h3)
 clear h1 h2 h3 h4 HT7
 have d3 : w8.cell? ⟨g, 3, none⟩ = some (.int .i64 0) := (blk_cell HT8.out.y 3).trans rfl
 have z3 : w8.frozen? ⟨g, 3, none⟩ = false := blk_frozen HT8.out.y 3
 have d0 : w8.cell? ⟨g, 0, none⟩ = some (.int .i64 3) := (blk_cell HT8.out.y 0).trans rfl
 have z0 : w8.frozen? ⟨g, 0, none⟩ = false := blk_frozen HT8.out.y 0
 go_wp2_with fail
 have HT9 := Lib.hid (HT8.out.put 3 (.int .i64 v3))
 obtain ⟨w9, hw⟩ : ∃ W, (w8.setCell ⟨g, 3, none⟩ (.int .i64 v3)) = W := ⟨_, rfl⟩
 rw [hw] at HT9 ⊢
 clear hw HT8 d3 z3 d0 z0
 have h4 := rdNum_is HT9.out.i HT9.out.d HO4.out
 rw [HE4.out.1, HE4.out.2] at h4
 refine h4.mono ?_
 rintro e w10 ⟨rfl, h1, h2, h3⟩
 have HT10 := Lib.hid (HT9.out.call h1 h2 h3)
 clear h1 h2 h3 h4 HT9
 have d4 : w10.cell? ⟨g, 4, none⟩ = some (.int .i64 0) := (blk_cell HT10.out.y 4).trans rfl
 have z4 : w10.frozen? ⟨g, 4, none⟩ = false := blk_frozen HT10.out.y 4
 have d0 : w10.cell? ⟨g, 0, none⟩ = some (.int .i64 3) := (blk_cell HT10.out.y 0).trans rfl
 have z0 : w10.frozen? ⟨g, 0, none⟩ = false := blk_frozen HT10.out.y 0
 go_wp2_with fail
 have HT11 := Lib.hid (HT10.out.put 4 (.int .i64 v4))
 obtain ⟨w11, hw⟩ : ∃ W, (w10.setCell ⟨g, 4, none⟩ (.int .i64 v4)) = W := ⟨_, rfl⟩
 rw [hw] at HT11 ⊢
 clear hw HT10 d4 z4 d0 z0
 have h4 := rdNum_is HT11.out.i HT11.out.d HO5.out
 rw [HE5.out.1, HE5.out.2] at h4
 refine h4.mono ?_
 rintro e w12 ⟨rfl, h1, h2, h3⟩
 have HT12 := Lib.hid (HT11.out.call h1 h2 h3)
 clear h1 h2 h3 h4 HT11
 have d5 : w12.cell? ⟨g, 5, none⟩ = some (.int .i64 0) := (blk_cell HT12.out.y 5).trans rfl
 have z5 : w12.frozen? ⟨g, 5, none⟩ = false := blk_frozen HT12.out.y 5
 have d0 : w12.cell? ⟨g, 0, none⟩ = some (.int .i64 3) := (blk_cell HT12.out.y 0).trans rfl
 have z0 : w12.frozen? ⟨g, 0, none⟩ = false := blk_frozen HT12.out.y 0
 go_wp2_with fail
 have HT13 := Lib.hid (HT12.out.put 5 (.int .i64 v5))
 obtain ⟨w13, hw⟩ : ∃ W, (w12.setCell ⟨g, 5, none⟩ (.int .i64 v5)) = W := ⟨_, rfl⟩
 rw [hw] at HT13 ⊢
 clear hw HT12 d5 z5 d0 z0
 have h4 := rdNum_is HT13.out.i HT13.out.d HO6.out
 rw [HE6.out.1, HE6.out.2] at h4
 refine h4.mono ?_
 rintro e w14 ⟨rfl, h1, h2, h3⟩
 have HT14 := Lib.hid (HT13.out.call h1 h2 h3)
 clear h1 h2 h3 h4 HT13
 have d6 : w14.cell? ⟨g, 6, none⟩ = some (.int .i64 0) := (blk_cell HT14.out.y 6).trans rfl
 have z6 : w14.frozen? ⟨g, 6, none⟩ = false := blk_frozen HT14.out.y 6
 have d0 : w14.cell? ⟨g, 0, none⟩ = some (.int .i64 3) := (blk_cell HT14.out.y 0).trans rfl
 have z0 : w14.frozen? ⟨g, 0, none⟩ = false := blk_frozen HT14.out.y 0
 go_wp2_with fail
 have HT15 := Lib.hid (HT14.out.put 6 (.int .i64 v6))
 obtain ⟨w15, hw⟩ : ∃ W, (w14.setCell ⟨g, 6, none⟩ (.int .i64 v6)) = W := ⟨_, rfl⟩
 rw [hw] at HT15 ⊢
 clear hw HT14 d6 z6 d0 z0
 have h4 := rdList_is HT15.out.i HT15.out.d HO7.out
 rw [HE7.out.1, HE7.out.2] at h4
 refine h4.mono ?_
 rintro e w16 ⟨v_, rfl, hv, h1, h2, h3⟩
 obtain ⟨A8, c8, rfl⟩ := Kd.R_slice hv
 have HT16 := Lib.hid (HT15.out.callR h1 h2 h3 hv)
 have HLO16 := Lib.hid (show w15.heap.size ≤ w16.heap.size from h3.size)
 clear h1 h2 h3 h4 hv HT15
 have d8 : w16.cell? ⟨g, 8, none⟩ = some (.slice none 0 0) := (blk_cell HT16.out.y 8).trans rfl
 have z8 : w16.frozen? ⟨g, 8, none⟩ = false := blk_frozen HT16.out.y 8
 have d0 : w16.cell? ⟨g, 0, none⟩ = some (.int .i64 3) := (blk_cell HT16.out.y 0).trans rfl
 have z0 : w16.frozen? ⟨g, 0, none⟩ = false := blk_frozen HT16.out.y 0
 go_upto_region 28 with fail
 have HT17 := Lib.hid (HT16.out.put 8 (.slice A8 v7.length c8))
 obtain ⟨w17, hw⟩ : ∃ W, (w16.setCell ⟨g, 8, none⟩ (.slice A8 v7.length c8)) = W := ⟨_, rfl⟩
 rw [hw] at HT17 ⊢
 clear hw HT16 d8 z8 d0 z0
 have hT : Fr _ w0 w x g 34 _ #[.int .i64 3, .int .i64 v1, .int .i64 v2, .int .i64 v3, .int .i64 v4, .int .i64 v5, .int .i64 v6, .bool false, .slice A8 v7.length c8, .int .i64 0, .int .i64 0, .int .i64 0, .slice none 0 0, .int .i64 0, .int .i64 0, .int .i64 0, .slice none 0 0] _ _ _ := HT17.out
 refine wp_region_list ?_
 refine wpList_load_row rfl 34 (.tmp 3) rfl g rfl 34 _ (0, 0) _ hT.y Tryz.underlying34 rfl (by kernel_rfl) ?_
 refine wpList_store_row rfl 34 (.tmp 2) (.tmp 78) rfl w.heap.size _ rfl rfl 34 _ hT.g0 (by kernel_rfl) rfl (by simp [Value.oneCell']) ?_
 go_wp2_with fail
 refine bodyPost_ret (results_cell_row rfl _ _ w.heap.size 34 _ (0, 0) _ rfl hT.fin.1 Tryz.underlying34 rfl (by kernel_rfl)) rfl ?_
 rw [HF.out]
 exact ⟨_, _, _, rfl, Kd.R_mono hT.fin.2.1.2 (fun _ _ => trivial), Kd.R_nil _ _ _ _ _, Kd.R_nil _ _ _ _ _, hT.fin.2.2.1, hT.fin.2.2.2.1, hT.fin.2.2.2.2⟩
set_option maxHeartbeats 4000000 in
theorem rdMsg5 {B : List Int} {w0 w : World} {x : Nat} {s : EyeS} (hI : IsRd B w0 w x s) (hB : Below w0.heap.size w0 w) (hok : okS s) (hk : (rSmall s).1 = 5) (he : (rSmall s).2.e = 0) :
  Calls Tryz.prog 62 #[.pointer (some ⟨x, 0, none⟩)] w fun e w' => MsP (fun W s => IsRd B w0 W x s) w0 w x (rMsg s).1 (rMsg s).2 e w' := by
 have HT1 := Lib.hid ((Fo.start (I := fun W s => IsRd B w0 W x s) (T := 34) (zs := #[.int .i64 0, .int .i64 0, .int .i64 0, .int .i64 0, .int .i64 0, .int .i64 0, .int .i64 0, .bool false, .slice none 0 0, .int .i64 0, .int .i64 0, .int .i64 0, .slice none 0 0, .int .i64 0, .int .i64 0, .int .i64 0, .slice none 0 0]) hI hB hI.lt hI.ge (fun _ _ _ e h => h.at e)).lay #[.int .i64 0, .int .i64 0, .int .i64 0, .int .i64 0, .int .i64 0, .int .i64 0, .int .i64 0, .bool false, .slice none 0 0, .int .i64 0, .int .i64 0, .int .i64 0, .slice none 0 0, .int .i64 0, .int .i64 0, .int .i64 0, .slice none 0 0])
 obtain ⟨s0, hs0⟩ : ∃ s0, (rSmall s).2 = s0 := ⟨_, rfl⟩
 have HN := Lib.hid (And.intro hk hs0)
 have HO0 := Lib.hid hok
 have ho1 := okS_rsmall hok
 rw [hs0] at ho1 he
 obtain ⟨s1, hs1⟩ : ∃ s1, s0 = s1 := ⟨_, rfl⟩
 rw [hs1] at hs0 ho1 he HN
 have HF0 := Lib.hid (show rMsg s = mBody rSmall rEntry (eList rTr) 5 s1 by
  have hm : rMk s = s1 := by unfold rMk; rw [hk, hs0]; exact eWrong_false _
  unfold rMsg
  rw [hm, hk])
 have HQ := Lib.hid (show (s1.e == 0) = true by rw [he]; rfl)
 clear hI hB hok hk hs0 hs1 he
 obtain ⟨v1, hv1⟩ : ∃ v, (rSmall s1).1 = v := ⟨_, rfl⟩
 obtain ⟨s2, hs2⟩ : ∃ t, (rSmall s1).2 = t := ⟨_, rfl⟩
 have ho2 := okS_rsmall ho1
 rw [hs2] at ho2
 have HO1 := Lib.hid ho1; have HE1 := Lib.hid (And.intro hv1 hs2)
 obtain ⟨v2, hv2⟩ : ∃ v, (rSmall s2).1 = v := ⟨_, rfl⟩
 obtain ⟨s3, hs3⟩ : ∃ t, (rSmall s2).2 = t := ⟨_, rfl⟩
 have ho3 := okS_rsmall ho2
 rw [hs3] at ho3
 have HO2 := Lib.hid ho2; have HE2 := Lib.hid (And.intro hv2 hs3)
 obtain ⟨v3, hv3⟩ : ∃ v, (eNum s3).1 = v := ⟨_, rfl⟩
 obtain ⟨s4, hs4⟩ : ∃ t, (eNum s3).2 = t := ⟨_, rfl⟩
 have ho4 := okS_num ho3
 rw [hs4] at ho4
 have HO3 := Lib.hid ho3; have HE3 := Lib.hid (And.intro hv3 hs4)
 obtain ⟨v4, hv4⟩ : ∃ v, (eNum s4).1 = v := ⟨_, rfl⟩
 obtain ⟨s5, hs5⟩ : ∃ t, (eNum s4).2 = t := ⟨_, rfl⟩
 have ho5 := okS_num ho4
 rw [hs5] at ho5
 have HO4 := Lib.hid ho4; have HE4 := Lib.hid (And.intro hv4 hs5)
 obtain ⟨v5, hv5⟩ : ∃ v, (eNum s5).1 = v := ⟨_, rfl⟩
 obtain ⟨s6, hs6⟩ : ∃ t, (eNum s5).2 = t := ⟨_, rfl⟩
 have ho6 := okS_num ho5
 rw [hs6] at ho6
 have HO5 := Lib.hid ho5; have HE5 := Lib.hid (And.intro hv5 hs6)
 obtain ⟨⟨y0, y1, y2, yl⟩, hv6⟩ : ∃ v, ((ptOf rSmall) s6).1 = v := ⟨_, rfl⟩
 obtain ⟨s7, hs7⟩ : ∃ t, ((ptOf rSmall) s6).2 = t := ⟨_, rfl⟩
 have ho7 := okS_part ho6
 rw [hs7] at ho7
 have HO6 := Lib.hid ho6; have HE6 := Lib.hid (And.intro hv6 hs7)
 have HF := Lib.hid (show rMsg s = (⟨5, v1, v2, v3, v4, v5, 0, false, [], zE, ⟨y0, y1, y2, yl⟩⟩, s7) by
  rw [HF0.out]
  unfold mBody
  rw [if_neg (by decide)]; rw [if_neg (by decide)]; rw [if_neg (by decide)]; rw [if_neg (by decide)]; rw [if_pos rfl]
  simp only [FM, PR, enOf, hv1, hs2, hv2, hs3, hv3, hs4, hv4, hs5, hv5, hs6, hv6, hs7])
 clear HF0 hv1 hs2 ho1 hv2 hs3 ho2 hv3 hs4 ho3 hv4 hs5 ho4 hv5 hs6 ho5 hv6 hs7 ho6 ho7
 go_enter Tryz.func62, Tryz.ntmps62
 go_upto_region 2 with fail
 obtain ⟨g, hg⟩ : ∃ g, (w.alloc (.cells #[.int .i64 0, .int .i64 0, .int .i64 0, .int .i64 0, .int .i64 0, .int .i64 0, .int .i64 0, .bool false, .slice none 0 0, .int .i64 0, .int .i64 0, .int .i64 0, .slice none 0 0, .int .i64 0, .int .i64 0, .int .i64 0, .slice none 0 0] 34)).heap.size = g := ⟨_, rfl⟩
 have hg' : w.heap.size + 1 = g := by rw [← hg]; simp
 obtain ⟨w1, hw1⟩ : ∃ W, (w.alloc (.cells #[.int .i64 0, .int .i64 0, .int .i64 0, .int .i64 0, .int .i64 0, .int .i64 0, .int .i64 0, .bool false, .slice none 0 0, .int .i64 0, .int .i64 0, .int .i64 0, .slice none 0 0, .int .i64 0, .int .i64 0, .int .i64 0, .slice none 0 0] 34)).alloc (.cells #[.int .i64 0, .int .i64 0, .int .i64 0, .int .i64 0, .int .i64 0, .int .i64 0, .int .i64 0, .bool false, .slice none 0 0, .int .i64 0, .int .i64 0, .int .i64 0, .slice none 0 0, .int .i64 0, .int .i64 0, .int .i64 0, .slice none 0 0] 34) = W := ⟨_, rfl⟩
 rw [hg, hw1] at HT1
 rw [hw1, hg']
 clear hg hw1 hg'
 go_wp2_with fail
 have h4 := rdSmall_is HT1.out.i HT1.out.d HO0.out
 rw [HN.out.1, HN.out.2] at h4
 refine h4.mono ?_
 rintro e w2 ⟨rfl, h1, h2, h3⟩
 have HT2 := Lib.hid (HT1.out.call h1 h2 h3)
 clear h1 h2 h3 h4 HT1 HN
 have d0 : w2.cell? ⟨g, 0, none⟩ = some (.int .i64 0) := (blk_cell HT2.out.y 0).trans rfl
 have z0 : w2.frozen? ⟨g, 0, none⟩ = false := blk_frozen HT2.out.y 0
 go_upto_region 3 with fail
 have HT3 := Lib.hid (HT2.out.put 0 (.int .i64 5))
 obtain ⟨w3, hw⟩ : ∃ W, w2.setCell ⟨g, 0, none⟩ (.int .i64 5) = W := ⟨_, rfl⟩
 rw [hw] at HT3 ⊢
 clear hw HT2 d0 z0
 have c2 : w3.cell? ⟨x, 2, none⟩ = some (.int .i64 s1.e) := by
  obtain ⟨A, c, j, g1, _⟩ := HT3.out.i
  simp [World.cell?, g1]
 have hq := HQ.out
 have d0 : w3.cell? ⟨g, 0, none⟩ = some (.int .i64 5) := (blk_cell HT3.out.y 0).trans rfl
 go_wp2_with fail
 clear c2 hq d0
 have h4 := rdSmall_is HT3.out.i HT3.out.d HO1.out
 rw [HE1.out.1, HE1.out.2] at h4
 refine h4.mono ?_
 rintro e w4 ⟨rfl, h1, h2, h3⟩
 have HT4 := Lib.hid (HT3.out.call h1 h2 h3)
 clear h1 h2 h3 h4 HT3
 have d1 : w4.cell? ⟨g, 1, none⟩ = some (.int .i64 0) := (blk_cell HT4.out.y 1).trans rfl
 have z1 : w4.frozen? ⟨g, 1, none⟩ = false := blk_frozen HT4.out.y 1
 have d0 : w4.cell? ⟨g, 0, none⟩ = some (.int .i64 5) := (blk_cell HT4.out.y 0).trans rfl
 have z0 : w4.frozen? ⟨g, 0, none⟩ = false := blk_frozen HT4.out.y 0
 go_wp2_with fail
 have HT5 := Lib.hid (HT4.out.put 1 (.int .i64 v1))
 obtain ⟨w5, hw⟩ : ∃ W, (w4.setCell ⟨g, 1, none⟩ (.int .i64 v1)) = W := ⟨_, rfl⟩
 rw [hw] at HT5 ⊢
 clear hw HT4 d1 z1 d0 z0
 have h4 := rdSmall_is HT5.out.i HT5.out.d HO2.out
 rw [HE2.out.1, HE2.out.2] at h4
 refine h4.mono ?_
 rintro e w6 ⟨rfl, h1, h2, h3⟩
 have HT6 := Lib.hid (HT5.out.call h1 h2 h3)
 clear h1 h2 h3 h4 HT5
 have d2 : w6.cell? ⟨g, 2, none⟩ = some (.int .i64 0) := (blk_cell HT6.out.y 2).trans rfl
 have z2 : w6.frozen? ⟨g, 2, none⟩ = false := blk_frozen HT6.out.y 2
 have d0 : w6.cell? ⟨g, 0, none⟩ = some (.int .i64 5) := (blk_cell HT6.out.y 0).trans rfl
 have z0 : w6.frozen? ⟨g, 0, none⟩ = false := blk_frozen HT6.out.y 0
 go_wp2_with fail
 have HT7 := Lib.hid (HT6.out.put 2 (.int .i64 v2))
 obtain ⟨w7, hw⟩ : ∃ W, (w6.setCell ⟨g, 2, none⟩ (.int .i64 v2)) = W := ⟨_, rfl⟩
 rw [hw] at HT7 ⊢
 clear hw HT6 d2 z2 d0 z0
 have h4 := rdNum_is HT7.out.i HT7.out.d HO3.out
 rw [HE3.out.1, HE3.out.2] at h4
 refine h4.mono ?_
 rintro e w8 ⟨rfl, h1, h2, h3⟩
 have HT8 := Lib.hid (HT7.out.call h1 h2 h3)
 clear h1 h2 h3 h4 HT7
 have d3 : w8.cell? ⟨g, 3, none⟩ = some (.int .i64 0) := (blk_cell HT8.out.y 3).trans rfl
 have z3 : w8.frozen? ⟨g, 3, none⟩ = false := blk_frozen HT8.out.y 3
 have d0 : w8.cell? ⟨g, 0, none⟩ = some (.int .i64 5) := (blk_cell HT8.out.y 0).trans rfl
 have z0 : w8.frozen? ⟨g, 0, none⟩ = false := blk_frozen HT8.out.y 0
 go_wp2_with fail
 have HT9 := Lib.hid (HT8.out.put 3 (.int .i64 v3))
 obtain ⟨w9, hw⟩ : ∃ W, (w8.setCell ⟨g, 3, none⟩ (.int .i64 v3)) = W := ⟨_, rfl⟩
 rw [hw] at HT9 ⊢
 clear hw HT8 d3 z3 d0 z0
 have h4 := rdNum_is HT9.out.i HT9.out.d HO4.out
 rw [HE4.out.1, HE4.out.2] at h4
 refine h4.mono ?_
 rintro e w10 ⟨rfl, h1, h2, h3⟩
 have HT10 := Lib.hid (HT9.out.call h1 h2 h3)
 clear h1 h2 h3 h4 HT9
 have d4 : w10.cell? ⟨g, 4, none⟩ = some (.int .i64 0) := (blk_cell HT10.out.y 4).trans rfl
 have z4 : w10.frozen? ⟨g, 4, none⟩ = false := blk_frozen HT10.out.y 4
 have d0 : w10.cell? ⟨g, 0, none⟩ = some (.int .i64 5) := (blk_cell HT10.out.y 0).trans rfl
 have z0 : w10.frozen? ⟨g, 0, none⟩ = false := blk_frozen HT10.out.y 0
 go_wp2_with fail
 have HT11 := Lib.hid (HT10.out.put 4 (.int .i64 v4))
 obtain ⟨w11, hw⟩ : ∃ W, (w10.setCell ⟨g, 4, none⟩ (.int .i64 v4)) = W := ⟨_, rfl⟩
 rw [hw] at HT11 ⊢
 clear hw HT10 d4 z4 d0 z0
 have h4 := rdNum_is HT11.out.i HT11.out.d HO5.out
 rw [HE5.out.1, HE5.out.2] at h4
 refine h4.mono ?_
 rintro e w12 ⟨rfl, h1, h2, h3⟩
 have HT12 := Lib.hid (HT11.out.call h1 h2 h3)
 clear h1 h2 h3 h4 HT11
 have d5 : w12.cell? ⟨g, 5, none⟩ = some (.int .i64 0) := (blk_cell HT12.out.y 5).trans rfl
 have z5 : w12.frozen? ⟨g, 5, none⟩ = false := blk_frozen HT12.out.y 5
 have d0 : w12.cell? ⟨g, 0, none⟩ = some (.int .i64 5) := (blk_cell HT12.out.y 0).trans rfl
 have z0 : w12.frozen? ⟨g, 0, none⟩ = false := blk_frozen HT12.out.y 0
 go_wp2_with fail
 have HT13 := Lib.hid (HT12.out.put 5 (.int .i64 v5))
 obtain ⟨w13, hw⟩ : ∃ W, (w12.setCell ⟨g, 5, none⟩ (.int .i64 v5)) = W := ⟨_, rfl⟩
 rw [hw] at HT13 ⊢
 clear hw HT12 d5 z5 d0 z0
 have h4 := rdPart_is HT13.out.i HT13.out.d HO6.out
 rw [HE6.out.1, HE6.out.2] at h4
 refine h4.mono ?_
 rintro e w14 ⟨v_, rfl, hv, h1, h2, h3⟩
 have hv : Kd.R (Kd.int .u8) 5 w14 w13.heap.size (fun _ => True) v_ yl := hv
 obtain ⟨A16, c16, rfl⟩ := Kd.R_slice hv
 have HT14 := Lib.hid (HT13.out.callR h1 h2 h3 hv)
 clear h1 h2 h3 h4 hv HT13
 have d13 : w14.cell? ⟨g, 13, none⟩ = some (.int .i64 0) := (blk_cell HT14.out.y 13).trans rfl
 have z13 : w14.frozen? ⟨g, 13, none⟩ = false := blk_frozen HT14.out.y 13
 have d14 : w14.cell? ⟨g, 14, none⟩ = some (.int .i64 0) := (blk_cell HT14.out.y 14).trans rfl
 have z14 : w14.frozen? ⟨g, 14, none⟩ = false := blk_frozen HT14.out.y 14
 have d15 : w14.cell? ⟨g, 15, none⟩ = some (.int .i64 0) := (blk_cell HT14.out.y 15).trans rfl
 have z15 : w14.frozen? ⟨g, 15, none⟩ = false := blk_frozen HT14.out.y 15
 have d16 : w14.cell? ⟨g, 16, none⟩ = some (.slice none 0 0) := (blk_cell HT14.out.y 16).trans rfl
 have z16 : w14.frozen? ⟨g, 16, none⟩ = false := blk_frozen HT14.out.y 16
 have d0 : w14.cell? ⟨g, 0, none⟩ = some (.int .i64 5) := (blk_cell HT14.out.y 0).trans rfl
 have z0 : w14.frozen? ⟨g, 0, none⟩ = false := blk_frozen HT14.out.y 0
 go_upto_region 28 with fail
 have HT15 := Lib.hid ((((HT14.out.put 13 (.int .i64 y0)).put 14 (.int .i64 y1)).put 15 (.int .i64 y2)).put 16 (.slice A16 yl.length c16))
 obtain ⟨w15, hw⟩ : ∃ W, ((((w14.setCell ⟨g, 13, none⟩ (.int .i64 y0)).setCell ⟨g, 14, none⟩ (.int .i64 y1)).setCell ⟨g, 15, none⟩ (.int .i64 y2)).setCell ⟨g, 16, none⟩ (.slice A16 yl.length c16)) = W := ⟨_, rfl⟩
 rw [hw] at HT15 ⊢
 clear hw HT14 d13 z13 d14 z14 d15 z15 d16 z16 d0 z0
 have hT : Fr _ w0 w x g 34 _ #[.int .i64 5, .int .i64 v1, .int .i64 v2, .int .i64 v3, .int .i64 v4, .int .i64 v5, .int .i64 0, .bool false, .slice none 0 0, .int .i64 0, .int .i64 0, .int .i64 0, .slice none 0 0, .int .i64 y0, .int .i64 y1, .int .i64 y2, .slice A16 yl.length c16] _ _ _ := HT15.out
 refine wp_region_list ?_
 refine wpList_load_row rfl 34 (.tmp 3) rfl g rfl 34 _ (0, 0) _ hT.y Tryz.underlying34 rfl (by kernel_rfl) ?_
 refine wpList_store_row rfl 34 (.tmp 2) (.tmp 78) rfl w.heap.size _ rfl rfl 34 _ hT.g0 (by kernel_rfl) rfl (by simp [Value.oneCell']) ?_
 go_wp2_with fail
 refine bodyPost_ret (results_cell_row rfl _ _ w.heap.size 34 _ (0, 0) _ rfl hT.fin.1 Tryz.underlying34 rfl (by kernel_rfl)) rfl ?_
 rw [HF.out]
 exact ⟨_, _, _, rfl, Kd.R_nil _ _ _ _ _, Kd.R_nil _ _ _ _ _, Kd.R_mono hT.fin.2.1.2 (fun _ _ => trivial), hT.fin.2.2.1, hT.fin.2.2.2.1, hT.fin.2.2.2.2⟩
set_option maxHeartbeats 4000000 in
theorem rdMsg6 {B : List Int} {w0 w : World} {x : Nat} {s : EyeS} (hI : IsRd B w0 w x s) (hB : Below w0.heap.size w0 w) (hok : okS s) (hk : (rSmall s).1 = 6) (he : (rSmall s).2.e = 0) :
  Calls Tryz.prog 62 #[.pointer (some ⟨x, 0, none⟩)] w fun e w' => MsP (fun W s => IsRd B w0 W x s) w0 w x (rMsg s).1 (rMsg s).2 e w' := by
 have HT1 := Lib.hid ((Fo.start (I := fun W s => IsRd B w0 W x s) (T := 34) (zs := #[.int .i64 0, .int .i64 0, .int .i64 0, .int .i64 0, .int .i64 0, .int .i64 0, .int .i64 0, .bool false, .slice none 0 0, .int .i64 0, .int .i64 0, .int .i64 0, .slice none 0 0, .int .i64 0, .int .i64 0, .int .i64 0, .slice none 0 0]) hI hB hI.lt hI.ge (fun _ _ _ e h => h.at e)).lay #[.int .i64 0, .int .i64 0, .int .i64 0, .int .i64 0, .int .i64 0, .int .i64 0, .int .i64 0, .bool false, .slice none 0 0, .int .i64 0, .int .i64 0, .int .i64 0, .slice none 0 0, .int .i64 0, .int .i64 0, .int .i64 0, .slice none 0 0])
 obtain ⟨s0, hs0⟩ : ∃ s0, (rSmall s).2 = s0 := ⟨_, rfl⟩
 have HN := Lib.hid (And.intro hk hs0)
 have HO0 := Lib.hid hok
 have ho1 := okS_rsmall hok
 rw [hs0] at ho1 he
 obtain ⟨s1, hs1⟩ : ∃ s1, s0 = s1 := ⟨_, rfl⟩
 rw [hs1] at hs0 ho1 he HN
 have HF0 := Lib.hid (show rMsg s = mBody rSmall rEntry (eList rTr) 6 s1 by
  have hm : rMk s = s1 := by unfold rMk; rw [hk, hs0]; exact eWrong_false _
  unfold rMsg
  rw [hm, hk])
 have HQ := Lib.hid (show (s1.e == 0) = true by rw [he]; rfl)
 clear hI hB hok hk hs0 hs1 he
 obtain ⟨v1, hv1⟩ : ∃ v, (rSmall s1).1 = v := ⟨_, rfl⟩
 obtain ⟨s2, hs2⟩ : ∃ t, (rSmall s1).2 = t := ⟨_, rfl⟩
 have ho2 := okS_rsmall ho1
 rw [hs2] at ho2
 have HO1 := Lib.hid ho1; have HE1 := Lib.hid (And.intro hv1 hs2)
 obtain ⟨v2, hv2⟩ : ∃ v, (rSmall s2).1 = v := ⟨_, rfl⟩
 obtain ⟨s3, hs3⟩ : ∃ t, (rSmall s2).2 = t := ⟨_, rfl⟩
 have ho3 := okS_rsmall ho2
 rw [hs3] at ho3
 have HO2 := Lib.hid ho2; have HE2 := Lib.hid (And.intro hv2 hs3)
 obtain ⟨⟨y0, y1, y2, yl⟩, hv3⟩ : ∃ v, (rEntry s3).1 = v := ⟨_, rfl⟩
 obtain ⟨s4, hs4⟩ : ∃ t, (rEntry s3).2 = t := ⟨_, rfl⟩
 have ho4 := okS_rentry ho3
 rw [hs4] at ho4
 have HO3 := Lib.hid ho3; have HE3 := Lib.hid (And.intro hv3 hs4)
 have HF := Lib.hid (show rMsg s = (⟨6, v1, v2, 0, 0, 0, 0, false, [], ⟨y0, y1, y2, yl⟩, zP⟩, s4) by
  rw [HF0.out]
  unfold mBody
  rw [if_neg (by decide)]; rw [if_neg (by decide)]; rw [if_neg (by decide)]; rw [if_neg (by decide)]; rw [if_neg (by decide)]; rw [if_pos rfl]
  simp only [FM, PR, enOf, hv1, hs2, hv2, hs3, hv3, hs4])
 clear HF0 hv1 hs2 ho1 hv2 hs3 ho2 hv3 hs4 ho3 ho4
 go_enter Tryz.func62, Tryz.ntmps62
 go_upto_region 2 with fail
 obtain ⟨g, hg⟩ : ∃ g, (w.alloc (.cells #[.int .i64 0, .int .i64 0, .int .i64 0, .int .i64 0, .int .i64 0, .int .i64 0, .int .i64 0, .bool false, .slice none 0 0, .int .i64 0, .int .i64 0, .int .i64 0, .slice none 0 0, .int .i64 0, .int .i64 0, .int .i64 0, .slice none 0 0] 34)).heap.size = g := ⟨_, rfl⟩
 have hg' : w.heap.size + 1 = g := by rw [← hg]; simp
 obtain ⟨w1, hw1⟩ : ∃ W, (w.alloc (.cells #[.int .i64 0, .int .i64 0, .int .i64 0, .int .i64 0, .int .i64 0, .int .i64 0, .int .i64 0, .bool false, .slice none 0 0, .int .i64 0, .int .i64 0, .int .i64 0, .slice none 0 0, .int .i64 0, .int .i64 0, .int .i64 0, .slice none 0 0] 34)).alloc (.cells #[.int .i64 0, .int .i64 0, .int .i64 0, .int .i64 0, .int .i64 0, .int .i64 0, .int .i64 0, .bool false, .slice none 0 0, .int .i64 0, .int .i64 0, .int .i64 0, .slice none 0 0, .int .i64 0, .int .i64 0, .int .i64 0, .slice none 0 0] 34) = W := ⟨_, rfl⟩
 rw [hg, hw1] at HT1
 rw [hw1, hg']
 clear hg hw1 hg'
 go_wp2_with fail
 have h4 := rdSmall_is HT1.out.i HT1.out.d HO0.out
 rw [HN.out.1, HN.out.2] at h4
 refine h4.mono ?_
 rintro e w2 ⟨rfl, h1, h2, h3⟩
 have HT2 := Lib.hid (HT1.out.call h1 h2 h3)
 clear h1 h2 h3 h4 HT1 HN
 have d0 : w2.cell? ⟨g, 0, none⟩ = some (.int .i64 0) := (blk_cell HT2.out.y 0).trans rfl
 have z0 : w2.frozen? ⟨g, 0, none⟩ = false := blk_frozen HT2.out.y 0
 go_upto_region 3 with fail
 have HT3 := Lib.hid (HT2.out.put 0 (.int .i64 6))
 obtain ⟨w3, hw⟩ : ∃ W, w2.setCell ⟨g, 0, none⟩ (.int .i64 6) = W := ⟨_, rfl⟩
 rw [hw] at HT3 ⊢
 clear hw HT2 d0 z0
 have c2 : w3.cell? ⟨x, 2, none⟩ = some (.int .i64 s1.e) := by
  obtain ⟨A, c, j, g1, _⟩ := HT3.out.i
  simp [World.cell?, g1]
 have hq := HQ.out
 have d0 : w3.cell? ⟨g, 0, none⟩ = some (.int .i64 6) := (blk_cell HT3.out.y 0).trans rfl
 go_wp2_with fail
 clear c2 hq d0
 have h4 := rdSmall_is HT3.out.i HT3.out.d HO1.out
 rw [HE1.out.1, HE1.out.2] at h4
 refine h4.mono ?_
 rintro e w4 ⟨rfl, h1, h2, h3⟩
 have HT4 := Lib.hid (HT3.out.call h1 h2 h3)
 clear h1 h2 h3 h4 HT3
 have d1 : w4.cell? ⟨g, 1, none⟩ = some (.int .i64 0) := (blk_cell HT4.out.y 1).trans rfl
 have z1 : w4.frozen? ⟨g, 1, none⟩ = false := blk_frozen HT4.out.y 1
 have d0 : w4.cell? ⟨g, 0, none⟩ = some (.int .i64 6) := (blk_cell HT4.out.y 0).trans rfl
 have z0 : w4.frozen? ⟨g, 0, none⟩ = false := blk_frozen HT4.out.y 0
 go_wp2_with fail
 have HT5 := Lib.hid (HT4.out.put 1 (.int .i64 v1))
 obtain ⟨w5, hw⟩ : ∃ W, (w4.setCell ⟨g, 1, none⟩ (.int .i64 v1)) = W := ⟨_, rfl⟩
 rw [hw] at HT5 ⊢
 clear hw HT4 d1 z1 d0 z0
 have h4 := rdSmall_is HT5.out.i HT5.out.d HO2.out
 rw [HE2.out.1, HE2.out.2] at h4
 refine h4.mono ?_
 rintro e w6 ⟨rfl, h1, h2, h3⟩
 have HT6 := Lib.hid (HT5.out.call h1 h2 h3)
 clear h1 h2 h3 h4 HT5
 have d2 : w6.cell? ⟨g, 2, none⟩ = some (.int .i64 0) := (blk_cell HT6.out.y 2).trans rfl
 have z2 : w6.frozen? ⟨g, 2, none⟩ = false := blk_frozen HT6.out.y 2
 have d0 : w6.cell? ⟨g, 0, none⟩ = some (.int .i64 6) := (blk_cell HT6.out.y 0).trans rfl
 have z0 : w6.frozen? ⟨g, 0, none⟩ = false := blk_frozen HT6.out.y 0
 go_wp2_with fail
 have HT7 := Lib.hid (HT6.out.put 2 (.int .i64 v2))
 obtain ⟨w7, hw⟩ : ∃ W, (w6.setCell ⟨g, 2, none⟩ (.int .i64 v2)) = W := ⟨_, rfl⟩
 rw [hw] at HT7 ⊢
 clear hw HT6 d2 z2 d0 z0
 have h4 := rdEntry_is HT7.out.i HT7.out.d HO3.out
 rw [HE3.out.1, HE3.out.2] at h4
 refine h4.mono ?_
 rintro e w8 ⟨v_, rfl, hv, h1, h2, h3⟩
 have hv : Kd.R G.k26 26 w8 w7.heap.size (fun _ => True) v_ yl := hv
 obtain ⟨A12, c12, rfl⟩ := Kd.R_slice hv
 have HT8 := Lib.hid (HT7.out.callR h1 h2 h3 hv)
 clear h1 h2 h3 h4 hv HT7
 have d9 : w8.cell? ⟨g, 9, none⟩ = some (.int .i64 0) := (blk_cell HT8.out.y 9).trans rfl
 have z9 : w8.frozen? ⟨g, 9, none⟩ = false := blk_frozen HT8.out.y 9
 have d10 : w8.cell? ⟨g, 10, none⟩ = some (.int .i64 0) := (blk_cell HT8.out.y 10).trans rfl
 have z10 : w8.frozen? ⟨g, 10, none⟩ = false := blk_frozen HT8.out.y 10
 have d11 : w8.cell? ⟨g, 11, none⟩ = some (.int .i64 0) := (blk_cell HT8.out.y 11).trans rfl
 have z11 : w8.frozen? ⟨g, 11, none⟩ = false := blk_frozen HT8.out.y 11
 have d12 : w8.cell? ⟨g, 12, none⟩ = some (.slice none 0 0) := (blk_cell HT8.out.y 12).trans rfl
 have z12 : w8.frozen? ⟨g, 12, none⟩ = false := blk_frozen HT8.out.y 12
 have d0 : w8.cell? ⟨g, 0, none⟩ = some (.int .i64 6) := (blk_cell HT8.out.y 0).trans rfl
 have z0 : w8.frozen? ⟨g, 0, none⟩ = false := blk_frozen HT8.out.y 0
 go_upto_region 9 with fail
 have HT9 := Lib.hid ((((HT8.out.put 9 (.int .i64 y0)).put 10 (.int .i64 y1)).put 11 (.int .i64 y2)).put 12 (.slice A12 yl.length c12))
 obtain ⟨w9, hw⟩ : ∃ W, ((((w8.setCell ⟨g, 9, none⟩ (.int .i64 y0)).setCell ⟨g, 10, none⟩ (.int .i64 y1)).setCell ⟨g, 11, none⟩ (.int .i64 y2)).setCell ⟨g, 12, none⟩ (.slice A12 yl.length c12)) = W := ⟨_, rfl⟩
 rw [hw] at HT9 ⊢
 clear hw HT8 d9 z9 d10 z10 d11 z11 d12 z12 d0 z0
 have hT : Fr _ w0 w x g 34 _ #[.int .i64 6, .int .i64 v1, .int .i64 v2, .int .i64 0, .int .i64 0, .int .i64 0, .int .i64 0, .bool false, .slice none 0 0, .int .i64 y0, .int .i64 y1, .int .i64 y2, .slice A12 yl.length c12, .int .i64 0, .int .i64 0, .int .i64 0, .slice none 0 0] _ _ _ := HT9.out
 refine wp_region_list ?_
 refine wpList_load_row rfl 34 (.tmp 3) rfl g rfl 34 _ (0, 0) _ hT.y Tryz.underlying34 rfl (by kernel_rfl) ?_
 refine wpList_store_row rfl 34 (.tmp 2) (.tmp 36) rfl w.heap.size _ rfl rfl 34 _ hT.g0 (by kernel_rfl) rfl (by simp [Value.oneCell']) ?_
 go_wp2_with fail
 refine bodyPost_ret (results_cell_row rfl _ _ w.heap.size 34 _ (0, 0) _ rfl hT.fin.1 Tryz.underlying34 rfl (by kernel_rfl)) rfl ?_
 rw [HF.out]
 exact ⟨_, _, _, rfl, Kd.R_nil _ _ _ _ _, Kd.R_mono hT.fin.2.1.2 (fun _ _ => trivial), Kd.R_nil _ _ _ _ _, hT.fin.2.2.1, hT.fin.2.2.2.1, hT.fin.2.2.2.2⟩
end Go.Proofs.YtgiefblcckikeaaGreat.M
end

section
/- The reference's Reader: a message, the rest (printed by genrdq04.py). -/
attribute [local irreducible] Go.wpStill
namespace Go.Proofs.YtgiefblcckikeaaGreat.M
open Go.RowKit Go.Proofs.YtgiefblcckikeaaGreatW.PrintWords Go.Proofs.YtgiefblcckikeaaGreatW.PrintLast Go.Proofs.YtgiefblcckikeaaGreatW.PrintMore Go.Proofs.YtgiefblcckikeaaGreat.G
set_option maxHeartbeats 4000000 in
theorem rdMsgE {B : List Int} {w0 w : World} {x : Nat} {s : EyeS} (hI : IsRd B w0 w x s) (hB : Below w0.heap.size w0 w) (hok : okS s) {k : Int} (hk : (rSmall s).1 = k) (hn : k < 1 ∨ 6 < k) (he : ¬ (rSmall s).2.e = 0) :
  Calls Tryz.prog 62 #[.pointer (some ⟨x, 0, none⟩)] w fun e w' => MsP (fun W s => IsRd B w0 W x s) w0 w x (rMsg s).1 (rMsg s).2 e w' := by
 have HT1 := Lib.hid ((Fo.start (I := fun W s => IsRd B w0 W x s) (T := 34) (zs := #[.int .i64 0, .int .i64 0, .int .i64 0, .int .i64 0, .int .i64 0, .int .i64 0, .int .i64 0, .bool false, .slice none 0 0, .int .i64 0, .int .i64 0, .int .i64 0, .slice none 0 0, .int .i64 0, .int .i64 0, .int .i64 0, .slice none 0 0]) hI hB hI.lt hI.ge (fun _ _ _ e h => h.at e)).lay #[.int .i64 0, .int .i64 0, .int .i64 0, .int .i64 0, .int .i64 0, .int .i64 0, .int .i64 0, .bool false, .slice none 0 0, .int .i64 0, .int .i64 0, .int .i64 0, .slice none 0 0, .int .i64 0, .int .i64 0, .int .i64 0, .slice none 0 0])
 obtain ⟨s0, hs0⟩ : ∃ s0, (rSmall s).2 = s0 := ⟨_, rfl⟩
 have HN := Lib.hid (And.intro hk hs0)
 have HO0 := Lib.hid hok
 have ho1 := okS_rsmall hok
 rw [hs0] at ho1 he
 obtain ⟨s1, hs1⟩ : ∃ s1, eWrong true s0 = s1 := ⟨_, rfl⟩
 have ho1 := okS_wrong true ho1
 rw [hs1] at ho1
 have hnk : notKind k = true := by unfold notKind; rw [Bool.or_eq_true, decide_eq_true_eq, decide_eq_true_eq]; exact hn
 have HF0 := Lib.hid (show rMsg s = mBody rSmall rEntry (eList rTr) k s1 by
  have hm : rMk s = s1 := by unfold rMk; rw [hk, hs0, hnk, hs1]
  unfold rMsg
  rw [hm, hk])
 have q1 : (k == 1) = false := beq_eq_false_iff_ne.2 (by omega)
 have q2 : (k == 2) = false := beq_eq_false_iff_ne.2 (by omega)
 have q3 : (k == 3) = false := beq_eq_false_iff_ne.2 (by omega)
 have q4 : (k == 4) = false := beq_eq_false_iff_ne.2 (by omega)
 have q5 : (k == 5) = false := beq_eq_false_iff_ne.2 (by omega)
 have q6 : (k == 6) = false := beq_eq_false_iff_ne.2 (by omega)
 have HS1 := Lib.hid (show s0 = s1 by rw [← hs1, eWrong_st _ he])
 have HQ := Lib.hid (show (s0.e == 0) = false from beq_eq_false_iff_ne.2 he)
 have HKN := Lib.hid hn
 clear hI hB hok hk hs0 hs1 he hn hnk
 obtain ⟨v1, hv1⟩ : ∃ v, (rSmall s1).1 = v := ⟨_, rfl⟩
 obtain ⟨s2, hs2⟩ : ∃ t, (rSmall s1).2 = t := ⟨_, rfl⟩
 have ho2 := okS_rsmall ho1
 rw [hs2] at ho2
 have HO1 := Lib.hid ho1; have HE1 := Lib.hid (And.intro hv1 hs2)
 obtain ⟨v2, hv2⟩ : ∃ v, (rSmall s2).1 = v := ⟨_, rfl⟩
 obtain ⟨s3, hs3⟩ : ∃ t, (rSmall s2).2 = t := ⟨_, rfl⟩
 have ho3 := okS_rsmall ho2
 rw [hs3] at ho3
 have HO2 := Lib.hid ho2; have HE2 := Lib.hid (And.intro hv2 hs3)
 obtain ⟨v3, hv3⟩ : ∃ v, (eNum s3).1 = v := ⟨_, rfl⟩
 obtain ⟨s4, hs4⟩ : ∃ t, (eNum s3).2 = t := ⟨_, rfl⟩
 have ho4 := okS_num ho3
 rw [hs4] at ho4
 have HO3 := Lib.hid ho3; have HE3 := Lib.hid (And.intro hv3 hs4)
 have HF := Lib.hid (show rMsg s = (⟨k, v1, v2, v3, 0, 0, 0, false, [], zE, zP⟩, s4) by
  rw [HF0.out]
  unfold mBody
  rw [if_neg (by have := HKN.out; omega)]; rw [if_neg (by have := HKN.out; omega)]; rw [if_neg (by have := HKN.out; omega)]; rw [if_neg (by have := HKN.out; omega)]; rw [if_neg (by have := HKN.out; omega)]; rw [if_neg (by have := HKN.out; omega)]; skip
  simp only [FM, PR, enOf, hv1, hs2, hv2, hs3, hv3, hs4])
 clear HF0 hv1 hs2 ho1 hv2 hs3 ho2 hv3 hs4 ho3 ho4
 go_enter Tryz.func62, Tryz.ntmps62
 go_upto_region 2 with fail
 obtain ⟨g, hg⟩ : ∃ g, (w.alloc (.cells #[.int .i64 0, .int .i64 0, .int .i64 0, .int .i64 0, .int .i64 0, .int .i64 0, .int .i64 0, .bool false, .slice none 0 0, .int .i64 0, .int .i64 0, .int .i64 0, .slice none 0 0, .int .i64 0, .int .i64 0, .int .i64 0, .slice none 0 0] 34)).heap.size = g := ⟨_, rfl⟩
 have hg' : w.heap.size + 1 = g := by rw [← hg]; simp
 obtain ⟨w1, hw1⟩ : ∃ W, (w.alloc (.cells #[.int .i64 0, .int .i64 0, .int .i64 0, .int .i64 0, .int .i64 0, .int .i64 0, .int .i64 0, .bool false, .slice none 0 0, .int .i64 0, .int .i64 0, .int .i64 0, .slice none 0 0, .int .i64 0, .int .i64 0, .int .i64 0, .slice none 0 0] 34)).alloc (.cells #[.int .i64 0, .int .i64 0, .int .i64 0, .int .i64 0, .int .i64 0, .int .i64 0, .int .i64 0, .bool false, .slice none 0 0, .int .i64 0, .int .i64 0, .int .i64 0, .slice none 0 0, .int .i64 0, .int .i64 0, .int .i64 0, .slice none 0 0] 34) = W := ⟨_, rfl⟩
 rw [hg, hw1] at HT1
 rw [hw1, hg']
 clear hg hw1 hg'
 go_wp2_with fail
 have h4 := rdSmall_is HT1.out.i HT1.out.d HO0.out
 rw [HN.out.1, HN.out.2] at h4
 refine h4.mono ?_
 rintro e w2 ⟨rfl, h1, h2, h3⟩
 have HT2 := Lib.hid (HT1.out.call h1 h2 h3)
 clear h1 h2 h3 h4 HT1 HN
 have d0 : w2.cell? ⟨g, 0, none⟩ = some (.int .i64 0) := (blk_cell HT2.out.y 0).trans rfl
 have z0 : w2.frozen? ⟨g, 0, none⟩ = false := blk_frozen HT2.out.y 0
 go_upto_region 3 with fail
 have HT3 := Lib.hid (HT2.out.put 0 (.int .i64 k))
 obtain ⟨w3, hw⟩ : ∃ W, w2.setCell ⟨g, 0, none⟩ (.int .i64 k) = W := ⟨_, rfl⟩
 rw [hw] at HT3 ⊢
 clear hw HT2 d0 z0
 have c2 : w3.cell? ⟨x, 2, none⟩ = some (.int .i64 s0.e) := by
  obtain ⟨A, c, j, g1, _⟩ := HT3.out.i
  simp [World.cell?, g1]
 have hq := HQ.out
 have d0 : w3.cell? ⟨g, 0, none⟩ = some (.int .i64 k) := (blk_cell HT3.out.y 0).trans rfl
 go_wp2_with fail
 clear c2 hq d0
 rw [HS1.out] at HT3
 have h4 := rdSmall_is HT3.out.i HT3.out.d HO1.out
 rw [HE1.out.1, HE1.out.2] at h4
 refine h4.mono ?_
 rintro e w4 ⟨rfl, h1, h2, h3⟩
 have HT4 := Lib.hid (HT3.out.call h1 h2 h3)
 clear h1 h2 h3 h4 HT3
 have d1 : w4.cell? ⟨g, 1, none⟩ = some (.int .i64 0) := (blk_cell HT4.out.y 1).trans rfl
 have z1 : w4.frozen? ⟨g, 1, none⟩ = false := blk_frozen HT4.out.y 1
 have d0 : w4.cell? ⟨g, 0, none⟩ = some (.int .i64 k) := (blk_cell HT4.out.y 0).trans rfl
 have z0 : w4.frozen? ⟨g, 0, none⟩ = false := blk_frozen HT4.out.y 0
 go_wp2_with fail
 have HT5 := Lib.hid (HT4.out.put 1 (.int .i64 v1))
 obtain ⟨w5, hw⟩ : ∃ W, (w4.setCell ⟨g, 1, none⟩ (.int .i64 v1)) = W := ⟨_, rfl⟩
 rw [hw] at HT5 ⊢
 clear hw HT4 d1 z1 d0 z0
 have h4 := rdSmall_is HT5.out.i HT5.out.d HO2.out
 rw [HE2.out.1, HE2.out.2] at h4
 refine h4.mono ?_
 rintro e w6 ⟨rfl, h1, h2, h3⟩
 have HT6 := Lib.hid (HT5.out.call h1 h2 h3)
 clear h1 h2 h3 h4 HT5
 have d2 : w6.cell? ⟨g, 2, none⟩ = some (.int .i64 0) := (blk_cell HT6.out.y 2).trans rfl
 have z2 : w6.frozen? ⟨g, 2, none⟩ = false := blk_frozen HT6.out.y 2
 have d0 : w6.cell? ⟨g, 0, none⟩ = some (.int .i64 k) := (blk_cell HT6.out.y 0).trans rfl
 have z0 : w6.frozen? ⟨g, 0, none⟩ = false := blk_frozen HT6.out.y 0
 go_wp2_with fail
 have HT7 := Lib.hid (HT6.out.put 2 (.int .i64 v2))
 obtain ⟨w7, hw⟩ : ∃ W, (w6.setCell ⟨g, 2, none⟩ (.int .i64 v2)) = W := ⟨_, rfl⟩
 rw [hw] at HT7 ⊢
 clear hw HT6 d2 z2 d0 z0
 have h4 := rdNum_is HT7.out.i HT7.out.d HO3.out
 rw [HE3.out.1, HE3.out.2] at h4
 refine h4.mono ?_
 rintro e w8 ⟨rfl, h1, h2, h3⟩
 have HT8 := Lib.hid (HT7.out.call h1 h2 h3)
 clear h1 h2 h3 h4 HT7
 have d3 : w8.cell? ⟨g, 3, none⟩ = some (.int .i64 0) := (blk_cell HT8.out.y 3).trans rfl
 have z3 : w8.frozen? ⟨g, 3, none⟩ = false := blk_frozen HT8.out.y 3
 have d0 : w8.cell? ⟨g, 0, none⟩ = some (.int .i64 k) := (blk_cell HT8.out.y 0).trans rfl
 have z0 : w8.frozen? ⟨g, 0, none⟩ = false := blk_frozen HT8.out.y 0
 go_upto_region 28 with fail
 have HT9 := Lib.hid (HT8.out.put 3 (.int .i64 v3))
 obtain ⟨w9, hw⟩ : ∃ W, (w8.setCell ⟨g, 3, none⟩ (.int .i64 v3)) = W := ⟨_, rfl⟩
 rw [hw] at HT9 ⊢
 clear hw HT8 d3 z3 d0 z0
 have hT : Fr _ w0 w x g 34 _ #[.int .i64 k, .int .i64 v1, .int .i64 v2, .int .i64 v3, .int .i64 0, .int .i64 0, .int .i64 0, .bool false, .slice none 0 0, .int .i64 0, .int .i64 0, .int .i64 0, .slice none 0 0, .int .i64 0, .int .i64 0, .int .i64 0, .slice none 0 0] _ _ _ := HT9.out
 refine wp_region_list ?_
 refine wpList_load_row rfl 34 (.tmp 3) rfl g rfl 34 _ (0, 0) _ hT.y Tryz.underlying34 rfl (by kernel_rfl) ?_
 refine wpList_store_row rfl 34 (.tmp 2) (.tmp 78) rfl w.heap.size _ rfl rfl 34 _ hT.g0 (by kernel_rfl) rfl (by simp [Value.oneCell']) ?_
 go_wp2_with fail
 refine bodyPost_ret (results_cell_row rfl _ _ w.heap.size 34 _ (0, 0) _ rfl hT.fin.1 Tryz.underlying34 rfl (by kernel_rfl)) rfl ?_
 rw [HF.out]
 exact ⟨_, _, _, rfl, Kd.R_nil _ _ _ _ _, Kd.R_nil _ _ _ _ _, Kd.R_nil _ _ _ _ _, hT.fin.2.2.1, hT.fin.2.2.2.1, hT.fin.2.2.2.2⟩
set_option maxHeartbeats 4000000 in
theorem rdMsgL {B : List Int} {w0 w : World} {x : Nat} {s : EyeS} (hI : IsRd B w0 w x s) (hB : Below w0.heap.size w0 w) (hok : okS s) {k : Int} (hk : (rSmall s).1 = k) (hn : k < 1 ∨ 6 < k) (he : (rSmall s).2.e = 0) (hlow : k < 1) :
  Calls Tryz.prog 62 #[.pointer (some ⟨x, 0, none⟩)] w fun e w' => MsP (fun W s => IsRd B w0 W x s) w0 w x (rMsg s).1 (rMsg s).2 e w' := by
 have HT1 := Lib.hid ((Fo.start (I := fun W s => IsRd B w0 W x s) (T := 34) (zs := #[.int .i64 0, .int .i64 0, .int .i64 0, .int .i64 0, .int .i64 0, .int .i64 0, .int .i64 0, .bool false, .slice none 0 0, .int .i64 0, .int .i64 0, .int .i64 0, .slice none 0 0, .int .i64 0, .int .i64 0, .int .i64 0, .slice none 0 0]) hI hB hI.lt hI.ge (fun _ _ _ e h => h.at e)).lay #[.int .i64 0, .int .i64 0, .int .i64 0, .int .i64 0, .int .i64 0, .int .i64 0, .int .i64 0, .bool false, .slice none 0 0, .int .i64 0, .int .i64 0, .int .i64 0, .slice none 0 0, .int .i64 0, .int .i64 0, .int .i64 0, .slice none 0 0])
 obtain ⟨s0, hs0⟩ : ∃ s0, (rSmall s).2 = s0 := ⟨_, rfl⟩
 have HN := Lib.hid (And.intro hk hs0)
 have HO0 := Lib.hid hok
 have ho1 := okS_rsmall hok
 rw [hs0] at ho1 he
 obtain ⟨s1, hs1⟩ : ∃ s1, eWrong true s0 = s1 := ⟨_, rfl⟩
 have ho1 := okS_wrong true ho1
 rw [hs1] at ho1
 have hnk : notKind k = true := by unfold notKind; rw [Bool.or_eq_true, decide_eq_true_eq, decide_eq_true_eq]; exact hn
 have HF0 := Lib.hid (show rMsg s = mBody rSmall rEntry (eList rTr) k s1 by
  have hm : rMk s = s1 := by unfold rMk; rw [hk, hs0, hnk, hs1]
  unfold rMsg
  rw [hm, hk])
 have q1 : (k == 1) = false := beq_eq_false_iff_ne.2 (by omega)
 have q2 : (k == 2) = false := beq_eq_false_iff_ne.2 (by omega)
 have q3 : (k == 3) = false := beq_eq_false_iff_ne.2 (by omega)
 have q4 : (k == 4) = false := beq_eq_false_iff_ne.2 (by omega)
 have q5 : (k == 5) = false := beq_eq_false_iff_ne.2 (by omega)
 have q6 : (k == 6) = false := beq_eq_false_iff_ne.2 (by omega)
 have HS1 := Lib.hid hs1
 have HQ := Lib.hid (show (s0.e == 0) = true by rw [he]; rfl)
 have p1 : decide (k < 1) = true := decide_eq_true hlow
 have HKN := Lib.hid hn
 clear hI hB hok hk hs0 hs1 he hn hnk hlow
 obtain ⟨v1, hv1⟩ : ∃ v, (rSmall s1).1 = v := ⟨_, rfl⟩
 obtain ⟨s2, hs2⟩ : ∃ t, (rSmall s1).2 = t := ⟨_, rfl⟩
 have ho2 := okS_rsmall ho1
 rw [hs2] at ho2
 have HO1 := Lib.hid ho1; have HE1 := Lib.hid (And.intro hv1 hs2)
 obtain ⟨v2, hv2⟩ : ∃ v, (rSmall s2).1 = v := ⟨_, rfl⟩
 obtain ⟨s3, hs3⟩ : ∃ t, (rSmall s2).2 = t := ⟨_, rfl⟩
 have ho3 := okS_rsmall ho2
 rw [hs3] at ho3
 have HO2 := Lib.hid ho2; have HE2 := Lib.hid (And.intro hv2 hs3)
 obtain ⟨v3, hv3⟩ : ∃ v, (eNum s3).1 = v := ⟨_, rfl⟩
 obtain ⟨s4, hs4⟩ : ∃ t, (eNum s3).2 = t := ⟨_, rfl⟩
 have ho4 := okS_num ho3
 rw [hs4] at ho4
 have HO3 := Lib.hid ho3; have HE3 := Lib.hid (And.intro hv3 hs4)
 have HF := Lib.hid (show rMsg s = (⟨k, v1, v2, v3, 0, 0, 0, false, [], zE, zP⟩, s4) by
  rw [HF0.out]
  unfold mBody
  rw [if_neg (by have := HKN.out; omega)]; rw [if_neg (by have := HKN.out; omega)]; rw [if_neg (by have := HKN.out; omega)]; rw [if_neg (by have := HKN.out; omega)]; rw [if_neg (by have := HKN.out; omega)]; rw [if_neg (by have := HKN.out; omega)]; skip
  simp only [FM, PR, enOf, hv1, hs2, hv2, hs3, hv3, hs4])
 clear HF0 hv1 hs2 ho1 hv2 hs3 ho2 hv3 hs4 ho3 ho4
 go_enter Tryz.func62, Tryz.ntmps62
 go_upto_region 2 with fail
 obtain ⟨g, hg⟩ : ∃ g, (w.alloc (.cells #[.int .i64 0, .int .i64 0, .int .i64 0, .int .i64 0, .int .i64 0, .int .i64 0, .int .i64 0, .bool false, .slice none 0 0, .int .i64 0, .int .i64 0, .int .i64 0, .slice none 0 0, .int .i64 0, .int .i64 0, .int .i64 0, .slice none 0 0] 34)).heap.size = g := ⟨_, rfl⟩
 have hg' : w.heap.size + 1 = g := by rw [← hg]; simp
 obtain ⟨w1, hw1⟩ : ∃ W, (w.alloc (.cells #[.int .i64 0, .int .i64 0, .int .i64 0, .int .i64 0, .int .i64 0, .int .i64 0, .int .i64 0, .bool false, .slice none 0 0, .int .i64 0, .int .i64 0, .int .i64 0, .slice none 0 0, .int .i64 0, .int .i64 0, .int .i64 0, .slice none 0 0] 34)).alloc (.cells #[.int .i64 0, .int .i64 0, .int .i64 0, .int .i64 0, .int .i64 0, .int .i64 0, .int .i64 0, .bool false, .slice none 0 0, .int .i64 0, .int .i64 0, .int .i64 0, .slice none 0 0, .int .i64 0, .int .i64 0, .int .i64 0, .slice none 0 0] 34) = W := ⟨_, rfl⟩
 rw [hg, hw1] at HT1
 rw [hw1, hg']
 clear hg hw1 hg'
 go_wp2_with fail
 have h4 := rdSmall_is HT1.out.i HT1.out.d HO0.out
 rw [HN.out.1, HN.out.2] at h4
 refine h4.mono ?_
 rintro e w2 ⟨rfl, h1, h2, h3⟩
 have HT2 := Lib.hid (HT1.out.call h1 h2 h3)
 clear h1 h2 h3 h4 HT1 HN
 have d0 : w2.cell? ⟨g, 0, none⟩ = some (.int .i64 0) := (blk_cell HT2.out.y 0).trans rfl
 have z0 : w2.frozen? ⟨g, 0, none⟩ = false := blk_frozen HT2.out.y 0
 go_upto_region 3 with fail
 have HT3 := Lib.hid (HT2.out.put 0 (.int .i64 k))
 obtain ⟨w3, hw⟩ : ∃ W, w2.setCell ⟨g, 0, none⟩ (.int .i64 k) = W := ⟨_, rfl⟩
 rw [hw] at HT3 ⊢
 clear hw HT2 d0 z0
 have c2 : w3.cell? ⟨x, 2, none⟩ = some (.int .i64 s0.e) := by
  obtain ⟨A, c, j, g1, _⟩ := HT3.out.i
  simp [World.cell?, g1]
 have hq := HQ.out
 have d0 : w3.cell? ⟨g, 0, none⟩ = some (.int .i64 k) := (blk_cell HT3.out.y 0).trans rfl
 go_wp2_with fail
 clear c2 hq d0
 have h4 := rdFail40 HT3.out.i HT3.out.d
 rw [HS1.out] at h4
 refine h4.mono ?_
 rintro e w4 ⟨rfl, h1, h2, h3⟩
 have HT4 := Lib.hid (HT3.out.call h1 h2 h3)
 clear h1 h2 h3 h4 HT3 p1
 go_wp2_with fail
 have h4 := rdSmall_is HT4.out.i HT4.out.d HO1.out
 rw [HE1.out.1, HE1.out.2] at h4
 refine h4.mono ?_
 rintro e w5 ⟨rfl, h1, h2, h3⟩
 have HT5 := Lib.hid (HT4.out.call h1 h2 h3)
 clear h1 h2 h3 h4 HT4
 have d1 : w5.cell? ⟨g, 1, none⟩ = some (.int .i64 0) := (blk_cell HT5.out.y 1).trans rfl
 have z1 : w5.frozen? ⟨g, 1, none⟩ = false := blk_frozen HT5.out.y 1
 have d0 : w5.cell? ⟨g, 0, none⟩ = some (.int .i64 k) := (blk_cell HT5.out.y 0).trans rfl
 have z0 : w5.frozen? ⟨g, 0, none⟩ = false := blk_frozen HT5.out.y 0
 go_wp2_with fail
 have HT6 := Lib.hid (HT5.out.put 1 (.int .i64 v1))
 obtain ⟨w6, hw⟩ : ∃ W, (w5.setCell ⟨g, 1, none⟩ (.int .i64 v1)) = W := ⟨_, rfl⟩
 rw [hw] at HT6 ⊢
 clear hw HT5 d1 z1 d0 z0
 have h4 := rdSmall_is HT6.out.i HT6.out.d HO2.out
 rw [HE2.out.1, HE2.out.2] at h4
 refine h4.mono ?_
 rintro e w7 ⟨rfl, h1, h2, h3⟩
 have HT7 := Lib.hid (HT6.out.call h1 h2 h3)
 clear h1 h2 h3 h4 HT6
 have d2 : w7.cell? ⟨g, 2, none⟩ = some (.int .i64 0) := (blk_cell HT7.out.y 2).trans rfl
 have z2 : w7.frozen? ⟨g, 2, none⟩ = false := blk_frozen HT7.out.y 2
 have d0 : w7.cell? ⟨g, 0, none⟩ = some (.int .i64 k) := (blk_cell HT7.out.y 0).trans rfl
 have z0 : w7.frozen? ⟨g, 0, none⟩ = false := blk_frozen HT7.out.y 0
 go_wp2_with fail
 have HT8 := Lib.hid (HT7.out.put 2 (.int .i64 v2))
 obtain ⟨w8, hw⟩ : ∃ W, (w7.setCell ⟨g, 2, none⟩ (.int .i64 v2)) = W := ⟨_, rfl⟩
 rw [hw] at HT8 ⊢
 clear hw HT7 d2 z2 d0 z0
 have h4 := rdNum_is HT8.out.i HT8.out.d HO3.out
 rw [HE3.out.1, HE3.out.2] at h4
 refine h4.mono ?_
 rintro e w9 ⟨rfl, h1, h2, h3⟩
 have HT9 := Lib.hid (HT8.out.call h1 h2 h3)
 clear h1 h2 h3 h4 HT8
 have d3 : w9.cell? ⟨g, 3, none⟩ = some (.int .i64 0) := (blk_cell HT9.out.y 3).trans rfl
 have z3 : w9.frozen? ⟨g, 3, none⟩ = false := blk_frozen HT9.out.y 3
 have d0 : w9.cell? ⟨g, 0, none⟩ = some (.int .i64 k) := (blk_cell HT9.out.y 0).trans rfl
 have z0 : w9.frozen? ⟨g, 0, none⟩ = false := blk_frozen HT9.out.y 0
 go_upto_region 28 with fail
 have HT10 := Lib.hid (HT9.out.put 3 (.int .i64 v3))
 obtain ⟨w10, hw⟩ : ∃ W, (w9.setCell ⟨g, 3, none⟩ (.int .i64 v3)) = W := ⟨_, rfl⟩
 rw [hw] at HT10 ⊢
 clear hw HT9 d3 z3 d0 z0
 have hT : Fr _ w0 w x g 34 _ #[.int .i64 k, .int .i64 v1, .int .i64 v2, .int .i64 v3, .int .i64 0, .int .i64 0, .int .i64 0, .bool false, .slice none 0 0, .int .i64 0, .int .i64 0, .int .i64 0, .slice none 0 0, .int .i64 0, .int .i64 0, .int .i64 0, .slice none 0 0] _ _ _ := HT10.out
 refine wp_region_list ?_
 refine wpList_load_row rfl 34 (.tmp 3) rfl g rfl 34 _ (0, 0) _ hT.y Tryz.underlying34 rfl (by kernel_rfl) ?_
 refine wpList_store_row rfl 34 (.tmp 2) (.tmp 78) rfl w.heap.size _ rfl rfl 34 _ hT.g0 (by kernel_rfl) rfl (by simp [Value.oneCell']) ?_
 go_wp2_with fail
 refine bodyPost_ret (results_cell_row rfl _ _ w.heap.size 34 _ (0, 0) _ rfl hT.fin.1 Tryz.underlying34 rfl (by kernel_rfl)) rfl ?_
 rw [HF.out]
 exact ⟨_, _, _, rfl, Kd.R_nil _ _ _ _ _, Kd.R_nil _ _ _ _ _, Kd.R_nil _ _ _ _ _, hT.fin.2.2.1, hT.fin.2.2.2.1, hT.fin.2.2.2.2⟩
set_option maxHeartbeats 4000000 in
theorem rdMsgH {B : List Int} {w0 w : World} {x : Nat} {s : EyeS} (hI : IsRd B w0 w x s) (hB : Below w0.heap.size w0 w) (hok : okS s) {k : Int} (hk : (rSmall s).1 = k) (hn : k < 1 ∨ 6 < k) (he : (rSmall s).2.e = 0) (hhigh : 6 < k) :
  Calls Tryz.prog 62 #[.pointer (some ⟨x, 0, none⟩)] w fun e w' => MsP (fun W s => IsRd B w0 W x s) w0 w x (rMsg s).1 (rMsg s).2 e w' := by
 have HT1 := Lib.hid ((Fo.start (I := fun W s => IsRd B w0 W x s) (T := 34) (zs := #[.int .i64 0, .int .i64 0, .int .i64 0, .int .i64 0, .int .i64 0, .int .i64 0, .int .i64 0, .bool false, .slice none 0 0, .int .i64 0, .int .i64 0, .int .i64 0, .slice none 0 0, .int .i64 0, .int .i64 0, .int .i64 0, .slice none 0 0]) hI hB hI.lt hI.ge (fun _ _ _ e h => h.at e)).lay #[.int .i64 0, .int .i64 0, .int .i64 0, .int .i64 0, .int .i64 0, .int .i64 0, .int .i64 0, .bool false, .slice none 0 0, .int .i64 0, .int .i64 0, .int .i64 0, .slice none 0 0, .int .i64 0, .int .i64 0, .int .i64 0, .slice none 0 0])
 obtain ⟨s0, hs0⟩ : ∃ s0, (rSmall s).2 = s0 := ⟨_, rfl⟩
 have HN := Lib.hid (And.intro hk hs0)
 have HO0 := Lib.hid hok
 have ho1 := okS_rsmall hok
 rw [hs0] at ho1 he
 obtain ⟨s1, hs1⟩ : ∃ s1, eWrong true s0 = s1 := ⟨_, rfl⟩
 have ho1 := okS_wrong true ho1
 rw [hs1] at ho1
 have hnk : notKind k = true := by unfold notKind; rw [Bool.or_eq_true, decide_eq_true_eq, decide_eq_true_eq]; exact hn
 have HF0 := Lib.hid (show rMsg s = mBody rSmall rEntry (eList rTr) k s1 by
  have hm : rMk s = s1 := by unfold rMk; rw [hk, hs0, hnk, hs1]
  unfold rMsg
  rw [hm, hk])
 have q1 : (k == 1) = false := beq_eq_false_iff_ne.2 (by omega)
 have q2 : (k == 2) = false := beq_eq_false_iff_ne.2 (by omega)
 have q3 : (k == 3) = false := beq_eq_false_iff_ne.2 (by omega)
 have q4 : (k == 4) = false := beq_eq_false_iff_ne.2 (by omega)
 have q5 : (k == 5) = false := beq_eq_false_iff_ne.2 (by omega)
 have q6 : (k == 6) = false := beq_eq_false_iff_ne.2 (by omega)
 have HS1 := Lib.hid hs1
 have HQ := Lib.hid (show (s0.e == 0) = true by rw [he]; rfl)
 have p1 : decide (k < 1) = false := decide_eq_false (by omega)
 have p2 : decide ((6 : Int) < k) = true := decide_eq_true hhigh
 have HKN := Lib.hid hn
 clear hI hB hok hk hs0 hs1 he hn hnk hhigh
 obtain ⟨v1, hv1⟩ : ∃ v, (rSmall s1).1 = v := ⟨_, rfl⟩
 obtain ⟨s2, hs2⟩ : ∃ t, (rSmall s1).2 = t := ⟨_, rfl⟩
 have ho2 := okS_rsmall ho1
 rw [hs2] at ho2
 have HO1 := Lib.hid ho1; have HE1 := Lib.hid (And.intro hv1 hs2)
 obtain ⟨v2, hv2⟩ : ∃ v, (rSmall s2).1 = v := ⟨_, rfl⟩
 obtain ⟨s3, hs3⟩ : ∃ t, (rSmall s2).2 = t := ⟨_, rfl⟩
 have ho3 := okS_rsmall ho2
 rw [hs3] at ho3
 have HO2 := Lib.hid ho2; have HE2 := Lib.hid (And.intro hv2 hs3)
 obtain ⟨v3, hv3⟩ : ∃ v, (eNum s3).1 = v := ⟨_, rfl⟩
 obtain ⟨s4, hs4⟩ : ∃ t, (eNum s3).2 = t := ⟨_, rfl⟩
 have ho4 := okS_num ho3
 rw [hs4] at ho4
 have HO3 := Lib.hid ho3; have HE3 := Lib.hid (And.intro hv3 hs4)
 have HF := Lib.hid (show rMsg s = (⟨k, v1, v2, v3, 0, 0, 0, false, [], zE, zP⟩, s4) by
  rw [HF0.out]
  unfold mBody
  rw [if_neg (by have := HKN.out; omega)]; rw [if_neg (by have := HKN.out; omega)]; rw [if_neg (by have := HKN.out; omega)]; rw [if_neg (by have := HKN.out; omega)]; rw [if_neg (by have := HKN.out; omega)]; rw [if_neg (by have := HKN.out; omega)]; skip
  simp only [FM, PR, enOf, hv1, hs2, hv2, hs3, hv3, hs4])
 clear HF0 hv1 hs2 ho1 hv2 hs3 ho2 hv3 hs4 ho3 ho4
 go_enter Tryz.func62, Tryz.ntmps62
 go_upto_region 2 with fail
 obtain ⟨g, hg⟩ : ∃ g, (w.alloc (.cells #[.int .i64 0, .int .i64 0, .int .i64 0, .int .i64 0, .int .i64 0, .int .i64 0, .int .i64 0, .bool false, .slice none 0 0, .int .i64 0, .int .i64 0, .int .i64 0, .slice none 0 0, .int .i64 0, .int .i64 0, .int .i64 0, .slice none 0 0] 34)).heap.size = g := ⟨_, rfl⟩
 have hg' : w.heap.size + 1 = g := by rw [← hg]; simp
 obtain ⟨w1, hw1⟩ : ∃ W, (w.alloc (.cells #[.int .i64 0, .int .i64 0, .int .i64 0, .int .i64 0, .int .i64 0, .int .i64 0, .int .i64 0, .bool false, .slice none 0 0, .int .i64 0, .int .i64 0, .int .i64 0, .slice none 0 0, .int .i64 0, .int .i64 0, .int .i64 0, .slice none 0 0] 34)).alloc (.cells #[.int .i64 0, .int .i64 0, .int .i64 0, .int .i64 0, .int .i64 0, .int .i64 0, .int .i64 0, .bool false, .slice none 0 0, .int .i64 0, .int .i64 0, .int .i64 0, .slice none 0 0, .int .i64 0, .int .i64 0, .int .i64 0, .slice none 0 0] 34) = W := ⟨_, rfl⟩
 rw [hg, hw1] at HT1
 rw [hw1, hg']
 clear hg hw1 hg'
 go_wp2_with fail
 have h4 := rdSmall_is HT1.out.i HT1.out.d HO0.out
 rw [HN.out.1, HN.out.2] at h4
 refine h4.mono ?_
 rintro e w2 ⟨rfl, h1, h2, h3⟩
 have HT2 := Lib.hid (HT1.out.call h1 h2 h3)
 clear h1 h2 h3 h4 HT1 HN
 have d0 : w2.cell? ⟨g, 0, none⟩ = some (.int .i64 0) := (blk_cell HT2.out.y 0).trans rfl
 have z0 : w2.frozen? ⟨g, 0, none⟩ = false := blk_frozen HT2.out.y 0
 go_upto_region 3 with fail
 have HT3 := Lib.hid (HT2.out.put 0 (.int .i64 k))
 obtain ⟨w3, hw⟩ : ∃ W, w2.setCell ⟨g, 0, none⟩ (.int .i64 k) = W := ⟨_, rfl⟩
 rw [hw] at HT3 ⊢
 clear hw HT2 d0 z0
 have c2 : w3.cell? ⟨x, 2, none⟩ = some (.int .i64 s0.e) := by
  obtain ⟨A, c, j, g1, _⟩ := HT3.out.i
  simp [World.cell?, g1]
 have hq := HQ.out
 have d0 : w3.cell? ⟨g, 0, none⟩ = some (.int .i64 k) := (blk_cell HT3.out.y 0).trans rfl
 go_wp2_with fail
 clear c2 hq d0
 have h4 := rdFail40 HT3.out.i HT3.out.d
 rw [HS1.out] at h4
 refine h4.mono ?_
 rintro e w4 ⟨rfl, h1, h2, h3⟩
 have HT4 := Lib.hid (HT3.out.call h1 h2 h3)
 clear h1 h2 h3 h4 HT3 p1 p2
 go_wp2_with fail
 have h4 := rdSmall_is HT4.out.i HT4.out.d HO1.out
 rw [HE1.out.1, HE1.out.2] at h4
 refine h4.mono ?_
 rintro e w5 ⟨rfl, h1, h2, h3⟩
 have HT5 := Lib.hid (HT4.out.call h1 h2 h3)
 clear h1 h2 h3 h4 HT4
 have d1 : w5.cell? ⟨g, 1, none⟩ = some (.int .i64 0) := (blk_cell HT5.out.y 1).trans rfl
 have z1 : w5.frozen? ⟨g, 1, none⟩ = false := blk_frozen HT5.out.y 1
 have d0 : w5.cell? ⟨g, 0, none⟩ = some (.int .i64 k) := (blk_cell HT5.out.y 0).trans rfl
 have z0 : w5.frozen? ⟨g, 0, none⟩ = false := blk_frozen HT5.out.y 0
 go_wp2_with fail
 have HT6 := Lib.hid (HT5.out.put 1 (.int .i64 v1))
 obtain ⟨w6, hw⟩ : ∃ W, (w5.setCell ⟨g, 1, none⟩ (.int .i64 v1)) = W := ⟨_, rfl⟩
 rw [hw] at HT6 ⊢
 clear hw HT5 d1 z1 d0 z0
 have h4 := rdSmall_is HT6.out.i HT6.out.d HO2.out
 rw [HE2.out.1, HE2.out.2] at h4
 refine h4.mono ?_
 rintro e w7 ⟨rfl, h1, h2, h3⟩
 have HT7 := Lib.hid (HT6.out.call h1 h2 h3)
 clear h1 h2 h3 h4 HT6
 have d2 : w7.cell? ⟨g, 2, none⟩ = some (.int .i64 0) := (blk_cell HT7.out.y 2).trans rfl
 have z2 : w7.frozen? ⟨g, 2, none⟩ = false := blk_frozen HT7.out.y 2
 have d0 : w7.cell? ⟨g, 0, none⟩ = some (.int .i64 k) := (blk_cell HT7.out.y 0).trans rfl
 have z0 : w7.frozen? ⟨g, 0, none⟩ = false := blk_frozen HT7.out.y 0
 go_wp2_with fail
 have HT8 := Lib.hid (HT7.out.put 2 (.int .i64 v2))
 obtain ⟨w8, hw⟩ : ∃ W, (w7.setCell ⟨g, 2, none⟩ (.int .i64 v2)) = W := ⟨_, rfl⟩
 rw [hw] at HT8 ⊢
 clear hw HT7 d2 z2 d0 z0
 have h4 := rdNum_is HT8.out.i HT8.out.d HO3.out
 rw [HE3.out.1, HE3.out.2] at h4
 refine h4.mono ?_
 rintro e w9 ⟨rfl, h1, h2, h3⟩
 have HT9 := Lib.hid (HT8.out.call h1 h2 h3)
 clear h1 h2 h3 h4 HT8
 have d3 : w9.cell? ⟨g, 3, none⟩ = some (.int .i64 0) := (blk_cell HT9.out.y 3).trans rfl
 have z3 : w9.frozen? ⟨g, 3, none⟩ = false := blk_frozen HT9.out.y 3
 have d0 : w9.cell? ⟨g, 0, none⟩ = some (.int .i64 k) := (blk_cell HT9.out.y 0).trans rfl
 have z0 : w9.frozen? ⟨g, 0, none⟩ = false := blk_frozen HT9.out.y 0
 go_upto_region 28 with fail
 have HT10 := Lib.hid (HT9.out.put 3 (.int .i64 v3))
 obtain ⟨w10, hw⟩ : ∃ W, (w9.setCell ⟨g, 3, none⟩ (.int .i64 v3)) = W := ⟨_, rfl⟩
 rw [hw] at HT10 ⊢
 clear hw HT9 d3 z3 d0 z0
 have hT : Fr _ w0 w x g 34 _ #[.int .i64 k, .int .i64 v1, .int .i64 v2, .int .i64 v3, .int .i64 0, .int .i64 0, .int .i64 0, .bool false, .slice none 0 0, .int .i64 0, .int .i64 0, .int .i64 0, .slice none 0 0, .int .i64 0, .int .i64 0, .int .i64 0, .slice none 0 0] _ _ _ := HT10.out
 refine wp_region_list ?_
 refine wpList_load_row rfl 34 (.tmp 3) rfl g rfl 34 _ (0, 0) _ hT.y Tryz.underlying34 rfl (by kernel_rfl) ?_
 refine wpList_store_row rfl 34 (.tmp 2) (.tmp 78) rfl w.heap.size _ rfl rfl 34 _ hT.g0 (by kernel_rfl) rfl (by simp [Value.oneCell']) ?_
 go_wp2_with fail
 refine bodyPost_ret (results_cell_row rfl _ _ w.heap.size 34 _ (0, 0) _ rfl hT.fin.1 Tryz.underlying34 rfl (by kernel_rfl)) rfl ?_
 rw [HF.out]
 exact ⟨_, _, _, rfl, Kd.R_nil _ _ _ _ _, Kd.R_nil _ _ _ _ _, Kd.R_nil _ _ _ _ _, hT.fin.2.2.1, hT.fin.2.2.2.1, hT.fin.2.2.2.2⟩
theorem rdMsg_is {B : List Int} {w0 w : World} {x : Nat} {s : EyeS} (hI : IsRd B w0 w x s) (hB : Below w0.heap.size w0 w) (hok : okS s) :
  Calls Tryz.prog 62 #[.pointer (some ⟨x, 0, none⟩)] w fun e w' => MsP (fun W s => IsRd B w0 W x s) w0 w x (rMsg s).1 (rMsg s).2 e w' := by
 by_cases hn : (rSmall s).1 < 1 ∨ 6 < (rSmall s).1
 ·by_cases he : (rSmall s).2.e = 0
  ·rcases hn with h | h
   ·exact rdMsgL hI hB hok rfl (.inl h) he h
   ·exact rdMsgH hI hB hok rfl (.inr h) he h
  ·exact rdMsgE hI hB hok rfl hn he
 have hz : (rSmall s).1 = (eNum s).1 := by
  unfold rSmall
  split
  ·next h => exfalso; apply hn; left; unfold rSmall; rw [if_pos h]; exact (by decide : (-2147483648 : Int) < 1)
  ·rfl
 have he : (rSmall s).2.e = 0 := by
  rw [rSmall_2]
  by_cases he : (eNum s).2.e = 0
  ·exact he
  ·have := eNum_z he; omega
 by_cases h1 : (rSmall s).1 = 1
 ·exact rdMsg1 hI hB hok h1 he
 by_cases h2 : (rSmall s).1 = 2
 ·exact rdMsg2 hI hB hok h2 he
 by_cases h3 : (rSmall s).1 = 3
 ·exact rdMsg3 hI hB hok h3 he
 by_cases h4 : (rSmall s).1 = 4
 ·exact rdMsg4 hI hB hok h4 he
 by_cases h5 : (rSmall s).1 = 5
 ·exact rdMsg5 hI hB hok h5 he
 exact rdMsg6 hI hB hok (by omega) he
end Go.Proofs.YtgiefblcckikeaaGreat.M
end

section
/- A message without what its kind does not have: record.bare, the reference's plain (printed by genbare04.py). -/
attribute [local irreducible] Go.wpStill
namespace Go.Proofs.YtgiefblcckikeaaGreat.M
open Go.RowKit Go.Proofs.YtgiefblcckikeaaGreatW.PrintWords Go.Proofs.YtgiefblcckikeaaGreatW.PrintLast Go.Proofs.YtgiefblcckikeaaGreatW.PrintMore Go.Proofs.YtgiefblcckikeaaGreat.G
set_option maxHeartbeats 4000000 in
theorem plain_k6 {w : World} (m : MsgD) {A8 A12 A16 : Option Addr} {c8 c12 c16 : Nat} (hm : MsgC w m A8 c8 A12 c12 A16 c16) (hk : m.f0 = 6) :
  Calls Tryz.prog 68 #[.agg #[.int .i64 m.f0, .int .i64 m.f1, .int .i64 m.f2, .int .i64 m.f3, .int .i64 m.f4, .int .i64 m.f5, .int .i64 m.f6, .bool m.f7, .slice A8 m.f8.length c8, .int .i64 m.f9.f0, .int .i64 m.f9.f1, .int .i64 m.f9.f2, .slice A12 m.f9.f3.length c12, .int .i64 m.f10.f0, .int .i64 m.f10.f1, .int .i64 m.f10.f2, .slice A16 m.f10.f3.length c16]] w fun e w' => BareP w m e w' := by
 have t6 : (m.f0 == 6) = true := by rw [hk]; rfl
 have t1 : (m.f0 == 1) = false := by rw [hk]; rfl
 have t2 : (m.f0 == 2) = false := by rw [hk]; rfl
 have t3 : (m.f0 == 3) = false := by rw [hk]; rfl
 have t4 : (m.f0 == 4) = false := by rw [hk]; rfl
 have t5 : (m.f0 == 5) = false := by rw [hk]; rfl
 have HK := Lib.hid hk
 clear hk
 have HM := Lib.hid hm
 clear hm
 go_enter Tryz.func68, Tryz.ntmps68
 go_upto_region 2 with fail
 obtain ⟨w0, hw, hT⟩ := bare_start w m A8 A12 A16 c8 c12 c16
 rw [← hw]
 have HT0 := Lib.hid hT
 clear hw hT
 obtain ⟨g, hg⟩ : ∃ g, w.heap.size = g := ⟨_, rfl⟩
 have HG := Lib.hid hg
 rw [hg] at HT0 ⊢
 clear hg
 obtain ⟨a0, a1, a2, a3, a4, a5, a6, a7, a8, a9, a10, a11, a12, a13, a14, a15, a16⟩ := MsBox.cell HT0.out.h.now
 have b9 : w0.cell? ⟨g + 1 + 1, 9, none⟩ = some (.int .i64 0) := (blk_cell HT0.out.y 9).trans rfl
 have z9 : w0.frozen? ⟨g + 1 + 1, 9, none⟩ = false := blk_frozen HT0.out.y 9
 have b10 : w0.cell? ⟨g + 1 + 1, 10, none⟩ = some (.int .i64 0) := (blk_cell HT0.out.y 10).trans rfl
 have z10 : w0.frozen? ⟨g + 1 + 1, 10, none⟩ = false := blk_frozen HT0.out.y 10
 have b11 : w0.cell? ⟨g + 1 + 1, 11, none⟩ = some (.int .i64 0) := (blk_cell HT0.out.y 11).trans rfl
 have z11 : w0.frozen? ⟨g + 1 + 1, 11, none⟩ = false := blk_frozen HT0.out.y 11
 have b12 : w0.cell? ⟨g + 1 + 1, 12, none⟩ = some (.slice none 0 0) := (blk_cell HT0.out.y 12).trans rfl
 have z12 : w0.frozen? ⟨g + 1 + 1, 12, none⟩ = false := blk_frozen HT0.out.y 12
 have hne : g + 1 + 1 ≠ g := by omega
 have hne2 : g ≠ g + 1 + 1 := by omega
 go_upto_region 4 with fail
 have hT : Bx w (g + 1 + 1) (g + 1) 34 #[.int .i64 0, .int .i64 0, .int .i64 0, .int .i64 0, .int .i64 0, .int .i64 0, .int .i64 0, .bool false, .slice none 0 0, .int .i64 0, .int .i64 0, .int .i64 0, .slice none 0 0, .int .i64 0, .int .i64 0, .int .i64 0, .slice none 0 0] #[.int .i64 m.f0, .int .i64 m.f1, .int .i64 m.f2, .int .i64 0, .int .i64 0, .int .i64 0, .int .i64 0, .bool false, .slice none 0 0, .int .i64 m.f9.f0, .int .i64 m.f9.f1, .int .i64 m.f9.f2, .slice A12 m.f9.f3.length c12, .int .i64 0, .int .i64 0, .int .i64 0, .slice none 0 0] _ _ := ((((HT0.out.put 9 (.int .i64 m.f9.f0)).put 10 (.int .i64 m.f9.f1)).put 11 (.int .i64 m.f9.f2)).put 12 (.slice A12 m.f9.f3.length c12))
 have HT1 := Lib.hid hT
 clear hT
 obtain ⟨w1, hw⟩ : ∃ w1, ((((w0.setCell ⟨g + 1 + 1, 9, none⟩ (.int .i64 m.f9.f0)).setCell ⟨g + 1 + 1, 10, none⟩ (.int .i64 m.f9.f1)).setCell ⟨g + 1 + 1, 11, none⟩ (.int .i64 m.f9.f2)).setCell ⟨g + 1 + 1, 12, none⟩ (.slice A12 m.f9.f3.length c12)) = w1 := ⟨_, rfl⟩
 rw [hw] at HT1 ⊢
 clear hw
 refine wp_region_list ?_
 refine wpList_load_row rfl 34 (.tmp 4) rfl (g + 1 + 1) rfl 34 _ (0, 0) _ HT1.out.y Tryz.underlying34 rfl (by kernel_rfl) ?_
 refine wpList_store_row rfl 34 (.tmp 2) (.tmp 18) rfl (g + 1) _ rfl rfl 34 _ HT1.out.g0 (by kernel_rfl) rfl (by simp [Value.oneCell']) ?_
 go_wp2_with fail
 refine bodyPost_ret (results_ct rfl _ _ (g + 1) 34 _ (0, 0) _ rfl HT1.out.fin.1 Tryz.underlying34 rfl (by kernel_rfl)) rfl ?_
 have hik : isKind m.f0 = true := by rw [HK.out]; rfl
 refine ⟨⟨m.f0, m.f1, m.f2, 0, 0, 0, 0, false, [], m.f9, zP⟩, none, A12, none, 0, c12, 0, by rw [hik]; rfl, fun _ => by unfold bareM; simp [HK.out], ⟨Nat.le_refl 0, Kd.C_nil _ _, HM.out.l12, Kd.C_below HM.out.g12 HT1.out.fin.2.2, Nat.le_refl 0, Kd.C_nil _ _⟩, HT1.out.fin.2.2⟩
set_option maxHeartbeats 4000000 in
theorem plain_k1 {w : World} (m : MsgD) {A8 A12 A16 : Option Addr} {c8 c12 c16 : Nat} (hm : MsgC w m A8 c8 A12 c12 A16 c16) (hk : m.f0 = 1) :
  Calls Tryz.prog 68 #[.agg #[.int .i64 m.f0, .int .i64 m.f1, .int .i64 m.f2, .int .i64 m.f3, .int .i64 m.f4, .int .i64 m.f5, .int .i64 m.f6, .bool m.f7, .slice A8 m.f8.length c8, .int .i64 m.f9.f0, .int .i64 m.f9.f1, .int .i64 m.f9.f2, .slice A12 m.f9.f3.length c12, .int .i64 m.f10.f0, .int .i64 m.f10.f1, .int .i64 m.f10.f2, .slice A16 m.f10.f3.length c16]] w fun e w' => BareP w m e w' := by
 have t6 : (m.f0 == 6) = false := by rw [hk]; rfl
 have t1 : (m.f0 == 1) = true := by rw [hk]; rfl
 have t2 : (m.f0 == 2) = false := by rw [hk]; rfl
 have t3 : (m.f0 == 3) = false := by rw [hk]; rfl
 have t4 : (m.f0 == 4) = false := by rw [hk]; rfl
 have t5 : (m.f0 == 5) = false := by rw [hk]; rfl
 have HK := Lib.hid hk
 clear hk
 have HM := Lib.hid hm
 clear hm
 go_enter Tryz.func68, Tryz.ntmps68
 go_upto_region 2 with fail
 obtain ⟨w0, hw, hT⟩ := bare_start w m A8 A12 A16 c8 c12 c16
 rw [← hw]
 have HT0 := Lib.hid hT
 clear hw hT
 obtain ⟨g, hg⟩ : ∃ g, w.heap.size = g := ⟨_, rfl⟩
 have HG := Lib.hid hg
 rw [hg] at HT0 ⊢
 clear hg
 obtain ⟨a0, a1, a2, a3, a4, a5, a6, a7, a8, a9, a10, a11, a12, a13, a14, a15, a16⟩ := MsBox.cell HT0.out.h.now
 have b3 : w0.cell? ⟨g + 1 + 1, 3, none⟩ = some (.int .i64 0) := (blk_cell HT0.out.y 3).trans rfl
 have z3 : w0.frozen? ⟨g + 1 + 1, 3, none⟩ = false := blk_frozen HT0.out.y 3
 have b4 : w0.cell? ⟨g + 1 + 1, 4, none⟩ = some (.int .i64 0) := (blk_cell HT0.out.y 4).trans rfl
 have z4 : w0.frozen? ⟨g + 1 + 1, 4, none⟩ = false := blk_frozen HT0.out.y 4
 have b5 : w0.cell? ⟨g + 1 + 1, 5, none⟩ = some (.int .i64 0) := (blk_cell HT0.out.y 5).trans rfl
 have z5 : w0.frozen? ⟨g + 1 + 1, 5, none⟩ = false := blk_frozen HT0.out.y 5
 have hne : g + 1 + 1 ≠ g := by omega
 have hne2 : g ≠ g + 1 + 1 := by omega
 go_upto_region 24 with fail
 have hT : Bx w (g + 1 + 1) (g + 1) 34 #[.int .i64 0, .int .i64 0, .int .i64 0, .int .i64 0, .int .i64 0, .int .i64 0, .int .i64 0, .bool false, .slice none 0 0, .int .i64 0, .int .i64 0, .int .i64 0, .slice none 0 0, .int .i64 0, .int .i64 0, .int .i64 0, .slice none 0 0] #[.int .i64 m.f0, .int .i64 m.f1, .int .i64 m.f2, .int .i64 m.f3, .int .i64 m.f4, .int .i64 m.f5, .int .i64 0, .bool false, .slice none 0 0, .int .i64 0, .int .i64 0, .int .i64 0, .slice none 0 0, .int .i64 0, .int .i64 0, .int .i64 0, .slice none 0 0] _ _ := (((HT0.out.put 3 (.int .i64 m.f3)).put 4 (.int .i64 m.f4)).put 5 (.int .i64 m.f5))
 have HT1 := Lib.hid hT
 clear hT
 obtain ⟨w1, hw⟩ : ∃ w1, (((w0.setCell ⟨g + 1 + 1, 3, none⟩ (.int .i64 m.f3)).setCell ⟨g + 1 + 1, 4, none⟩ (.int .i64 m.f4)).setCell ⟨g + 1 + 1, 5, none⟩ (.int .i64 m.f5)) = w1 := ⟨_, rfl⟩
 rw [hw] at HT1 ⊢
 clear hw
 refine wp_region_list ?_
 refine wpList_load_row rfl 34 (.tmp 4) rfl (g + 1 + 1) rfl 34 _ (0, 0) _ HT1.out.y Tryz.underlying34 rfl (by kernel_rfl) ?_
 refine wpList_store_row rfl 34 (.tmp 2) (.tmp 61) rfl (g + 1) _ rfl rfl 34 _ HT1.out.g0 (by kernel_rfl) rfl (by simp [Value.oneCell']) ?_
 go_wp2_with fail
 refine bodyPost_ret (results_ct rfl _ _ (g + 1) 34 _ (0, 0) _ rfl HT1.out.fin.1 Tryz.underlying34 rfl (by kernel_rfl)) rfl ?_
 have hik : isKind m.f0 = true := by rw [HK.out]; rfl
 refine ⟨⟨m.f0, m.f1, m.f2, m.f3, m.f4, m.f5, 0, false, [], zE, zP⟩, none, none, none, 0, 0, 0, by rw [hik]; rfl, fun _ => by unfold bareM; simp [HK.out], ⟨Nat.le_refl 0, Kd.C_nil _ _, Nat.le_refl 0, Kd.C_nil _ _, Nat.le_refl 0, Kd.C_nil _ _⟩, HT1.out.fin.2.2⟩
set_option maxHeartbeats 4000000 in
theorem plain_k2 {w : World} (m : MsgD) {A8 A12 A16 : Option Addr} {c8 c12 c16 : Nat} (hm : MsgC w m A8 c8 A12 c12 A16 c16) (hk : m.f0 = 2) :
  Calls Tryz.prog 68 #[.agg #[.int .i64 m.f0, .int .i64 m.f1, .int .i64 m.f2, .int .i64 m.f3, .int .i64 m.f4, .int .i64 m.f5, .int .i64 m.f6, .bool m.f7, .slice A8 m.f8.length c8, .int .i64 m.f9.f0, .int .i64 m.f9.f1, .int .i64 m.f9.f2, .slice A12 m.f9.f3.length c12, .int .i64 m.f10.f0, .int .i64 m.f10.f1, .int .i64 m.f10.f2, .slice A16 m.f10.f3.length c16]] w fun e w' => BareP w m e w' := by
 have t6 : (m.f0 == 6) = false := by rw [hk]; rfl
 have t1 : (m.f0 == 1) = false := by rw [hk]; rfl
 have t2 : (m.f0 == 2) = true := by rw [hk]; rfl
 have t3 : (m.f0 == 3) = false := by rw [hk]; rfl
 have t4 : (m.f0 == 4) = false := by rw [hk]; rfl
 have t5 : (m.f0 == 5) = false := by rw [hk]; rfl
 have HK := Lib.hid hk
 clear hk
 have HM := Lib.hid hm
 clear hm
 go_enter Tryz.func68, Tryz.ntmps68
 go_upto_region 2 with fail
 obtain ⟨w0, hw, hT⟩ := bare_start w m A8 A12 A16 c8 c12 c16
 rw [← hw]
 have HT0 := Lib.hid hT
 clear hw hT
 obtain ⟨g, hg⟩ : ∃ g, w.heap.size = g := ⟨_, rfl⟩
 have HG := Lib.hid hg
 rw [hg] at HT0 ⊢
 clear hg
 obtain ⟨a0, a1, a2, a3, a4, a5, a6, a7, a8, a9, a10, a11, a12, a13, a14, a15, a16⟩ := MsBox.cell HT0.out.h.now
 have b3 : w0.cell? ⟨g + 1 + 1, 3, none⟩ = some (.int .i64 0) := (blk_cell HT0.out.y 3).trans rfl
 have z3 : w0.frozen? ⟨g + 1 + 1, 3, none⟩ = false := blk_frozen HT0.out.y 3
 have b7 : w0.cell? ⟨g + 1 + 1, 7, none⟩ = some (.bool false) := (blk_cell HT0.out.y 7).trans rfl
 have z7 : w0.frozen? ⟨g + 1 + 1, 7, none⟩ = false := blk_frozen HT0.out.y 7
 have hne : g + 1 + 1 ≠ g := by omega
 have hne2 : g ≠ g + 1 + 1 := by omega
 go_upto_region 24 with fail
 have hT : Bx w (g + 1 + 1) (g + 1) 34 #[.int .i64 0, .int .i64 0, .int .i64 0, .int .i64 0, .int .i64 0, .int .i64 0, .int .i64 0, .bool false, .slice none 0 0, .int .i64 0, .int .i64 0, .int .i64 0, .slice none 0 0, .int .i64 0, .int .i64 0, .int .i64 0, .slice none 0 0] #[.int .i64 m.f0, .int .i64 m.f1, .int .i64 m.f2, .int .i64 m.f3, .int .i64 0, .int .i64 0, .int .i64 0, .bool m.f7, .slice none 0 0, .int .i64 0, .int .i64 0, .int .i64 0, .slice none 0 0, .int .i64 0, .int .i64 0, .int .i64 0, .slice none 0 0] _ _ := ((HT0.out.put 3 (.int .i64 m.f3)).put 7 (.bool m.f7))
 have HT1 := Lib.hid hT
 clear hT
 obtain ⟨w1, hw⟩ : ∃ w1, ((w0.setCell ⟨g + 1 + 1, 3, none⟩ (.int .i64 m.f3)).setCell ⟨g + 1 + 1, 7, none⟩ (.bool m.f7)) = w1 := ⟨_, rfl⟩
 rw [hw] at HT1 ⊢
 clear hw
 refine wp_region_list ?_
 refine wpList_load_row rfl 34 (.tmp 4) rfl (g + 1 + 1) rfl 34 _ (0, 0) _ HT1.out.y Tryz.underlying34 rfl (by kernel_rfl) ?_
 refine wpList_store_row rfl 34 (.tmp 2) (.tmp 61) rfl (g + 1) _ rfl rfl 34 _ HT1.out.g0 (by kernel_rfl) rfl (by simp [Value.oneCell']) ?_
 go_wp2_with fail
 refine bodyPost_ret (results_ct rfl _ _ (g + 1) 34 _ (0, 0) _ rfl HT1.out.fin.1 Tryz.underlying34 rfl (by kernel_rfl)) rfl ?_
 have hik : isKind m.f0 = true := by rw [HK.out]; rfl
 refine ⟨⟨m.f0, m.f1, m.f2, m.f3, 0, 0, 0, m.f7, [], zE, zP⟩, none, none, none, 0, 0, 0, by rw [hik]; rfl, fun _ => by unfold bareM; simp [HK.out], ⟨Nat.le_refl 0, Kd.C_nil _ _, Nat.le_refl 0, Kd.C_nil _ _, Nat.le_refl 0, Kd.C_nil _ _⟩, HT1.out.fin.2.2⟩
set_option maxHeartbeats 4000000 in
theorem plain_k3 {w : World} (m : MsgD) {A8 A12 A16 : Option Addr} {c8 c12 c16 : Nat} (hm : MsgC w m A8 c8 A12 c12 A16 c16) (hk : m.f0 = 3) :
  Calls Tryz.prog 68 #[.agg #[.int .i64 m.f0, .int .i64 m.f1, .int .i64 m.f2, .int .i64 m.f3, .int .i64 m.f4, .int .i64 m.f5, .int .i64 m.f6, .bool m.f7, .slice A8 m.f8.length c8, .int .i64 m.f9.f0, .int .i64 m.f9.f1, .int .i64 m.f9.f2, .slice A12 m.f9.f3.length c12, .int .i64 m.f10.f0, .int .i64 m.f10.f1, .int .i64 m.f10.f2, .slice A16 m.f10.f3.length c16]] w fun e w' => BareP w m e w' := by
 have t6 : (m.f0 == 6) = false := by rw [hk]; rfl
 have t1 : (m.f0 == 1) = false := by rw [hk]; rfl
 have t2 : (m.f0 == 2) = false := by rw [hk]; rfl
 have t3 : (m.f0 == 3) = true := by rw [hk]; rfl
 have t4 : (m.f0 == 4) = false := by rw [hk]; rfl
 have t5 : (m.f0 == 5) = false := by rw [hk]; rfl
 have HK := Lib.hid hk
 clear hk
 have HM := Lib.hid hm
 clear hm
 go_enter Tryz.func68, Tryz.ntmps68
 go_upto_region 2 with fail
 obtain ⟨w0, hw, hT⟩ := bare_start w m A8 A12 A16 c8 c12 c16
 rw [← hw]
 have HT0 := Lib.hid hT
 clear hw hT
 obtain ⟨g, hg⟩ : ∃ g, w.heap.size = g := ⟨_, rfl⟩
 have HG := Lib.hid hg
 rw [hg] at HT0 ⊢
 clear hg
 obtain ⟨a0, a1, a2, a3, a4, a5, a6, a7, a8, a9, a10, a11, a12, a13, a14, a15, a16⟩ := MsBox.cell HT0.out.h.now
 have b3 : w0.cell? ⟨g + 1 + 1, 3, none⟩ = some (.int .i64 0) := (blk_cell HT0.out.y 3).trans rfl
 have z3 : w0.frozen? ⟨g + 1 + 1, 3, none⟩ = false := blk_frozen HT0.out.y 3
 have b4 : w0.cell? ⟨g + 1 + 1, 4, none⟩ = some (.int .i64 0) := (blk_cell HT0.out.y 4).trans rfl
 have z4 : w0.frozen? ⟨g + 1 + 1, 4, none⟩ = false := blk_frozen HT0.out.y 4
 have b5 : w0.cell? ⟨g + 1 + 1, 5, none⟩ = some (.int .i64 0) := (blk_cell HT0.out.y 5).trans rfl
 have z5 : w0.frozen? ⟨g + 1 + 1, 5, none⟩ = false := blk_frozen HT0.out.y 5
 have b6 : w0.cell? ⟨g + 1 + 1, 6, none⟩ = some (.int .i64 0) := (blk_cell HT0.out.y 6).trans rfl
 have z6 : w0.frozen? ⟨g + 1 + 1, 6, none⟩ = false := blk_frozen HT0.out.y 6
 have b8 : w0.cell? ⟨g + 1 + 1, 8, none⟩ = some (.slice none 0 0) := (blk_cell HT0.out.y 8).trans rfl
 have z8 : w0.frozen? ⟨g + 1 + 1, 8, none⟩ = false := blk_frozen HT0.out.y 8
 have hne : g + 1 + 1 ≠ g := by omega
 have hne2 : g ≠ g + 1 + 1 := by omega
 go_upto_region 24 with fail
 have hT : Bx w (g + 1 + 1) (g + 1) 34 #[.int .i64 0, .int .i64 0, .int .i64 0, .int .i64 0, .int .i64 0, .int .i64 0, .int .i64 0, .bool false, .slice none 0 0, .int .i64 0, .int .i64 0, .int .i64 0, .slice none 0 0, .int .i64 0, .int .i64 0, .int .i64 0, .slice none 0 0] #[.int .i64 m.f0, .int .i64 m.f1, .int .i64 m.f2, .int .i64 m.f3, .int .i64 m.f4, .int .i64 m.f5, .int .i64 m.f6, .bool false, .slice A8 m.f8.length c8, .int .i64 0, .int .i64 0, .int .i64 0, .slice none 0 0, .int .i64 0, .int .i64 0, .int .i64 0, .slice none 0 0] _ _ := (((((HT0.out.put 3 (.int .i64 m.f3)).put 4 (.int .i64 m.f4)).put 5 (.int .i64 m.f5)).put 6 (.int .i64 m.f6)).put 8 (.slice A8 m.f8.length c8))
 have HT1 := Lib.hid hT
 clear hT
 obtain ⟨w1, hw⟩ : ∃ w1, (((((w0.setCell ⟨g + 1 + 1, 3, none⟩ (.int .i64 m.f3)).setCell ⟨g + 1 + 1, 4, none⟩ (.int .i64 m.f4)).setCell ⟨g + 1 + 1, 5, none⟩ (.int .i64 m.f5)).setCell ⟨g + 1 + 1, 6, none⟩ (.int .i64 m.f6)).setCell ⟨g + 1 + 1, 8, none⟩ (.slice A8 m.f8.length c8)) = w1 := ⟨_, rfl⟩
 rw [hw] at HT1 ⊢
 clear hw
 refine wp_region_list ?_
 refine wpList_load_row rfl 34 (.tmp 4) rfl (g + 1 + 1) rfl 34 _ (0, 0) _ HT1.out.y Tryz.underlying34 rfl (by kernel_rfl) ?_
 refine wpList_store_row rfl 34 (.tmp 2) (.tmp 61) rfl (g + 1) _ rfl rfl 34 _ HT1.out.g0 (by kernel_rfl) rfl (by simp [Value.oneCell']) ?_
 go_wp2_with fail
 refine bodyPost_ret (results_ct rfl _ _ (g + 1) 34 _ (0, 0) _ rfl HT1.out.fin.1 Tryz.underlying34 rfl (by kernel_rfl)) rfl ?_
 have hik : isKind m.f0 = true := by rw [HK.out]; rfl
 refine ⟨⟨m.f0, m.f1, m.f2, m.f3, m.f4, m.f5, m.f6, false, m.f8, zE, zP⟩, A8, none, none, c8, 0, 0, by rw [hik]; rfl, fun _ => by unfold bareM; simp [HK.out], ⟨HM.out.l8, Kd.C_below HM.out.g8 HT1.out.fin.2.2, Nat.le_refl 0, Kd.C_nil _ _, Nat.le_refl 0, Kd.C_nil _ _⟩, HT1.out.fin.2.2⟩
set_option maxHeartbeats 4000000 in
theorem plain_k4 {w : World} (m : MsgD) {A8 A12 A16 : Option Addr} {c8 c12 c16 : Nat} (hm : MsgC w m A8 c8 A12 c12 A16 c16) (hk : m.f0 = 4) :
  Calls Tryz.prog 68 #[.agg #[.int .i64 m.f0, .int .i64 m.f1, .int .i64 m.f2, .int .i64 m.f3, .int .i64 m.f4, .int .i64 m.f5, .int .i64 m.f6, .bool m.f7, .slice A8 m.f8.length c8, .int .i64 m.f9.f0, .int .i64 m.f9.f1, .int .i64 m.f9.f2, .slice A12 m.f9.f3.length c12, .int .i64 m.f10.f0, .int .i64 m.f10.f1, .int .i64 m.f10.f2, .slice A16 m.f10.f3.length c16]] w fun e w' => BareP w m e w' := by
 have t6 : (m.f0 == 6) = false := by rw [hk]; rfl
 have t1 : (m.f0 == 1) = false := by rw [hk]; rfl
 have t2 : (m.f0 == 2) = false := by rw [hk]; rfl
 have t3 : (m.f0 == 3) = false := by rw [hk]; rfl
 have t4 : (m.f0 == 4) = true := by rw [hk]; rfl
 have t5 : (m.f0 == 5) = false := by rw [hk]; rfl
 have HK := Lib.hid hk
 clear hk
 have HM := Lib.hid hm
 clear hm
 go_enter Tryz.func68, Tryz.ntmps68
 go_upto_region 2 with fail
 obtain ⟨w0, hw, hT⟩ := bare_start w m A8 A12 A16 c8 c12 c16
 rw [← hw]
 have HT0 := Lib.hid hT
 clear hw hT
 obtain ⟨g, hg⟩ : ∃ g, w.heap.size = g := ⟨_, rfl⟩
 have HG := Lib.hid hg
 rw [hg] at HT0 ⊢
 clear hg
 obtain ⟨a0, a1, a2, a3, a4, a5, a6, a7, a8, a9, a10, a11, a12, a13, a14, a15, a16⟩ := MsBox.cell HT0.out.h.now
 have b3 : w0.cell? ⟨g + 1 + 1, 3, none⟩ = some (.int .i64 0) := (blk_cell HT0.out.y 3).trans rfl
 have z3 : w0.frozen? ⟨g + 1 + 1, 3, none⟩ = false := blk_frozen HT0.out.y 3
 have b7 : w0.cell? ⟨g + 1 + 1, 7, none⟩ = some (.bool false) := (blk_cell HT0.out.y 7).trans rfl
 have z7 : w0.frozen? ⟨g + 1 + 1, 7, none⟩ = false := blk_frozen HT0.out.y 7
 have b4 : w0.cell? ⟨g + 1 + 1, 4, none⟩ = some (.int .i64 0) := (blk_cell HT0.out.y 4).trans rfl
 have z4 : w0.frozen? ⟨g + 1 + 1, 4, none⟩ = false := blk_frozen HT0.out.y 4
 have hne : g + 1 + 1 ≠ g := by omega
 have hne2 : g ≠ g + 1 + 1 := by omega
 go_upto_region 24 with fail
 have hT : Bx w (g + 1 + 1) (g + 1) 34 #[.int .i64 0, .int .i64 0, .int .i64 0, .int .i64 0, .int .i64 0, .int .i64 0, .int .i64 0, .bool false, .slice none 0 0, .int .i64 0, .int .i64 0, .int .i64 0, .slice none 0 0, .int .i64 0, .int .i64 0, .int .i64 0, .slice none 0 0] #[.int .i64 m.f0, .int .i64 m.f1, .int .i64 m.f2, .int .i64 m.f3, .int .i64 m.f4, .int .i64 0, .int .i64 0, .bool m.f7, .slice none 0 0, .int .i64 0, .int .i64 0, .int .i64 0, .slice none 0 0, .int .i64 0, .int .i64 0, .int .i64 0, .slice none 0 0] _ _ := (((HT0.out.put 3 (.int .i64 m.f3)).put 7 (.bool m.f7)).put 4 (.int .i64 m.f4))
 have HT1 := Lib.hid hT
 clear hT
 obtain ⟨w1, hw⟩ : ∃ w1, (((w0.setCell ⟨g + 1 + 1, 3, none⟩ (.int .i64 m.f3)).setCell ⟨g + 1 + 1, 7, none⟩ (.bool m.f7)).setCell ⟨g + 1 + 1, 4, none⟩ (.int .i64 m.f4)) = w1 := ⟨_, rfl⟩
 rw [hw] at HT1 ⊢
 clear hw
 refine wp_region_list ?_
 refine wpList_load_row rfl 34 (.tmp 4) rfl (g + 1 + 1) rfl 34 _ (0, 0) _ HT1.out.y Tryz.underlying34 rfl (by kernel_rfl) ?_
 refine wpList_store_row rfl 34 (.tmp 2) (.tmp 61) rfl (g + 1) _ rfl rfl 34 _ HT1.out.g0 (by kernel_rfl) rfl (by simp [Value.oneCell']) ?_
 go_wp2_with fail
 refine bodyPost_ret (results_ct rfl _ _ (g + 1) 34 _ (0, 0) _ rfl HT1.out.fin.1 Tryz.underlying34 rfl (by kernel_rfl)) rfl ?_
 have hik : isKind m.f0 = true := by rw [HK.out]; rfl
 refine ⟨⟨m.f0, m.f1, m.f2, m.f3, m.f4, 0, 0, m.f7, [], zE, zP⟩, none, none, none, 0, 0, 0, by rw [hik]; rfl, fun _ => by unfold bareM; simp [HK.out], ⟨Nat.le_refl 0, Kd.C_nil _ _, Nat.le_refl 0, Kd.C_nil _ _, Nat.le_refl 0, Kd.C_nil _ _⟩, HT1.out.fin.2.2⟩
set_option maxHeartbeats 4000000 in
theorem plain_k5 {w : World} (m : MsgD) {A8 A12 A16 : Option Addr} {c8 c12 c16 : Nat} (hm : MsgC w m A8 c8 A12 c12 A16 c16) (hk : m.f0 = 5) :
  Calls Tryz.prog 68 #[.agg #[.int .i64 m.f0, .int .i64 m.f1, .int .i64 m.f2, .int .i64 m.f3, .int .i64 m.f4, .int .i64 m.f5, .int .i64 m.f6, .bool m.f7, .slice A8 m.f8.length c8, .int .i64 m.f9.f0, .int .i64 m.f9.f1, .int .i64 m.f9.f2, .slice A12 m.f9.f3.length c12, .int .i64 m.f10.f0, .int .i64 m.f10.f1, .int .i64 m.f10.f2, .slice A16 m.f10.f3.length c16]] w fun e w' => BareP w m e w' := by
 have t6 : (m.f0 == 6) = false := by rw [hk]; rfl
 have t1 : (m.f0 == 1) = false := by rw [hk]; rfl
 have t2 : (m.f0 == 2) = false := by rw [hk]; rfl
 have t3 : (m.f0 == 3) = false := by rw [hk]; rfl
 have t4 : (m.f0 == 4) = false := by rw [hk]; rfl
 have t5 : (m.f0 == 5) = true := by rw [hk]; rfl
 have HK := Lib.hid hk
 clear hk
 have HM := Lib.hid hm
 clear hm
 go_enter Tryz.func68, Tryz.ntmps68
 go_upto_region 2 with fail
 obtain ⟨w0, hw, hT⟩ := bare_start w m A8 A12 A16 c8 c12 c16
 rw [← hw]
 have HT0 := Lib.hid hT
 clear hw hT
 obtain ⟨g, hg⟩ : ∃ g, w.heap.size = g := ⟨_, rfl⟩
 have HG := Lib.hid hg
 rw [hg] at HT0 ⊢
 clear hg
 obtain ⟨a0, a1, a2, a3, a4, a5, a6, a7, a8, a9, a10, a11, a12, a13, a14, a15, a16⟩ := MsBox.cell HT0.out.h.now
 have b3 : w0.cell? ⟨g + 1 + 1, 3, none⟩ = some (.int .i64 0) := (blk_cell HT0.out.y 3).trans rfl
 have z3 : w0.frozen? ⟨g + 1 + 1, 3, none⟩ = false := blk_frozen HT0.out.y 3
 have b4 : w0.cell? ⟨g + 1 + 1, 4, none⟩ = some (.int .i64 0) := (blk_cell HT0.out.y 4).trans rfl
 have z4 : w0.frozen? ⟨g + 1 + 1, 4, none⟩ = false := blk_frozen HT0.out.y 4
 have b5 : w0.cell? ⟨g + 1 + 1, 5, none⟩ = some (.int .i64 0) := (blk_cell HT0.out.y 5).trans rfl
 have z5 : w0.frozen? ⟨g + 1 + 1, 5, none⟩ = false := blk_frozen HT0.out.y 5
 have b13 : w0.cell? ⟨g + 1 + 1, 13, none⟩ = some (.int .i64 0) := (blk_cell HT0.out.y 13).trans rfl
 have z13 : w0.frozen? ⟨g + 1 + 1, 13, none⟩ = false := blk_frozen HT0.out.y 13
 have b14 : w0.cell? ⟨g + 1 + 1, 14, none⟩ = some (.int .i64 0) := (blk_cell HT0.out.y 14).trans rfl
 have z14 : w0.frozen? ⟨g + 1 + 1, 14, none⟩ = false := blk_frozen HT0.out.y 14
 have b15 : w0.cell? ⟨g + 1 + 1, 15, none⟩ = some (.int .i64 0) := (blk_cell HT0.out.y 15).trans rfl
 have z15 : w0.frozen? ⟨g + 1 + 1, 15, none⟩ = false := blk_frozen HT0.out.y 15
 have b16 : w0.cell? ⟨g + 1 + 1, 16, none⟩ = some (.slice none 0 0) := (blk_cell HT0.out.y 16).trans rfl
 have z16 : w0.frozen? ⟨g + 1 + 1, 16, none⟩ = false := blk_frozen HT0.out.y 16
 have hne : g + 1 + 1 ≠ g := by omega
 have hne2 : g ≠ g + 1 + 1 := by omega
 go_upto_region 24 with fail
 have hT : Bx w (g + 1 + 1) (g + 1) 34 #[.int .i64 0, .int .i64 0, .int .i64 0, .int .i64 0, .int .i64 0, .int .i64 0, .int .i64 0, .bool false, .slice none 0 0, .int .i64 0, .int .i64 0, .int .i64 0, .slice none 0 0, .int .i64 0, .int .i64 0, .int .i64 0, .slice none 0 0] #[.int .i64 m.f0, .int .i64 m.f1, .int .i64 m.f2, .int .i64 m.f3, .int .i64 m.f4, .int .i64 m.f5, .int .i64 0, .bool false, .slice none 0 0, .int .i64 0, .int .i64 0, .int .i64 0, .slice none 0 0, .int .i64 m.f10.f0, .int .i64 m.f10.f1, .int .i64 m.f10.f2, .slice A16 m.f10.f3.length c16] _ _ := (((((((HT0.out.put 3 (.int .i64 m.f3)).put 4 (.int .i64 m.f4)).put 5 (.int .i64 m.f5)).put 13 (.int .i64 m.f10.f0)).put 14 (.int .i64 m.f10.f1)).put 15 (.int .i64 m.f10.f2)).put 16 (.slice A16 m.f10.f3.length c16))
 have HT1 := Lib.hid hT
 clear hT
 obtain ⟨w1, hw⟩ : ∃ w1, (((((((w0.setCell ⟨g + 1 + 1, 3, none⟩ (.int .i64 m.f3)).setCell ⟨g + 1 + 1, 4, none⟩ (.int .i64 m.f4)).setCell ⟨g + 1 + 1, 5, none⟩ (.int .i64 m.f5)).setCell ⟨g + 1 + 1, 13, none⟩ (.int .i64 m.f10.f0)).setCell ⟨g + 1 + 1, 14, none⟩ (.int .i64 m.f10.f1)).setCell ⟨g + 1 + 1, 15, none⟩ (.int .i64 m.f10.f2)).setCell ⟨g + 1 + 1, 16, none⟩ (.slice A16 m.f10.f3.length c16)) = w1 := ⟨_, rfl⟩
 rw [hw] at HT1 ⊢
 clear hw
 refine wp_region_list ?_
 refine wpList_load_row rfl 34 (.tmp 4) rfl (g + 1 + 1) rfl 34 _ (0, 0) _ HT1.out.y Tryz.underlying34 rfl (by kernel_rfl) ?_
 refine wpList_store_row rfl 34 (.tmp 2) (.tmp 61) rfl (g + 1) _ rfl rfl 34 _ HT1.out.g0 (by kernel_rfl) rfl (by simp [Value.oneCell']) ?_
 go_wp2_with fail
 refine bodyPost_ret (results_ct rfl _ _ (g + 1) 34 _ (0, 0) _ rfl HT1.out.fin.1 Tryz.underlying34 rfl (by kernel_rfl)) rfl ?_
 have hik : isKind m.f0 = true := by rw [HK.out]; rfl
 refine ⟨⟨m.f0, m.f1, m.f2, m.f3, m.f4, m.f5, 0, false, [], zE, m.f10⟩, none, none, A16, 0, 0, c16, by rw [hik]; rfl, fun _ => by unfold bareM; simp [HK.out], ⟨Nat.le_refl 0, Kd.C_nil _ _, Nat.le_refl 0, Kd.C_nil _ _, HM.out.l16, Kd.C_below HM.out.g16 HT1.out.fin.2.2⟩, HT1.out.fin.2.2⟩
set_option maxHeartbeats 4000000 in
theorem plain_k0 {w : World} (m : MsgD) {A8 A12 A16 : Option Addr} {c8 c12 c16 : Nat} (hm : MsgC w m A8 c8 A12 c12 A16 c16) (hk : isKind m.f0 = false) :
  Calls Tryz.prog 68 #[.agg #[.int .i64 m.f0, .int .i64 m.f1, .int .i64 m.f2, .int .i64 m.f3, .int .i64 m.f4, .int .i64 m.f5, .int .i64 m.f6, .bool m.f7, .slice A8 m.f8.length c8, .int .i64 m.f9.f0, .int .i64 m.f9.f1, .int .i64 m.f9.f2, .slice A12 m.f9.f3.length c12, .int .i64 m.f10.f0, .int .i64 m.f10.f1, .int .i64 m.f10.f2, .slice A16 m.f10.f3.length c16]] w fun e w' => BareP w m e w' := by
 have t6 : (m.f0 == 6) = false := by rw [beq_eq_false_iff_ne]; intro h; rw [h] at hk; cases hk
 have t1 : (m.f0 == 1) = false := by rw [beq_eq_false_iff_ne]; intro h; rw [h] at hk; cases hk
 have t2 : (m.f0 == 2) = false := by rw [beq_eq_false_iff_ne]; intro h; rw [h] at hk; cases hk
 have t3 : (m.f0 == 3) = false := by rw [beq_eq_false_iff_ne]; intro h; rw [h] at hk; cases hk
 have t4 : (m.f0 == 4) = false := by rw [beq_eq_false_iff_ne]; intro h; rw [h] at hk; cases hk
 have t5 : (m.f0 == 5) = false := by rw [beq_eq_false_iff_ne]; intro h; rw [h] at hk; cases hk
 have HK := Lib.hid hk
 clear hk
 have HM := Lib.hid hm
 clear hm
 go_enter Tryz.func68, Tryz.ntmps68
 go_upto_region 2 with fail
 obtain ⟨w0, hw, hT⟩ := bare_start w m A8 A12 A16 c8 c12 c16
 rw [← hw]
 have HT0 := Lib.hid hT
 clear hw hT
 obtain ⟨g, hg⟩ : ∃ g, w.heap.size = g := ⟨_, rfl⟩
 have HG := Lib.hid hg
 rw [hg] at HT0 ⊢
 clear hg
 obtain ⟨a0, a1, a2, a3, a4, a5, a6, a7, a8, a9, a10, a11, a12, a13, a14, a15, a16⟩ := MsBox.cell HT0.out.h.now
 have b3 : w0.cell? ⟨g + 1 + 1, 3, none⟩ = some (.int .i64 0) := (blk_cell HT0.out.y 3).trans rfl
 have z3 : w0.frozen? ⟨g + 1 + 1, 3, none⟩ = false := blk_frozen HT0.out.y 3
 have hne : g + 1 + 1 ≠ g := by omega
 have hne2 : g ≠ g + 1 + 1 := by omega
 go_upto_region 7 with fail
 have HT1 := Lib.hid (HT0.out.set 3 (.int .i64 m.f3) #[.int .i64 m.f0, .int .i64 m.f1, .int .i64 m.f2, .int .i64 m.f3, .int .i64 0, .int .i64 0, .int .i64 0, .bool false, .slice none 0 0, .int .i64 0, .int .i64 0, .int .i64 0, .slice none 0 0, .int .i64 0, .int .i64 0, .int .i64 0, .slice none 0 0] (blk_put HT0.out.y 3 _ rfl))
 obtain ⟨w1, hw⟩ : ∃ w1, w0.setCell ⟨g + 1 + 1, 3, none⟩ (.int .i64 m.f3) = w1 := ⟨_, rfl⟩
 rw [hw] at HT1 ⊢
 clear hw
 refine wp_region_list ?_
 refine wpList_load_row rfl 34 (.tmp 4) rfl (g + 1 + 1) rfl 34 _ (0, 0) _ HT1.out.y Tryz.underlying34 rfl (by kernel_rfl) ?_
 refine wpList_store_row rfl 34 (.tmp 2) (.tmp 24) rfl (g + 1) #[.int .i64 m.f0, .int .i64 m.f1, .int .i64 m.f2, .int .i64 m.f3, .int .i64 0, .int .i64 0, .int .i64 0, .bool false, .slice none 0 0, .int .i64 0, .int .i64 0, .int .i64 0, .slice none 0 0, .int .i64 0, .int .i64 0, .int .i64 0, .slice none 0 0] rfl rfl 34 _ HT1.out.g0 (by kernel_rfl) rfl (by simp [Value.oneCell']) ?_
 go_wp2_with fail
 refine bodyPost_ret (results_ct rfl _ _ (g + 1) 34 _ (0, 0) _ rfl HT1.out.fin.1 Tryz.underlying34 rfl (by kernel_rfl)) rfl ?_
 exact ⟨⟨m.f0, m.f1, m.f2, m.f3, 0, 0, 0, false, [], zE, zP⟩, none, none, none, 0, 0, 0, by rw [HK.out]; rfl, fun h => (by rw [HK.out] at h; cases h), ⟨Nat.le_refl 0, Kd.C_nil _ _, Nat.le_refl 0, Kd.C_nil _ _, Nat.le_refl 0, Kd.C_nil _ _⟩, HT1.out.fin.2.2⟩
theorem plain_is {w : World} (m : MsgD) {A8 A12 A16 : Option Addr} {c8 c12 c16 : Nat} (hm : MsgC w m A8 c8 A12 c12 A16 c16) :
  Calls Tryz.prog 68 #[.agg #[.int .i64 m.f0, .int .i64 m.f1, .int .i64 m.f2, .int .i64 m.f3, .int .i64 m.f4, .int .i64 m.f5, .int .i64 m.f6, .bool m.f7, .slice A8 m.f8.length c8, .int .i64 m.f9.f0, .int .i64 m.f9.f1, .int .i64 m.f9.f2, .slice A12 m.f9.f3.length c12, .int .i64 m.f10.f0, .int .i64 m.f10.f1, .int .i64 m.f10.f2, .slice A16 m.f10.f3.length c16]] w fun e w' => BareP w m e w' := by
 cases hk : isKind m.f0 with
 | false => exact plain_k0 m hm hk
 | true =>
  have h2 : 1 ≤ m.f0 ∧ m.f0 ≤ 6 := by
   unfold isKind at hk
   rw [Bool.and_eq_true, decide_eq_true_eq, decide_eq_true_eq] at hk
   exact hk
  by_cases h1 : m.f0 = 1
  ·exact plain_k1 m hm h1
  ·by_cases h3 : m.f0 = 2
   ·exact plain_k2 m hm h3
   ·by_cases h4 : m.f0 = 3
    ·exact plain_k3 m hm h4
    ·by_cases h5 : m.f0 = 4
     ·exact plain_k4 m hm h5
     ·by_cases h6 : m.f0 = 5
      ·exact plain_k5 m hm h6
      ·exact plain_k6 m hm (by omega)
end Go.Proofs.YtgiefblcckikeaaGreat.M
end

section
/- Which messages are the same: record.SameMsg, the reference's SameMsg (printed by gensame04.py). -/
attribute [local irreducible] Go.wpStill
namespace Go.Proofs.YtgiefblcckikeaaGreat.M
open Go.RowKit Go.Proofs.YtgiefblcckikeaaGreatW.PrintWords Go.Proofs.YtgiefblcckikeaaGreatW.PrintLast Go.Proofs.YtgiefblcckikeaaGreatW.PrintMore Go.Proofs.YtgiefblcckikeaaGreat.G
set_option maxHeartbeats 1000000 in
theorem refSamePt_is {w : World} (a b : PartD) {A B : Option Addr} {c d : Nat} (hc : a.f3.length ≤ c) (ha : Kd.C (Kd.int .u8) w A a.f3.length a.f3) (hd : b.f3.length ≤ d) (hb : Kd.C (Kd.int .u8) w B b.f3.length b.f3) :
  Calls Tryz.prog 65 #[.agg #[.int .i64 a.f0, .int .i64 a.f1, .int .i64 a.f2, .slice A a.f3.length c], .agg #[.int .i64 b.f0, .int .i64 b.f1, .int .i64 b.f2, .slice B b.f3.length d]] w fun e w' => e = .returned (.bool (eqPt a b)) ∧ Below w.heap.size w w' := by
 have HBX := Lib.hid (show Below w.heap.size w ((w.alloc (.cells #[.int .i64 a.f0, .int .i64 a.f1, .int .i64 a.f2, .slice A a.f3.length c] 32)).alloc (.cells #[.int .i64 b.f0, .int .i64 b.f1, .int .i64 b.f2, .slice B b.f3.length d] 32)) from ((Below.refl _ _).alloc (Nat.le_refl _) _).alloc (by simp) _)
 have HA := Lib.hid (Kd.C_below ha HBX.out); have HB := Lib.hid (Kd.C_below hb HBX.out)
 have hz1 : (w.alloc (.cells #[.int .i64 a.f0, .int .i64 a.f1, .int .i64 a.f2, .slice A a.f3.length c] 32)).heap.size = w.heap.size + 1 := by simp
 have hx : ((w.alloc (.cells #[.int .i64 a.f0, .int .i64 a.f1, .int .i64 a.f2, .slice A a.f3.length c] 32)).alloc (.cells #[.int .i64 b.f0, .int .i64 b.f1, .int .i64 b.f2, .slice B b.f3.length d] 32)).heap[w.heap.size]? = some (.cells #[.int .i64 a.f0, .int .i64 a.f1, .int .i64 a.f2, .slice A a.f3.length c] 32) := (((Below.refl _ (w.alloc (.cells #[.int .i64 a.f0, .int .i64 a.f1, .int .i64 a.f2, .slice A a.f3.length c] 32))).alloc (Nat.le_refl _) _).block w.heap.size (by omega)).trans (heap_alloc_new w _)
 have hy : ((w.alloc (.cells #[.int .i64 a.f0, .int .i64 a.f1, .int .i64 a.f2, .slice A a.f3.length c] 32)).alloc (.cells #[.int .i64 b.f0, .int .i64 b.f1, .int .i64 b.f2, .slice B b.f3.length d] 32)).heap[w.heap.size + 1]? = some (.cells #[.int .i64 b.f0, .int .i64 b.f1, .int .i64 b.f2, .slice B b.f3.length d] 32) := by rw [← hz1]; exact heap_alloc_new _ _
 have HX := Lib.hid hx; have HY := Lib.hid hy
 obtain ⟨q0, hq0⟩ : ∃ q0 : Bool, (a.f0 == b.f0) = q0 := ⟨_, rfl⟩
 obtain ⟨q1, hq1⟩ : ∃ q1 : Bool, (a.f1 == b.f1) = q1 := ⟨_, rfl⟩
 obtain ⟨q2, hq2⟩ : ∃ q2 : Bool, (a.f2 == b.f2) = q2 := ⟨_, rfl⟩
 obtain ⟨q3, hq3⟩ : ∃ q3 : Bool, ((strOfNums a.f3).toList == (strOfNums b.f3).toList) = q3 := ⟨_, rfl⟩
 obtain ⟨r, hr⟩ : ∃ r, eqPt a b = r := ⟨_, rfl⟩
 rw [hr]
 have HR := Lib.hid (show r = (q0 && (q1 && (q2 && q3))) by rw [← hr, ← hq0, ← hq1, ← hq2, ← hq3]; rfl)
 clear hr ha hb hc hd hx hy hz1
 go_enter Tryz.func65, Tryz.ntmps65
 go_upto_region 1 with fail
 obtain ⟨w1, hw1⟩ : ∃ w1, (w.alloc (.cells #[.int .i64 a.f0, .int .i64 a.f1, .int .i64 a.f2, .slice A a.f3.length c] 32)).alloc (.cells #[.int .i64 b.f0, .int .i64 b.f1, .int .i64 b.f2, .slice B b.f3.length d] 32) = w1 := ⟨_, rfl⟩
 obtain ⟨g, hg⟩ : ∃ g, w.heap.size = g := ⟨_, rfl⟩
 rw [hw1]
 rw [hw1] at HBX HX HY HA HB
 rw [hg] at HX HY ⊢
 have HG := Lib.hid hg
 clear hw1 hg
 have hcv3 := Kd.C_string (P := Tryz.prog) (A := A) (c := c) Tryz.underlying23 Tryz.underlying5 Tryz.underlying9 HA.out
 have hcv4 := Kd.C_string (P := Tryz.prog) (A := B) (c := d) Tryz.underlying23 Tryz.underlying5 Tryz.underlying9 HB.out
 have a0 : w1.cell? ⟨g, 0, none⟩ = some (.int .i64 a.f0) := (blk_cell HX.out 0).trans rfl
 have b0 : w1.cell? ⟨g + 1, 0, none⟩ = some (.int .i64 b.f0) := (blk_cell HY.out 0).trans rfl
 have a1 : w1.cell? ⟨g, 1, none⟩ = some (.int .i64 a.f1) := (blk_cell HX.out 1).trans rfl
 have b1 : w1.cell? ⟨g + 1, 1, none⟩ = some (.int .i64 b.f1) := (blk_cell HY.out 1).trans rfl
 have a2 : w1.cell? ⟨g, 2, none⟩ = some (.int .i64 a.f2) := (blk_cell HX.out 2).trans rfl
 have b2 : w1.cell? ⟨g + 1, 2, none⟩ = some (.int .i64 b.f2) := (blk_cell HY.out 2).trans rfl
 have a3 : w1.cell? ⟨g, 3, none⟩ = some (.slice A a.f3.length c) := (blk_cell HX.out 3).trans rfl
 have b3 : w1.cell? ⟨g + 1, 3, none⟩ = some (.slice B b.f3.length d) := (blk_cell HY.out 3).trans rfl
 refine wp_region_list ?_
 refine with_fin (fun a' W => a'.tmps[4]? = some (.bool r) ∧ a'.defers = [] ∧ Below w.heap.size w W) (fun a' W h => ?_) (fun HF => ?_)
 ·obtain ⟨h1, h2, h3⟩ := h
  refine ‹∀ (a : Act) (w : World), Code.wp Tryz.prog Code.ret _ a w → _› _ _ ?_
  exact wp_ret (bodyPost_ret (v := .bool r) (results_slot rfl h1) h2 ⟨by first | rfl | (rw [HG.out]; rfl), by first | exact h3 | (rw [HG.out]; exact h3)⟩)
 simp only [List.append_eq, List.cons_append, List.nil_append, List.take_succ_cons, List.take_zero, List.drop_succ_cons, List.drop_zero]
 refine wpList_cut 5 ?_
 simp only [List.append_eq, List.cons_append, List.nil_append, List.take_succ_cons, List.take_zero, List.drop_succ_cons, List.drop_zero]
 go_wp2_with fail
 refine Halt.mk ?_
 cases q0 with
 | false => exact chain_to 33 4 false [(9, some false)] (by kernel_rfl) (Knows.cons rfl (Knows.nil _)) (Nat.le_refl 33) (fun a' h1 h2 => HF.out a' _ ⟨by rw [h1, HR.out]; simp, h2, HBX.out⟩)
 | true =>
  refine wpList_cut 6 ?_
  simp only [List.append_eq, List.cons_append, List.nil_append, List.take_succ_cons, List.take_zero, List.drop_succ_cons, List.drop_zero]
  go_wp2_with fail
  refine Halt.mk ?_
  cases q1 with
  | false => exact chain_to 33 4 false [(10, some true), (15, some false)] (by kernel_rfl) (Knows.cons rfl (Knows.cons rfl (Knows.nil _))) (Nat.le_refl 33) (fun a' h1 h2 => HF.out a' _ ⟨by rw [h1, HR.out]; simp, h2, HBX.out⟩)
  | true =>
   refine wpList_cut 7 ?_
   simp only [List.append_eq, List.cons_append, List.nil_append, List.take_succ_cons, List.take_zero, List.drop_succ_cons, List.drop_zero]
   go_wp2_with fail
   refine Halt.mk ?_
   cases q2 with
   | false => exact chain_to 33 4 false [(17, some true), (22, some false)] (by kernel_rfl) (Knows.cons rfl (Knows.cons rfl (Knows.nil _))) (Nat.le_refl 33) (fun a' h1 h2 => HF.out a' _ ⟨by rw [h1, HR.out]; simp, h2, HBX.out⟩)
   | true =>
    refine wpList_cut 9 ?_
    simp only [List.append_eq, List.cons_append, List.nil_append, List.take_succ_cons, List.take_zero, List.drop_succ_cons, List.drop_zero]
    go_wp2_with fail
    refine Halt.mk ?_
    cases q3 with
    | false => exact chain_to 33 4 false [(24, some true), (31, some false)] (by kernel_rfl) (Knows.cons rfl (Knows.cons rfl (Knows.nil _))) (Nat.le_refl 33) (fun a' h1 h2 => HF.out a' _ ⟨by rw [h1, HR.out]; simp, h2, HBX.out⟩)
    | true => exact chain_to 33 4 true [(24, some true), (31, some true)] (by kernel_rfl) (Knows.cons rfl (Knows.cons rfl (Knows.nil _))) (Nat.le_refl 33) (fun a' h1 h2 => HF.out a' _ ⟨by rw [h1, HR.out]; simp, h2, HBX.out⟩)
set_option maxHeartbeats 4000000 in
theorem refSameMs_is {w : World} (m n : MsgD) {A8 A12 A16 B8 B12 B16 : Option Addr} {c8 c12 c16 d8 d12 d16 : Nat} (hm : MsgC w m A8 c8 A12 c12 A16 c16) (hn : MsgC w n B8 d8 B12 d12 B16 d16) :
  Calls Tryz.prog 28 #[.agg (msgCells m A8 c8 A12 c12 A16 c16), .agg (msgCells n B8 d8 B12 d12 B16 d16)] w fun e w' => e = .returned (.bool (eqMs m n)) ∧ Below w.heap.size w w' := by
 have hb1 : Below w.heap.size w ((w.alloc (.cells (msgCells m A8 c8 A12 c12 A16 c16) 34)).alloc (.cells (msgCells n B8 d8 B12 d12 B16 d16) 34)) := ((Below.refl _ _).alloc (Nat.le_refl _) _).alloc (by simp) _
 have hz1 : (w.alloc (.cells (msgCells m A8 c8 A12 c12 A16 c16) 34)).heap.size = w.heap.size + 1 := by simp
 have hx : MsBox ((w.alloc (.cells (msgCells m A8 c8 A12 c12 A16 c16) 34)).alloc (.cells (msgCells n B8 d8 B12 d12 B16 d16) 34)) w.heap.size m A8 c8 A12 c12 A16 c16 := (((Below.refl _ (w.alloc (.cells (msgCells m A8 c8 A12 c12 A16 c16) 34))).alloc (Nat.le_refl _) _).block w.heap.size (by omega)).trans (heap_alloc_new w _)
 have hy : MsBox ((w.alloc (.cells (msgCells m A8 c8 A12 c12 A16 c16) 34)).alloc (.cells (msgCells n B8 d8 B12 d12 B16 d16) 34)) (w.heap.size + 1) n B8 d8 B12 d12 B16 d16 := by rw [← hz1]; exact heap_alloc_new _ _
 have HB := Lib.hid hb1; have HX := Lib.hid hx; have HY := Lib.hid hy; have HM := Lib.hid (hm.below hb1); have HN := Lib.hid (hn.below hb1)
 clear hm hn hb1 hz1 hx hy
 obtain ⟨r, hr⟩ : ∃ r, eqMs m n = r := ⟨_, rfl⟩
 have HR0 := Lib.hid hr.symm
 rw [hr]
 clear hr
 obtain ⟨q0, hq0⟩ : ∃ q0 : Bool, (m.f0 == n.f0) = q0 := ⟨_, rfl⟩
 obtain ⟨q1, hq1⟩ : ∃ q1 : Bool, (m.f1 == n.f1) = q1 := ⟨_, rfl⟩
 obtain ⟨q2, hq2⟩ : ∃ q2 : Bool, (m.f2 == n.f2) = q2 := ⟨_, rfl⟩
 obtain ⟨q3, hq3⟩ : ∃ q3 : Bool, (m.f3 == n.f3) = q3 := ⟨_, rfl⟩
 obtain ⟨q4, hq4⟩ : ∃ q4 : Bool, (m.f4 == n.f4) = q4 := ⟨_, rfl⟩
 obtain ⟨q5, hq5⟩ : ∃ q5 : Bool, (m.f5 == n.f5) = q5 := ⟨_, rfl⟩
 obtain ⟨q6, hq6⟩ : ∃ q6 : Bool, (m.f6 == n.f6) = q6 := ⟨_, rfl⟩
 obtain ⟨q7, hq7⟩ : ∃ q7 : Bool, (m.f7 == n.f7) = q7 := ⟨_, rfl⟩
 obtain ⟨q8, hq8⟩ : ∃ q8 : Bool, eqTrs m.f8 n.f8 = q8 := ⟨_, rfl⟩
 obtain ⟨q9, hq9⟩ : ∃ q9 : Bool, eqEn m.f9.f0 m.f9.f1 m.f9.f2 m.f9.f3 n.f9.f0 n.f9.f1 n.f9.f2 n.f9.f3 = q9 := ⟨_, rfl⟩
 obtain ⟨q10, hq10⟩ : ∃ q10 : Bool, eqPt m.f10 n.f10 = q10 := ⟨_, rfl⟩
 have HR := Lib.hid (show r = (q0 && (q1 && (q2 && (q3 && (q4 && (q5 && (q6 && (q7 && (q8 && (q9 && q10)))))))))) by rw [HR0.out, ← hq0, ← hq1, ← hq2, ← hq3, ← hq4, ← hq5, ← hq6, ← hq7, ← hq8, ← hq9, ← hq10]; rfl)
 have HQ8 := Lib.hid hq8; have HQ9 := Lib.hid hq9; have HQ10 := Lib.hid hq10
 clear hq8 hq9 hq10 HR0
 go_enter Tryz.func28, Tryz.ntmps28
 go_upto_region 1 with fail
 obtain ⟨w1, hw1⟩ : ∃ w1, (w.alloc (.cells (msgCells m A8 c8 A12 c12 A16 c16) 34)).alloc (.cells (msgCells n B8 d8 B12 d12 B16 d16) 34) = w1 := ⟨_, rfl⟩
 obtain ⟨g, hg⟩ : ∃ g, w.heap.size = g := ⟨_, rfl⟩
 rw [hw1]
 rw [hw1] at HB HX HY HM HN
 rw [hg] at HX HY ⊢
 have HG := Lib.hid hg
 clear hw1 hg
 obtain ⟨a0, a1, a2, a3, a4, a5, a6, a7, a8, a9, a10, a11, a12, a13, a14, a15, a16⟩ := HX.out.cell
 obtain ⟨b0, b1, b2, b3, b4, b5, b6, b7, b8, b9, b10, b11, b12, b13, b14, b15, b16⟩ := HY.out.cell
 refine wp_region_list ?_
 refine with_fin (fun a' W => a'.tmps[4]? = some (.bool r) ∧ a'.defers = [] ∧ Below w.heap.size w W) (fun a' W h => ?_) (fun HF => ?_)
 ·obtain ⟨h1, h2, h3⟩ := h
  refine ‹∀ (a : Act) (w : World), Code.wp Tryz.prog Code.ret _ a w → _› _ _ ?_
  exact wp_ret (bodyPost_ret (v := .bool r) (results_slot rfl h1) h2 ⟨by first | rfl | (rw [HG.out]; rfl), by first | exact h3 | (rw [HG.out]; exact h3)⟩)
 simp only [List.append_eq, List.cons_append, List.nil_append, List.take_succ_cons, List.take_zero, List.drop_succ_cons, List.drop_zero]
 refine wpList_cut 5 ?_
 simp only [List.append_eq, List.cons_append, List.nil_append, List.take_succ_cons, List.take_zero, List.drop_succ_cons, List.drop_zero]
 go_wp2_with fail
 refine Halt.mk ?_
 cases q0 with
 | false => exact chain_to 80 4 false [(9, some false)] (by kernel_rfl) (Knows.cons rfl (Knows.nil _)) (Nat.le_refl 80) (fun a' h1 h2 => HF.out a' _ ⟨by rw [h1, HR.out]; simp, h2, HB.out⟩)
 | true =>
  refine wpList_cut 6 ?_
  simp only [List.append_eq, List.cons_append, List.nil_append, List.take_succ_cons, List.take_zero, List.drop_succ_cons, List.drop_zero]
  go_wp2_with fail
  refine Halt.mk ?_
  cases q1 with
  | false => exact chain_to 80 4 false [(10, some true), (15, some false)] (by kernel_rfl) (Knows.cons rfl (Knows.cons rfl (Knows.nil _))) (Nat.le_refl 80) (fun a' h1 h2 => HF.out a' _ ⟨by rw [h1, HR.out]; simp, h2, HB.out⟩)
  | true =>
   refine wpList_cut 7 ?_
   simp only [List.append_eq, List.cons_append, List.nil_append, List.take_succ_cons, List.take_zero, List.drop_succ_cons, List.drop_zero]
   go_wp2_with fail
   refine Halt.mk ?_
   cases q2 with
   | false => exact chain_to 80 4 false [(17, some true), (22, some false)] (by kernel_rfl) (Knows.cons rfl (Knows.cons rfl (Knows.nil _))) (Nat.le_refl 80) (fun a' h1 h2 => HF.out a' _ ⟨by rw [h1, HR.out]; simp, h2, HB.out⟩)
   | true =>
    refine wpList_cut 7 ?_
    simp only [List.append_eq, List.cons_append, List.nil_append, List.take_succ_cons, List.take_zero, List.drop_succ_cons, List.drop_zero]
    go_wp2_with fail
    refine Halt.mk ?_
    cases q3 with
    | false => exact chain_to 80 4 false [(24, some true), (29, some false)] (by kernel_rfl) (Knows.cons rfl (Knows.cons rfl (Knows.nil _))) (Nat.le_refl 80) (fun a' h1 h2 => HF.out a' _ ⟨by rw [h1, HR.out]; simp, h2, HB.out⟩)
    | true =>
     refine wpList_cut 7 ?_
     simp only [List.append_eq, List.cons_append, List.nil_append, List.take_succ_cons, List.take_zero, List.drop_succ_cons, List.drop_zero]
     go_wp2_with fail
     refine Halt.mk ?_
     cases q4 with
     | false => exact chain_to 80 4 false [(31, some true), (36, some false)] (by kernel_rfl) (Knows.cons rfl (Knows.cons rfl (Knows.nil _))) (Nat.le_refl 80) (fun a' h1 h2 => HF.out a' _ ⟨by rw [h1, HR.out]; simp, h2, HB.out⟩)
     | true =>
      refine wpList_cut 7 ?_
      simp only [List.append_eq, List.cons_append, List.nil_append, List.take_succ_cons, List.take_zero, List.drop_succ_cons, List.drop_zero]
      go_wp2_with fail
      refine Halt.mk ?_
      cases q5 with
      | false => exact chain_to 80 4 false [(38, some true), (43, some false)] (by kernel_rfl) (Knows.cons rfl (Knows.cons rfl (Knows.nil _))) (Nat.le_refl 80) (fun a' h1 h2 => HF.out a' _ ⟨by rw [h1, HR.out]; simp, h2, HB.out⟩)
      | true =>
       refine wpList_cut 7 ?_
       simp only [List.append_eq, List.cons_append, List.nil_append, List.take_succ_cons, List.take_zero, List.drop_succ_cons, List.drop_zero]
       go_wp2_with fail
       refine Halt.mk ?_
       cases q6 with
       | false => exact chain_to 80 4 false [(45, some true), (50, some false)] (by kernel_rfl) (Knows.cons rfl (Knows.cons rfl (Knows.nil _))) (Nat.le_refl 80) (fun a' h1 h2 => HF.out a' _ ⟨by rw [h1, HR.out]; simp, h2, HB.out⟩)
       | true =>
        refine wpList_cut 7 ?_
        simp only [List.append_eq, List.cons_append, List.nil_append, List.take_succ_cons, List.take_zero, List.drop_succ_cons, List.drop_zero]
        go_wp2_with fail
        refine Halt.mk ?_
        cases q7 with
        | false => exact chain_to 80 4 false [(52, some true), (57, some false)] (by kernel_rfl) (Knows.cons rfl (Knows.cons rfl (Knows.nil _))) (Nat.le_refl 80) (fun a' h1 h2 => HF.out a' _ ⟨by rw [h1, HR.out]; simp, h2, HB.out⟩)
        | true =>
         refine wpList_cut 7 ?_
         simp only [List.append_eq, List.cons_append, List.nil_append, List.take_succ_cons, List.take_zero, List.drop_succ_cons, List.drop_zero]
         go_wp2_with fail
         refine (refSameTrs_is A8 B8 c8 d8 m.f8 n.f8 w1 HM.out.g8 HN.out.g8).mono ?_
         rw [HQ8.out]
         rintro e w2 ⟨rfl, hb⟩
         have HB2 := Lib.hid (HB.out.trans (hb.mono HB.out.size)); have HX2 := Lib.hid (HX.out.below hb); have HY2 := Lib.hid (HY.out.below hb); have HM2 := Lib.hid (HM.out.below hb); have HN2 := Lib.hid (HN.out.below hb)
         clear hb HB HX HY HM HN a0 a1 a2 a3 a4 a5 a6 a7 a8 a9 a10 a11 a12 a13 a14 a15 a16 b0 b1 b2 b3 b4 b5 b6 b7 b8 b9 b10 b11 b12 b13 b14 b15 b16
         obtain ⟨a0, a1, a2, a3, a4, a5, a6, a7, a8, a9, a10, a11, a12, a13, a14, a15, a16⟩ := HX2.out.cell
         obtain ⟨b0, b1, b2, b3, b4, b5, b6, b7, b8, b9, b10, b11, b12, b13, b14, b15, b16⟩ := HY2.out.cell
         go_wp2_with fail
         refine Halt.mk ?_
         cases q8 with
         | false => exact chain_to 80 4 false [(59, some true), (64, some false)] (by kernel_rfl) (Knows.cons rfl (Knows.cons rfl (Knows.nil _))) (Nat.le_refl 80) (fun a' h1 h2 => HF.out a' _ ⟨by rw [h1, HR.out]; simp, h2, HB2.out⟩)
         | true =>
          refine wpList_cut 7 ?_
          simp only [List.append_eq, List.cons_append, List.nil_append, List.take_succ_cons, List.take_zero, List.drop_succ_cons, List.drop_zero]
          go_wp2_with fail
          refine (refSameEn_is m.f9.f0 m.f9.f1 m.f9.f2 A12 c12 m.f9.f3 n.f9.f0 n.f9.f1 n.f9.f2 B12 d12 n.f9.f3 w2 HM2.out.g12 HM2.out.l12 HN2.out.g12 HN2.out.l12).mono ?_
          rw [HQ9.out]
          rintro e w3 ⟨rfl, hb⟩
          have HB3 := Lib.hid (HB2.out.trans (hb.mono HB2.out.size)); have HX3 := Lib.hid (HX2.out.below hb); have HY3 := Lib.hid (HY2.out.below hb); have HM3 := Lib.hid (HM2.out.below hb); have HN3 := Lib.hid (HN2.out.below hb)
          clear hb HB2 HX2 HY2 HM2 HN2 a0 a1 a2 a3 a4 a5 a6 a7 a8 a9 a10 a11 a12 a13 a14 a15 a16 b0 b1 b2 b3 b4 b5 b6 b7 b8 b9 b10 b11 b12 b13 b14 b15 b16
          obtain ⟨a0, a1, a2, a3, a4, a5, a6, a7, a8, a9, a10, a11, a12, a13, a14, a15, a16⟩ := HX3.out.cell
          obtain ⟨b0, b1, b2, b3, b4, b5, b6, b7, b8, b9, b10, b11, b12, b13, b14, b15, b16⟩ := HY3.out.cell
          go_wp2_with fail
          refine Halt.mk ?_
          cases q9 with
          | false => exact chain_to 80 4 false [(66, some true), (71, some false)] (by kernel_rfl) (Knows.cons rfl (Knows.cons rfl (Knows.nil _))) (Nat.le_refl 80) (fun a' h1 h2 => HF.out a' _ ⟨by rw [h1, HR.out]; simp, h2, HB3.out⟩)
          | true =>
           refine wpList_cut 7 ?_
           simp only [List.append_eq, List.cons_append, List.nil_append, List.take_succ_cons, List.take_zero, List.drop_succ_cons, List.drop_zero]
           go_wp2_with fail
           refine (refSamePt_is m.f10 n.f10 HM3.out.l16 HM3.out.g16 HN3.out.l16 HN3.out.g16).mono ?_
           rw [HQ10.out]
           rintro e w4 ⟨rfl, hb⟩
           have HB4 := Lib.hid (HB3.out.trans (hb.mono HB3.out.size)); have HX4 := Lib.hid (HX3.out.below hb); have HY4 := Lib.hid (HY3.out.below hb); have HM4 := Lib.hid (HM3.out.below hb); have HN4 := Lib.hid (HN3.out.below hb)
           clear hb HB3 HX3 HY3 HM3 HN3 a0 a1 a2 a3 a4 a5 a6 a7 a8 a9 a10 a11 a12 a13 a14 a15 a16 b0 b1 b2 b3 b4 b5 b6 b7 b8 b9 b10 b11 b12 b13 b14 b15 b16
           go_wp2_with fail
           refine Halt.mk ?_
           cases q10 with
           | false => exact chain_to 80 4 false [(73, some true), (78, some false)] (by kernel_rfl) (Knows.cons rfl (Knows.cons rfl (Knows.nil _))) (Nat.le_refl 80) (fun a' h1 h2 => HF.out a' _ ⟨by rw [h1, HR.out]; simp, h2, HB4.out⟩)
           | true => exact chain_to 80 4 true [(73, some true), (78, some true)] (by kernel_rfl) (Knows.cons rfl (Knows.cons rfl (Knows.nil _))) (Nat.le_refl 80) (fun a' h1 h2 => HF.out a' _ ⟨by rw [h1, HR.out]; simp, h2, HB4.out⟩)
end Go.Proofs.YtgiefblcckikeaaGreat.M
end

section
/- The reference's words on which messages may be. -/
attribute [local irreducible] Go.wpStill
namespace Go.Proofs.YtgiefblcckikeaaGreat.M
open Go.RowKit Go.Proofs.YtgiefblcckikeaaGreatW.PrintWords Go.Proofs.YtgiefblcckikeaaGreatW.PrintLast Go.Proofs.YtgiefblcckikeaaGreatW.PrintMore Go.Proofs.YtgiefblcckikeaaGreat.G
theorem dec_comm {α : Type} [DecidableEq α] (a b : α) : decide (a = b) = decide (b = a) := decide_eq_decide.2 ⟨Eq.symm, Eq.symm⟩
theorem eqS_comm (a b : List Int) : eqS a b = eqS b a := by unfold eqS; exact BEq.comm
theorem eqTx_comm (a b : TxD) : eqTx a b = eqTx b a := by
 unfold eqTx
 rw [BEq.comm (a := a.f0), BEq.comm (a := a.f1), eqS_comm, dec_comm a.f3, dec_comm a.f4, dec_comm a.f5]
theorem eqTs_comm : ∀ a b : List TxD, eqTs a b = eqTs b a
 | [], [] => rfl
 | [], _ :: _ => rfl
 | _ :: _, [] => rfl
 | x :: a, y :: b => by unfold eqTs; rw [eqTx_comm, eqTs_comm a b]
theorem eqEn_comm (k f n : Int) (l : List TxD) (k' f' n' : Int) (l' : List TxD) : eqEn k f n l k' f' n' l' = eqEn k' f' n' l' k f n l := by
 unfold eqEn
 rw [BEq.comm (a := k), BEq.comm (a := f), BEq.comm (a := n), eqTs_comm]
theorem eqTr_comm (a b : TrD) : eqTr a b = eqTr b a := by unfold eqTr; rw [BEq.comm (a := a.f0), eqEn_comm]
theorem eqTrs_comm : ∀ a b : List TrD, eqTrs a b = eqTrs b a
 | [], [] => rfl
 | [], _ :: _ => rfl
 | _ :: _, [] => rfl
 | x :: a, y :: b => by unfold eqTrs; rw [eqTr_comm, eqTrs_comm a b]
theorem eqPt_comm (a b : PartD) : eqPt a b = eqPt b a := by unfold eqPt; rw [BEq.comm (a := a.f0), BEq.comm (a := a.f1), BEq.comm (a := a.f2), eqS_comm]
theorem eqMs_comm (a b : MsgD) : eqMs a b = eqMs b a := by
 unfold eqMs
 rw [BEq.comm (a := a.f0), BEq.comm (a := a.f1), BEq.comm (a := a.f2), BEq.comm (a := a.f3), BEq.comm (a := a.f4), BEq.comm (a := a.f5), BEq.comm (a := a.f6), BEq.comm (a := a.f7), eqTrs_comm, eqEn_comm, eqPt_comm]
def mayLs (l : List TrD) : Bool := l.all mayTr && decide ((l.length : Int) ≤ 4096)
def maySw (m : MsgD) : Bool := if m.f0 = 3 then mayLs m.f8 else if m.f0 = 6 then mayE m.f9.f0 m.f9.f1 m.f9.f2 m.f9.f3 else if m.f0 = 5 then mayPt m.f10 else true
theorem bare_list {m : MsgD} (hk : isKind m.f0 = true) (he : eqMs (bareM m) m = true) (h3 : m.f0 ≠ 3) : m.f8 = [] := by
 have hb : (bareM m).f8 = [] := by unfold bareM; repeat' first | contradiction | rfl | split
 have h : eqTrs (bareM m).f8 m.f8 = true := by
  unfold eqMs at he
  simp only [Bool.and_eq_true] at he
  exact he.2.2.2.2.2.2.2.2.1
 rw [hb] at h
 cases hl : m.f8 with
 | nil => rfl
 | cons x l => rw [hl] at h; cases h
theorem mayMs_ref (m : MsgD) : mayMs m = (isKind m.f0 && (eqMs m (bareM m) && (inB 0 4 [m.f1] && (inB 0 4 [m.f2] && (inB 0 1099511627776 [m.f3] && (inB 0 1099511627776 [m.f4] && (inB 0 1099511627776 [m.f5] && (inB 0 1099511627776 [m.f6] && maySw m)))))))) := by
 unfold mayMs
 rw [eqMs_comm m]
 cases hk : isKind m.f0 with
 | false => simp
 | true =>
  cases he : eqMs (bareM m) m with
  | false => simp
  | true =>
   have e4 : inB 0 1099511627776 [m.f3, m.f4, m.f5, m.f6] = (inB 0 1099511627776 [m.f3] && (inB 0 1099511627776 [m.f4] && (inB 0 1099511627776 [m.f5] && inB 0 1099511627776 [m.f6]))) := by
    simp [inB]
   have es : (decide ((m.f8.length : Int) ≤ 4096) && (m.f8.all mayTr && ((!(m.f0 == 5) || mayPt m.f10) && (!(m.f0 == 6) || mayE m.f9.f0 m.f9.f1 m.f9.f2 m.f9.f3)))) = maySw m := by
    unfold maySw
    by_cases h3 : m.f0 = 3
    ·rw [if_pos h3, h3]
     unfold mayLs
     simp [Bool.and_comm]
    ·rw [if_neg h3, bare_list hk he h3]
     by_cases h6 : m.f0 = 6
     ·rw [if_pos h6, h6]; simp
     ·rw [if_neg h6]
      by_cases h5 : m.f0 = 5
      ·rw [if_pos h5, h5]; simp
      ·rw [if_neg h5, beq_eq_false_iff_ne.2 h5, beq_eq_false_iff_ne.2 h6]; simp
   rw [e4, es]
   simp [Bool.and_assoc]
theorem refWho_is (n : Int) (w : World) : Calls Tryz.prog 66 #[.int .i64 n] w fun e w' => e = .returned (.bool (inB 0 4 [n])) ∧ Below w.heap.size w w' :=
 (G.trivetref04_replica.calls n (inB 0 4 [n]) w (by
  unfold G.trivetref04_replica.f inB
  by_cases h : n ≥ 0
  ·rw [if_pos h]
   have e : decide (n < 5) = decide (n ≤ 4) := decide_eq_decide.2 (by omega)
   simp [e, h]
  ·rw [if_neg h]
   have : ¬ 0 ≤ n := h
   simp [this])).mono (fun e w' ⟨h1, k, h2⟩ => ⟨h1, by subst h2; exact pw_below_drewN (Below.refl _ _) k⟩)
theorem refCount_is (n : Int) (w : World) : Calls Tryz.prog 67 #[.int .i64 n] w fun e w' => e = .returned (.bool (inB 0 1099511627776 [n])) ∧ Below w.heap.size w w' :=
 (G.trivetref04_count.calls n (inB 0 1099511627776 [n]) w (by rw [count_f]; simp [inB])).mono (fun e w' ⟨h1, k, h2⟩ => ⟨h1, by subst h2; exact pw_below_drewN (Below.refl _ _) k⟩)
theorem refMayEn_is (k f n : Int) (A : Option Addr) (c : Nat) (l : List TxD) (w : World) (hr : Kd.C G.k26 w A l.length l) (hc : l.length ≤ c) :
  Calls Tryz.prog 29 #[.agg #[.int .i64 k, .int .i64 f, .int .i64 n, .slice A l.length c]] w fun e w' => e = .returned (.bool (mayE k f n l)) ∧ Below w.heap.size w w' := by
 obtain ⟨M, hM⟩ := bound_T l
 refine G.trivetref04_MayEntry.calls (M + l.length + 3) k f n A c l _ w hr hc (mayE_r _ k f n l (fun t ht => by have := hM t ht; omega) (by omega) hr.2.1 (fun t ht => ?_))
 obtain ⟨i, hi⟩ := List.getElem?_of_mem ht
 obtain ⟨ad, A2, c2, A3, c3, A4, c4, A5, c5, _, _, hX⟩ := tx_get hr hi
 exact hX.ls
theorem refPart_is {w : World} (a : PartD) {A : Option Addr} {c : Nat} (hc : a.f3.length ≤ c) (ha : Kd.C (Kd.int .u8) w A a.f3.length a.f3) :
  Calls Tryz.prog 70 #[.agg #[.int .i64 a.f0, .int .i64 a.f1, .int .i64 a.f2, .slice A a.f3.length c]] w fun e w' => e = .returned (.bool (mayPt a)) ∧ Below w.heap.size w w' :=
 G.trivetref04_MayPart.calls a.f0 a.f1 a.f2 A c a.f3 (mayPt a) w ha hc (by
  unfold G.trivetref04_MayPart.f mayPt
  rw [count_f, Option.bind_some]
  have e0 : inB 0 1099511627776 [a.f0] = (decide (0 ≤ a.f0) && decide (a.f0 ≤ 1099511627776)) := by simp [inB]
  rw [e0]
  cases (decide (0 ≤ a.f0) && decide (a.f0 ≤ 1099511627776)) with
  | false => rw [if_neg (by simp)]; rfl
  | true =>
   rw [if_pos rfl, Bool.true_and]
   by_cases h1 : a.f2 ≥ 1
   ·rw [if_pos h1]
    by_cases h2 : a.f2 ≤ 4096
    ·rw [if_pos h2]
     have e1 : inB 1 4096 [a.f2] = true := by simp [inB]; omega
     rw [e1, Bool.true_and]
     by_cases h3 : a.f1 ≥ 0
     ·rw [if_pos h3]
      by_cases h4 : a.f1 < a.f2
      ·rw [if_pos h4]
       have e2 : inB 0 (a.f2 - 1) [a.f1] = true := by simp [inB]; omega
       rw [e2, Bool.true_and]
      ·rw [if_neg h4]
       have e2 : inB 0 (a.f2 - 1) [a.f1] = false := by simp [inB]; omega
       rw [e2]; rfl
     ·rw [if_neg h3]
      have e2 : inB 0 (a.f2 - 1) [a.f1] = false := by simp [inB]; omega
      rw [e2]; rfl
    ·rw [if_neg h2]
     have e1 : inB 1 4096 [a.f2] = false := by simp [inB]; omega
     rw [e1]; rfl
   ·rw [if_neg h1]
    have e1 : inB 1 4096 [a.f2] = false := by simp [inB]; omega
    rw [e1]; rfl)
def LsI (l : List TrD) (w : World) (i : Value) (wr : World) : Prop := ∃ k : Nat, k ≤ l.length ∧ i = .int .i64 k ∧ (l.take k).all mayTr = true ∧ Below w.heap.size w wr
set_option maxHeartbeats 1000000 in
theorem refList_is (A : Option Addr) (c : Nat) (l : List TrD) (w : World) (hr : Kd.C G.k63 w A l.length l) :
  Calls Tryz.prog 69 #[.slice A l.length c] w fun e w' => e = .returned (.bool (mayLs l)) ∧ Below w.heap.size w w' := by
 have hlm : l.length ≤ 9223372036854775807 := hr.2.1
 have HR := Lib.hid hr
 clear hr
 go_enter Tryz.func69, Tryz.ntmps69
 go_wp2_with fail
 go_loopw [3] (fun i wr => LsI l w i wr) (fun i _ => l.length - (intOf i).toNat)
 case atStart => exact ⟨0, Nat.zero_le _, rfl, by simp, Below.refl _ _⟩
 case round =>
  obtain ⟨k, hk, rfl, hin, hb⟩ := hrel
  have HIN := Lib.hid hin; have HBr := Lib.hid hb
  clear hin hb
  by_cases hlt : k < l.length
  ·obtain ⟨x, hx⟩ : ∃ x, l[k]? = some x := ⟨_, List.getElem?_eq_getElem hlt⟩
   obtain ⟨ad, A4, c4, rfl, x0, x1, x2, x3, x4, hl, hX⟩ := tr_get (Kd.C_below HR.out HBr.out) hx
   have HXX := Lib.hid (And.intro hl hX)
   have HX := Lib.hid (show l.take (k + 1) = l.take k ++ [x] by rw [List.take_add_one, hx]; rfl)
   have HM := Lib.hid (List.mem_of_getElem? hx)
   have HXr := Lib.hid hx
   obtain ⟨q0, hq0⟩ : ∃ q, inB 0 1099511627776 [x.f0] = q := ⟨_, rfl⟩
   obtain ⟨q1, hq1⟩ : ∃ q, mayE x.f1.f0 x.f1.f1 x.f1.f2 x.f1.f3 = q := ⟨_, rfl⟩
   have HV := Lib.hid (show mayTr x = (q0 && q1) by rw [← hq0, ← hq1]; rfl)
   have H0 := Lib.hid hq0; have H1 := Lib.hid hq1
   clear hx hX hl hq0 hq1
   go_wp2_with fail
   have h4 := refCount_is x.f0 wr
   rw [H0.out] at h4
   refine h4.mono ?_
   rintro e w2 ⟨rfl, hb⟩
   have HB2 := Lib.hid (HBr.out.trans (hb.mono HBr.out.size)); have HXX2 := Lib.hid (Kd.C_below HXX.out.2 hb)
   obtain ⟨ad2, A42, c42, had, y0, y1, y2, y3, y4, hl2, hX2⟩ := tr_get (Kd.C_below HR.out HB2.out) HXr.out
   obtain rfl : ad2 = ad := by simpa using had.symm
   have HXX3 := Lib.hid (And.intro hl2 hX2)
   clear hb h4 x0 x1 x2 x3 x4 hl2 hX2 had
   cases q0 with
   | false =>
    have HB := Lib.hid (show mayLs l = false by
     unfold mayLs
     have : l.all mayTr = false := by rw [List.all_eq_false]; exact ⟨x, HM.out, by rw [HV.out]; simp⟩
     rw [this]; rfl)
    go_wp2_with fail
    go_ret
    exact ⟨by rw [HB.out]; rfl, HB2.out⟩
   | true =>
    go_wp2_with fail
    have h4 := refMayEn_is x.f1.f0 x.f1.f1 x.f1.f2 A42 c42 x.f1.f3 w2 HXX3.out.2 HXX3.out.1
    rw [H1.out] at h4
    refine h4.mono ?_
    rintro e w3 ⟨rfl, hb⟩
    have HB3 := Lib.hid (HB2.out.trans (hb.mono HB2.out.size))
    clear hb h4 y0 y1 y2 y3 y4
    cases q1 with
    | false =>
     have HB := Lib.hid (show mayLs l = false by
      unfold mayLs
      have : l.all mayTr = false := by rw [List.all_eq_false]; exact ⟨x, HM.out, by rw [HV.out]; simp⟩
      rw [this]; rfl)
     go_wp2_with fail
     go_ret
     exact ⟨by rw [HB.out]; rfl, HB3.out⟩
    | true =>
     have HB := Lib.hid (show (l.take (k + 1)).all mayTr = true by rw [HX.out, List.all_append, HIN.out]; simp [HV.out])
     go_wp2_with fail
     go_roundw
     case rel => exact ⟨k + 1, hlt, by go_num, HB.out, HB3.out⟩
     case measure => simp [intOf]; omega
  ·have HB := Lib.hid (show mayLs l = decide ((l.length : Int) ≤ 4096) by
    have := HIN.out
    rw [List.take_of_length_le (by omega)] at this
    unfold mayLs
    rw [this, Bool.true_and])
   obtain ⟨q, hq⟩ : ∃ q : Bool, decide ((l.length : Int) ≤ 4096) = q := ⟨_, rfl⟩
   rw [hq] at HB
   go_wp2_with fail
   go_ret
   exact ⟨by rw [HB.out]; rfl, HBr.out⟩
end Go.Proofs.YtgiefblcckikeaaGreat.M
end
