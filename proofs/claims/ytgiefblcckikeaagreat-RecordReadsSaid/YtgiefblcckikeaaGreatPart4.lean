/- RecordReadsSaid: contracts of the functions that the law goes through, put together in build order (part 5 of 7). -/
import Derived.Test.YtgiefblcckikeaaGreatPart3
import Derived.Laws.Tables
import Derived.Deep.RegionHeld3
set_option linter.unusedVariables false
set_option linter.unusedSimpArgs false
set_option maxRecDepth 100000
section
/- The reference's Reader: keys. -/
attribute [local irreducible] Go.wpStill
namespace Go.Proofs.YtgiefblcckikeaaGreat.M
open Go.RowKit Go.Proofs.YtgiefblcckikeaaGreatW.PrintWords Go.Proofs.YtgiefblcckikeaaGreatW.PrintLast Go.Proofs.YtgiefblcckikeaaGreatW.PrintMore Go.Proofs.YtgiefblcckikeaaGreat.G
def RdL {α : Type} (d : Kd α) (el : Nat) (B : List Int) (w0 w : World) (x : Nat) (l : List α) (s' : EyeS) (e : Ending) (w' : World) : Prop := ∃ v : Value, e = .returned v ∧ Kd.S d el w' w.heap.size (fun _ => True) v l ∧ IsRd B w0 w' x s' ∧ Below w0.heap.size w0 w' ∧ KeepS (fun i => i = x) w w'
def RdI (n : Int) (s0 : EyeS) (B : List Int) (w0 w : World) (x : Nat) (v i : Value) (W : World) : Prop := ∃ (U : List KeyD) (s : EyeS), i = .int .i64 (U.length : Int) ∧ U.length ≤ n.toNat ∧ Kd.S G.k101 101 W w.heap.size (fun _ => True) v U ∧ IsRd B w0 W x s ∧ Below w0.heap.size w0 W ∧ KeepS (fun i => i = x) w W ∧ okS s ∧ eList eKey s0 = (U ++ (eMany eKey (n.toNat - U.length) s).1, (eMany eKey (n.toNat - U.length) s).2)
theorem eSmall_range (s : EyeS) : eSmall s = if -2147483648 ≤ (eNum s).1 ∧ (eNum s).1 ≤ 2147483647 then eNum s else (0, { (eNum s).2 with o := true }) := by
 unfold eSmall
 by_cases h : -2147483648 ≤ (eNum s).1 ∧ (eNum s).1 ≤ 2147483647
 ·rw [if_pos h, if_pos (by rw [IntKind.wrap_i32]; omega)]
 ·rw [if_neg h, if_neg (by rw [IntKind.wrap_i32]; omega)]
set_option maxHeartbeats 2000000 in
theorem rdKeys_is {B : List Int} {w0 w : World} {x : Nat} {s : EyeS} (hI : IsRd B w0 w x s) (hB : Below w0.heap.size w0 w) (hok : okS s) :
  Calls Tryz.prog 158 #[.pointer (some ⟨x, 0, none⟩)] w fun e w' => RdL G.k101 101 B w0 w x (eList eKey s).1 (eList eKey s).2 e w' := by
 have HN := Lib.hid (rdLen_is hI hB hok)
 have HOK := Lib.hid (okS_len hok)
 have HLT := Lib.hid hI.lt
 have HGEW := Lib.hid (show w0.heap.size ≤ w.heap.size from hB.size)
 have HSZ := Lib.hid (rLen_size s)
 have HEL := Lib.hid (eList_len eKey s)
 obtain ⟨n, hn⟩ : ∃ n, (rLen s).1 = n := ⟨_, rfl⟩
 obtain ⟨s1, hs1⟩ : ∃ s1, (rLen s).2 = s1 := ⟨_, rfl⟩
 rw [hn] at HSZ
 rw [hn, hs1] at HN HEL
 rw [hs1] at HOK
 clear hI hB hok hn hs1
 go_enter Tryz.func158, Tryz.ntmps158
 go_wp2_with fail
 refine HN.out.mono ?_
 rintro e w1 ⟨rfl, h1, h2, h3⟩
 have G1 := Lib.hid h1; have G2 := Lib.hid h2; have G3 := Lib.hid h3
 clear h1 h2 h3 HN
 go_wp2_with fail
 go_loopw [4, 5, 6] (fun v i t wr => RdI n s B w0 w x v i wr) (fun _ i _ _ => n.toNat - (intOf i).toNat)
 case atStart => exact ⟨[], s1, rfl, by simp, Kd.S_nil _ _ _ _ _, G1.out, G2.out, G3.out, HOK.out, by simpa using HEL.out⟩
 case round =>
  obtain ⟨U, s2, rfl, hUn, hS, hI, hB, hK, hO, hF⟩ := hrel
  have HI := Lib.hid hI; have HB := Lib.hid hB; have HK := Lib.hid hK; have HO := Lib.hid hO; have HF := Lib.hid hF; have HS := Lib.hid hS; have HUN := Lib.hid hUn
  obtain ⟨Av, cv, rfl⟩ := Kd.S_slice hS
  obtain ⟨A, c, k, g1, g2, g3⟩ := hI
  have c1 : wr.cell? ⟨x, 2, none⟩ = some (.int .i64 s2.e) := by simp [World.cell?, g1]
  clear hB hK hO hF hS hUn g1 g2 g3
  by_cases hlt : (U.length : Int) < n
  ·by_cases he : s2.e = 0
   ·have hq1 : decide ((U.length : Int) < n) = true := decide_eq_true hlt
    have hq2 : (s2.e == 0) = true := by rw [he]; rfl
    have HG := Lib.hid (rdNum_is HI.out HB.out HO.out)
    have HGS := Lib.hid (okS_small HO.out)
    have HSR := Lib.hid (eSmall_range s2)
    have H32 := eSmall_i32 s2
    obtain ⟨n1, hn1⟩ : ∃ n1, (eNum s2).1 = n1 := ⟨_, rfl⟩
    obtain ⟨s3, hs3⟩ : ∃ s3, (eNum s2).2 = s3 := ⟨_, rfl⟩
    obtain ⟨t1, ht1⟩ : ∃ t1, (eSmall s2).1 = t1 := ⟨_, rfl⟩
    obtain ⟨s4, hs4⟩ : ∃ s4, (eSmall s2).2 = s4 := ⟨_, rfl⟩
    have HSR2 := Lib.hid (show (t1, s4) = if -2147483648 ≤ n1 ∧ n1 ≤ 2147483647 then (n1, s3) else (0, { s3 with o := true }) by
     rw [← ht1, ← hs4, ← hn1, ← hs3]; exact HSR.out)
    have HKY := Lib.hid (show eKey s2 = (⟨t1, (eNum s4).1⟩, (eNum s4).2) by unfold eKey; rw [ht1, hs4])
    rw [hn1, hs3] at HG
    rw [hs4] at HGS
    rw [ht1] at H32
    obtain ⟨m, hm⟩ : ∃ m, (eNum s4).1 = m := ⟨_, rfl⟩
    obtain ⟨s5, hs5⟩ : ∃ s5, (eNum s4).2 = s5 := ⟨_, rfl⟩
    rw [hm, hs5] at HKY
    have HO5 := Lib.hid (show okS s5 by rw [← hs5]; exact okS_num HGS.out)
    have HM5 := Lib.hid (And.intro hm hs5)
    have HF2 := Lib.hid (show eList eKey s = ((U ++ [(⟨t1, m⟩ : KeyD)]) ++ (eMany eKey (n.toNat - (U ++ [(⟨t1, m⟩ : KeyD)]).length) s5).1, (eMany eKey (n.toNat - (U ++ [(⟨t1, m⟩ : KeyD)]).length) s5).2) by
     rw [HF.out]
     have e1 : n.toNat - U.length = (n.toNat - (U ++ [(⟨t1, m⟩ : KeyD)]).length) + 1 := by simp; omega
     rw [e1]
     simp only [eMany, he, if_true, HKY.out, List.append_assoc, List.singleton_append])
    have HLT2 := Lib.hid hlt
    clear hlt he hn1 hs3 ht1 hs4 HSR hm hs5
    go_wp2_with fail
    refine HG.out.mono ?_
    rintro e w3 ⟨rfl, h1, h2, h3⟩
    have K1 := Lib.hid h1; have K2 := Lib.hid h2; have K3 := Lib.hid h3
    clear h1 h2 h3
    obtain ⟨A, c, k, g1, g2, g3⟩ := K1.out
    have HH := Lib.hid g1; have HGG := Lib.hid g2; have HG3 := Lib.hid g3
    have z3 : w3.frozen? ⟨x, 3, none⟩ = false := by simp [World.frozen?, g1]
    have d3 : w3.cell? ⟨x, 3, none⟩ = some (.bool s3.o) := by simp [World.cell?, g1]
    clear g1 g2 g3
    by_cases ha : n1 < -2147483648
    ·have q1 : decide (n1 < -2147483648) = true := decide_eq_true ha
     obtain ⟨rfl, rfl⟩ : t1 = 0 ∧ s4 = { s3 with o := true } := by
      have := HSR2.out
      rw [if_neg (by omega)] at this
      simpa using this
     clear ha
     have e1 := heap_same w3 ⟨x, 3, none⟩ (.bool true) HH.out rfl
     have HI4 := Lib.hid (show IsRd B w0 (w3.setCell ⟨x, 3, none⟩ (.bool true)) x { s3 with o := true } from ⟨A, c, k, by simpa using e1, HGG.out, HG3.out⟩)
     have HB4 := Lib.hid (K2.out.setCell (p := ⟨x, 3, none⟩) (by exact HGG.out) (.bool true))
     have KK := Lib.hid (K3.out.set (p := ⟨x, 3, none⟩) (.inl rfl) (.bool true))
     clear e1
     have HN5 := rdNum_is HI4.out HB4.out HGS.out
     rw [HM5.out.1, HM5.out.2] at HN5
     have HN5 := Lib.hid HN5
     go_wp2_with fail
     refine HN5.out.mono ?_
     rintro e w5 ⟨rfl, h1, h2, h3⟩
     have HS3 := Lib.hid (show Kd.S G.k101 101 w5 w.heap.size (fun _ => True) (.slice Av U.length cv) U from S_keep' HLT.out HS.out (KK.out.trans h3))
     have L1 := Lib.hid h1; have L2 := Lib.hid h2; have L3 := Lib.hid (HK.out.trans (KK.out.trans h3))
     have HZ3 := Lib.hid (show w.heap.size ≤ w5.heap.size from L3.out.size)
     have hul : U.length ≤ 4096 := by have h1 := HUN.out; have h2 := HSZ.out; omega
     clear h1 h2 h3
     go_wp2_with ((with_reducible refine gate_builtin (b := .append) (xs := #[.tmp 32, .tmp 38]) rfl ?_); at_builtin; refine Kd.S_append G.k101 (w0 := w5) w.heap.size rfl (.tmp 32) (.tmp 38) 22 101 (.agg #[.int .i32 0, .int .i64 0]) 16 rfl Tryz.underlying22 infoKey rfl (by decide) (by omega) _ U (⟨0, m⟩ : KeyD) [.int .i32 0, .int .i64 m] (fun _ => True) (fun _ => False) rfl rfl (G.k101_mkM _ _ _ (⟨0, m⟩ : KeyD)) (fun _ hk => hk.elim) (fun _ _ => trivial) (Kd.S_mono HS3.out (fun _ h => ⟨h, fun q => q⟩)) (Below.refl _ _) HZ3.out (by omega) ?_; intro v1 w6 ho hb5 hg5 hat; obtain ⟨A5, c5, rfl⟩ := Kd.S_slice ho; have HS5 := Lib.hid ho; have HK5 := Lib.hid (L3.out.then_base hb5); have HI5 := Lib.hid (L1.out.at (hb5.block x HLT.out)); have HB5 := Lib.hid (L2.out.trans (hb5.mono HGEW.out)); clear ho hb5 hg5 hat)
     go_roundw
     case rel =>
      refine ⟨U ++ [(⟨0, m⟩ : KeyD)], s5, by rw [List.length_append]; go_num, ?_, (by have h9 := HS5.out; rw [List.length_append] at h9; exact h9), HI5.out, HB5.out, HK5.out, HO5.out, HF2.out⟩
      have h2 := HLT2.out
      rw [List.length_append, List.length_singleton]
      omega
     case measure => simp [intOf]; have h2 := HLT2.out; omega
    ·have q1 : decide (n1 < -2147483648) = false := decide_eq_false ha
     by_cases hb : 2147483647 < n1
     ·have q2 : decide (2147483647 < n1) = true := decide_eq_true hb
      obtain ⟨rfl, rfl⟩ : t1 = 0 ∧ s4 = { s3 with o := true } := by
       have := HSR2.out
       rw [if_neg (by omega)] at this
       simpa using this
      clear ha hb
      have e1 := heap_same w3 ⟨x, 3, none⟩ (.bool true) HH.out rfl
      have HI4 := Lib.hid (show IsRd B w0 (w3.setCell ⟨x, 3, none⟩ (.bool true)) x { s3 with o := true } from ⟨A, c, k, by simpa using e1, HGG.out, HG3.out⟩)
      have HB4 := Lib.hid (K2.out.setCell (p := ⟨x, 3, none⟩) (by exact HGG.out) (.bool true))
      have KK := Lib.hid (K3.out.set (p := ⟨x, 3, none⟩) (.inl rfl) (.bool true))
      clear e1
      have HN5 := rdNum_is HI4.out HB4.out HGS.out
      rw [HM5.out.1, HM5.out.2] at HN5
      have HN5 := Lib.hid HN5
      go_wp2_with fail
      refine HN5.out.mono ?_
      rintro e w5 ⟨rfl, h1, h2, h3⟩
      have HS3 := Lib.hid (show Kd.S G.k101 101 w5 w.heap.size (fun _ => True) (.slice Av U.length cv) U from S_keep' HLT.out HS.out (KK.out.trans h3))
      have L1 := Lib.hid h1; have L2 := Lib.hid h2; have L3 := Lib.hid (HK.out.trans (KK.out.trans h3))
      have HZ3 := Lib.hid (show w.heap.size ≤ w5.heap.size from L3.out.size)
      have hul : U.length ≤ 4096 := by have h1 := HUN.out; have h2 := HSZ.out; omega
      clear h1 h2 h3
      go_wp2_with ((with_reducible refine gate_builtin (b := .append) (xs := #[.tmp 32, .tmp 38]) rfl ?_); at_builtin; refine Kd.S_append G.k101 (w0 := w5) w.heap.size rfl (.tmp 32) (.tmp 38) 22 101 (.agg #[.int .i32 0, .int .i64 0]) 16 rfl Tryz.underlying22 infoKey rfl (by decide) (by omega) _ U (⟨0, m⟩ : KeyD) [.int .i32 0, .int .i64 m] (fun _ => True) (fun _ => False) rfl rfl (G.k101_mkM _ _ _ (⟨0, m⟩ : KeyD)) (fun _ hk => hk.elim) (fun _ _ => trivial) (Kd.S_mono HS3.out (fun _ h => ⟨h, fun q => q⟩)) (Below.refl _ _) HZ3.out (by omega) ?_; intro v1 w6 ho hb5 hg5 hat; obtain ⟨A5, c5, rfl⟩ := Kd.S_slice ho; have HS5 := Lib.hid ho; have HK5 := Lib.hid (L3.out.then_base hb5); have HI5 := Lib.hid (L1.out.at (hb5.block x HLT.out)); have HB5 := Lib.hid (L2.out.trans (hb5.mono HGEW.out)); clear ho hb5 hg5 hat)
      go_roundw
      case rel =>
       refine ⟨U ++ [(⟨0, m⟩ : KeyD)], s5, by rw [List.length_append]; go_num, ?_, (by have h9 := HS5.out; rw [List.length_append] at h9; exact h9), HI5.out, HB5.out, HK5.out, HO5.out, HF2.out⟩
       have h2 := HLT2.out
       rw [List.length_append, List.length_singleton]
       omega
      case measure => simp [intOf]; have h2 := HLT2.out; omega
     ·have q2 : decide (2147483647 < n1) = false := decide_eq_false hb
      obtain ⟨rfl, rfl⟩ : t1 = n1 ∧ s4 = s3 := by
       have := HSR2.out
       rw [if_pos (by omega)] at this
       simpa using this
      have hw32 : wrap32 t1 = t1 := by unfold wrap32; omega
      have KK := K3
      clear ha hb
      have HN5 := rdNum_is K1.out K2.out HGS.out
      rw [HM5.out.1, HM5.out.2] at HN5
      have HN5 := Lib.hid HN5
      go_wp2_with fail
      refine HN5.out.mono ?_
      rintro e w5 ⟨rfl, h1, h2, h3⟩
      have HS3 := Lib.hid (show Kd.S G.k101 101 w5 w.heap.size (fun _ => True) (.slice Av U.length cv) U from S_keep' HLT.out HS.out (KK.out.trans h3))
      have L1 := Lib.hid h1; have L2 := Lib.hid h2; have L3 := Lib.hid (HK.out.trans (KK.out.trans h3))
      have HZ3 := Lib.hid (show w.heap.size ≤ w5.heap.size from L3.out.size)
      have hul : U.length ≤ 4096 := by have h1 := HUN.out; have h2 := HSZ.out; omega
      clear h1 h2 h3
      go_wp2_with ((with_reducible refine gate_builtin (b := .append) (xs := #[.tmp 32, .tmp 38]) rfl ?_); at_builtin; refine Kd.S_append G.k101 (w0 := w5) w.heap.size rfl (.tmp 32) (.tmp 38) 22 101 (.agg #[.int .i32 0, .int .i64 0]) 16 rfl Tryz.underlying22 infoKey rfl (by decide) (by omega) _ U (⟨t1, m⟩ : KeyD) [.int .i32 t1, .int .i64 m] (fun _ => True) (fun _ => False) rfl rfl (G.k101_mkM _ _ _ (⟨t1, m⟩ : KeyD)) (fun _ hk => hk.elim) (fun _ _ => trivial) (Kd.S_mono HS3.out (fun _ h => ⟨h, fun q => q⟩)) (Below.refl _ _) HZ3.out (by omega) ?_; intro v1 w6 ho hb5 hg5 hat; obtain ⟨A5, c5, rfl⟩ := Kd.S_slice ho; have HS5 := Lib.hid ho; have HK5 := Lib.hid (L3.out.then_base hb5); have HI5 := Lib.hid (L1.out.at (hb5.block x HLT.out)); have HB5 := Lib.hid (L2.out.trans (hb5.mono HGEW.out)); clear ho hb5 hg5 hat)
      go_roundw
      case rel =>
       refine ⟨U ++ [(⟨t1, m⟩ : KeyD)], s5, by rw [List.length_append]; go_num, ?_, (by have h9 := HS5.out; rw [List.length_append] at h9; exact h9), HI5.out, HB5.out, HK5.out, HO5.out, HF2.out⟩
       have h2 := HLT2.out
       rw [List.length_append, List.length_singleton]
       omega
      case measure => simp [intOf]; have h2 := HLT2.out; omega
   ·have hq1 : decide ((U.length : Int) < n) = true := decide_eq_true hlt
    have hq2 : (s2.e == 0) = false := beq_eq_false_iff_ne.2 he
    have HF2 := Lib.hid (show eList eKey s = (U, s2) by rw [HF.out, eMany_stop he, List.append_nil])
    clear hlt he
    go_wp2_with fail
    go_ret
    exact ⟨_, rfl, by rw [HF2.out]; exact HS.out, by rw [HF2.out]; exact HI.out, HB.out, HK.out⟩
  ·have hq1 : decide ((U.length : Int) < n) = false := decide_eq_false hlt
   have HF2 := Lib.hid (show eList eKey s = (U, s2) by
    have e1 : n.toNat - U.length = 0 := by omega
    rw [HF.out, e1]
    simp only [eMany, List.append_nil])
   clear hlt
   go_wp2_with fail
   go_ret
   exact ⟨_, rfl, by rw [HF2.out]; exact HS.out, by rw [HF2.out]; exact HI.out, HB.out, HK.out⟩
end Go.Proofs.YtgiefblcckikeaaGreat.M
end

section
/- The reference's Reader: Ends. -/
attribute [local irreducible] Go.wpStill
namespace Go.Proofs.YtgiefblcckikeaaGreat.M
open Go.RowKit Go.Proofs.YtgiefblcckikeaaGreatW.PrintWords Go.Proofs.YtgiefblcckikeaaGreatW.PrintLast Go.Proofs.YtgiefblcckikeaaGreatW.PrintMore Go.Proofs.YtgiefblcckikeaaGreat.G
theorem eEnds_false (s : EyeS) (may : Bool) : eEnds s may false = if s.e = 0 then (if s.o = true ∨ may = false then 40 else 0) else s.e := by
 unfold eEnds
 by_cases h : s.e = 0
 ·rw [if_neg (fun q => q h), if_neg (fun q => by cases q.1), if_pos h]
 ·rw [if_pos h, if_neg h]
theorem rdEnds_is {B : List Int} {w0 w : World} {x : Nat} {s : EyeS} (hI : IsRd B w0 w x s) (may : Bool) :
  Calls Tryz.prog 58 #[.pointer (some ⟨x, 0, none⟩), .bool may] w fun e w' => e = .returned (.int .i64 (eEnds s may false)) ∧ w' = w := by
 obtain ⟨A, c, k, h1, h2⟩ := hI
 have c2 : w.cell? ⟨x, 2, none⟩ = some (.int .i64 s.e) := by simp [World.cell?, h1]
 have c3 : w.cell? ⟨x, 3, none⟩ = some (.bool s.o) := by simp [World.cell?, h1]
 have HF := Lib.hid (eEnds_false s may)
 clear h1 h2
 obtain ⟨l, e, o⟩ := s
 simp only at c2 c3
 by_cases he : e = 0
 ·have hq : (e == 0) = true := by rw [he]; rfl
  have HR := Lib.hid (show eEnds ⟨l, e, o⟩ may false = if o = true ∨ may = false then 40 else 0 by rw [HF.out, if_pos he])
  subst he
  clear HF
  cases o <;> cases may <;> (go_enter Tryz.func58, Tryz.ntmps58; go_wp2_with fail; go_ret; exact ⟨by rw [HR.out]; rfl, rfl⟩)
 ·have hq : (e == 0) = false := beq_eq_false_iff_ne.2 he
  have HR := Lib.hid (show eEnds ⟨l, e, o⟩ may false = e by rw [HF.out, if_neg he])
  clear HF he
  go_enter Tryz.func58, Tryz.ntmps58
  go_wp2_with fail
  go_ret
  exact ⟨by rw [HR.out]; rfl, rfl⟩
end Go.Proofs.YtgiefblcckikeaaGreat.M
end

section
/- Reading, in plain Lean: the eye's and the reference's reader's values, and that they agree. -/
namespace Go.Proofs.YtgiefblcckikeaaGreat.M
open Go.RowKit Go.Proofs.YtgiefblcckikeaaGreatW.PrintWords Go.Proofs.YtgiefblcckikeaaGreatW.PrintLast Go.Proofs.YtgiefblcckikeaaGreatW.PrintMore Go.Proofs.YtgiefblcckikeaaGreat.G
def FM {α γ : Type} (f : α → γ) (g : EyeS → α × EyeS) (s : EyeS) : γ × EyeS := (f (g s).1, (g s).2)
def PR {α β : Type} (g : EyeS → α × EyeS) (k : EyeS → β × EyeS) (s : EyeS) : (α × β) × EyeS := (((g s).1, (k (g s).2).1), (k (g s).2).2)
structure Sim {α : Type} (bad : α → Prop) (g g' : EyeS → α × EyeS) : Prop where
 le : ∀ s s' : EyeS, s.l = s'.l → s.e = s'.e → (g s).2.l = (g' s').2.l ∧ (g s).2.e = (g' s').2.e
 st : ∀ s : EyeS, ¬ s.e = 0 → (g s).2.l = s.l ∧ (g s).2.e = s.e
 mo : ∀ s : EyeS, s.o = true → (g s).2.o = true
 mo' : ∀ s : EyeS, s.o = true → (g' s).2.o = true
 eq : ∀ s s' : EyeS, s.l = s'.l → s.e = s'.e → (g s).2.e = 0 → ((g s).1 = (g' s').1 ∧ (s.o = s'.o → (g s).2.o = (g' s').2.o)) ∨ ((g s).2.o = true ∧ ((g' s').2.o = true ∨ bad (g' s').1))
variable {α β γ : Type} {b1 : α → Prop} {b2 : β → Prop} {g g' : EyeS → α × EyeS} {k k' : EyeS → β × EyeS}
theorem Sim.fm (h : Sim b1 g g') (f : α → γ) (b : γ → Prop) (hb : ∀ a, b1 a → b (f a)) : Sim b (FM f g) (FM f g') :=
 ⟨h.le, h.st, h.mo, h.mo', fun s s' h1 h2 h3 => (h.eq s s' h1 h2 h3).imp (fun q => ⟨congrArg f q.1, q.2⟩) (fun q => ⟨q.1, q.2.imp id (hb _)⟩)⟩
theorem Sim.pr (h : Sim b1 g g') (q : Sim b2 k k') : Sim (fun x : α × β => b1 x.1 ∨ b2 x.2) (PR g k) (PR g' k') where
 le s s' h1 h2 := q.le _ _ (h.le s s' h1 h2).1 (h.le s s' h1 h2).2
 st s hs := by
  obtain ⟨a, b⟩ := h.st s hs
  obtain ⟨c, d⟩ := q.st (g s).2 (by rw [b]; exact hs)
  exact ⟨c.trans a, d.trans b⟩
 mo s hs := q.mo _ (h.mo s hs)
 mo' s hs := q.mo' _ (h.mo' s hs)
 eq s s' h1 h2 h3 := by
  obtain ⟨a, b⟩ := h.le s s' h1 h2
  have ht : (g s).2.e = 0 := by
   by_cases ht : (g s).2.e = 0
   ·exact ht
   ·exact absurd ((q.st _ ht).2.symm.trans h3) ht
  rcases q.eq _ _ a b h3 with c | c
  ·rcases h.eq s s' h1 h2 ht with d | d
   ·exact .inl ⟨Prod.ext d.1 c.1, fun e => c.2 (d.2 e)⟩
   ·exact .inr ⟨q.mo _ d.1, d.2.elim (fun e => .inl (q.mo' _ e)) (fun e => .inr (.inl e))⟩
  ·exact .inr ⟨c.1, c.2.imp id .inr⟩
theorem sim_num : Sim (fun _ => False) eNum eNum where
 le s s' h1 h2 := by
  unfold eNum
  rw [h1, h2]
  split
  ·exact ⟨rfl, rfl⟩
  ·exact ⟨h1, h2⟩
 st s hs := by unfold eNum; rw [if_neg hs]; exact ⟨rfl, rfl⟩
 mo s hs := by
  unfold eNum
  split
  ·exact hs
  ·exact hs
 mo' s hs := by
  unfold eNum
  split
  ·exact hs
  ·exact hs
 eq s s' h1 h2 _ := by
  left
  unfold eNum
  rw [h1, h2]
  split
  ·exact ⟨rfl, id⟩
  ·exact ⟨rfl, id⟩
theorem sim_data : Sim (fun _ => False) eData eData where
 le s s' h1 h2 := by
  unfold eData
  rw [h1, h2]
  split
  ·exact ⟨rfl, rfl⟩
  ·exact ⟨h1, h2⟩
 st s hs := by unfold eData; rw [if_neg hs]; exact ⟨rfl, rfl⟩
 mo s hs := by
  unfold eData
  split
  ·exact hs
  ·exact hs
 mo' s hs := by
  unfold eData
  split
  ·exact hs
  ·exact hs
 eq s s' h1 h2 _ := by
  left
  unfold eData
  rw [h1, h2]
  split
  ·exact ⟨rfl, id⟩
  ·exact ⟨rfl, id⟩
theorem eNum_v {s s' : EyeS} (h1 : s.l = s'.l) (h2 : s.e = s'.e) : (eNum s).1 = (eNum s').1 := by
 unfold eNum
 rw [h1, h2]
 split
 ·rfl
 ·rfl
theorem eNum_o (s : EyeS) : (eNum s).2.o = s.o := by
 unfold eNum
 split
 ·rfl
 ·rfl
theorem eNum_z {s : EyeS} (h : ¬ (eNum s).2.e = 0) : (eNum s).1 = 0 := by
 by_cases he : s.e = 0
 ·unfold eNum at h ⊢
  rw [if_pos he] at h ⊢
  exact (takeNum_err h).1
 ·unfold eNum
  rw [if_neg he]
def rSmall (s : EyeS) : Int × EyeS := if (eNum s).1 < -2147483648 ∨ 2147483648 < (eNum s).1 then (-2147483648, (eNum s).2) else eNum s
def SmBad (v : Int) : Prop := v = -2147483648 ∨ v = 2147483648
theorem eSmall_2 (s : EyeS) : (eSmall s).2.l = (eNum s).2.l ∧ (eSmall s).2.e = (eNum s).2.e ∧ (s.o = true → (eSmall s).2.o = true) := by
 rw [eSmall_range]
 split
 ·exact ⟨rfl, rfl, sim_num.mo s⟩
 ·exact ⟨rfl, rfl, fun _ => rfl⟩
theorem rSmall_2 (s : EyeS) : (rSmall s).2 = (eNum s).2 := by
 unfold rSmall
 split
 ·rfl
 ·rfl
theorem sim_small : Sim SmBad eSmall rSmall where
 le s s' h1 h2 := by
  obtain ⟨a, b, _⟩ := eSmall_2 s
  rw [a, b, rSmall_2]
  exact sim_num.le s s' h1 h2
 st s hs := by
  obtain ⟨a, b, _⟩ := eSmall_2 s
  rw [a, b]
  exact sim_num.st s hs
 mo s hs := (eSmall_2 s).2.2 hs
 mo' s hs := by rw [rSmall_2]; exact sim_num.mo s hs
 eq s s' h1 h2 _ := by
  have hv := eNum_v h1 h2
  by_cases r : -2147483648 ≤ (eNum s).1 ∧ (eNum s).1 ≤ 2147483647
  ·left
   rw [eSmall_range, if_pos r]
   unfold rSmall
   rw [if_neg (by omega)]
   exact ⟨hv, fun h => by rw [eNum_o, eNum_o]; exact h⟩
  ·right
   rw [eSmall_range, if_neg r]
   refine ⟨rfl, .inr ?_⟩
   unfold rSmall SmBad
   split
   ·exact .inl rfl
   ·exact .inr (by show (eNum s').1 = 2147483648; omega)
theorem sim_small0 : Sim (fun _ => False) eSmall eSmall where
 le s s' h1 h2 := by
  obtain ⟨a, b, _⟩ := eSmall_2 s
  obtain ⟨c, d, _⟩ := eSmall_2 s'
  rw [a, b, c, d]
  exact sim_num.le s s' h1 h2
 st := sim_small.st
 mo := sim_small.mo
 mo' := sim_small.mo
 eq s s' h1 h2 _ := by
  have hv := eNum_v h1 h2
  left
  rw [eSmall_range s, eSmall_range s', ← hv]
  split
  ·exact ⟨hv, fun h => by rw [eNum_o, eNum_o]; exact h⟩
  ·exact ⟨rfl, fun _ => rfl⟩
theorem sim_key : Sim (fun _ => False) eKey eKey := (((sim_small0.pr sim_num).fm (fun x : Int × Int => (⟨x.1, x.2⟩ : KeyD)) (fun _ => False) (fun _ h => h.elim id id) : Sim (fun _ => False) (FM (fun x : Int × Int => (⟨x.1, x.2⟩ : KeyD)) (PR eSmall eNum)) (FM (fun x : Int × Int => (⟨x.1, x.2⟩ : KeyD)) (PR eSmall eNum))))
theorem eWrong_l (b : Bool) (s : EyeS) : (eWrong b s).l = s.l ∧ (eWrong b s).o = s.o := by
 unfold eWrong
 split
 ·exact ⟨rfl, rfl⟩
 ·exact ⟨rfl, rfl⟩
theorem eWrong_e (b : Bool) {s s' : EyeS} (h : s.e = s'.e) : (eWrong b s).e = (eWrong b s').e := by
 unfold eWrong
 rw [h]
 split
 ·rfl
 ·exact h
theorem eWrong_st (b : Bool) {s : EyeS} (h : ¬ s.e = 0) : eWrong b s = s := by
 unfold eWrong
 rw [if_neg (fun q => h q.1)]
theorem sim_many (h : Sim b1 g g') : ∀ n, Sim (fun l : List α => ∃ x ∈ l, b1 x) (eMany g n) (eMany g' n)
 | 0 => ⟨fun s s' h1 h2 => ⟨h1, h2⟩, fun s _ => ⟨rfl, rfl⟩, fun s q => q, fun s q => q, fun s s' h1 h2 _ => .inl ⟨rfl, id⟩⟩
 | n + 1 => by
  have ih := (h.pr (sim_many h n)).fm (fun x : α × List α => x.1 :: x.2) (fun l : List α => ∃ x ∈ l, b1 x) (fun x q => q.elim (fun e => ⟨x.1, List.mem_cons_self .., e⟩) (fun ⟨y, m, e⟩ => ⟨y, List.mem_cons_of_mem _ m, e⟩))
  have e1 : ∀ s : EyeS, s.e = 0 → eMany g (n + 1) s = FM (fun x : α × List α => x.1 :: x.2) (PR g (eMany g n)) s := fun s hs => by simp only [eMany, if_pos hs]; rfl
  have e2 : ∀ s : EyeS, s.e = 0 → eMany g' (n + 1) s = FM (fun x : α × List α => x.1 :: x.2) (PR g' (eMany g' n)) s := fun s hs => by simp only [eMany, if_pos hs]; rfl
  refine ⟨fun s s' h1 h2 => ?_, fun s hs => ?_, fun s hs => ?_, fun s hs => ?_, fun s s' h1 h2 h3 => ?_⟩
  ·by_cases hs : s.e = 0
   ·rw [e1 s hs, e2 s' (h2 ▸ hs)]; exact ih.le s s' h1 h2
   ·rw [eMany_stop hs, eMany_stop (fun q => hs (h2.trans q))]; exact ⟨h1, h2⟩
  ·rw [eMany_stop hs]; exact ⟨rfl, rfl⟩
  ·by_cases he : s.e = 0
   ·rw [e1 s he]; exact ih.mo s hs
   ·rw [eMany_stop he]; exact hs
  ·by_cases he : s.e = 0
   ·rw [e2 s he]; exact ih.mo' s hs
   ·rw [eMany_stop he]; exact hs
  ·by_cases hs : s.e = 0
   ·rw [e1 s hs] at h3 ⊢
    rw [e2 s' (h2 ▸ hs)]; exact ih.eq s s' h1 h2 h3
   ·rw [eMany_stop hs] at h3; exact absurd h3 hs
theorem eCount_le {s s' : EyeS} (h1 : s.l = s'.l) (h2 : s.e = s'.e) : (eCount s).l = (eCount s').l ∧ (eCount s).e = (eCount s').e := by
 obtain ⟨a, b⟩ := sim_num.le s s' h1 h2
 unfold eCount
 rw [(eWrong_l _ _).1, (eWrong_l _ _).1, eNum_v h1 h2]
 exact ⟨a, eWrong_e _ b⟩
theorem eCount_o (s : EyeS) : (eCount s).o = s.o := by unfold eCount; rw [(eWrong_l _ _).2, eNum_o]
theorem sim_list (h : Sim b1 g g') : Sim (fun l : List α => ∃ x ∈ l, b1 x) (eList g) (eList g') where
 le s s' h1 h2 := by
  obtain ⟨a, b⟩ := eCount_le h1 h2
  unfold eList
  rw [eNum_v h1 h2]
  exact (sim_many h _).le _ _ a b
 st s hs := by
  obtain ⟨a, b⟩ := sim_num.st s hs
  have hc : (eCount s) = (eNum s).2 := by unfold eCount; exact eWrong_st _ (by rw [b]; exact hs)
  obtain ⟨c, d⟩ := (sim_many h (eNum s).1.toNat).st (eCount s) (by rw [hc, b]; exact hs)
  unfold eList
  rw [c, d, hc]
  exact ⟨a, b⟩
 mo s hs := (sim_many h _).mo _ (by rw [eCount_o]; exact hs)
 mo' s hs := (sim_many h _).mo' _ (by rw [eCount_o]; exact hs)
 eq s s' h1 h2 h3 := by
  obtain ⟨a, b⟩ := eCount_le h1 h2
  unfold eList at h3 ⊢
  rw [← eNum_v h1 h2]
  refine ((sim_many h _).eq _ _ a b h3).imp (fun q => ⟨q.1, fun e => q.2 (by rw [eCount_o, eCount_o]; exact e)⟩) id
theorem Sim.weak (h : Sim b1 g g') {b : α → Prop} (hb : ∀ a, b1 a → b a) : Sim b g g' := ⟨h.le, h.st, h.mo, h.mo', fun s s' h1 h2 h3 => (h.eq s s' h1 h2 h3).imp id (fun q => ⟨q.1, q.2.imp id (hb _)⟩)⟩
theorem sim_list0 (h : Sim (fun _ => False) g g') : Sim (fun _ => False) (eList g) (eList g') := (sim_list h).weak (fun _ ⟨_, _, q⟩ => q)
abbrev txW (x : Int × Int × List Int × List Int × List KeyD × List KeyD) : TxD := ⟨x.1, x.2.1, x.2.2.1, x.2.2.2.1, x.2.2.2.2.1, x.2.2.2.2.2⟩
theorem sim_txn : Sim (fun _ => False) eTxn eTxn :=
 (((sim_num.pr (sim_num.pr (sim_data.pr ((sim_list0 sim_num).pr ((sim_list0 sim_key).pr (sim_list0 sim_key)))))).fm txW (fun _ => False) (fun _ h => by simp at h)) :
  Sim (fun _ => False) (FM txW (PR eNum (PR eNum (PR eData (PR (eList eNum) (PR (eList eKey) (eList eKey))))))) (FM txW (PR eNum (PR eNum (PR eData (PR (eList eNum) (PR (eList eKey) (eList eKey))))))))
def bEntry (sm : EyeS → Int × EyeS) : EyeS → EnD × EyeS := FM (fun x : Int × Int × List TxD => ((1, x.1, x.2.1, x.2.2) : EnD)) (PR sm (PR eNum (eList eTxn)))
def rEntry (s : EyeS) : EnD × EyeS := if (rSmall s).1 = 0 then ((0, 0, 0, []), (rSmall s).2) else if (rSmall s).1 = 1 then bEntry rSmall (rSmall s).2 else (((rSmall s).1, 0, 0, []), eWrong true (rSmall s).2)
def EnBad (x : EnD) : Prop := mayE x.1 x.2.1 x.2.2.1 x.2.2.2 = false
theorem smBad_from {v : Int} (h : SmBad v) : inB 0 4 [v] = false := by
 rcases h with h | h <;> (subst h; rfl)
theorem sim_bentry : Sim EnBad (bEntry eSmall) (bEntry rSmall) :=
 (sim_small.pr (sim_num.pr (sim_list0 sim_txn))).fm _ _ (fun x h => by
  have h0 : SmBad x.1 := h.elim id (fun q => absurd q (by simp))
  show mayE 1 x.1 x.2.1 x.2.2 = false
  unfold mayE
  simp [smBad_from h0])
theorem rSmall_v {s : EyeS} (h : -2147483648 ≤ (eNum s).1 ∧ (eNum s).1 ≤ 2147483647) : rSmall s = eNum s := by
 unfold rSmall
 rw [if_neg (by omega)]
theorem rSmall_x {s : EyeS} {a b : Int} (ha : -2147483648 < a) (hb : b < 2147483648) (h : ¬ (a ≤ (eNum s).1 ∧ (eNum s).1 ≤ b)) : ¬ (a ≤ (rSmall s).1 ∧ (rSmall s).1 ≤ b) := by
 unfold rSmall
 split
 ·show ¬ (a ≤ -2147483648 ∧ _); omega
 ·exact h
theorem entry_cases {s s' : EyeS} (h1 : s.l = s'.l) (h2 : s.e = s'.e) :
  (eEntry s = ((0, 0, 0, []), (eNum s).2) ∧ rEntry s' = ((0, 0, 0, []), (eNum s').2)) ∨
  ((eNum s).2.e = 0 ∧ eEntry s = bEntry eSmall (eNum s).2 ∧ rEntry s' = bEntry rSmall (eNum s').2) ∨
  ((eNum s).2.e = 0 ∧ eEntry s = ((0, 0, 0, []), eWrong true (eNum s).2) ∧ ∃ v, rEntry s' = ((v, 0, 0, []), eWrong true (eNum s').2)) := by
 have hv := eNum_v h1 h2
 by_cases hn0 : (eNum s).1 = 0
 ·left
  have hr : rSmall s' = eNum s' := rSmall_v (by omega)
  have hk : eKind s = (eNum s).2 := by unfold eKind; rw [hn0]; exact eWrong_false _
  unfold eEntry rEntry
  rw [if_pos (.inr hn0), hk, hr, if_pos (hv.symm.trans hn0)]
  exact ⟨rfl, rfl⟩
 ·have he : (eNum s).2.e = 0 := by
   by_cases he : (eNum s).2.e = 0
   ·exact he
   ·exact absurd (eNum_z he) hn0
  right
  by_cases hn1 : (eNum s).1 = 1
  ·left
   have hr : rSmall s' = eNum s' := rSmall_v (by omega)
   have hk : eKind s = (eNum s).2 := by unfold eKind; rw [hn1]; exact eWrong_false _
   refine ⟨he, ?_, ?_⟩
   ·unfold eEntry
    rw [hk, if_neg (fun q => q.elim (fun q => q he) hn0)]
    rfl
   ·unfold rEntry
    rw [hr, if_neg (by omega), if_pos (by omega)]
  ·right
   have hk : eKind s = eWrong true (eNum s).2 := by unfold eKind; rw [decide_eq_true hn0, decide_eq_true hn1]; rfl
   refine ⟨he, ?_, (rSmall s').1, ?_⟩
   ·unfold eEntry
    rw [hk, if_pos (.inl (eWrong_true _))]
   ·have hx := rSmall_x (s := s') (a := 0) (b := 1) (by omega) (by omega) (by omega)
    unfold rEntry
    rw [if_neg (by omega), if_neg (by omega), rSmall_2]
theorem eNum_st {s : EyeS} (h : ¬ s.e = 0) : (eNum s).2 = s := by unfold eNum; rw [if_neg h]
theorem sim_entry : Sim EnBad eEntry rEntry where
 le s s' h1 h2 := by
  have hn := sim_num.le s s' h1 h2
  rcases entry_cases h1 h2 with ⟨a, b⟩ | ⟨_, a, b⟩ | ⟨_, a, v, b⟩
  ·rw [a, b]; exact hn
  ·rw [a, b]; exact sim_bentry.le _ _ hn.1 hn.2
  ·rw [a, b]
   exact ⟨by rw [(eWrong_l _ _).1, (eWrong_l _ _).1]; exact hn.1, eWrong_e _ hn.2⟩
 st s hs := by
  have hn := eNum_st hs
  rcases entry_cases (s := s) (s' := s) rfl rfl with ⟨a, _⟩ | ⟨q, _⟩ | ⟨q, _⟩
  ·rw [a, hn]; exact ⟨rfl, rfl⟩
  ·rw [hn] at q; exact absurd q hs
  ·rw [hn] at q; exact absurd q hs
 mo s hs := by
  have hn := sim_num.mo s hs
  rcases entry_cases (s := s) (s' := s) rfl rfl with ⟨a, _⟩ | ⟨_, a, _⟩ | ⟨_, a, _⟩
  ·rw [a]; exact hn
  ·rw [a]; exact sim_bentry.mo _ hn
  ·rw [a]; exact (eWrong_l true (eNum s).2).2.trans hn
 mo' s hs := by
  have hn := sim_num.mo s hs
  rcases entry_cases (s := s) (s' := s) rfl rfl with ⟨_, a⟩ | ⟨_, _, a⟩ | ⟨_, _, v, a⟩
  ·rw [a]; exact hn
  ·rw [a]; exact sim_bentry.mo' _ hn
  ·rw [a]; exact (eWrong_l true (eNum s).2).2.trans hn
 eq s s' h1 h2 h3 := by
  have hn := sim_num.le s s' h1 h2
  rcases entry_cases h1 h2 with ⟨a, b⟩ | ⟨_, a, b⟩ | ⟨_, a, v, b⟩
  ·rw [a, b]; exact .inl ⟨rfl, fun h => by show (eNum s).2.o = (eNum s').2.o; rw [eNum_o, eNum_o]; exact h⟩
  ·rw [a] at h3 ⊢
   rw [b]
   exact (sim_bentry.eq _ _ hn.1 hn.2 h3).imp (fun q => ⟨q.1, fun h => q.2 (by rw [eNum_o, eNum_o]; exact h)⟩) id
  ·rw [a] at h3; exact absurd h3 (eWrong_true _)
abbrev enOf (x : EnD) : EntD := ⟨x.1, x.2.1, x.2.2.1, x.2.2.2⟩
def trOf (en : EyeS → EnD × EyeS) : EyeS → TrD × EyeS := FM (fun x : Int × EnD => (⟨x.1, enOf x.2⟩ : TrD)) (PR eNum en)
abbrev eTr := trOf eEntry
abbrev rTr := trOf rEntry
def TrBad (x : TrD) : Prop := mayTr x = false
theorem sim_tr : Sim TrBad eTr rTr := (sim_num.pr sim_entry).fm _ _ (fun x h => by
 have h0 : EnBad x.2 := h.elim False.elim id
 show mayTr _ = false
 unfold mayTr
 rw [show mayE (enOf x.2).f0 (enOf x.2).f1 (enOf x.2).f2 (enOf x.2).f3 = false from h0, Bool.and_false])
def eYes (s : EyeS) : Bool × EyeS := (decide ((eNum s).1 = 1), eKind s)
theorem eKind_le {s s' : EyeS} (h1 : s.l = s'.l) (h2 : s.e = s'.e) : (eKind s).l = (eKind s').l ∧ (eKind s).e = (eKind s').e := by
 obtain ⟨a, b⟩ := sim_num.le s s' h1 h2
 unfold eKind
 rw [(eWrong_l _ _).1, (eWrong_l _ _).1, eNum_v h1 h2]
 exact ⟨a, eWrong_e _ b⟩
theorem eKind_o (s : EyeS) : (eKind s).o = s.o := by unfold eKind; rw [(eWrong_l _ _).2, eNum_o]
theorem sim_yes : Sim (fun _ => False) eYes eYes where
 le s s' h1 h2 := eKind_le h1 h2
 st s hs := by
  have hk : eKind s = s := by unfold eKind; rw [eNum_st hs]; exact eWrong_st _ hs
  show (eKind s).l = s.l ∧ (eKind s).e = s.e
  rw [hk]
  exact ⟨rfl, rfl⟩
 mo s hs := (eKind_o s).trans hs
 mo' s hs := (eKind_o s).trans hs
 eq s s' h1 h2 _ := .inl ⟨by show decide _ = decide _; rw [eNum_v h1 h2], fun h => by show (eKind s).o = (eKind s').o; rw [eKind_o, eKind_o]; exact h⟩
def ptOf (sm : EyeS → Int × EyeS) : EyeS → PartD × EyeS := FM (fun x : Int × Int × Int × List Int => (⟨x.1, x.2.1, x.2.2.1, x.2.2.2⟩ : PartD)) (PR eNum (PR sm (PR sm eData)))
def PtBad (p : PartD) : Prop := mayPt p = false
theorem sim_part : Sim PtBad (ptOf eSmall) (ptOf rSmall) := (sim_num.pr (sim_small.pr (sim_small.pr sim_data))).fm _ _ (fun x h => by
 show mayPt _ = false
 unfold mayPt
 by_cases hm : inB 1 4096 [x.2.2.1] = true
 ·rcases h with h | h | h | h
  ·exact h.elim
  ·have h0 : inB 0 (x.2.2.1 - 1) [x.2.1] = false := by
    simp only [inB, List.all_cons, List.all_nil, Bool.and_true, Bool.and_eq_true, decide_eq_true_eq] at hm
    rcases h with h | h
    ·rw [h]; simp [inB]
    ·rw [h]; simp [inB]; omega
   show (inB 0 1099511627776 [x.1] && (inB 1 4096 [x.2.2.1] && (inB 0 (x.2.2.1 - 1) [x.2.1] && _))) = false
   rw [h0]; simp
  ·rcases h with h | h <;> (rw [h] at hm; cases hm)
  ·exact h.elim
 ·show (inB 0 1099511627776 [x.1] && (inB 1 4096 [x.2.2.1] && _)) = false
  rw [Bool.eq_false_iff.2 hm]; simp)
def mBody (sm : EyeS → Int × EyeS) (en : EyeS → EnD × EyeS) (ls : EyeS → List TrD × EyeS) (k : Int) : EyeS → MsgD × EyeS :=
 if k = 1 then FM (fun x : Int × Int × Int × Int × Int => (⟨1, x.1, x.2.1, x.2.2.1, x.2.2.2.1, x.2.2.2.2, 0, false, [], zE, zP⟩ : MsgD)) (PR sm (PR sm (PR eNum (PR eNum eNum))))
 else if k = 2 then FM (fun x : Int × Int × Int × Bool => (⟨2, x.1, x.2.1, x.2.2.1, 0, 0, 0, x.2.2.2, [], zE, zP⟩ : MsgD)) (PR sm (PR sm (PR eNum eYes)))
 else if k = 3 then FM (fun x : Int × Int × Int × Int × Int × Int × List TrD => (⟨3, x.1, x.2.1, x.2.2.1, x.2.2.2.1, x.2.2.2.2.1, x.2.2.2.2.2.1, false, x.2.2.2.2.2.2, zE, zP⟩ : MsgD)) (PR sm (PR sm (PR eNum (PR eNum (PR eNum (PR eNum ls))))))
 else if k = 4 then FM (fun x : Int × Int × Int × Bool × Int => (⟨4, x.1, x.2.1, x.2.2.1, x.2.2.2.2, 0, 0, x.2.2.2.1, [], zE, zP⟩ : MsgD)) (PR sm (PR sm (PR eNum (PR eYes eNum))))
 else if k = 5 then FM (fun x : Int × Int × Int × Int × Int × PartD => (⟨5, x.1, x.2.1, x.2.2.1, x.2.2.2.1, x.2.2.2.2.1, 0, false, [], zE, x.2.2.2.2.2⟩ : MsgD)) (PR sm (PR sm (PR eNum (PR eNum (PR eNum (ptOf sm))))))
 else if k = 6 then FM (fun x : Int × Int × EnD => (⟨6, x.1, x.2.1, 0, 0, 0, 0, false, [], enOf x.2.2, zP⟩ : MsgD)) (PR sm (PR sm en))
 else FM (fun x : Int × Int × Int => (⟨k, x.1, x.2.1, x.2.2, 0, 0, 0, false, [], zE, zP⟩ : MsgD)) (PR sm (PR sm eNum))
theorem may_from {m : MsgD} (h : SmBad m.f1) : mayMs m = false := by unfold mayMs; rw [smBad_from h]; rfl
theorem may_to {m : MsgD} (h : SmBad m.f2) : mayMs m = false := by unfold mayMs; rw [smBad_from h]; simp
theorem may_list {m : MsgD} (h : ∃ x ∈ m.f8, TrBad x) : mayMs m = false := by
 obtain ⟨x, hx, hb⟩ := h
 have : m.f8.all mayTr = false := by
  rw [Bool.eq_false_iff]
  intro q
  have := List.all_eq_true.1 q x hx
  rw [show mayTr x = false from hb] at this
  cases this
 unfold mayMs; rw [this]; simp
theorem may_part {m : MsgD} (h0 : m.f0 = 5) (h : PtBad m.f10) : mayMs m = false := by
 unfold mayMs; rw [show mayPt m.f10 = false from h, h0]; simp
theorem may_ent {m : MsgD} (h0 : m.f0 = 6) (h : mayE m.f9.f0 m.f9.f1 m.f9.f2 m.f9.f3 = false) : mayMs m = false := by
 unfold mayMs; rw [h, h0]; simp
def MsBad (m : MsgD) : Prop := mayMs m = false
theorem sim_body (k : Int) : Sim (fun m => isKind k = true → MsBad m) (mBody eSmall eEntry (eList eTr) k) (mBody rSmall rEntry (eList rTr) k) := by
 unfold mBody
 split
 ·exact (sim_small.pr (sim_small.pr (sim_num.pr (sim_num.pr sim_num)))).fm _ _ (fun x h _ => by
   rcases h with h | h | h | h | h
   ·exact may_from h
   ·exact may_to h
   all_goals exact h.elim)
 split
 ·exact (sim_small.pr (sim_small.pr (sim_num.pr sim_yes))).fm _ _ (fun x h _ => by
   rcases h with h | h | h | h
   ·exact may_from h
   ·exact may_to h
   all_goals exact h.elim)
 split
 ·exact (sim_small.pr (sim_small.pr (sim_num.pr (sim_num.pr (sim_num.pr (sim_num.pr (sim_list sim_tr))))))).fm _ _ (fun x h _ => by
   rcases h with h | h | h | h | h | h | h
   ·exact may_from h
   ·exact may_to h
   ·exact h.elim
   ·exact h.elim
   ·exact h.elim
   ·exact h.elim
   ·exact may_list h)
 split
 ·exact (sim_small.pr (sim_small.pr (sim_num.pr (sim_yes.pr sim_num)))).fm _ _ (fun x h _ => by
   rcases h with h | h | h | h | h
   ·exact may_from h
   ·exact may_to h
   all_goals exact h.elim)
 split
 ·exact (sim_small.pr (sim_small.pr (sim_num.pr (sim_num.pr (sim_num.pr sim_part))))).fm _ _ (fun x h _ => by
   rcases h with h | h | h | h | h | h
   ·exact may_from h
   ·exact may_to h
   ·exact h.elim
   ·exact h.elim
   ·exact h.elim
   ·exact may_part rfl h)
 split
 ·exact (sim_small.pr (sim_small.pr sim_entry)).fm _ _ (fun x h _ => by
   rcases h with h | h | h
   ·exact may_from h
   ·exact may_to h
   ·exact may_ent rfl h)
 ·exact (sim_small.pr (sim_small.pr sim_num)).fm _ _ (fun x h hk => by
   unfold isKind at hk
   simp only [Bool.and_eq_true, decide_eq_true_eq] at hk
   omega)
theorem Sim.st' (h : Sim b1 g g') (s : EyeS) (hs : ¬ s.e = 0) : (g' s).2.l = s.l ∧ (g' s).2.e = s.e := by
 obtain ⟨a, b⟩ := h.le s s rfl rfl
 obtain ⟨c, d⟩ := h.st s hs
 exact ⟨a.symm.trans c, b.symm.trans d⟩
def notKind (k : Int) : Bool := decide (k < 1) || decide (6 < k)
theorem notKind_is (k : Int) : notKind k = !isKind k := by
 unfold notKind isKind
 rw [Bool.eq_iff_iff]
 simp
 try omega
def eMk (s : EyeS) : EyeS := eWrong (notKind (eNum s).1) (eNum s).2
def rMk (s : EyeS) : EyeS := eWrong (notKind (rSmall s).1) (rSmall s).2
def eMsg (s : EyeS) : MsgD × EyeS := if ¬ (eMk s).e = 0 then (zM, eMk s) else mBody eSmall eEntry (eList eTr) (eNum s).1 (eMk s)
def rMsg (s : EyeS) : MsgD × EyeS := mBody rSmall rEntry (eList rTr) (rSmall s).1 (rMk s)
theorem msg_cases {s s' : EyeS} (h1 : s.l = s'.l) (h2 : s.e = s'.e) :
  (eMk s).l = (rMk s').l ∧ (eMk s).e = (rMk s').e ∧ (s.o = s'.o → (eMk s).o = (rMk s').o) ∧ ((eMk s).e = 0 → (eNum s).1 = (rSmall s').1 ∧ isKind (eNum s).1 = true) := by
 have hv := eNum_v h1 h2
 obtain ⟨a, b⟩ := sim_num.le s s' h1 h2
 have hb : notKind (eNum s).1 = notKind (rSmall s').1 := by
  by_cases hr : 1 ≤ (eNum s).1 ∧ (eNum s).1 ≤ 6
  ·rw [rSmall_v (by omega), hv]
  ·have hx := rSmall_x (s := s') (a := 1) (b := 6) (by omega) (by omega) (by omega)
   unfold notKind
   rw [Bool.eq_iff_iff]
   simp
   omega
 unfold eMk rMk
 rw [(eWrong_l _ _).1, (eWrong_l _ _).1, (eWrong_l _ _).2, (eWrong_l _ _).2, rSmall_2, hb]
 refine ⟨a, eWrong_e _ b, fun h => by rw [eNum_o, eNum_o]; exact h, fun h => ?_⟩
 cases hn : notKind (rSmall s').1 with
 | true => rw [hn] at h; exact absurd h (eWrong_true _)
 | false =>
  have hk : isKind (eNum s).1 = true := by
   rw [← hb, notKind_is] at hn
   simpa using hn
  refine ⟨?_, hk⟩
  unfold isKind at hk
  simp only [Bool.and_eq_true, decide_eq_true_eq] at hk
  rw [rSmall_v (by omega), hv]
theorem sim_msg : Sim MsBad eMsg rMsg where
 le s s' h1 h2 := by
  obtain ⟨a, b, c, d⟩ := msg_cases h1 h2
  unfold eMsg rMsg
  by_cases he : (eMk s).e = 0
  ·rw [if_neg (fun q => q he), (d he).1]
   exact (sim_body _).le _ _ a b
  ·rw [if_pos he]
   obtain ⟨p, q⟩ := (sim_body (rSmall s').1).st' (rMk s') (fun q => he (b.trans q))
   exact ⟨a.trans p.symm, b.trans q.symm⟩
 st s hs := by
  have hk : eMk s = s := by unfold eMk; rw [eNum_st hs]; exact eWrong_st _ hs
  unfold eMsg
  rw [hk, if_pos hs]
  exact ⟨rfl, rfl⟩
 mo s hs := by
  have ho : (eMk s).o = true := by unfold eMk; rw [(eWrong_l _ _).2, eNum_o]; exact hs
  unfold eMsg
  split
  ·exact ho
  ·exact (sim_body _).mo _ ho
 mo' s hs := (sim_body _).mo' _ (by unfold rMk; rw [(eWrong_l _ _).2, rSmall_2, eNum_o]; exact hs)
 eq s s' h1 h2 h3 := by
  obtain ⟨a, b, c, d⟩ := msg_cases h1 h2
  unfold eMsg at h3 ⊢
  unfold rMsg
  by_cases he : (eMk s).e = 0
  ·rw [if_neg (fun q => q he)] at h3 ⊢
   rw [← (d he).1]
   exact ((sim_body _).eq _ _ a b h3).imp (fun q => ⟨q.1, fun h => q.2 (c h)⟩) (fun q => ⟨q.1, q.2.imp id (fun r => r (d he).2)⟩)
  ·rw [if_pos he] at h3
   exact absurd h3 he
def rEnd (s : EyeS) : EyeS := if s.e = 0 ∧ 0 < s.l.length then { s with e := 13 } else s
def wholeOf {α : Type} (z : α) (r : α × EyeS) (may all : Bool) : α × Int := if eEnds r.2 may all = 0 then (r.1, 0) else (z, eEnds r.2 may all)
theorem ends_eq {α : Type} {may : α → Bool} {g g' : EyeS → α × EyeS} (h : Sim (fun v => may v = false) g g') (l : List Int) (z : α) :
  wholeOf z (g ⟨l, 0, false⟩) (may (g ⟨l, 0, false⟩).1) true = wholeOf z ((g' ⟨l, 0, false⟩).1, rEnd (g' ⟨l, 0, false⟩).2) (may (g' ⟨l, 0, false⟩).1) false := by
 obtain ⟨a, b⟩ := h.le ⟨l, 0, false⟩ ⟨l, 0, false⟩ rfl rfl
 have q := h.eq ⟨l, 0, false⟩ ⟨l, 0, false⟩ rfl rfl
 obtain ⟨r, hr⟩ : ∃ r, g ⟨l, 0, false⟩ = r := ⟨_, rfl⟩
 obtain ⟨r', hr'⟩ : ∃ r, g' ⟨l, 0, false⟩ = r := ⟨_, rfl⟩
 rw [hr, hr'] at a b q ⊢
 clear hr hr'
 obtain ⟨v, s⟩ := r
 obtain ⟨v', s'⟩ := r'
 simp only at a b q ⊢
 unfold wholeOf
 simp only
 by_cases he : s.e = 0
 ·by_cases hl : 0 < s.l.length
  ·have e1 : eEnds s (may v) true = 13 := by unfold eEnds; rw [if_neg (fun q => q he), if_pos ⟨rfl, hl⟩]
   have e2 : eEnds (rEnd s') (may v') false = 13 := by
    have er : rEnd s' = { s' with e := 13 } := by unfold rEnd; rw [if_pos ⟨b ▸ he, a ▸ hl⟩]
    rw [er]
    rfl
   rw [e1, e2]; rfl
  ·have e1 : eEnds s (may v) true = if s.o = true ∨ may v = false then 40 else 0 := by unfold eEnds; rw [if_neg (fun q => q he), if_neg (fun q => hl q.2)]
   have e2 : eEnds (rEnd s') (may v') false = if s'.o = true ∨ may v' = false then 40 else 0 := by
    have er : rEnd s' = s' := by unfold rEnd; rw [if_neg (fun q => hl (a ▸ q.2))]
    rw [er, eEnds_false, if_pos (b ▸ he)]
   rcases q he with ⟨q1, q2⟩ | ⟨q1, q2⟩
   ·rw [e1, e2, q1, q2 trivial]
   ·rw [e1, e2, if_pos (show s.o = true ∨ may v = false from .inl q1), if_pos q2]; rfl
 ·have e1 : eEnds s (may v) true = s.e := by unfold eEnds; rw [if_pos he]
  have e2 : eEnds (rEnd s') (may v') false = s.e := by
   have er : rEnd s' = s' := by unfold rEnd; rw [if_neg (fun q => he (b.trans q.1))]
   rw [er, eEnds_false, if_neg (fun q => he (b.trans q)), b]
  rw [e1, e2, if_neg he, if_neg he]
def mayEn (x : EnD) : Bool := mayE x.1 x.2.1 x.2.2.1 x.2.2.2
theorem takeEn_w (l : List Int) : takeEn l = wholeOf (0, 0, 0, []) (eEntry ⟨l, 0, false⟩) (mayEn (eEntry ⟨l, 0, false⟩).1) true := rfl
theorem takeEn_r (l : List Int) : takeEn l = wholeOf (0, 0, 0, []) ((rEntry ⟨l, 0, false⟩).1, rEnd (rEntry ⟨l, 0, false⟩).2) (mayEn (rEntry ⟨l, 0, false⟩).1) false := (takeEn_w l).trans (ends_eq (may := mayEn) sim_entry l _)
def takeMs (l : List Int) : MsgD × Int := wholeOf zM (eMsg ⟨l, 0, false⟩) (mayMs (eMsg ⟨l, 0, false⟩).1) true
theorem takeMs_r (l : List Int) : takeMs l = wholeOf zM ((rMsg ⟨l, 0, false⟩).1, rEnd (rMsg ⟨l, 0, false⟩).2) (mayMs (rMsg ⟨l, 0, false⟩).1) false := ends_eq (may := mayMs) sim_msg l _
end Go.Proofs.YtgiefblcckikeaaGreat.M
end

section
/- The pen writes a message (printed by genpenm04.py). -/
attribute [local irreducible] Go.wpStill
namespace Go.Proofs.YtgiefblcckikeaaGreat.M
open Go.RowKit Go.Proofs.YtgiefblcckikeaaGreatW.PrintWords Go.Proofs.YtgiefblcckikeaaGreatW.PrintLast Go.Proofs.YtgiefblcckikeaaGreatW.PrintMore Go.Proofs.YtgiefblcckikeaaGreat.G
def yesB (b : Bool) : List Int := numB (if b = true then 1 else 0)
def trB (x : TrD) : List Int := numB x.f0 ++ entB x.f1.f0 x.f1.f1 x.f1.f2 x.f1.f3
def tailB (m : MsgD) : List Int := if m.f0 = 1 then numsB [m.f3, m.f4, m.f5] else if m.f0 = 2 then numB m.f3 ++ yesB m.f7 else if m.f0 = 3 then numsB [m.f3, m.f4, m.f5, m.f6] ++ numB m.f8.length ++ m.f8.flatMap trB else if m.f0 = 4 then numB m.f3 ++ yesB m.f7 ++ numB m.f4 else if m.f0 = 5 then numsB [m.f3, m.f4, m.f5, m.f10.f0, m.f10.f1, m.f10.f2] ++ numB m.f10.f3.length ++ m.f10.f3 else entB m.f9.f0 m.f9.f1 m.f9.f2 m.f9.f3
def msgB (m : MsgD) : List Int := numsB [m.f0, m.f1, m.f2] ++ tailB m
structure OkM (m : MsgD) : Prop where
 h : okI [m.f0, m.f1, m.f2] = true
 t : okI [m.f3, m.f4, m.f5, m.f6] = true
 p : okI [m.f10.f0, m.f10.f1, m.f10.f2] = true
 e : okE m.f9.f0 m.f9.f1 m.f9.f2 m.f9.f3 = true
 l : ∀ x ∈ m.f8, isI64 x.f0 ∧ okE x.f1.f0 x.f1.f1 x.f1.f2 x.f1.f3 = true
theorem okI_cons {x : Int} {l : List Int} : okI (x :: l) = true ↔ isI64 x ∧ okI l = true := by simp [okI]
theorem MsBox.keep {W W' : World} {b p : Nat} {m : MsgD} {A8 A12 A16 : Option Addr} {c8 c12 c16 : Nat} (h : MsBox W b m A8 c8 A12 c12 A16 c16) (hk : KeepS (fun i => i = p) W W') (hb : b ≠ p) : MsBox W' b m A8 c8 A12 c12 A16 c16 := (hk.block b (Array.getElem?_eq_some_iff.1 h).1 hb).trans h
end Go.Proofs.YtgiefblcckikeaaGreat.M
end

section
/- A function that reads with a state at x, before its struct variable is laid; and the end of a frame. -/
namespace Go.Proofs.YtgiefblcckikeaaGreat.M
open Go.RowKit Go.Proofs.YtgiefblcckikeaaGreatW.PrintWords Go.Proofs.YtgiefblcckikeaaGreatW.PrintLast Go.Proofs.YtgiefblcckikeaaGreatW.PrintMore Go.Proofs.YtgiefblcckikeaaGreat.G
structure Fo (I : World → EyeS → Prop) (w0 w : World) (x T : Nat) (zs : Array Value) (s : EyeS) (W : World) : Prop where
 g0 : W.heap[w.heap.size]? = some (.cells zs T)
 i : I W s
 d : Below w0.heap.size w0 W
 q : KeepS (fun i => i = x) w W
 hz : w.heap.size < W.heap.size
 hx : x < w.heap.size
 hw : w0.heap.size ≤ x
 at_ : ∀ (W W' : World) (s : EyeS), W'.heap[x]? = W.heap[x]? → I W s → I W' s
section
variable {I : World → EyeS → Prop} {w0 w W W' : World} {x g T : Nat} {zs cs : Array Value} {s s' : EyeS} {P Q : World → Prop}
theorem Fo.start (hI : I w s) (hB : Below w0.heap.size w0 w) (hlt : x < w.heap.size) (hge : w0.heap.size ≤ x) (at_ : ∀ (W W' : World) (s : EyeS), W'.heap[x]? = W.heap[x]? → I W s → I W' s) : Fo I w0 w x T zs s (w.alloc (.cells zs T)) := by
 have hb := (Below.refl _ w).alloc (Nat.le_refl _) (.cells zs T)
 exact ⟨heap_alloc_new w _, at_ _ _ _ (hb.block x hlt) hI, hB.alloc hB.size _, KeepS.of_below _ hb, by simp, hlt, hge, at_⟩
theorem Fo.call (h : Fo I w0 w x T zs s W) (i : I W' s') (d : Below w0.heap.size w0 W') (k : KeepS (fun i => i = x) W W') : Fo I w0 w x T zs s' W' :=
 ⟨(k.block _ h.hz (by have := h.hx; omega)).trans h.g0, i, d, h.q.trans k, Nat.lt_of_lt_of_le h.hz k.size, h.hx, h.hw, h.at_⟩
theorem Fo.lay (h : Fo I w0 w x T zs s W) (cs : Array Value) : Fr I w0 w x W.heap.size T zs cs s (fun _ => True) (W.alloc (.cells cs T)) := by
 have hb := (Below.refl _ W).alloc (Nat.le_refl _) (.cells cs T)
 have hx := h.hx; have hz := h.hz; have hd := h.d.size
 exact ⟨(hb.block _ h.hz).trans h.g0, heap_alloc_new W _, h.at_ _ _ _ (hb.block x (by omega)) h.i, h.d.alloc hd _, h.q.then_base (hb.mono (by omega)), h.hz, by simp, h.hx, h.hw, Held.true _ _, h.at_⟩
theorem Fo.put (h : Fo I w0 w x T zs s W) (j : Nat) (v : Value) : Fo I w0 w x T (zs.setIfInBounds j v) s (W.setCell ⟨w.heap.size, j, none⟩ v) := by
 have hx := h.hx; have hz := h.hz; have hd := h.d.size; have hw := h.hw
 exact ⟨blk_put h.g0 j v rfl, h.at_ _ _ _ (Below.heap_setCell W ⟨w.heap.size, j, none⟩ v x (by show x ≠ w.heap.size; omega)) h.i, h.d.setCell (p := ⟨w.heap.size, j, none⟩) (by show w0.heap.size ≤ w.heap.size; omega) v, h.q.set (p := ⟨w.heap.size, j, none⟩) (.inr (Nat.le_refl _)) v, by rw [World.size_setCell]; exact hz, h.hx, h.hw, h.at_⟩
theorem Fo.done (h : Fo I w0 w x T zs s W) (hk : KeepS (fun k => k = w.heap.size) W W') : I W' s ∧ Below w0.heap.size w0 W' ∧ KeepS (fun i => i = x) w W' := by
 have hx := h.hx; have hz := h.hz; have hd := h.d.size; have hw := h.hw
 exact ⟨h.at_ _ _ _ (hk.block x (by omega) (by show ¬ x = w.heap.size; omega)) h.i, h.d.trans (hk.below hd (by rintro i rfl; omega)), h.q.then_base (hk.below (B := w.heap.size) (by omega) (by rintro i rfl; omega))⟩
theorem Fr.fin (h : Fr I w0 w x g T zs cs s P W) {cs' : Array Value} : (W.setRow w.heap.size cs').heap[w.heap.size]? = some (.cells cs' T) ∧ P (W.setRow w.heap.size cs') ∧ I (W.setRow w.heap.size cs') s ∧ Below w0.heap.size w0 (W.setRow w.heap.size cs') ∧ KeepS (fun i => i = x) w (W.setRow w.heap.size cs') := by
 have hk : KeepS (fun k => k = w.heap.size ∨ k = g) W (W.setRow w.heap.size cs') := ⟨rfl, rfl, rfl, by simp, fun i _ hi => setRow_other W w.heap.size i cs' (fun e => hi (.inl e))⟩
 exact ⟨setRow_heap W w.heap.size zs cs' T (0, 0) h.g0, h.done hk⟩
theorem Fo.fin (h : Fo I w0 w x T zs s W) {cs' : Array Value} : (W.setRow w.heap.size cs').heap[w.heap.size]? = some (.cells cs' T) ∧ I (W.setRow w.heap.size cs') s ∧ Below w0.heap.size w0 (W.setRow w.heap.size cs') ∧ KeepS (fun i => i = x) w (W.setRow w.heap.size cs') := by
 have hk : KeepS (fun k => k = w.heap.size) W (W.setRow w.heap.size cs') := ⟨rfl, rfl, rfl, by simp, fun i _ hi => setRow_other W w.heap.size i cs' (fun e => hi e)⟩
 exact ⟨setRow_heap W w.heap.size zs cs' T (0, 0) h.g0, h.done hk⟩
end
def MsP (I : World → EyeS → Prop) (w0 w : World) (x : Nat) (y : MsgD) (s' : EyeS) (e : Ending) (w' : World) : Prop := ∃ v8 v12 v16 : Value, e = .returned (.agg #[.int .i64 y.f0, .int .i64 y.f1, .int .i64 y.f2, .int .i64 y.f3, .int .i64 y.f4, .int .i64 y.f5, .int .i64 y.f6, .bool y.f7, v8, .int .i64 y.f9.f0, .int .i64 y.f9.f1, .int .i64 y.f9.f2, v12, .int .i64 y.f10.f0, .int .i64 y.f10.f1, .int .i64 y.f10.f2, v16]) ∧ Kd.R G.k63 63 w' w.heap.size (fun _ => True) v8 y.f8 ∧ Kd.R G.k26 26 w' w.heap.size (fun _ => True) v12 y.f9.f3 ∧ Kd.R (Kd.int .u8) 5 w' w.heap.size (fun _ => True) v16 y.f10.f3 ∧ I w' s' ∧ Below w0.heap.size w0 w' ∧ KeepS (fun i => i = x) w w'
end Go.Proofs.YtgiefblcckikeaaGreat.M
end

section
/- The eye's lists: yes, termed, a list of termed (printed by geneyey04.py). -/
attribute [local irreducible] Go.wpStill
namespace Go.Proofs.YtgiefblcckikeaaGreat.M
open Go.RowKit Go.Proofs.YtgiefblcckikeaaGreatW.PrintWords Go.Proofs.YtgiefblcckikeaaGreatW.PrintLast Go.Proofs.YtgiefblcckikeaaGreatW.PrintMore Go.Proofs.YtgiefblcckikeaaGreat.G
theorem eYes_is {w0 w : World} {x : Nat} {s : EyeS} (hI : IsEye w0 w x s) (hB : Below w0.heap.size w0 w) (hok : okS s) :
  Calls Tryz.prog 125 #[.pointer (some ⟨x, 0, none⟩)] w fun e w' => EyP w0 w x (.bool (eYes s).1) (eYes s).2 e w' := by
 have HN := Lib.hid (eNum_is hI hB hok)
 obtain ⟨k, hk⟩ : ∃ k, (eNum s).1 = k := ⟨_, rfl⟩
 obtain ⟨s1, hs1⟩ : ∃ s1, (eNum s).2 = s1 := ⟨_, rfl⟩
 have HF := Lib.hid (show eYes s = (decide (k = 1), eWrong (decide (k ≠ 0) && decide (k ≠ 1)) s1) by unfold eYes eKind; rw [hk, hs1])
 rw [hk, hs1] at HN
 clear hk hs1 hI hB hok
 by_cases ha : k = 0
 ·have q0 : (k != 0) = false := by rw [ha]; rfl
  have q2 : (k == 1) = false := by rw [ha]; rfl
  have HR := Lib.hid (show eYes s = (false, eWrong false s1) by rw [HF.out]; simp [ha])
  clear ha HF
  go_enter Tryz.func125, Tryz.ntmps125
  go_wp2_with fail
  refine HN.out.mono ?_
  rintro e w1 ⟨rfl, h1, h2, h3⟩
  have HW := Lib.hid (eWrong_is h1 h2 false); have H3 := Lib.hid h3
  clear h1 h2 h3 HN
  go_wp2_with fail
  refine HW.out.mono ?_
  rintro e w2 ⟨rfl, h1, h2, h3⟩
  have G1 := Lib.hid h1; have G2 := Lib.hid h2; have G3 := Lib.hid (H3.out.trans h3)
  clear h1 h2 h3 HW H3
  go_wp2_with fail
  go_ret
  exact ⟨by rw [HR.out]; rfl, by rw [HR.out]; exact G1.out, G2.out, G3.out⟩
 ·by_cases hb : k = 1
  ·have q0 : (k != 0) = true := bne_iff_ne.2 ha
   have q1 : (k != 1) = false := by rw [hb]; rfl
   have q2 : (k == 1) = true := by rw [hb]; rfl
   have HR := Lib.hid (show eYes s = (true, eWrong false s1) by rw [HF.out]; simp [ha, hb])
   clear ha hb HF
   go_enter Tryz.func125, Tryz.ntmps125
   go_wp2_with fail
   refine HN.out.mono ?_
   rintro e w1 ⟨rfl, h1, h2, h3⟩
   have HW := Lib.hid (eWrong_is h1 h2 false); have H3 := Lib.hid h3
   clear h1 h2 h3 HN
   go_wp2_with fail
   refine HW.out.mono ?_
   rintro e w2 ⟨rfl, h1, h2, h3⟩
   have G1 := Lib.hid h1; have G2 := Lib.hid h2; have G3 := Lib.hid (H3.out.trans h3)
   clear h1 h2 h3 HW H3
   go_wp2_with fail
   go_ret
   exact ⟨by rw [HR.out]; rfl, by rw [HR.out]; exact G1.out, G2.out, G3.out⟩
  ·have q0 : (k != 0) = true := bne_iff_ne.2 ha
   have q1 : (k != 1) = true := bne_iff_ne.2 hb
   have q2 : (k == 1) = false := beq_eq_false_iff_ne.2 hb
   have HR := Lib.hid (show eYes s = (false, eWrong true s1) by rw [HF.out]; simp [ha, hb])
   clear ha hb HF
   go_enter Tryz.func125, Tryz.ntmps125
   go_wp2_with fail
   refine HN.out.mono ?_
   rintro e w1 ⟨rfl, h1, h2, h3⟩
   have HW := Lib.hid (eWrong_is h1 h2 true); have H3 := Lib.hid h3
   clear h1 h2 h3 HN
   go_wp2_with fail
   refine HW.out.mono ?_
   rintro e w2 ⟨rfl, h1, h2, h3⟩
   have G1 := Lib.hid h1; have G2 := Lib.hid h2; have G3 := Lib.hid (H3.out.trans h3)
   clear h1 h2 h3 HW H3
   go_wp2_with fail
   go_ret
   exact ⟨by rw [HR.out]; rfl, by rw [HR.out]; exact G1.out, G2.out, G3.out⟩
def TrP (w0 w : World) (x : Nat) (y : TrD) (s' : EyeS) (e : Ending) (w' : World) : Prop := ∃ v : Value, e = .returned (.agg #[.int .i64 y.f0, .int .i64 y.f1.f0, .int .i64 y.f1.f1, .int .i64 y.f1.f2, v]) ∧ Kd.S G.k26 26 w' w.heap.size (fun _ => True) v y.f1.f3 ∧ IsEye w0 w' x s' ∧ Below w0.heap.size w0 w' ∧ KeepS (fun i => i = x) w w'
set_option maxHeartbeats 1000000 in
theorem eTermed_is {w0 w : World} {x : Nat} {s : EyeS} (hI : IsEye w0 w x s) (hB : Below w0.heap.size w0 w) (hok : okS s) :
  Calls Tryz.prog 127 #[.pointer (some ⟨x, 0, none⟩)] w fun e w' => TrP w0 w x (eTr s).1 (eTr s).2 e w' := by
 have HT1 := Lib.hid (Fo.start (I := fun W s => IsEye w0 W x s) (T := 63) (zs := #[.int .i64 0, .int .i64 0, .int .i64 0, .int .i64 0, .slice none 0 0]) hI hB hI.lt hI.ge (fun _ _ _ e h => h.at e))
 obtain ⟨a, ha⟩ : ∃ a, (eNum s).1 = a := ⟨_, rfl⟩
 obtain ⟨s1, hs1⟩ : ∃ s1, (eNum s).2 = s1 := ⟨_, rfl⟩
 have ho1 := okS_num hok
 rw [hs1] at ho1
 obtain ⟨y, hy⟩ : ∃ y, (eEntry s1).1 = y := ⟨_, rfl⟩
 obtain ⟨s2, hs2⟩ : ∃ s2, (eEntry s1).2 = s2 := ⟨_, rfl⟩
 have HF := Lib.hid (show eTr s = (⟨a, enOf y⟩, s2) by unfold eTr trOf FM PR; rw [ha, hs1, hy, hs2])
 obtain ⟨y0, y1, y2, yl⟩ := y
 have HO0 := Lib.hid hok; have HO1 := Lib.hid ho1; have HE1 := Lib.hid (And.intro ha hs1); have HE2 := Lib.hid (And.intro hy hs2)
 clear hI hB hok ho1 ha hs1 hy hs2
 go_enter Tryz.func127, Tryz.ntmps127
 go_wp2_with fail
 obtain ⟨w1, hw1⟩ : ∃ w1, w.alloc (.cells #[.int .i64 0, .int .i64 0, .int .i64 0, .int .i64 0, .slice none 0 0] 63) = w1 := ⟨_, rfl⟩
 rw [hw1] at HT1 ⊢
 clear hw1
 have h4 := eNum_is HT1.out.i HT1.out.d HO0.out
 rw [HE1.out.1, HE1.out.2] at h4
 refine h4.mono ?_
 rintro e w2 ⟨rfl, h1, h2, h3⟩
 have HT2 := Lib.hid (HT1.out.call h1 h2 h3)
 clear h1 h2 h3 h4 HT1
 go_wp2_with fail
 have h4 := eEntry_is HT2.out.i HT2.out.d HO1.out
 rw [HE2.out.1, HE2.out.2] at h4
 refine h4.mono ?_
 rintro e w3 ⟨v_, rfl, hv, h1, h2, h3⟩
 have hv : Kd.S G.k26 26 w3 w2.heap.size (fun _ => True) v_ yl := hv
 obtain ⟨A, c, rfl⟩ := Kd.S_slice hv
 have HV := Lib.hid hv
 have HT3 := Lib.hid (HT2.out.call h1 h2 h3)
 have HZ := Lib.hid HT2.out.hz
 clear h1 h2 h3 h4 hv HT2
 have d0 : w3.cell? ⟨w.heap.size, 0, none⟩ = some (.int .i64 0) := (blk_cell HT3.out.g0 0).trans rfl
 have z0 : w3.frozen? ⟨w.heap.size, 0, none⟩ = false := blk_frozen HT3.out.g0 0
 have d1 : w3.cell? ⟨w.heap.size, 1, none⟩ = some (.int .i64 0) := (blk_cell HT3.out.g0 1).trans rfl
 have z1 : w3.frozen? ⟨w.heap.size, 1, none⟩ = false := blk_frozen HT3.out.g0 1
 have d2 : w3.cell? ⟨w.heap.size, 2, none⟩ = some (.int .i64 0) := (blk_cell HT3.out.g0 2).trans rfl
 have z2 : w3.frozen? ⟨w.heap.size, 2, none⟩ = false := blk_frozen HT3.out.g0 2
 have d3 : w3.cell? ⟨w.heap.size, 3, none⟩ = some (.int .i64 0) := (blk_cell HT3.out.g0 3).trans rfl
 have z3 : w3.frozen? ⟨w.heap.size, 3, none⟩ = false := blk_frozen HT3.out.g0 3
 have d4 : w3.cell? ⟨w.heap.size, 4, none⟩ = some (.slice none 0 0) := (blk_cell HT3.out.g0 4).trans rfl
 have z4 : w3.frozen? ⟨w.heap.size, 4, none⟩ = false := blk_frozen HT3.out.g0 4
 go_wp2_with fail
 have HEB := Lib.hid (blk_put (cs := #[.int .i64 a, .int .i64 y0, .int .i64 y1, .int .i64 y2, .slice none 0 0]) (blk_put (cs := #[.int .i64 a, .int .i64 y0, .int .i64 y1, .int .i64 0, .slice none 0 0]) (blk_put (cs := #[.int .i64 a, .int .i64 y0, .int .i64 0, .int .i64 0, .slice none 0 0]) (blk_put (cs := #[.int .i64 a, .int .i64 0, .int .i64 0, .int .i64 0, .slice none 0 0]) (blk_put (cs := #[.int .i64 0, .int .i64 0, .int .i64 0, .int .i64 0, .slice none 0 0]) HT3.out.g0 0 (.int .i64 a) rfl) 1 (.int .i64 y0) rfl) 2 (.int .i64 y1) rfl) 3 (.int .i64 y2) rfl) 4 (.slice A yl.length c) rfl)
 have HKS := Lib.hid ((((((KeepS.refl (fun k => k = w.heap.size) w3).set (p := ⟨w.heap.size, 0, none⟩) (.inl rfl) (.int .i64 a)).set (p := ⟨w.heap.size, 1, none⟩) (.inl rfl) (.int .i64 y0)).set (p := ⟨w.heap.size, 2, none⟩) (.inl rfl) (.int .i64 y1)).set (p := ⟨w.heap.size, 3, none⟩) (.inl rfl) (.int .i64 y2)).set (p := ⟨w.heap.size, 4, none⟩) (.inl rfl) (.slice A yl.length c))
 obtain ⟨W, hW⟩ : ∃ W, (((((w3.setCell ⟨w.heap.size, 0, none⟩ (.int .i64 a)).setCell ⟨w.heap.size, 1, none⟩ (.int .i64 y0)).setCell ⟨w.heap.size, 2, none⟩ (.int .i64 y1)).setCell ⟨w.heap.size, 3, none⟩ (.int .i64 y2)).setCell ⟨w.heap.size, 4, none⟩ (.slice A yl.length c)) = W := ⟨_, rfl⟩
 rw [hW] at HEB HKS ⊢
 clear hW
 refine bodyPost_ret (results_cell_row rfl _ _ w.heap.size 63 #[.int .i64 a, .int .i64 y0, .int .i64 y1, .int .i64 y2, .slice A yl.length c] (0, 0) _ rfl HEB.out Tryz.underlying63 rfl (by kernel_rfl)) rfl ?_
 rw [HF.out]
 obtain ⟨i, d, q⟩ := HT3.out.done HKS.out
 have hz := HZ.out
 exact ⟨_, rfl, Kd.S_mono (Kd.S_step (Kd.S_lower (Kd.S_bound HV.out) (Nat.le_of_lt hz)) (fun k hk hlt => HKS.out.block k hlt (fun (e : k = w.heap.size) => by have := hk.2.1; omega))) (fun _ _ => trivial), i, d, q⟩
theorem okS_tr {s : EyeS} (h : okS s) : okS (eTr s).2 := okS_entry (okS_num h)
def LiI_trs (g : EyeS → TrD × EyeS) (n : Int) (s0 : EyeS) (w0 w : World) (x : Nat) (v i : Value) (W : World) : Prop := ∃ (U : List TrD) (s : EyeS), i = .int .i64 (U.length : Int) ∧ U.length ≤ 4096 ∧ U.length ≤ n.toNat ∧ (s.e = 0 → n ≤ 4096) ∧ Kd.S G.k63 63 W w.heap.size (fun _ => True) v U ∧ IsEye w0 W x s ∧ Below w0.heap.size w0 W ∧ KeepS (fun i => i = x) w W ∧ okS s ∧ eList g s0 = (U ++ (eMany g (n.toNat - U.length) s).1, (eMany g (n.toNat - U.length) s).2)
set_option maxHeartbeats 2000000 in
theorem eList_trs {w0 w : World} {x : Nat} {s : EyeS} (hI : IsEye w0 w x s) (hB : Below w0.heap.size w0 w) (hok : okS s) :
  Calls Tryz.prog 126 #[.pointer (some ⟨x, 0, none⟩), .func (.func 127) #[.pointer (some ⟨x, 0, none⟩)] #[]] w fun e w' => LiP G.k63 63 w0 w x (eList eTr s).1 (eList eTr s).2 e w' := by
 have HN := Lib.hid (eNum_is hI hB hok)
 have HOK := Lib.hid (okS_num hok)
 have HLT := Lib.hid hI.lt
 have HGEW := Lib.hid (show w0.heap.size ≤ w.heap.size from hB.size)
 obtain ⟨n, hn⟩ : ∃ n, (eNum s).1 = n := ⟨_, rfl⟩
 obtain ⟨s1, hs1⟩ : ∃ s1, (eNum s).2 = s1 := ⟨_, rfl⟩
 have HCT := Lib.hid (show eCount s = eWrong (decide (n < 0) || decide (4096 < n)) s1 by unfold eCount; rw [hn, hs1])
 have Hapi.Termed := Lib.hid (show eList eTr s = eMany eTr n.toNat (eCount s) by unfold eList; rw [hn])
 rw [hn, hs1] at HN
 rw [hs1] at HOK
 clear hI hB hok hn hs1
 go_enter Tryz.func126, Tryz.ntmps126
 go_wp2_with fail
 refine HN.out.mono ?_
 rintro e w1 ⟨rfl, h1, h2, h3⟩
 have H1 := Lib.hid h1; have H2 := Lib.hid h2; have H3 := Lib.hid h3
 clear h1 h2 h3 HN
 go_upto_region 2 with fail
 go_cut [] (fun wx => IsEye w0 wx x (eCount s) ∧ Below w0.heap.size w0 wx ∧ KeepS (fun i => i = x) w wx)
 case first =>
  by_cases ha : n < 0
  ·have hq : decide (n < 0) = true := decide_eq_true ha
   have HW := Lib.hid (eWrong_is H1.out H2.out true)
   have HC2 := Lib.hid (show eCount s = eWrong true s1 by rw [HCT.out, hq, Bool.true_or])
   clear ha
   go_wp2_with fail
   refine HW.out.mono ?_
   rintro e w2 ⟨rfl, h1, h2, h3⟩
   have G1 := Lib.hid h1; have G2 := Lib.hid h2; have G3 := Lib.hid (H3.out.trans h3)
   clear h1 h2 h3
   go_wp2_with fail
   go_meet
   exact ⟨by rw [HC2.out]; exact G1.out, G2.out, G3.out⟩
  ·have hq : decide (n < 0) = false := decide_eq_false ha
   obtain ⟨b, hb⟩ : ∃ b, decide ((4096 : Int) < n) = b := ⟨_, rfl⟩
   have HW := Lib.hid (eWrong_is H1.out H2.out b)
   have HC2 := Lib.hid (show eCount s = eWrong b s1 by rw [HCT.out, hq, hb, Bool.false_or])
   clear ha
   go_wp2_with fail
   refine HW.out.mono ?_
   rintro e w2 ⟨rfl, h1, h2, h3⟩
   have G1 := Lib.hid h1; have G2 := Lib.hid h2; have G3 := Lib.hid (H3.out.trans h3)
   clear h1 h2 h3
   go_wp2_with fail
   go_meet
   exact ⟨by rw [HC2.out]; exact G1.out, G2.out, G3.out⟩
 case rest =>
  obtain ⟨h1, h2, h3⟩ := hcut
  have G1 := Lib.hid h1; have G2 := Lib.hid h2; have G3 := Lib.hid h3
  have HE0 := Lib.hid (show (eCount s).e = 0 → n ≤ 4096 by
   intro h
   rw [HCT.out] at h
   by_cases h5 : (4096 : Int) < n
   ·rw [decide_eq_true h5, Bool.or_true] at h
    unfold eWrong at h
    split at h
    ·cases h
    ·next h6 => exact absurd ⟨h, rfl⟩ h6
   ·omega)
  have HOC := Lib.hid (show okS (eCount s) by rw [HCT.out]; exact okS_wrong _ HOK.out)
  clear h1 h2 h3
  go_wp2_with fail
  go_loopw [6, 7] (fun v i wr => LiI_trs eTr n s w0 w x v i wr) (fun _ i _ => n.toNat - (intOf i).toNat)
  case atStart => exact ⟨[], eCount s, rfl, by simp, by simp, HE0.out, Kd.S_nil _ _ _ _ _, G1.out, G2.out, G3.out, HOC.out, by simpa using Hapi.Termed.out⟩
  case round =>
   obtain ⟨U, s2, rfl, hU, hUn, hE, hS, hI, hB, hK, hO, hF⟩ := hrel
   have HI := Lib.hid hI; have HB := Lib.hid hB; have HK := Lib.hid hK; have HO := Lib.hid hO; have HF := Lib.hid hF; have HS := Lib.hid hS; have HUN := Lib.hid hUn; have HE := Lib.hid hE
   obtain ⟨Av, cv, rfl⟩ := Kd.S_slice hS
   obtain ⟨A, c, g1, g2, g3, g4⟩ := hI
   have c1 : wr.cell? ⟨x, 1, none⟩ = some (.int .i64 s2.e) := by simp [World.cell?, g1]
   clear hB hK hO hF hS hUn hE g1 g2 g3 g4
   by_cases hlt : (U.length : Int) < n
   ·by_cases he : s2.e = 0
    ·have hq1 : decide ((U.length : Int) < n) = true := decide_eq_true hlt
     have hq2 : (s2.e == 0) = true := by rw [he]; rfl
     have HN4 := Lib.hid (HE.out he)
     have HG := Lib.hid (eTermed_is HI.out HB.out HO.out)
     have HGO := Lib.hid (okS_tr HO.out)
     obtain ⟨y, hy⟩ : ∃ y, (eTr s2).1 = y := ⟨_, rfl⟩
     obtain ⟨s3, hs3⟩ : ∃ s3, (eTr s2).2 = s3 := ⟨_, rfl⟩
     have HF2 := Lib.hid (show eList eTr s = ((U ++ [y]) ++ (eMany eTr (n.toNat - (U ++ [y]).length) s3).1, (eMany eTr (n.toNat - (U ++ [y]).length) s3).2) by
      rw [HF.out]
      have e1 : n.toNat - U.length = (n.toNat - (U ++ [y]).length) + 1 := by simp; omega
      rw [e1]
      simp only [eMany, he, if_true, hy, hs3, List.append_assoc, List.singleton_append])
     have HLT2 := Lib.hid hlt
     rw [hy, hs3] at HG
     rw [hs3] at HGO
     clear hlt he hy hs3
     go_wp2_with fail
     refine HG.out.mono ?_
     rintro e w3 ⟨v_, rfl, r4, h1, h2, h3⟩
     obtain ⟨A4, c4, rfl⟩ := Kd.S_slice r4
     have HBW := Lib.hid (show w.heap.size ≤ wr.heap.size from HK.out.size)
     have R4 := Lib.hid (show Kd.R G.k26 26 w3 w.heap.size (fun k => wr.heap.size ≤ k) _ y.f1.f3 from Kd.R_mono (Kd.R_lower (Kd.R_bound (Kd.S_R r4)) HBW.out) (fun k hk => hk.2.1))
     have HS3 := Lib.hid (show Kd.S G.k63 63 w3 w.heap.size (fun k => True ∧ ¬ wr.heap.size ≤ k) (.slice Av U.length cv) U from Kd.S_mono (Kd.S_step (Kd.S_bound HS.out) (fun k hk2 hlt => h3.block k hlt (fun e => by have := hk2.2.1; have := HLT.out; omega))) (fun k hk => ⟨trivial, by have := hk.2.2.1; omega⟩))
     have HOWN := Lib.hid (Kd.S_lt HS.out)
     have HZ3 := Lib.hid (Nat.le_trans HK.out.size h3.size)
     have K1 := Lib.hid h1; have K2 := Lib.hid h2; have K3 := Lib.hid (HK.out.trans h3)
     clear h1 h2 h3 r4
     go_wp2_with ((with_reducible refine gate_builtin (b := .append) (xs := #[.tmp 30, .tmp 33]) rfl ?_); at_builtin; refine Kd.S_append G.k63 (w0 := w3) w.heap.size rfl (.tmp 30) (.tmp 33) 30 63 (.agg #[.int .i64 0, .int .i64 0, .int .i64 0, .int .i64 0, .slice none 0 0]) 56 rfl Tryz.underlying30 G.info63 rfl (by decide) (by omega) _ U y [.int .i64 y.f0, .int .i64 y.f1.f0, .int .i64 y.f1.f1, .int .i64 y.f1.f2, .slice A4 y.f1.f3.length c4] (fun _ => True) (fun k => wr.heap.size ≤ k) rfl rfl (G.k63_mkM _ _ _ y R4.out) (fun k hk => ⟨trivial, fun e => by have := HOWN.out k e.symm; omega⟩) (fun _ _ => trivial) HS3.out (Below.refl _ _) HZ3.out (by omega) ?_; intro v1 w5 ho hb5 hg5 hat; obtain ⟨A9, c9, rfl⟩ := Kd.S_slice ho; have HS5 := Lib.hid ho; have HK5 := Lib.hid (K3.out.then_base hb5); have HI5 := Lib.hid (K1.out.at (hb5.block x HLT.out)); have HB5 := Lib.hid (K2.out.trans (hb5.mono HGEW.out)); clear ho hb5 hg5 hat)
     go_roundw
     case rel =>
      refine ⟨U ++ [y], s3, by rw [List.length_append]; go_num, ?_, ?_, fun _ => HN4.out, (by have h9 := HS5.out; rw [List.length_append] at h9; exact h9), HI5.out, HB5.out, HK5.out, HGO.out, HF2.out⟩
      ·have h1 := HN4.out; have h2 := HLT2.out
       rw [List.length_append, List.length_singleton]
       omega
      ·have h2 := HLT2.out
       rw [List.length_append, List.length_singleton]
       omega
     case measure => simp [intOf]; have h2 := HLT2.out; omega
    ·have hq1 : decide ((U.length : Int) < n) = true := decide_eq_true hlt
     have hq2 : (s2.e == 0) = false := beq_eq_false_iff_ne.2 he
     have HF2 := Lib.hid (show eList eTr s = (U, s2) by rw [HF.out, eMany_stop he, List.append_nil])
     clear hlt he
     go_wp2_with fail
     go_ret
     exact ⟨_, rfl, by rw [HF2.out]; exact HS.out, by rw [HF2.out]; exact HI.out, HB.out, HK.out⟩
   ·have hq1 : decide ((U.length : Int) < n) = false := decide_eq_false hlt
    have HF2 := Lib.hid (show eList eTr s = (U, s2) by
     have e1 : n.toNat - U.length = 0 := by omega
     rw [HF.out, e1]
     simp only [eMany, List.append_nil])
    clear hlt
    go_wp2_with fail
    go_ret
    exact ⟨_, rfl, by rw [HF2.out]; exact HS.out, by rw [HF2.out]; exact HI.out, HB.out, HK.out⟩
end Go.Proofs.YtgiefblcckikeaaGreat.M
end

section
/- The eye: a message, kinds 1, 2, 4 (printed by geneym04.py). -/
attribute [local irreducible] Go.wpStill
namespace Go.Proofs.YtgiefblcckikeaaGreat.M
open Go.RowKit Go.Proofs.YtgiefblcckikeaaGreatW.PrintWords Go.Proofs.YtgiefblcckikeaaGreatW.PrintLast Go.Proofs.YtgiefblcckikeaaGreatW.PrintMore Go.Proofs.YtgiefblcckikeaaGreat.G
theorem okS_yes {s : EyeS} (h : okS s) : okS (eYes s).2 := okS_kind h
theorem okS_trs {s : EyeS} (h : okS s) : okS (eList eTr s).2 := okS_list (fun _ => okS_tr) h
set_option maxHeartbeats 4000000 in
theorem eMsg1 {w0 w : World} {x : Nat} {s : EyeS} (hI : IsEye w0 w x s) (hB : Below w0.heap.size w0 w) (hok : okS s) (hk : (eNum s).1 = 1) (he : (eNum s).2.e = 0) :
  Calls Tryz.prog 60 #[.pointer (some ⟨x, 0, none⟩)] w fun e w' => MsP (fun W s => IsEye w0 W x s) w0 w x (eMsg s).1 (eMsg s).2 e w' := by
 have HT1 := Lib.hid (Fo.start (I := fun W s => IsEye w0 W x s) (T := 34) (zs := #[.int .i64 0, .int .i64 0, .int .i64 0, .int .i64 0, .int .i64 0, .int .i64 0, .int .i64 0, .bool false, .slice none 0 0, .int .i64 0, .int .i64 0, .int .i64 0, .slice none 0 0, .int .i64 0, .int .i64 0, .int .i64 0, .slice none 0 0]) hI hB hI.lt hI.ge (fun _ _ _ e h => h.at e))
 obtain ⟨s1, hs1⟩ : ∃ s1, (eNum s).2 = s1 := ⟨_, rfl⟩
 have HN := Lib.hid (And.intro hk hs1)
 have HO0 := Lib.hid hok
 have ho1 := okS_num hok
 rw [hs1] at ho1 he
 have HF0 := Lib.hid (show eMsg s = mBody eSmall eEntry (eList eTr) 1 s1 by
  have hm : eMk s = s1 := by unfold eMk; rw [hk, hs1]; exact eWrong_false _
  unfold eMsg
  rw [hm, if_neg (fun q => q he), hk])
 clear hI hB hok hk hs1
 obtain ⟨v1, hv1⟩ : ∃ v, (eSmall s1).1 = v := ⟨_, rfl⟩
 obtain ⟨s2, hs2⟩ : ∃ t, (eSmall s1).2 = t := ⟨_, rfl⟩
 have ho2 := okS_small ho1
 rw [hs2] at ho2
 have HO1 := Lib.hid ho1; have HE1 := Lib.hid (And.intro hv1 hs2)
 obtain ⟨v2, hv2⟩ : ∃ v, (eSmall s2).1 = v := ⟨_, rfl⟩
 obtain ⟨s3, hs3⟩ : ∃ t, (eSmall s2).2 = t := ⟨_, rfl⟩
 have ho3 := okS_small ho2
 rw [hs3] at ho3
 have HO2 := Lib.hid ho2; have HE2 := Lib.hid (And.intro hv2 hs3)
 obtain ⟨v3, hv3⟩ : ∃ v, (eNum s3).1 = v := ⟨_, rfl⟩
 obtain ⟨s4, hs4⟩ : ∃ t, (eNum s3).2 = t := ⟨_, rfl⟩
 have ho4 := okS_num ho3
 rw [hs4] at ho4
 have HO3 := Lib.hid ho3; have HE3 := Lib.hid (And.intro hv3 hs4)
 obtain ⟨v4, hv4⟩ : ∃ v, (eNum s4).1 = v := ⟨_, rfl⟩
 obtain ⟨s5, hs5⟩ : ∃ t, (eNum s4).2 = t := ⟨_, rfl⟩
 have ho5 := okS_num ho4
 rw [hs5] at ho5
 have HO4 := Lib.hid ho4; have HE4 := Lib.hid (And.intro hv4 hs5)
 obtain ⟨v5, hv5⟩ : ∃ v, (eNum s5).1 = v := ⟨_, rfl⟩
 obtain ⟨s6, hs6⟩ : ∃ t, (eNum s5).2 = t := ⟨_, rfl⟩
 have ho6 := okS_num ho5
 rw [hs6] at ho6
 have HO5 := Lib.hid ho5; have HE5 := Lib.hid (And.intro hv5 hs6)
 have HF := Lib.hid (show eMsg s = (⟨1, v1, v2, v3, v4, v5, 0, false, [], zE, zP⟩, s6) by
  rw [HF0.out]
  unfold mBody
  rw [if_pos rfl]
  simp only [FM, PR, enOf, hv1, hs2, hv2, hs3, hv3, hs4, hv4, hs5, hv5, hs6])
 clear HF0 hv1 hs2 ho1 hv2 hs3 ho2 hv3 hs4 ho3 hv4 hs5 ho4 hv5 hs6 ho5 ho6
 have HQ := Lib.hid (show (s1.e != 0) = false by rw [he]; rfl)
 clear he
 go_enter Tryz.func60, Tryz.ntmps60
 go_upto_region 1 with fail
 obtain ⟨w1, hw1⟩ : ∃ w1, w.alloc (.cells #[.int .i64 0, .int .i64 0, .int .i64 0, .int .i64 0, .int .i64 0, .int .i64 0, .int .i64 0, .bool false, .slice none 0 0, .int .i64 0, .int .i64 0, .int .i64 0, .slice none 0 0, .int .i64 0, .int .i64 0, .int .i64 0, .slice none 0 0] 34) = w1 := ⟨_, rfl⟩
 rw [hw1] at HT1 ⊢
 clear hw1
 go_wp2_with fail
 have h4 := eNum_is HT1.out.i HT1.out.d HO0.out
 rw [HN.out.1, HN.out.2] at h4
 refine h4.mono ?_
 rintro e w2 ⟨rfl, h1, h2, h3⟩
 have HT2 := Lib.hid (HT1.out.call h1 h2 h3)
 clear h1 h2 h3 h4 HT1 HN
 go_wp2_with fail
 have h4 := eWrong_is HT2.out.i HT2.out.d false
 rw [eWrong_false] at h4
 refine h4.mono ?_
 rintro e w3 ⟨rfl, h1, h2, h3⟩
 have HT3 := Lib.hid (HT2.out.call h1 h2 h3)
 clear h1 h2 h3 h4 HT2
 have c1 : w3.cell? ⟨x, 1, none⟩ = some (.int .i64 s1.e) := by
  obtain ⟨A, c, g1, _⟩ := HT3.out.i
  simp [World.cell?, g1]
 have hq := HQ.out
 go_wp2_with fail
 clear c1 hq
 have h4 := eSmall_is HT3.out.i HT3.out.d HO1.out
 rw [HE1.out.1, HE1.out.2] at h4
 refine h4.mono ?_
 rintro e w4 ⟨rfl, h1, h2, h3⟩
 have HT4 := Lib.hid (HT3.out.call h1 h2 h3)
 clear h1 h2 h3 h4 HT3
 go_wp2_with fail
 have h4 := eSmall_is HT4.out.i HT4.out.d HO2.out
 rw [HE2.out.1, HE2.out.2] at h4
 refine h4.mono ?_
 rintro e w5 ⟨rfl, h1, h2, h3⟩
 have HT5 := Lib.hid (HT4.out.call h1 h2 h3)
 clear h1 h2 h3 h4 HT4
 go_upto_region 6 with fail
 have HT6 := Lib.hid (HT5.out.lay #[.int .i64 1, .int .i64 v1, .int .i64 v2, .int .i64 0, .int .i64 0, .int .i64 0, .int .i64 0, .bool false, .slice none 0 0, .int .i64 0, .int .i64 0, .int .i64 0, .slice none 0 0, .int .i64 0, .int .i64 0, .int .i64 0, .slice none 0 0])
 obtain ⟨g, hg⟩ : ∃ g, w5.heap.size = g := ⟨_, rfl⟩
 obtain ⟨w6, hw6⟩ : ∃ w6, w5.alloc (.cells #[.int .i64 1, .int .i64 v1, .int .i64 v2, .int .i64 0, .int .i64 0, .int .i64 0, .int .i64 0, .bool false, .slice none 0 0, .int .i64 0, .int .i64 0, .int .i64 0, .slice none 0 0, .int .i64 0, .int .i64 0, .int .i64 0, .slice none 0 0] 34) = w6 := ⟨_, rfl⟩
 rw [hg, hw6] at HT6
 rw [hw6, hg]
 clear hg hw6 HT5
 have b0 : w6.cell? ⟨g, 0, none⟩ = some (.int .i64 1) := (blk_cell HT6.out.y 0).trans rfl
 go_wp2_with fail
 have h4 := eNum_is HT6.out.i HT6.out.d HO3.out
 rw [HE3.out.1, HE3.out.2] at h4
 refine h4.mono ?_
 rintro e w7 ⟨rfl, h1, h2, h3⟩
 have HT7 := Lib.hid (HT6.out.call h1 h2 h3)
 clear h1 h2 h3 h4 HT6
 clear b0
 have d3 : w7.cell? ⟨g, 3, none⟩ = some (.int .i64 0) := (blk_cell HT7.out.y 3).trans rfl
 have z3 : w7.frozen? ⟨g, 3, none⟩ = false := blk_frozen HT7.out.y 3
 have d0 : w7.cell? ⟨g, 0, none⟩ = some (.int .i64 1) := (blk_cell HT7.out.y 0).trans rfl
 have z0 : w7.frozen? ⟨g, 0, none⟩ = false := blk_frozen HT7.out.y 0
 go_wp2_with fail
 have HT8 := Lib.hid (HT7.out.put 3 (.int .i64 v3))
 obtain ⟨w8, hw⟩ : ∃ W, (w7.setCell ⟨g, 3, none⟩ (.int .i64 v3)) = W := ⟨_, rfl⟩
 rw [hw] at HT8 ⊢
 clear hw HT7 d3 z3 d0 z0
 have h4 := eNum_is HT8.out.i HT8.out.d HO4.out
 rw [HE4.out.1, HE4.out.2] at h4
 refine h4.mono ?_
 rintro e w9 ⟨rfl, h1, h2, h3⟩
 have HT9 := Lib.hid (HT8.out.call h1 h2 h3)
 clear h1 h2 h3 h4 HT8
 have d4 : w9.cell? ⟨g, 4, none⟩ = some (.int .i64 0) := (blk_cell HT9.out.y 4).trans rfl
 have z4 : w9.frozen? ⟨g, 4, none⟩ = false := blk_frozen HT9.out.y 4
 have d0 : w9.cell? ⟨g, 0, none⟩ = some (.int .i64 1) := (blk_cell HT9.out.y 0).trans rfl
 have z0 : w9.frozen? ⟨g, 0, none⟩ = false := blk_frozen HT9.out.y 0
 go_wp2_with fail
 have HT10 := Lib.hid (HT9.out.put 4 (.int .i64 v4))
 obtain ⟨w10, hw⟩ : ∃ W, (w9.setCell ⟨g, 4, none⟩ (.int .i64 v4)) = W := ⟨_, rfl⟩
 rw [hw] at HT10 ⊢
 clear hw HT9 d4 z4 d0 z0
 have h4 := eNum_is HT10.out.i HT10.out.d HO5.out
 rw [HE5.out.1, HE5.out.2] at h4
 refine h4.mono ?_
 rintro e w11 ⟨rfl, h1, h2, h3⟩
 have HT11 := Lib.hid (HT10.out.call h1 h2 h3)
 clear h1 h2 h3 h4 HT10
 have d5 : w11.cell? ⟨g, 5, none⟩ = some (.int .i64 0) := (blk_cell HT11.out.y 5).trans rfl
 have z5 : w11.frozen? ⟨g, 5, none⟩ = false := blk_frozen HT11.out.y 5
 have d0 : w11.cell? ⟨g, 0, none⟩ = some (.int .i64 1) := (blk_cell HT11.out.y 0).trans rfl
 have z0 : w11.frozen? ⟨g, 0, none⟩ = false := blk_frozen HT11.out.y 0
 go_upto_region 28 with fail
 have HT12 := Lib.hid (HT11.out.put 5 (.int .i64 v5))
 obtain ⟨w12, hw⟩ : ∃ W, (w11.setCell ⟨g, 5, none⟩ (.int .i64 v5)) = W := ⟨_, rfl⟩
 rw [hw] at HT12 ⊢
 clear hw HT11 d5 z5 d0 z0
 have hT : Fr _ w0 w x g 34 _ #[.int .i64 1, .int .i64 v1, .int .i64 v2, .int .i64 v3, .int .i64 v4, .int .i64 v5, .int .i64 0, .bool false, .slice none 0 0, .int .i64 0, .int .i64 0, .int .i64 0, .slice none 0 0, .int .i64 0, .int .i64 0, .int .i64 0, .slice none 0 0] _ _ _ := HT12.out
 refine wp_region_list ?_
 refine wpList_load_row rfl 34 (.tmp 4) rfl g rfl 34 _ (0, 0) _ hT.y Tryz.underlying34 rfl (by kernel_rfl) ?_
 refine wpList_store_row rfl 34 (.tmp 2) (.tmp 94) rfl w.heap.size _ rfl rfl 34 _ hT.g0 (by kernel_rfl) rfl (by simp [Value.oneCell']) ?_
 go_wp2_with fail
 refine bodyPost_ret (results_cell_row rfl _ _ w.heap.size 34 _ (0, 0) _ rfl hT.fin.1 Tryz.underlying34 rfl (by kernel_rfl)) rfl ?_
 rw [HF.out]
 exact ⟨_, _, _, rfl, Kd.R_nil _ _ _ _ _, Kd.R_nil _ _ _ _ _, Kd.R_nil _ _ _ _ _, hT.fin.2.2.1, hT.fin.2.2.2.1, hT.fin.2.2.2.2⟩
set_option maxHeartbeats 4000000 in
theorem eMsg2 {w0 w : World} {x : Nat} {s : EyeS} (hI : IsEye w0 w x s) (hB : Below w0.heap.size w0 w) (hok : okS s) (hk : (eNum s).1 = 2) (he : (eNum s).2.e = 0) :
  Calls Tryz.prog 60 #[.pointer (some ⟨x, 0, none⟩)] w fun e w' => MsP (fun W s => IsEye w0 W x s) w0 w x (eMsg s).1 (eMsg s).2 e w' := by
 have HT1 := Lib.hid (Fo.start (I := fun W s => IsEye w0 W x s) (T := 34) (zs := #[.int .i64 0, .int .i64 0, .int .i64 0, .int .i64 0, .int .i64 0, .int .i64 0, .int .i64 0, .bool false, .slice none 0 0, .int .i64 0, .int .i64 0, .int .i64 0, .slice none 0 0, .int .i64 0, .int .i64 0, .int .i64 0, .slice none 0 0]) hI hB hI.lt hI.ge (fun _ _ _ e h => h.at e))
 obtain ⟨s1, hs1⟩ : ∃ s1, (eNum s).2 = s1 := ⟨_, rfl⟩
 have HN := Lib.hid (And.intro hk hs1)
 have HO0 := Lib.hid hok
 have ho1 := okS_num hok
 rw [hs1] at ho1 he
 have HF0 := Lib.hid (show eMsg s = mBody eSmall eEntry (eList eTr) 2 s1 by
  have hm : eMk s = s1 := by unfold eMk; rw [hk, hs1]; exact eWrong_false _
  unfold eMsg
  rw [hm, if_neg (fun q => q he), hk])
 clear hI hB hok hk hs1
 obtain ⟨v1, hv1⟩ : ∃ v, (eSmall s1).1 = v := ⟨_, rfl⟩
 obtain ⟨s2, hs2⟩ : ∃ t, (eSmall s1).2 = t := ⟨_, rfl⟩
 have ho2 := okS_small ho1
 rw [hs2] at ho2
 have HO1 := Lib.hid ho1; have HE1 := Lib.hid (And.intro hv1 hs2)
 obtain ⟨v2, hv2⟩ : ∃ v, (eSmall s2).1 = v := ⟨_, rfl⟩
 obtain ⟨s3, hs3⟩ : ∃ t, (eSmall s2).2 = t := ⟨_, rfl⟩
 have ho3 := okS_small ho2
 rw [hs3] at ho3
 have HO2 := Lib.hid ho2; have HE2 := Lib.hid (And.intro hv2 hs3)
 obtain ⟨v3, hv3⟩ : ∃ v, (eNum s3).1 = v := ⟨_, rfl⟩
 obtain ⟨s4, hs4⟩ : ∃ t, (eNum s3).2 = t := ⟨_, rfl⟩
 have ho4 := okS_num ho3
 rw [hs4] at ho4
 have HO3 := Lib.hid ho3; have HE3 := Lib.hid (And.intro hv3 hs4)
 obtain ⟨v4, hv4⟩ : ∃ v, (eYes s4).1 = v := ⟨_, rfl⟩
 obtain ⟨s5, hs5⟩ : ∃ t, (eYes s4).2 = t := ⟨_, rfl⟩
 have ho5 := okS_yes ho4
 rw [hs5] at ho5
 have HO4 := Lib.hid ho4; have HE4 := Lib.hid (And.intro hv4 hs5)
 have HF := Lib.hid (show eMsg s = (⟨2, v1, v2, v3, 0, 0, 0, v4, [], zE, zP⟩, s5) by
  rw [HF0.out]
  unfold mBody
  rw [if_neg (by decide)]; rw [if_pos rfl]
  simp only [FM, PR, enOf, hv1, hs2, hv2, hs3, hv3, hs4, hv4, hs5])
 clear HF0 hv1 hs2 ho1 hv2 hs3 ho2 hv3 hs4 ho3 hv4 hs5 ho4 ho5
 have HQ := Lib.hid (show (s1.e != 0) = false by rw [he]; rfl)
 clear he
 go_enter Tryz.func60, Tryz.ntmps60
 go_upto_region 1 with fail
 obtain ⟨w1, hw1⟩ : ∃ w1, w.alloc (.cells #[.int .i64 0, .int .i64 0, .int .i64 0, .int .i64 0, .int .i64 0, .int .i64 0, .int .i64 0, .bool false, .slice none 0 0, .int .i64 0, .int .i64 0, .int .i64 0, .slice none 0 0, .int .i64 0, .int .i64 0, .int .i64 0, .slice none 0 0] 34) = w1 := ⟨_, rfl⟩
 rw [hw1] at HT1 ⊢
 clear hw1
 go_wp2_with fail
 have h4 := eNum_is HT1.out.i HT1.out.d HO0.out
 rw [HN.out.1, HN.out.2] at h4
 refine h4.mono ?_
 rintro e w2 ⟨rfl, h1, h2, h3⟩
 have HT2 := Lib.hid (HT1.out.call h1 h2 h3)
 clear h1 h2 h3 h4 HT1 HN
 go_wp2_with fail
 have h4 := eWrong_is HT2.out.i HT2.out.d false
 rw [eWrong_false] at h4
 refine h4.mono ?_
 rintro e w3 ⟨rfl, h1, h2, h3⟩
 have HT3 := Lib.hid (HT2.out.call h1 h2 h3)
 clear h1 h2 h3 h4 HT2
 have c1 : w3.cell? ⟨x, 1, none⟩ = some (.int .i64 s1.e) := by
  obtain ⟨A, c, g1, _⟩ := HT3.out.i
  simp [World.cell?, g1]
 have hq := HQ.out
 go_wp2_with fail
 clear c1 hq
 have h4 := eSmall_is HT3.out.i HT3.out.d HO1.out
 rw [HE1.out.1, HE1.out.2] at h4
 refine h4.mono ?_
 rintro e w4 ⟨rfl, h1, h2, h3⟩
 have HT4 := Lib.hid (HT3.out.call h1 h2 h3)
 clear h1 h2 h3 h4 HT3
 go_wp2_with fail
 have h4 := eSmall_is HT4.out.i HT4.out.d HO2.out
 rw [HE2.out.1, HE2.out.2] at h4
 refine h4.mono ?_
 rintro e w5 ⟨rfl, h1, h2, h3⟩
 have HT5 := Lib.hid (HT4.out.call h1 h2 h3)
 clear h1 h2 h3 h4 HT4
 go_upto_region 6 with fail
 have HT6 := Lib.hid (HT5.out.lay #[.int .i64 2, .int .i64 v1, .int .i64 v2, .int .i64 0, .int .i64 0, .int .i64 0, .int .i64 0, .bool false, .slice none 0 0, .int .i64 0, .int .i64 0, .int .i64 0, .slice none 0 0, .int .i64 0, .int .i64 0, .int .i64 0, .slice none 0 0])
 obtain ⟨g, hg⟩ : ∃ g, w5.heap.size = g := ⟨_, rfl⟩
 obtain ⟨w6, hw6⟩ : ∃ w6, w5.alloc (.cells #[.int .i64 2, .int .i64 v1, .int .i64 v2, .int .i64 0, .int .i64 0, .int .i64 0, .int .i64 0, .bool false, .slice none 0 0, .int .i64 0, .int .i64 0, .int .i64 0, .slice none 0 0, .int .i64 0, .int .i64 0, .int .i64 0, .slice none 0 0] 34) = w6 := ⟨_, rfl⟩
 rw [hg, hw6] at HT6
 rw [hw6, hg]
 clear hg hw6 HT5
 have b0 : w6.cell? ⟨g, 0, none⟩ = some (.int .i64 2) := (blk_cell HT6.out.y 0).trans rfl
 go_wp2_with fail
 have h4 := eNum_is HT6.out.i HT6.out.d HO3.out
 rw [HE3.out.1, HE3.out.2] at h4
 refine h4.mono ?_
 rintro e w7 ⟨rfl, h1, h2, h3⟩
 have HT7 := Lib.hid (HT6.out.call h1 h2 h3)
 clear h1 h2 h3 h4 HT6
 clear b0
 have d3 : w7.cell? ⟨g, 3, none⟩ = some (.int .i64 0) := (blk_cell HT7.out.y 3).trans rfl
 have z3 : w7.frozen? ⟨g, 3, none⟩ = false := blk_frozen HT7.out.y 3
 have d0 : w7.cell? ⟨g, 0, none⟩ = some (.int .i64 2) := (blk_cell HT7.out.y 0).trans rfl
 have z0 : w7.frozen? ⟨g, 0, none⟩ = false := blk_frozen HT7.out.y 0
 go_wp2_with fail
 have HT8 := Lib.hid (HT7.out.put 3 (.int .i64 v3))
 obtain ⟨w8, hw⟩ : ∃ W, (w7.setCell ⟨g, 3, none⟩ (.int .i64 v3)) = W := ⟨_, rfl⟩
 rw [hw] at HT8 ⊢
 clear hw HT7 d3 z3 d0 z0
 have h4 := eYes_is HT8.out.i HT8.out.d HO4.out
 rw [HE4.out.1, HE4.out.2] at h4
 refine h4.mono ?_
 rintro e w9 ⟨rfl, h1, h2, h3⟩
 have HT9 := Lib.hid (HT8.out.call h1 h2 h3)
 clear h1 h2 h3 h4 HT8
 have d7 : w9.cell? ⟨g, 7, none⟩ = some (.bool false) := (blk_cell HT9.out.y 7).trans rfl
 have z7 : w9.frozen? ⟨g, 7, none⟩ = false := blk_frozen HT9.out.y 7
 have d0 : w9.cell? ⟨g, 0, none⟩ = some (.int .i64 2) := (blk_cell HT9.out.y 0).trans rfl
 have z0 : w9.frozen? ⟨g, 0, none⟩ = false := blk_frozen HT9.out.y 0
 go_upto_region 28 with fail
 have HT10 := Lib.hid (HT9.out.put 7 (.bool v4))
 obtain ⟨w10, hw⟩ : ∃ W, (w9.setCell ⟨g, 7, none⟩ (.bool v4)) = W := ⟨_, rfl⟩
 rw [hw] at HT10 ⊢
 clear hw HT9 d7 z7 d0 z0
 have hT : Fr _ w0 w x g 34 _ #[.int .i64 2, .int .i64 v1, .int .i64 v2, .int .i64 v3, .int .i64 0, .int .i64 0, .int .i64 0, .bool v4, .slice none 0 0, .int .i64 0, .int .i64 0, .int .i64 0, .slice none 0 0, .int .i64 0, .int .i64 0, .int .i64 0, .slice none 0 0] _ _ _ := HT10.out
 refine wp_region_list ?_
 refine wpList_load_row rfl 34 (.tmp 4) rfl g rfl 34 _ (0, 0) _ hT.y Tryz.underlying34 rfl (by kernel_rfl) ?_
 refine wpList_store_row rfl 34 (.tmp 2) (.tmp 94) rfl w.heap.size _ rfl rfl 34 _ hT.g0 (by kernel_rfl) rfl (by simp [Value.oneCell']) ?_
 go_wp2_with fail
 refine bodyPost_ret (results_cell_row rfl _ _ w.heap.size 34 _ (0, 0) _ rfl hT.fin.1 Tryz.underlying34 rfl (by kernel_rfl)) rfl ?_
 rw [HF.out]
 exact ⟨_, _, _, rfl, Kd.R_nil _ _ _ _ _, Kd.R_nil _ _ _ _ _, Kd.R_nil _ _ _ _ _, hT.fin.2.2.1, hT.fin.2.2.2.1, hT.fin.2.2.2.2⟩
set_option maxHeartbeats 4000000 in
theorem eMsg4 {w0 w : World} {x : Nat} {s : EyeS} (hI : IsEye w0 w x s) (hB : Below w0.heap.size w0 w) (hok : okS s) (hk : (eNum s).1 = 4) (he : (eNum s).2.e = 0) :
  Calls Tryz.prog 60 #[.pointer (some ⟨x, 0, none⟩)] w fun e w' => MsP (fun W s => IsEye w0 W x s) w0 w x (eMsg s).1 (eMsg s).2 e w' := by
 have HT1 := Lib.hid (Fo.start (I := fun W s => IsEye w0 W x s) (T := 34) (zs := #[.int .i64 0, .int .i64 0, .int .i64 0, .int .i64 0, .int .i64 0, .int .i64 0, .int .i64 0, .bool false, .slice none 0 0, .int .i64 0, .int .i64 0, .int .i64 0, .slice none 0 0, .int .i64 0, .int .i64 0, .int .i64 0, .slice none 0 0]) hI hB hI.lt hI.ge (fun _ _ _ e h => h.at e))
 obtain ⟨s1, hs1⟩ : ∃ s1, (eNum s).2 = s1 := ⟨_, rfl⟩
 have HN := Lib.hid (And.intro hk hs1)
 have HO0 := Lib.hid hok
 have ho1 := okS_num hok
 rw [hs1] at ho1 he
 have HF0 := Lib.hid (show eMsg s = mBody eSmall eEntry (eList eTr) 4 s1 by
  have hm : eMk s = s1 := by unfold eMk; rw [hk, hs1]; exact eWrong_false _
  unfold eMsg
  rw [hm, if_neg (fun q => q he), hk])
 clear hI hB hok hk hs1
 obtain ⟨v1, hv1⟩ : ∃ v, (eSmall s1).1 = v := ⟨_, rfl⟩
 obtain ⟨s2, hs2⟩ : ∃ t, (eSmall s1).2 = t := ⟨_, rfl⟩
 have ho2 := okS_small ho1
 rw [hs2] at ho2
 have HO1 := Lib.hid ho1; have HE1 := Lib.hid (And.intro hv1 hs2)
 obtain ⟨v2, hv2⟩ : ∃ v, (eSmall s2).1 = v := ⟨_, rfl⟩
 obtain ⟨s3, hs3⟩ : ∃ t, (eSmall s2).2 = t := ⟨_, rfl⟩
 have ho3 := okS_small ho2
 rw [hs3] at ho3
 have HO2 := Lib.hid ho2; have HE2 := Lib.hid (And.intro hv2 hs3)
 obtain ⟨v3, hv3⟩ : ∃ v, (eNum s3).1 = v := ⟨_, rfl⟩
 obtain ⟨s4, hs4⟩ : ∃ t, (eNum s3).2 = t := ⟨_, rfl⟩
 have ho4 := okS_num ho3
 rw [hs4] at ho4
 have HO3 := Lib.hid ho3; have HE3 := Lib.hid (And.intro hv3 hs4)
 obtain ⟨v4, hv4⟩ : ∃ v, (eYes s4).1 = v := ⟨_, rfl⟩
 obtain ⟨s5, hs5⟩ : ∃ t, (eYes s4).2 = t := ⟨_, rfl⟩
 have ho5 := okS_yes ho4
 rw [hs5] at ho5
 have HO4 := Lib.hid ho4; have HE4 := Lib.hid (And.intro hv4 hs5)
 obtain ⟨v5, hv5⟩ : ∃ v, (eNum s5).1 = v := ⟨_, rfl⟩
 obtain ⟨s6, hs6⟩ : ∃ t, (eNum s5).2 = t := ⟨_, rfl⟩
 have ho6 := okS_num ho5
 rw [hs6] at ho6
 have HO5 := Lib.hid ho5; have HE5 := Lib.hid (And.intro hv5 hs6)
 have HF := Lib.hid (show eMsg s = (⟨4, v1, v2, v3, v5, 0, 0, v4, [], zE, zP⟩, s6) by
  rw [HF0.out]
  unfold mBody
  rw [if_neg (by decide)]; rw [if_neg (by decide)]; rw [if_neg (by decide)]; rw [if_pos rfl]
  simp only [FM, PR, enOf, hv1, hs2, hv2, hs3, hv3, hs4, hv4, hs5, hv5, hs6])
 clear HF0 hv1 hs2 ho1 hv2 hs3 ho2 hv3 hs4 ho3 hv4 hs5 ho4 hv5 hs6 ho5 ho6
 have HQ := Lib.hid (show (s1.e != 0) = false by rw [he]; rfl)
 clear he
 go_enter Tryz.func60, Tryz.ntmps60
 go_upto_region 1 with fail
 obtain ⟨w1, hw1⟩ : ∃ w1, w.alloc (.cells #[.int .i64 0, .int .i64 0, .int .i64 0, .int .i64 0, .int .i64 0, .int .i64 0, .int .i64 0, .bool false, .slice none 0 0, .int .i64 0, .int .i64 0, .int .i64 0, .slice none 0 0, .int .i64 0, .int .i64 0, .int .i64 0, .slice none 0 0] 34) = w1 := ⟨_, rfl⟩
 rw [hw1] at HT1 ⊢
 clear hw1
 go_wp2_with fail
 have h4 := eNum_is HT1.out.i HT1.out.d HO0.out
 rw [HN.out.1, HN.out.2] at h4
 refine h4.mono ?_
 rintro e w2 ⟨rfl, h1, h2, h3⟩
 have HT2 := Lib.hid (HT1.out.call h1 h2 h3)
 clear h1 h2 h3 h4 HT1 HN
 go_wp2_with fail
 have h4 := eWrong_is HT2.out.i HT2.out.d false
 rw [eWrong_false] at h4
 refine h4.mono ?_
 rintro e w3 ⟨rfl, h1, h2, h3⟩
 have HT3 := Lib.hid (HT2.out.call h1 h2 h3)
 clear h1 h2 h3 h4 HT2
 have c1 : w3.cell? ⟨x, 1, none⟩ = some (.int .i64 s1.e) := by
  obtain ⟨A, c, g1, _⟩ := HT3.out.i
  simp [World.cell?, g1]
 have hq := HQ.out
 go_wp2_with fail
 clear c1 hq
 have h4 := eSmall_is HT3.out.i HT3.out.d HO1.out
 rw [HE1.out.1, HE1.out.2] at h4
 refine h4.mono ?_
 rintro e w4 ⟨rfl, h1, h2, h3⟩
 have HT4 := Lib.hid (HT3.out.call h1 h2 h3)
 clear h1 h2 h3 h4 HT3
 go_wp2_with fail
 have h4 := eSmall_is HT4.out.i HT4.out.d HO2.out
 rw [HE2.out.1, HE2.out.2] at h4
 refine h4.mono ?_
 rintro e w5 ⟨rfl, h1, h2, h3⟩
 have HT5 := Lib.hid (HT4.out.call h1 h2 h3)
 clear h1 h2 h3 h4 HT4
 go_upto_region 6 with fail
 have HT6 := Lib.hid (HT5.out.lay #[.int .i64 4, .int .i64 v1, .int .i64 v2, .int .i64 0, .int .i64 0, .int .i64 0, .int .i64 0, .bool false, .slice none 0 0, .int .i64 0, .int .i64 0, .int .i64 0, .slice none 0 0, .int .i64 0, .int .i64 0, .int .i64 0, .slice none 0 0])
 obtain ⟨g, hg⟩ : ∃ g, w5.heap.size = g := ⟨_, rfl⟩
 obtain ⟨w6, hw6⟩ : ∃ w6, w5.alloc (.cells #[.int .i64 4, .int .i64 v1, .int .i64 v2, .int .i64 0, .int .i64 0, .int .i64 0, .int .i64 0, .bool false, .slice none 0 0, .int .i64 0, .int .i64 0, .int .i64 0, .slice none 0 0, .int .i64 0, .int .i64 0, .int .i64 0, .slice none 0 0] 34) = w6 := ⟨_, rfl⟩
 rw [hg, hw6] at HT6
 rw [hw6, hg]
 clear hg hw6 HT5
 have b0 : w6.cell? ⟨g, 0, none⟩ = some (.int .i64 4) := (blk_cell HT6.out.y 0).trans rfl
 go_wp2_with fail
 have h4 := eNum_is HT6.out.i HT6.out.d HO3.out
 rw [HE3.out.1, HE3.out.2] at h4
 refine h4.mono ?_
 rintro e w7 ⟨rfl, h1, h2, h3⟩
 have HT7 := Lib.hid (HT6.out.call h1 h2 h3)
 clear h1 h2 h3 h4 HT6
 clear b0
 have d3 : w7.cell? ⟨g, 3, none⟩ = some (.int .i64 0) := (blk_cell HT7.out.y 3).trans rfl
 have z3 : w7.frozen? ⟨g, 3, none⟩ = false := blk_frozen HT7.out.y 3
 have d0 : w7.cell? ⟨g, 0, none⟩ = some (.int .i64 4) := (blk_cell HT7.out.y 0).trans rfl
 have z0 : w7.frozen? ⟨g, 0, none⟩ = false := blk_frozen HT7.out.y 0
 go_wp2_with fail
 have HT8 := Lib.hid (HT7.out.put 3 (.int .i64 v3))
 obtain ⟨w8, hw⟩ : ∃ W, (w7.setCell ⟨g, 3, none⟩ (.int .i64 v3)) = W := ⟨_, rfl⟩
 rw [hw] at HT8 ⊢
 clear hw HT7 d3 z3 d0 z0
 have h4 := eYes_is HT8.out.i HT8.out.d HO4.out
 rw [HE4.out.1, HE4.out.2] at h4
 refine h4.mono ?_
 rintro e w9 ⟨rfl, h1, h2, h3⟩
 have HT9 := Lib.hid (HT8.out.call h1 h2 h3)
 clear h1 h2 h3 h4 HT8
 have d7 : w9.cell? ⟨g, 7, none⟩ = some (.bool false) := (blk_cell HT9.out.y 7).trans rfl
 have z7 : w9.frozen? ⟨g, 7, none⟩ = false := blk_frozen HT9.out.y 7
 have d0 : w9.cell? ⟨g, 0, none⟩ = some (.int .i64 4) := (blk_cell HT9.out.y 0).trans rfl
 have z0 : w9.frozen? ⟨g, 0, none⟩ = false := blk_frozen HT9.out.y 0
 go_wp2_with fail
 have HT10 := Lib.hid (HT9.out.put 7 (.bool v4))
 obtain ⟨w10, hw⟩ : ∃ W, (w9.setCell ⟨g, 7, none⟩ (.bool v4)) = W := ⟨_, rfl⟩
 rw [hw] at HT10 ⊢
 clear hw HT9 d7 z7 d0 z0
 have h4 := eNum_is HT10.out.i HT10.out.d HO5.out
 rw [HE5.out.1, HE5.out.2] at h4
 refine h4.mono ?_
 rintro e w11 ⟨rfl, h1, h2, h3⟩
 have HT11 := Lib.hid (HT10.out.call h1 h2 h3)
 clear h1 h2 h3 h4 HT10
 have d4 : w11.cell? ⟨g, 4, none⟩ = some (.int .i64 0) := (blk_cell HT11.out.y 4).trans rfl
 have z4 : w11.frozen? ⟨g, 4, none⟩ = false := blk_frozen HT11.out.y 4
 have d0 : w11.cell? ⟨g, 0, none⟩ = some (.int .i64 4) := (blk_cell HT11.out.y 0).trans rfl
 have z0 : w11.frozen? ⟨g, 0, none⟩ = false := blk_frozen HT11.out.y 0
 go_upto_region 28 with fail
 have HT12 := Lib.hid (HT11.out.put 4 (.int .i64 v5))
 obtain ⟨w12, hw⟩ : ∃ W, (w11.setCell ⟨g, 4, none⟩ (.int .i64 v5)) = W := ⟨_, rfl⟩
 rw [hw] at HT12 ⊢
 clear hw HT11 d4 z4 d0 z0
 have hT : Fr _ w0 w x g 34 _ #[.int .i64 4, .int .i64 v1, .int .i64 v2, .int .i64 v3, .int .i64 v5, .int .i64 0, .int .i64 0, .bool v4, .slice none 0 0, .int .i64 0, .int .i64 0, .int .i64 0, .slice none 0 0, .int .i64 0, .int .i64 0, .int .i64 0, .slice none 0 0] _ _ _ := HT12.out
 refine wp_region_list ?_
 refine wpList_load_row rfl 34 (.tmp 4) rfl g rfl 34 _ (0, 0) _ hT.y Tryz.underlying34 rfl (by kernel_rfl) ?_
 refine wpList_store_row rfl 34 (.tmp 2) (.tmp 94) rfl w.heap.size _ rfl rfl 34 _ hT.g0 (by kernel_rfl) rfl (by simp [Value.oneCell']) ?_
 go_wp2_with fail
 refine bodyPost_ret (results_cell_row rfl _ _ w.heap.size 34 _ (0, 0) _ rfl hT.fin.1 Tryz.underlying34 rfl (by kernel_rfl)) rfl ?_
 rw [HF.out]
 exact ⟨_, _, _, rfl, Kd.R_nil _ _ _ _ _, Kd.R_nil _ _ _ _ _, Kd.R_nil _ _ _ _ _, hT.fin.2.2.1, hT.fin.2.2.2.1, hT.fin.2.2.2.2⟩
end Go.Proofs.YtgiefblcckikeaaGreat.M
end

section
/- The eye: a message, kinds 3, 5 (printed by geneym04.py). -/
attribute [local irreducible] Go.wpStill
namespace Go.Proofs.YtgiefblcckikeaaGreat.M
open Go.RowKit Go.Proofs.YtgiefblcckikeaaGreatW.PrintWords Go.Proofs.YtgiefblcckikeaaGreatW.PrintLast Go.Proofs.YtgiefblcckikeaaGreatW.PrintMore Go.Proofs.YtgiefblcckikeaaGreat.G
set_option maxHeartbeats 4000000 in
theorem eMsg3 {w0 w : World} {x : Nat} {s : EyeS} (hI : IsEye w0 w x s) (hB : Below w0.heap.size w0 w) (hok : okS s) (hk : (eNum s).1 = 3) (he : (eNum s).2.e = 0) :
  Calls Tryz.prog 60 #[.pointer (some ⟨x, 0, none⟩)] w fun e w' => MsP (fun W s => IsEye w0 W x s) w0 w x (eMsg s).1 (eMsg s).2 e w' := by
 have HT1 := Lib.hid (Fo.start (I := fun W s => IsEye w0 W x s) (T := 34) (zs := #[.int .i64 0, .int .i64 0, .int .i64 0, .int .i64 0, .int .i64 0, .int .i64 0, .int .i64 0, .bool false, .slice none 0 0, .int .i64 0, .int .i64 0, .int .i64 0, .slice none 0 0, .int .i64 0, .int .i64 0, .int .i64 0, .slice none 0 0]) hI hB hI.lt hI.ge (fun _ _ _ e h => h.at e))
 obtain ⟨s1, hs1⟩ : ∃ s1, (eNum s).2 = s1 := ⟨_, rfl⟩
 have HN := Lib.hid (And.intro hk hs1)
 have HO0 := Lib.hid hok
 have ho1 := okS_num hok
 rw [hs1] at ho1 he
 have HF0 := Lib.hid (show eMsg s = mBody eSmall eEntry (eList eTr) 3 s1 by
  have hm : eMk s = s1 := by unfold eMk; rw [hk, hs1]; exact eWrong_false _
  unfold eMsg
  rw [hm, if_neg (fun q => q he), hk])
 clear hI hB hok hk hs1
 obtain ⟨v1, hv1⟩ : ∃ v, (eSmall s1).1 = v := ⟨_, rfl⟩
 obtain ⟨s2, hs2⟩ : ∃ t, (eSmall s1).2 = t := ⟨_, rfl⟩
 have ho2 := okS_small ho1
 rw [hs2] at ho2
 have HO1 := Lib.hid ho1; have HE1 := Lib.hid (And.intro hv1 hs2)
 obtain ⟨v2, hv2⟩ : ∃ v, (eSmall s2).1 = v := ⟨_, rfl⟩
 obtain ⟨s3, hs3⟩ : ∃ t, (eSmall s2).2 = t := ⟨_, rfl⟩
 have ho3 := okS_small ho2
 rw [hs3] at ho3
 have HO2 := Lib.hid ho2; have HE2 := Lib.hid (And.intro hv2 hs3)
 obtain ⟨v3, hv3⟩ : ∃ v, (eNum s3).1 = v := ⟨_, rfl⟩
 obtain ⟨s4, hs4⟩ : ∃ t, (eNum s3).2 = t := ⟨_, rfl⟩
 have ho4 := okS_num ho3
 rw [hs4] at ho4
 have HO3 := Lib.hid ho3; have HE3 := Lib.hid (And.intro hv3 hs4)
 obtain ⟨v4, hv4⟩ : ∃ v, (eNum s4).1 = v := ⟨_, rfl⟩
 obtain ⟨s5, hs5⟩ : ∃ t, (eNum s4).2 = t := ⟨_, rfl⟩
 have ho5 := okS_num ho4
 rw [hs5] at ho5
 have HO4 := Lib.hid ho4; have HE4 := Lib.hid (And.intro hv4 hs5)
 obtain ⟨v5, hv5⟩ : ∃ v, (eNum s5).1 = v := ⟨_, rfl⟩
 obtain ⟨s6, hs6⟩ : ∃ t, (eNum s5).2 = t := ⟨_, rfl⟩
 have ho6 := okS_num ho5
 rw [hs6] at ho6
 have HO5 := Lib.hid ho5; have HE5 := Lib.hid (And.intro hv5 hs6)
 obtain ⟨v6, hv6⟩ : ∃ v, (eNum s6).1 = v := ⟨_, rfl⟩
 obtain ⟨s7, hs7⟩ : ∃ t, (eNum s6).2 = t := ⟨_, rfl⟩
 have ho7 := okS_num ho6
 rw [hs7] at ho7
 have HO6 := Lib.hid ho6; have HE6 := Lib.hid (And.intro hv6 hs7)
 obtain ⟨v7, hv7⟩ : ∃ v, ((eList eTr) s7).1 = v := ⟨_, rfl⟩
 obtain ⟨s8, hs8⟩ : ∃ t, ((eList eTr) s7).2 = t := ⟨_, rfl⟩
 have ho8 := okS_trs ho7
 rw [hs8] at ho8
 have HO7 := Lib.hid ho7; have HE7 := Lib.hid (And.intro hv7 hs8)
 have HF := Lib.hid (show eMsg s = (⟨3, v1, v2, v3, v4, v5, v6, false, v7, zE, zP⟩, s8) by
  rw [HF0.out]
  unfold mBody
  rw [if_neg (by decide)]; rw [if_neg (by decide)]; rw [if_pos rfl]
  simp only [FM, PR, enOf, hv1, hs2, hv2, hs3, hv3, hs4, hv4, hs5, hv5, hs6, hv6, hs7, hv7, hs8])
 clear HF0 hv1 hs2 ho1 hv2 hs3 ho2 hv3 hs4 ho3 hv4 hs5 ho4 hv5 hs6 ho5 hv6 hs7 ho6 hv7 hs8 ho7 ho8
 have HQ := Lib.hid (show (s1.e != 0) = false by rw [he]; rfl)
 clear he
 go_enter Tryz.func60, Tryz.ntmps60
 go_upto_region 1 with fail
 obtain ⟨w1, hw1⟩ : ∃ w1, w.alloc (.cells #[.int .i64 0, .int .i64 0, .int .i64 0, .int .i64 0, .int .i64 0, .int .i64 0, .int .i64 0, .bool false, .slice none 0 0, .int .i64 0, .int .i64 0, .int .i64 0, .slice none 0 0, .int .i64 0, .int .i64 0, .int .i64 0, .slice none 0 0] 34) = w1 := ⟨_, rfl⟩
 rw [hw1] at HT1 ⊢
 clear hw1
 go_wp2_with fail
 have h4 := eNum_is HT1.out.i HT1.out.d HO0.out
 rw [HN.out.1, HN.out.2] at h4
 refine h4.mono ?_
 rintro e w2 ⟨rfl, h1, h2, h3⟩
 have HT2 := Lib.hid (HT1.out.call h1 h2 h3)
 clear h1 h2 h3 h4 HT1 HN
 go_wp2_with fail
 have h4 := eWrong_is HT2.out.i HT2.out.d false
 rw [eWrong_false] at h4
 refine h4.mono ?_
 rintro e w3 ⟨rfl, h1, h2, h3⟩
 have HT3 := Lib.hid (HT2.out.call h1 h2 h3)
 clear h1 h2 h3 h4 HT2
 have c1 : w3.cell? ⟨x, 1, none⟩ = some (.int .i64 s1.e) := by
  obtain ⟨A, c, g1, _⟩ := HT3.out.i
  simp [World.cell?, g1]
 have hq := HQ.out
 go_wp2_with fail
 clear c1 hq
 have h4 := eSmall_is HT3.out.i HT3.out.d HO1.out
 rw [HE1.out.1, HE1.out.2] at h4
 refine h4.mono ?_
 rintro e w4 ⟨rfl, h1, h2, h3⟩
 have HT4 := Lib.hid (HT3.out.call h1 h2 h3)
 clear h1 h2 h3 h4 HT3
 go_wp2_with fail
 have h4 := eSmall_is HT4.out.i HT4.out.d HO2.out
 rw [HE2.out.1, HE2.out.2] at h4
 refine h4.mono ?_
 rintro e w5 ⟨rfl, h1, h2, h3⟩
 have HT5 := Lib.hid (HT4.out.call h1 h2 h3)
 clear h1 h2 h3 h4 HT4
 go_upto_region 6 with fail
 have HT6 := Lib.hid (HT5.out.lay #[.int .i64 3, .int .i64 v1, .int .i64 v2, .int .i64 0, .int .i64 0, .int .i64 0, .int .i64 0, .bool false, .slice none 0 0, .int .i64 0, .int .i64 0, .int .i64 0, .slice none 0 0, .int .i64 0, .int .i64 0, .int .i64 0, .slice none 0 0])
 obtain ⟨g, hg⟩ : ∃ g, w5.heap.size = g := ⟨_, rfl⟩
 obtain ⟨w6, hw6⟩ : ∃ w6, w5.alloc (.cells #[.int .i64 3, .int .i64 v1, .int .i64 v2, .int .i64 0, .int .i64 0, .int .i64 0, .int .i64 0, .bool false, .slice none 0 0, .int .i64 0, .int .i64 0, .int .i64 0, .slice none 0 0, .int .i64 0, .int .i64 0, .int .i64 0, .slice none 0 0] 34) = w6 := ⟨_, rfl⟩
 rw [hg, hw6] at HT6
 rw [hw6, hg]
 clear hg hw6 HT5
 have b0 : w6.cell? ⟨g, 0, none⟩ = some (.int .i64 3) := (blk_cell HT6.out.y 0).trans rfl
 go_wp2_with fail
 have h4 := eNum_is HT6.out.i HT6.out.d HO3.out
 rw [HE3.out.1, HE3.out.2] at h4
 refine h4.mono ?_
 rintro e w7 ⟨rfl, h1, h2, h3⟩
 have HT7 := Lib.hid (HT6.out.call h1 h2 h3)
 clear h1 h2 h3 h4 HT6
 clear b0
 have d3 : w7.cell? ⟨g, 3, none⟩ = some (.int .i64 0) := (blk_cell HT7.out.y 3).trans rfl
 have z3 : w7.frozen? ⟨g, 3, none⟩ = false := blk_frozen HT7.out.y 3
 have d0 : w7.cell? ⟨g, 0, none⟩ = some (.int .i64 3) := (blk_cell HT7.out.y 0).trans rfl
 have z0 : w7.frozen? ⟨g, 0, none⟩ = false := blk_frozen HT7.out.y 0
 go_wp2_with fail
 have HT8 := Lib.hid (HT7.out.put 3 (.int .i64 v3))
 obtain ⟨w8, hw⟩ : ∃ W, (w7.setCell ⟨g, 3, none⟩ (.int .i64 v3)) = W := ⟨_, rfl⟩
 rw [hw] at HT8 ⊢
 clear hw HT7 d3 z3 d0 z0
 have h4 := eNum_is HT8.out.i HT8.out.d HO4.out
 rw [HE4.out.1, HE4.out.2] at h4
 refine h4.mono ?_
 rintro e w9 ⟨rfl, h1, h2, h3⟩
 have HT9 := Lib.hid (HT8.out.call h1 h2 h3)
 clear h1 h2 h3 h4 HT8
 have d4 : w9.cell? ⟨g, 4, none⟩ = some (.int .i64 0) := (blk_cell HT9.out.y 4).trans rfl
 have z4 : w9.frozen? ⟨g, 4, none⟩ = false := blk_frozen HT9.out.y 4
 have d0 : w9.cell? ⟨g, 0, none⟩ = some (.int .i64 3) := (blk_cell HT9.out.y 0).trans rfl
 have z0 : w9.frozen? ⟨g, 0, none⟩ = false := blk_frozen HT9.out.y 0
 go_wp2_with fail
 have HT10 := Lib.hid (HT9.out.put 4 (.int .i64 v4))
 obtain ⟨w10, hw⟩ : ∃ W, (w9.setCell ⟨g, 4, none⟩ (.int .i64 v4)) = W := ⟨_, rfl⟩
 rw [hw] at HT10 ⊢
 clear hw HT9 d4 z4 d0 z0
 have h4 := eNum_is HT10.out.i HT10.out.d HO5.out
 rw [HE5.out.1, HE5.out.2] at h4
 refine h4.mono ?_
 rintro e w11 ⟨rfl, h1, h2, h3⟩
 have HT11 := Lib.hid (HT10.out.call h1 h2 h3)
 clear h1 h2 h3 h4 HT10
 have d5 : w11.cell? ⟨g, 5, none⟩ = some (.int .i64 0) := (blk_cell HT11.out.y 5).trans rfl
 have z5 : w11.frozen? ⟨g, 5, none⟩ = false := blk_frozen HT11.out.y 5
 have d0 : w11.cell? ⟨g, 0, none⟩ = some (.int .i64 3) := (blk_cell HT11.out.y 0).trans rfl
 have z0 : w11.frozen? ⟨g, 0, none⟩ = false := blk_frozen HT11.out.y 0
 go_wp2_with fail
 have HT12 := Lib.hid (HT11.out.put 5 (.int .i64 v5))
 obtain ⟨w12, hw⟩ : ∃ W, (w11.setCell ⟨g, 5, none⟩ (.int .i64 v5)) = W := ⟨_, rfl⟩
 rw [hw] at HT12 ⊢
 clear hw HT11 d5 z5 d0 z0
 have h4 := eNum_is HT12.out.i HT12.out.d HO6.out
 rw [HE6.out.1, HE6.out.2] at h4
 refine h4.mono ?_
 rintro e w13 ⟨rfl, h1, h2, h3⟩
 have HT13 := Lib.hid (HT12.out.call h1 h2 h3)
 clear h1 h2 h3 h4 HT12
 have d6 : w13.cell? ⟨g, 6, none⟩ = some (.int .i64 0) := (blk_cell HT13.out.y 6).trans rfl
 have z6 : w13.frozen? ⟨g, 6, none⟩ = false := blk_frozen HT13.out.y 6
 have d0 : w13.cell? ⟨g, 0, none⟩ = some (.int .i64 3) := (blk_cell HT13.out.y 0).trans rfl
 have z0 : w13.frozen? ⟨g, 0, none⟩ = false := blk_frozen HT13.out.y 0
 go_wp2_with fail
 have HT14 := Lib.hid (HT13.out.put 6 (.int .i64 v6))
 obtain ⟨w14, hw⟩ : ∃ W, (w13.setCell ⟨g, 6, none⟩ (.int .i64 v6)) = W := ⟨_, rfl⟩
 rw [hw] at HT14 ⊢
 clear hw HT13 d6 z6 d0 z0
 have h4 := eList_trs HT14.out.i HT14.out.d HO7.out
 rw [HE7.out.1, HE7.out.2] at h4
 refine h4.mono ?_
 rintro e w15 ⟨v_, rfl, hv, h1, h2, h3⟩
 obtain ⟨A8, c8, rfl⟩ := Kd.R_slice (Kd.S_R hv)
 have HT15 := Lib.hid (HT14.out.callS h1 h2 h3 hv)
 have HLO15 := Lib.hid (show w14.heap.size ≤ w15.heap.size from h3.size)
 clear h1 h2 h3 h4 hv HT14
 have d8 : w15.cell? ⟨g, 8, none⟩ = some (.slice none 0 0) := (blk_cell HT15.out.y 8).trans rfl
 have z8 : w15.frozen? ⟨g, 8, none⟩ = false := blk_frozen HT15.out.y 8
 have d0 : w15.cell? ⟨g, 0, none⟩ = some (.int .i64 3) := (blk_cell HT15.out.y 0).trans rfl
 have z0 : w15.frozen? ⟨g, 0, none⟩ = false := blk_frozen HT15.out.y 0
 go_upto_region 28 with fail
 have HT16 := Lib.hid (HT15.out.put 8 (.slice A8 v7.length c8))
 obtain ⟨w16, hw⟩ : ∃ W, (w15.setCell ⟨g, 8, none⟩ (.slice A8 v7.length c8)) = W := ⟨_, rfl⟩
 rw [hw] at HT16 ⊢
 clear hw HT15 d8 z8 d0 z0
 have hT : Fr _ w0 w x g 34 _ #[.int .i64 3, .int .i64 v1, .int .i64 v2, .int .i64 v3, .int .i64 v4, .int .i64 v5, .int .i64 v6, .bool false, .slice A8 v7.length c8, .int .i64 0, .int .i64 0, .int .i64 0, .slice none 0 0, .int .i64 0, .int .i64 0, .int .i64 0, .slice none 0 0] _ _ _ := HT16.out
 refine wp_region_list ?_
 refine wpList_load_row rfl 34 (.tmp 4) rfl g rfl 34 _ (0, 0) _ hT.y Tryz.underlying34 rfl (by kernel_rfl) ?_
 refine wpList_store_row rfl 34 (.tmp 2) (.tmp 94) rfl w.heap.size _ rfl rfl 34 _ hT.g0 (by kernel_rfl) rfl (by simp [Value.oneCell']) ?_
 go_wp2_with fail
 refine bodyPost_ret (results_cell_row rfl _ _ w.heap.size 34 _ (0, 0) _ rfl hT.fin.1 Tryz.underlying34 rfl (by kernel_rfl)) rfl ?_
 rw [HF.out]
 exact ⟨_, _, _, rfl, Kd.R_mono (Kd.S_R hT.fin.2.1.2) (fun _ _ => trivial), Kd.R_nil _ _ _ _ _, Kd.R_nil _ _ _ _ _, hT.fin.2.2.1, hT.fin.2.2.2.1, hT.fin.2.2.2.2⟩
set_option maxHeartbeats 4000000 in
theorem eMsg5 {w0 w : World} {x : Nat} {s : EyeS} (hI : IsEye w0 w x s) (hB : Below w0.heap.size w0 w) (hok : okS s) (hk : (eNum s).1 = 5) (he : (eNum s).2.e = 0) :
  Calls Tryz.prog 60 #[.pointer (some ⟨x, 0, none⟩)] w fun e w' => MsP (fun W s => IsEye w0 W x s) w0 w x (eMsg s).1 (eMsg s).2 e w' := by
 have HT1 := Lib.hid (Fo.start (I := fun W s => IsEye w0 W x s) (T := 34) (zs := #[.int .i64 0, .int .i64 0, .int .i64 0, .int .i64 0, .int .i64 0, .int .i64 0, .int .i64 0, .bool false, .slice none 0 0, .int .i64 0, .int .i64 0, .int .i64 0, .slice none 0 0, .int .i64 0, .int .i64 0, .int .i64 0, .slice none 0 0]) hI hB hI.lt hI.ge (fun _ _ _ e h => h.at e))
 obtain ⟨s1, hs1⟩ : ∃ s1, (eNum s).2 = s1 := ⟨_, rfl⟩
 have HN := Lib.hid (And.intro hk hs1)
 have HO0 := Lib.hid hok
 have ho1 := okS_num hok
 rw [hs1] at ho1 he
 have HF0 := Lib.hid (show eMsg s = mBody eSmall eEntry (eList eTr) 5 s1 by
  have hm : eMk s = s1 := by unfold eMk; rw [hk, hs1]; exact eWrong_false _
  unfold eMsg
  rw [hm, if_neg (fun q => q he), hk])
 clear hI hB hok hk hs1
 obtain ⟨v1, hv1⟩ : ∃ v, (eSmall s1).1 = v := ⟨_, rfl⟩
 obtain ⟨s2, hs2⟩ : ∃ t, (eSmall s1).2 = t := ⟨_, rfl⟩
 have ho2 := okS_small ho1
 rw [hs2] at ho2
 have HO1 := Lib.hid ho1; have HE1 := Lib.hid (And.intro hv1 hs2)
 obtain ⟨v2, hv2⟩ : ∃ v, (eSmall s2).1 = v := ⟨_, rfl⟩
 obtain ⟨s3, hs3⟩ : ∃ t, (eSmall s2).2 = t := ⟨_, rfl⟩
 have ho3 := okS_small ho2
 rw [hs3] at ho3
 have HO2 := Lib.hid ho2; have HE2 := Lib.hid (And.intro hv2 hs3)
 obtain ⟨v3, hv3⟩ : ∃ v, (eNum s3).1 = v := ⟨_, rfl⟩
 obtain ⟨s4, hs4⟩ : ∃ t, (eNum s3).2 = t := ⟨_, rfl⟩
 have ho4 := okS_num ho3
 rw [hs4] at ho4
 have HO3 := Lib.hid ho3; have HE3 := Lib.hid (And.intro hv3 hs4)
 obtain ⟨v4, hv4⟩ : ∃ v, (eNum s4).1 = v := ⟨_, rfl⟩
 obtain ⟨s5, hs5⟩ : ∃ t, (eNum s4).2 = t := ⟨_, rfl⟩
 have ho5 := okS_num ho4
 rw [hs5] at ho5
 have HO4 := Lib.hid ho4; have HE4 := Lib.hid (And.intro hv4 hs5)
 obtain ⟨v5, hv5⟩ : ∃ v, (eNum s5).1 = v := ⟨_, rfl⟩
 obtain ⟨s6, hs6⟩ : ∃ t, (eNum s5).2 = t := ⟨_, rfl⟩
 have ho6 := okS_num ho5
 rw [hs6] at ho6
 have HO5 := Lib.hid ho5; have HE5 := Lib.hid (And.intro hv5 hs6)
 obtain ⟨v6, hv6⟩ : ∃ v, (eNum s6).1 = v := ⟨_, rfl⟩
 obtain ⟨s7, hs7⟩ : ∃ t, (eNum s6).2 = t := ⟨_, rfl⟩
 have ho7 := okS_num ho6
 rw [hs7] at ho7
 have HO6 := Lib.hid ho6; have HE6 := Lib.hid (And.intro hv6 hs7)
 obtain ⟨v7, hv7⟩ : ∃ v, (eSmall s7).1 = v := ⟨_, rfl⟩
 obtain ⟨s8, hs8⟩ : ∃ t, (eSmall s7).2 = t := ⟨_, rfl⟩
 have ho8 := okS_small ho7
 rw [hs8] at ho8
 have HO7 := Lib.hid ho7; have HE7 := Lib.hid (And.intro hv7 hs8)
 obtain ⟨v8, hv8⟩ : ∃ v, (eSmall s8).1 = v := ⟨_, rfl⟩
 obtain ⟨s9, hs9⟩ : ∃ t, (eSmall s8).2 = t := ⟨_, rfl⟩
 have ho9 := okS_small ho8
 rw [hs9] at ho9
 have HO8 := Lib.hid ho8; have HE8 := Lib.hid (And.intro hv8 hs9)
 obtain ⟨v9, hv9⟩ : ∃ v, (eData s9).1 = v := ⟨_, rfl⟩
 obtain ⟨s10, hs10⟩ : ∃ t, (eData s9).2 = t := ⟨_, rfl⟩
 have ho10 := okS_data ho9
 rw [hs10] at ho10
 have HO9 := Lib.hid ho9; have HE9 := Lib.hid (And.intro hv9 hs10)
 have HF := Lib.hid (show eMsg s = (⟨5, v1, v2, v3, v4, v5, 0, false, [], zE, ⟨v6, v7, v8, v9⟩⟩, s10) by
  rw [HF0.out]
  unfold mBody
  rw [if_neg (by decide)]; rw [if_neg (by decide)]; rw [if_neg (by decide)]; rw [if_neg (by decide)]; rw [if_pos rfl]; unfold ptOf
  simp only [FM, PR, enOf, hv1, hs2, hv2, hs3, hv3, hs4, hv4, hs5, hv5, hs6, hv6, hs7, hv7, hs8, hv8, hs9, hv9, hs10])
 clear HF0 hv1 hs2 ho1 hv2 hs3 ho2 hv3 hs4 ho3 hv4 hs5 ho4 hv5 hs6 ho5 hv6 hs7 ho6 hv7 hs8 ho7 hv8 hs9 ho8 hv9 hs10 ho9 ho10
 have HQ := Lib.hid (show (s1.e != 0) = false by rw [he]; rfl)
 clear he
 go_enter Tryz.func60, Tryz.ntmps60
 go_upto_region 1 with fail
 obtain ⟨w1, hw1⟩ : ∃ w1, w.alloc (.cells #[.int .i64 0, .int .i64 0, .int .i64 0, .int .i64 0, .int .i64 0, .int .i64 0, .int .i64 0, .bool false, .slice none 0 0, .int .i64 0, .int .i64 0, .int .i64 0, .slice none 0 0, .int .i64 0, .int .i64 0, .int .i64 0, .slice none 0 0] 34) = w1 := ⟨_, rfl⟩
 rw [hw1] at HT1 ⊢
 clear hw1
 go_wp2_with fail
 have h4 := eNum_is HT1.out.i HT1.out.d HO0.out
 rw [HN.out.1, HN.out.2] at h4
 refine h4.mono ?_
 rintro e w2 ⟨rfl, h1, h2, h3⟩
 have HT2 := Lib.hid (HT1.out.call h1 h2 h3)
 clear h1 h2 h3 h4 HT1 HN
 go_wp2_with fail
 have h4 := eWrong_is HT2.out.i HT2.out.d false
 rw [eWrong_false] at h4
 refine h4.mono ?_
 rintro e w3 ⟨rfl, h1, h2, h3⟩
 have HT3 := Lib.hid (HT2.out.call h1 h2 h3)
 clear h1 h2 h3 h4 HT2
 have c1 : w3.cell? ⟨x, 1, none⟩ = some (.int .i64 s1.e) := by
  obtain ⟨A, c, g1, _⟩ := HT3.out.i
  simp [World.cell?, g1]
 have hq := HQ.out
 go_wp2_with fail
 clear c1 hq
 have h4 := eSmall_is HT3.out.i HT3.out.d HO1.out
 rw [HE1.out.1, HE1.out.2] at h4
 refine h4.mono ?_
 rintro e w4 ⟨rfl, h1, h2, h3⟩
 have HT4 := Lib.hid (HT3.out.call h1 h2 h3)
 clear h1 h2 h3 h4 HT3
 go_wp2_with fail
 have h4 := eSmall_is HT4.out.i HT4.out.d HO2.out
 rw [HE2.out.1, HE2.out.2] at h4
 refine h4.mono ?_
 rintro e w5 ⟨rfl, h1, h2, h3⟩
 have HT5 := Lib.hid (HT4.out.call h1 h2 h3)
 clear h1 h2 h3 h4 HT4
 go_upto_region 6 with fail
 have HT6 := Lib.hid (HT5.out.lay #[.int .i64 5, .int .i64 v1, .int .i64 v2, .int .i64 0, .int .i64 0, .int .i64 0, .int .i64 0, .bool false, .slice none 0 0, .int .i64 0, .int .i64 0, .int .i64 0, .slice none 0 0, .int .i64 0, .int .i64 0, .int .i64 0, .slice none 0 0])
 obtain ⟨g, hg⟩ : ∃ g, w5.heap.size = g := ⟨_, rfl⟩
 obtain ⟨w6, hw6⟩ : ∃ w6, w5.alloc (.cells #[.int .i64 5, .int .i64 v1, .int .i64 v2, .int .i64 0, .int .i64 0, .int .i64 0, .int .i64 0, .bool false, .slice none 0 0, .int .i64 0, .int .i64 0, .int .i64 0, .slice none 0 0, .int .i64 0, .int .i64 0, .int .i64 0, .slice none 0 0] 34) = w6 := ⟨_, rfl⟩
 rw [hg, hw6] at HT6
 rw [hw6, hg]
 clear hg hw6 HT5
 have b0 : w6.cell? ⟨g, 0, none⟩ = some (.int .i64 5) := (blk_cell HT6.out.y 0).trans rfl
 go_wp2_with fail
 have h4 := eNum_is HT6.out.i HT6.out.d HO3.out
 rw [HE3.out.1, HE3.out.2] at h4
 refine h4.mono ?_
 rintro e w7 ⟨rfl, h1, h2, h3⟩
 have HT7 := Lib.hid (HT6.out.call h1 h2 h3)
 clear h1 h2 h3 h4 HT6
 clear b0
 have d3 : w7.cell? ⟨g, 3, none⟩ = some (.int .i64 0) := (blk_cell HT7.out.y 3).trans rfl
 have z3 : w7.frozen? ⟨g, 3, none⟩ = false := blk_frozen HT7.out.y 3
 have d0 : w7.cell? ⟨g, 0, none⟩ = some (.int .i64 5) := (blk_cell HT7.out.y 0).trans rfl
 have z0 : w7.frozen? ⟨g, 0, none⟩ = false := blk_frozen HT7.out.y 0
 go_wp2_with fail
 have HT8 := Lib.hid (HT7.out.put 3 (.int .i64 v3))
 obtain ⟨w8, hw⟩ : ∃ W, (w7.setCell ⟨g, 3, none⟩ (.int .i64 v3)) = W := ⟨_, rfl⟩
 rw [hw] at HT8 ⊢
 clear hw HT7 d3 z3 d0 z0
 have h4 := eNum_is HT8.out.i HT8.out.d HO4.out
 rw [HE4.out.1, HE4.out.2] at h4
 refine h4.mono ?_
 rintro e w9 ⟨rfl, h1, h2, h3⟩
 have HT9 := Lib.hid (HT8.out.call h1 h2 h3)
 clear h1 h2 h3 h4 HT8
 have d4 : w9.cell? ⟨g, 4, none⟩ = some (.int .i64 0) := (blk_cell HT9.out.y 4).trans rfl
 have z4 : w9.frozen? ⟨g, 4, none⟩ = false := blk_frozen HT9.out.y 4
 have d0 : w9.cell? ⟨g, 0, none⟩ = some (.int .i64 5) := (blk_cell HT9.out.y 0).trans rfl
 have z0 : w9.frozen? ⟨g, 0, none⟩ = false := blk_frozen HT9.out.y 0
 go_wp2_with fail
 have HT10 := Lib.hid (HT9.out.put 4 (.int .i64 v4))
 obtain ⟨w10, hw⟩ : ∃ W, (w9.setCell ⟨g, 4, none⟩ (.int .i64 v4)) = W := ⟨_, rfl⟩
 rw [hw] at HT10 ⊢
 clear hw HT9 d4 z4 d0 z0
 have h4 := eNum_is HT10.out.i HT10.out.d HO5.out
 rw [HE5.out.1, HE5.out.2] at h4
 refine h4.mono ?_
 rintro e w11 ⟨rfl, h1, h2, h3⟩
 have HT11 := Lib.hid (HT10.out.call h1 h2 h3)
 clear h1 h2 h3 h4 HT10
 have d5 : w11.cell? ⟨g, 5, none⟩ = some (.int .i64 0) := (blk_cell HT11.out.y 5).trans rfl
 have z5 : w11.frozen? ⟨g, 5, none⟩ = false := blk_frozen HT11.out.y 5
 have d0 : w11.cell? ⟨g, 0, none⟩ = some (.int .i64 5) := (blk_cell HT11.out.y 0).trans rfl
 have z0 : w11.frozen? ⟨g, 0, none⟩ = false := blk_frozen HT11.out.y 0
 go_wp2_with fail
 have HT12 := Lib.hid (HT11.out.put 5 (.int .i64 v5))
 obtain ⟨w12, hw⟩ : ∃ W, (w11.setCell ⟨g, 5, none⟩ (.int .i64 v5)) = W := ⟨_, rfl⟩
 rw [hw] at HT12 ⊢
 clear hw HT11 d5 z5 d0 z0
 have h4 := eNum_is HT12.out.i HT12.out.d HO6.out
 rw [HE6.out.1, HE6.out.2] at h4
 refine h4.mono ?_
 rintro e w13 ⟨rfl, h1, h2, h3⟩
 have HT13 := Lib.hid (HT12.out.call h1 h2 h3)
 clear h1 h2 h3 h4 HT12
 go_wp2_with fail
 have h4 := eSmall_is HT13.out.i HT13.out.d HO7.out
 rw [HE7.out.1, HE7.out.2] at h4
 refine h4.mono ?_
 rintro e w14 ⟨rfl, h1, h2, h3⟩
 have HT14 := Lib.hid (HT13.out.call h1 h2 h3)
 clear h1 h2 h3 h4 HT13
 go_wp2_with fail
 have h4 := eSmall_is HT14.out.i HT14.out.d HO8.out
 rw [HE8.out.1, HE8.out.2] at h4
 refine h4.mono ?_
 rintro e w15 ⟨rfl, h1, h2, h3⟩
 have HT15 := Lib.hid (HT14.out.call h1 h2 h3)
 clear h1 h2 h3 h4 HT14
 go_wp2_with fail
 have h4 := eData_is HT15.out.i HT15.out.d HO9.out
 rw [HE9.out.1, HE9.out.2] at h4
 refine h4.mono ?_
 rintro e w16 ⟨v_, rfl, hv, h1, h2, h3⟩
 obtain ⟨A16, c16, rfl⟩ := Kd.R_slice hv
 have HT16 := Lib.hid (HT15.out.callR h1 h2 h3 hv)
 have HLO16 := Lib.hid (show w15.heap.size ≤ w16.heap.size from h3.size)
 clear h1 h2 h3 h4 hv HT15
 have d13 : w16.cell? ⟨g, 13, none⟩ = some (.int .i64 0) := (blk_cell HT16.out.y 13).trans rfl
 have z13 : w16.frozen? ⟨g, 13, none⟩ = false := blk_frozen HT16.out.y 13
 have d14 : w16.cell? ⟨g, 14, none⟩ = some (.int .i64 0) := (blk_cell HT16.out.y 14).trans rfl
 have z14 : w16.frozen? ⟨g, 14, none⟩ = false := blk_frozen HT16.out.y 14
 have d15 : w16.cell? ⟨g, 15, none⟩ = some (.int .i64 0) := (blk_cell HT16.out.y 15).trans rfl
 have z15 : w16.frozen? ⟨g, 15, none⟩ = false := blk_frozen HT16.out.y 15
 have d16 : w16.cell? ⟨g, 16, none⟩ = some (.slice none 0 0) := (blk_cell HT16.out.y 16).trans rfl
 have z16 : w16.frozen? ⟨g, 16, none⟩ = false := blk_frozen HT16.out.y 16
 have d0 : w16.cell? ⟨g, 0, none⟩ = some (.int .i64 5) := (blk_cell HT16.out.y 0).trans rfl
 have z0 : w16.frozen? ⟨g, 0, none⟩ = false := blk_frozen HT16.out.y 0
 go_upto_region 28 with fail
 have HT17 := Lib.hid ((((HT16.out.put 13 (.int .i64 v6)).put 14 (.int .i64 v7)).put 15 (.int .i64 v8)).put 16 (.slice A16 v9.length c16))
 obtain ⟨w17, hw⟩ : ∃ W, ((((w16.setCell ⟨g, 13, none⟩ (.int .i64 v6)).setCell ⟨g, 14, none⟩ (.int .i64 v7)).setCell ⟨g, 15, none⟩ (.int .i64 v8)).setCell ⟨g, 16, none⟩ (.slice A16 v9.length c16)) = W := ⟨_, rfl⟩
 rw [hw] at HT17 ⊢
 clear hw HT16 d13 z13 d14 z14 d15 z15 d16 z16 d0 z0
 have hT : Fr _ w0 w x g 34 _ #[.int .i64 5, .int .i64 v1, .int .i64 v2, .int .i64 v3, .int .i64 v4, .int .i64 v5, .int .i64 0, .bool false, .slice none 0 0, .int .i64 0, .int .i64 0, .int .i64 0, .slice none 0 0, .int .i64 v6, .int .i64 v7, .int .i64 v8, .slice A16 v9.length c16] _ _ _ := HT17.out
 refine wp_region_list ?_
 refine wpList_load_row rfl 34 (.tmp 4) rfl g rfl 34 _ (0, 0) _ hT.y Tryz.underlying34 rfl (by kernel_rfl) ?_
 refine wpList_store_row rfl 34 (.tmp 2) (.tmp 94) rfl w.heap.size _ rfl rfl 34 _ hT.g0 (by kernel_rfl) rfl (by simp [Value.oneCell']) ?_
 go_wp2_with fail
 refine bodyPost_ret (results_cell_row rfl _ _ w.heap.size 34 _ (0, 0) _ rfl hT.fin.1 Tryz.underlying34 rfl (by kernel_rfl)) rfl ?_
 rw [HF.out]
 exact ⟨_, _, _, rfl, Kd.R_nil _ _ _ _ _, Kd.R_nil _ _ _ _ _, Kd.R_mono hT.fin.2.1.2 (fun _ _ => trivial), hT.fin.2.2.1, hT.fin.2.2.2.1, hT.fin.2.2.2.2⟩
end Go.Proofs.YtgiefblcckikeaaGreat.M
end

section
/- The eye: a message, the rest (printed by geneym04.py). -/
attribute [local irreducible] Go.wpStill
namespace Go.Proofs.YtgiefblcckikeaaGreat.M
open Go.RowKit Go.Proofs.YtgiefblcckikeaaGreatW.PrintWords Go.Proofs.YtgiefblcckikeaaGreatW.PrintLast Go.Proofs.YtgiefblcckikeaaGreatW.PrintMore Go.Proofs.YtgiefblcckikeaaGreat.G
set_option maxHeartbeats 4000000 in
theorem eMsg6 {w0 w : World} {x : Nat} {s : EyeS} (hI : IsEye w0 w x s) (hB : Below w0.heap.size w0 w) (hok : okS s) (hk : (eNum s).1 = 6) (he : (eNum s).2.e = 0) :
  Calls Tryz.prog 60 #[.pointer (some ⟨x, 0, none⟩)] w fun e w' => MsP (fun W s => IsEye w0 W x s) w0 w x (eMsg s).1 (eMsg s).2 e w' := by
 have HT1 := Lib.hid (Fo.start (I := fun W s => IsEye w0 W x s) (T := 34) (zs := #[.int .i64 0, .int .i64 0, .int .i64 0, .int .i64 0, .int .i64 0, .int .i64 0, .int .i64 0, .bool false, .slice none 0 0, .int .i64 0, .int .i64 0, .int .i64 0, .slice none 0 0, .int .i64 0, .int .i64 0, .int .i64 0, .slice none 0 0]) hI hB hI.lt hI.ge (fun _ _ _ e h => h.at e))
 obtain ⟨s1, hs1⟩ : ∃ s1, (eNum s).2 = s1 := ⟨_, rfl⟩
 have HN := Lib.hid (And.intro hk hs1)
 have HO0 := Lib.hid hok
 have ho1 := okS_num hok
 rw [hs1] at ho1 he
 have HF0 := Lib.hid (show eMsg s = mBody eSmall eEntry (eList eTr) 6 s1 by
  have hm : eMk s = s1 := by unfold eMk; rw [hk, hs1]; exact eWrong_false _
  unfold eMsg
  rw [hm, if_neg (fun q => q he), hk])
 clear hI hB hok hk hs1
 obtain ⟨v1, hv1⟩ : ∃ v, (eSmall s1).1 = v := ⟨_, rfl⟩
 obtain ⟨s2, hs2⟩ : ∃ t, (eSmall s1).2 = t := ⟨_, rfl⟩
 have ho2 := okS_small ho1
 rw [hs2] at ho2
 have HO1 := Lib.hid ho1; have HE1 := Lib.hid (And.intro hv1 hs2)
 obtain ⟨v2, hv2⟩ : ∃ v, (eSmall s2).1 = v := ⟨_, rfl⟩
 obtain ⟨s3, hs3⟩ : ∃ t, (eSmall s2).2 = t := ⟨_, rfl⟩
 have ho3 := okS_small ho2
 rw [hs3] at ho3
 have HO2 := Lib.hid ho2; have HE2 := Lib.hid (And.intro hv2 hs3)
 obtain ⟨⟨y0, y1, y2, yl⟩, hv3⟩ : ∃ v, (eEntry s3).1 = v := ⟨_, rfl⟩
 obtain ⟨s4, hs4⟩ : ∃ t, (eEntry s3).2 = t := ⟨_, rfl⟩
 have ho4 := okS_entry ho3
 rw [hs4] at ho4
 have HO3 := Lib.hid ho3; have HE3 := Lib.hid (And.intro hv3 hs4)
 have HF := Lib.hid (show eMsg s = (⟨6, v1, v2, 0, 0, 0, 0, false, [], ⟨y0, y1, y2, yl⟩, zP⟩, s4) by
  rw [HF0.out]
  unfold mBody
  rw [if_neg (by decide)]; rw [if_neg (by decide)]; rw [if_neg (by decide)]; rw [if_neg (by decide)]; rw [if_neg (by decide)]; rw [if_pos rfl]
  simp only [FM, PR, enOf, hv1, hs2, hv2, hs3, hv3, hs4])
 clear HF0 hv1 hs2 ho1 hv2 hs3 ho2 hv3 hs4 ho3 ho4
 have HQ := Lib.hid (show (s1.e != 0) = false by rw [he]; rfl)
 clear he
 go_enter Tryz.func60, Tryz.ntmps60
 go_upto_region 1 with fail
 obtain ⟨w1, hw1⟩ : ∃ w1, w.alloc (.cells #[.int .i64 0, .int .i64 0, .int .i64 0, .int .i64 0, .int .i64 0, .int .i64 0, .int .i64 0, .bool false, .slice none 0 0, .int .i64 0, .int .i64 0, .int .i64 0, .slice none 0 0, .int .i64 0, .int .i64 0, .int .i64 0, .slice none 0 0] 34) = w1 := ⟨_, rfl⟩
 rw [hw1] at HT1 ⊢
 clear hw1
 go_wp2_with fail
 have h4 := eNum_is HT1.out.i HT1.out.d HO0.out
 rw [HN.out.1, HN.out.2] at h4
 refine h4.mono ?_
 rintro e w2 ⟨rfl, h1, h2, h3⟩
 have HT2 := Lib.hid (HT1.out.call h1 h2 h3)
 clear h1 h2 h3 h4 HT1 HN
 go_wp2_with fail
 have h4 := eWrong_is HT2.out.i HT2.out.d false
 rw [eWrong_false] at h4
 refine h4.mono ?_
 rintro e w3 ⟨rfl, h1, h2, h3⟩
 have HT3 := Lib.hid (HT2.out.call h1 h2 h3)
 clear h1 h2 h3 h4 HT2
 have c1 : w3.cell? ⟨x, 1, none⟩ = some (.int .i64 s1.e) := by
  obtain ⟨A, c, g1, _⟩ := HT3.out.i
  simp [World.cell?, g1]
 have hq := HQ.out
 go_wp2_with fail
 clear c1 hq
 have h4 := eSmall_is HT3.out.i HT3.out.d HO1.out
 rw [HE1.out.1, HE1.out.2] at h4
 refine h4.mono ?_
 rintro e w4 ⟨rfl, h1, h2, h3⟩
 have HT4 := Lib.hid (HT3.out.call h1 h2 h3)
 clear h1 h2 h3 h4 HT3
 go_wp2_with fail
 have h4 := eSmall_is HT4.out.i HT4.out.d HO2.out
 rw [HE2.out.1, HE2.out.2] at h4
 refine h4.mono ?_
 rintro e w5 ⟨rfl, h1, h2, h3⟩
 have HT5 := Lib.hid (HT4.out.call h1 h2 h3)
 clear h1 h2 h3 h4 HT4
 go_upto_region 6 with fail
 have HT6 := Lib.hid (HT5.out.lay #[.int .i64 6, .int .i64 v1, .int .i64 v2, .int .i64 0, .int .i64 0, .int .i64 0, .int .i64 0, .bool false, .slice none 0 0, .int .i64 0, .int .i64 0, .int .i64 0, .slice none 0 0, .int .i64 0, .int .i64 0, .int .i64 0, .slice none 0 0])
 obtain ⟨g, hg⟩ : ∃ g, w5.heap.size = g := ⟨_, rfl⟩
 obtain ⟨w6, hw6⟩ : ∃ w6, w5.alloc (.cells #[.int .i64 6, .int .i64 v1, .int .i64 v2, .int .i64 0, .int .i64 0, .int .i64 0, .int .i64 0, .bool false, .slice none 0 0, .int .i64 0, .int .i64 0, .int .i64 0, .slice none 0 0, .int .i64 0, .int .i64 0, .int .i64 0, .slice none 0 0] 34) = w6 := ⟨_, rfl⟩
 rw [hg, hw6] at HT6
 rw [hw6, hg]
 clear hg hw6 HT5
 have b0 : w6.cell? ⟨g, 0, none⟩ = some (.int .i64 6) := (blk_cell HT6.out.y 0).trans rfl
 go_wp2_with fail
 have h4 := eEntry_is HT6.out.i HT6.out.d HO3.out
 rw [HE3.out.1, HE3.out.2] at h4
 refine h4.mono ?_
 rintro e w7 ⟨v_, rfl, hv, h1, h2, h3⟩
 have hv : Kd.S G.k26 26 w7 w6.heap.size (fun _ => True) v_ yl := hv
 obtain ⟨A12, c12, rfl⟩ := Kd.S_slice hv
 have HT7 := Lib.hid (HT6.out.callS h1 h2 h3 hv)
 clear h1 h2 h3 h4 hv HT6
 clear b0
 have d9 : w7.cell? ⟨g, 9, none⟩ = some (.int .i64 0) := (blk_cell HT7.out.y 9).trans rfl
 have z9 : w7.frozen? ⟨g, 9, none⟩ = false := blk_frozen HT7.out.y 9
 have d10 : w7.cell? ⟨g, 10, none⟩ = some (.int .i64 0) := (blk_cell HT7.out.y 10).trans rfl
 have z10 : w7.frozen? ⟨g, 10, none⟩ = false := blk_frozen HT7.out.y 10
 have d11 : w7.cell? ⟨g, 11, none⟩ = some (.int .i64 0) := (blk_cell HT7.out.y 11).trans rfl
 have z11 : w7.frozen? ⟨g, 11, none⟩ = false := blk_frozen HT7.out.y 11
 have d12 : w7.cell? ⟨g, 12, none⟩ = some (.slice none 0 0) := (blk_cell HT7.out.y 12).trans rfl
 have z12 : w7.frozen? ⟨g, 12, none⟩ = false := blk_frozen HT7.out.y 12
 have d0 : w7.cell? ⟨g, 0, none⟩ = some (.int .i64 6) := (blk_cell HT7.out.y 0).trans rfl
 have z0 : w7.frozen? ⟨g, 0, none⟩ = false := blk_frozen HT7.out.y 0
 go_upto_region 8 with fail
 have HT8 := Lib.hid ((((HT7.out.put 9 (.int .i64 y0)).put 10 (.int .i64 y1)).put 11 (.int .i64 y2)).put 12 (.slice A12 yl.length c12))
 obtain ⟨w8, hw⟩ : ∃ W, ((((w7.setCell ⟨g, 9, none⟩ (.int .i64 y0)).setCell ⟨g, 10, none⟩ (.int .i64 y1)).setCell ⟨g, 11, none⟩ (.int .i64 y2)).setCell ⟨g, 12, none⟩ (.slice A12 yl.length c12)) = W := ⟨_, rfl⟩
 rw [hw] at HT8 ⊢
 clear hw HT7 d9 z9 d10 z10 d11 z11 d12 z12 d0 z0
 have hT : Fr _ w0 w x g 34 _ #[.int .i64 6, .int .i64 v1, .int .i64 v2, .int .i64 0, .int .i64 0, .int .i64 0, .int .i64 0, .bool false, .slice none 0 0, .int .i64 y0, .int .i64 y1, .int .i64 y2, .slice A12 yl.length c12, .int .i64 0, .int .i64 0, .int .i64 0, .slice none 0 0] _ _ _ := HT8.out
 refine wp_region_list ?_
 refine wpList_load_row rfl 34 (.tmp 4) rfl g rfl 34 _ (0, 0) _ hT.y Tryz.underlying34 rfl (by kernel_rfl) ?_
 refine wpList_store_row rfl 34 (.tmp 2) (.tmp 33) rfl w.heap.size _ rfl rfl 34 _ hT.g0 (by kernel_rfl) rfl (by simp [Value.oneCell']) ?_
 go_wp2_with fail
 refine bodyPost_ret (results_cell_row rfl _ _ w.heap.size 34 _ (0, 0) _ rfl hT.fin.1 Tryz.underlying34 rfl (by kernel_rfl)) rfl ?_
 rw [HF.out]
 exact ⟨_, _, _, rfl, Kd.R_nil _ _ _ _ _, Kd.R_mono (Kd.S_R hT.fin.2.1.2) (fun _ _ => trivial), Kd.R_nil _ _ _ _ _, hT.fin.2.2.1, hT.fin.2.2.2.1, hT.fin.2.2.2.2⟩
set_option maxHeartbeats 4000000 in
theorem eMsgL {w0 w : World} {x : Nat} {s : EyeS} (hI : IsEye w0 w x s) (hB : Below w0.heap.size w0 w) (hok : okS s) (hn : (eNum s).1 < 1) :
  Calls Tryz.prog 60 #[.pointer (some ⟨x, 0, none⟩)] w fun e w' => MsP (fun W s => IsEye w0 W x s) w0 w x (eMsg s).1 (eMsg s).2 e w' := by
 have HT1 := Lib.hid (Fo.start (I := fun W s => IsEye w0 W x s) (T := 34) (zs := #[.int .i64 0, .int .i64 0, .int .i64 0, .int .i64 0, .int .i64 0, .int .i64 0, .int .i64 0, .bool false, .slice none 0 0, .int .i64 0, .int .i64 0, .int .i64 0, .slice none 0 0, .int .i64 0, .int .i64 0, .int .i64 0, .slice none 0 0]) hI hB hI.lt hI.ge (fun _ _ _ e h => h.at e))
 obtain ⟨k, hk⟩ : ∃ k, (eNum s).1 = k := ⟨_, rfl⟩
 obtain ⟨s1, hs1⟩ : ∃ s1, (eNum s).2 = s1 := ⟨_, rfl⟩
 rw [hk] at hn
 have HF := Lib.hid (show eMsg s = (zM, eWrong true s1) by
  have hm : eMk s = eWrong true s1 := by
   unfold eMk notKind
   rw [hk, hs1]
   congr 1
   simp
   omega
  unfold eMsg
  rw [hm, if_pos (eWrong_true _)])
 have HN := Lib.hid (And.intro hk hs1)
 have HO0 := Lib.hid hok
 clear hI hB hok hk hs1
 have q1 : decide (k < 1) = true := decide_eq_true hn
 have HQ := Lib.hid (show ((eWrong true s1).e != 0) = true from bne_iff_ne.2 (eWrong_true _))
 clear hn
 go_enter Tryz.func60, Tryz.ntmps60
 go_upto_region 1 with fail
 obtain ⟨w1, hw1⟩ : ∃ w1, w.alloc (.cells #[.int .i64 0, .int .i64 0, .int .i64 0, .int .i64 0, .int .i64 0, .int .i64 0, .int .i64 0, .bool false, .slice none 0 0, .int .i64 0, .int .i64 0, .int .i64 0, .slice none 0 0, .int .i64 0, .int .i64 0, .int .i64 0, .slice none 0 0] 34) = w1 := ⟨_, rfl⟩
 rw [hw1] at HT1 ⊢
 clear hw1
 go_wp2_with fail
 have h4 := eNum_is HT1.out.i HT1.out.d HO0.out
 rw [HN.out.1, HN.out.2] at h4
 refine h4.mono ?_
 rintro e w2 ⟨rfl, h1, h2, h3⟩
 have HT2 := Lib.hid (HT1.out.call h1 h2 h3)
 clear h1 h2 h3 h4 HT1 HN
 go_wp2_with fail
 have h4 := eWrong_is HT2.out.i HT2.out.d true
 obtain ⟨s2, hs2⟩ : ∃ t, eWrong true s1 = t := ⟨_, rfl⟩
 rw [hs2] at h4 HF HQ
 clear hs2
 refine h4.mono ?_
 rintro e w3 ⟨rfl, h1, h2, h3⟩
 have HT3 := Lib.hid (HT2.out.call h1 h2 h3)
 clear h1 h2 h3 h4 HT2 q1
 have c1 : w3.cell? ⟨x, 1, none⟩ = some (.int .i64 s2.e) := by
  obtain ⟨A, c, g1, _⟩ := HT3.out.i
  simp [World.cell?, g1]
 have hq := HQ.out
 go_upto_region 4 with fail
 clear c1 hq
 refine wp_region_list ?_
 refine wpList_cut 1 ?_
 simp only [List.take_succ_cons, List.take_zero, List.drop_succ_cons, List.drop_zero]
 go_wp2_with fail
 refine Halt.mk ?_
 have hT := HT3.out
 refine wpList_store_row rfl 34 (.tmp 2) (.tmp 20) rfl w.heap.size #[.int .i64 0, .int .i64 0, .int .i64 0, .int .i64 0, .int .i64 0, .int .i64 0, .int .i64 0, .bool false, .slice none 0 0, .int .i64 0, .int .i64 0, .int .i64 0, .slice none 0 0, .int .i64 0, .int .i64 0, .int .i64 0, .slice none 0 0] rfl rfl 34 _ hT.g0 (by kernel_rfl) rfl (by simp [Value.oneCell']) ?_
 go_wp2_with fail
 refine bodyPost_ret (results_cell_row rfl _ _ w.heap.size 34 _ (0, 0) _ rfl hT.fin.1 Tryz.underlying34 rfl (by kernel_rfl)) rfl ?_
 rw [HF.out]
 exact ⟨_, _, _, rfl, Kd.R_nil _ _ _ _ _, Kd.R_nil _ _ _ _ _, Kd.R_nil _ _ _ _ _, hT.fin.2.1, hT.fin.2.2.1, hT.fin.2.2.2⟩
set_option maxHeartbeats 4000000 in
theorem eMsgH {w0 w : World} {x : Nat} {s : EyeS} (hI : IsEye w0 w x s) (hB : Below w0.heap.size w0 w) (hok : okS s) (hn : 6 < (eNum s).1) :
  Calls Tryz.prog 60 #[.pointer (some ⟨x, 0, none⟩)] w fun e w' => MsP (fun W s => IsEye w0 W x s) w0 w x (eMsg s).1 (eMsg s).2 e w' := by
 have HT1 := Lib.hid (Fo.start (I := fun W s => IsEye w0 W x s) (T := 34) (zs := #[.int .i64 0, .int .i64 0, .int .i64 0, .int .i64 0, .int .i64 0, .int .i64 0, .int .i64 0, .bool false, .slice none 0 0, .int .i64 0, .int .i64 0, .int .i64 0, .slice none 0 0, .int .i64 0, .int .i64 0, .int .i64 0, .slice none 0 0]) hI hB hI.lt hI.ge (fun _ _ _ e h => h.at e))
 obtain ⟨k, hk⟩ : ∃ k, (eNum s).1 = k := ⟨_, rfl⟩
 obtain ⟨s1, hs1⟩ : ∃ s1, (eNum s).2 = s1 := ⟨_, rfl⟩
 rw [hk] at hn
 have HF := Lib.hid (show eMsg s = (zM, eWrong true s1) by
  have hm : eMk s = eWrong true s1 := by
   unfold eMk notKind
   rw [hk, hs1]
   congr 1
   simp
   omega
  unfold eMsg
  rw [hm, if_pos (eWrong_true _)])
 have HN := Lib.hid (And.intro hk hs1)
 have HO0 := Lib.hid hok
 clear hI hB hok hk hs1
 have q1 : decide (k < 1) = false := decide_eq_false (by omega)
 have q2 : decide ((6 : Int) < k) = true := decide_eq_true hn
 have HQ := Lib.hid (show ((eWrong true s1).e != 0) = true from bne_iff_ne.2 (eWrong_true _))
 clear hn
 go_enter Tryz.func60, Tryz.ntmps60
 go_upto_region 1 with fail
 obtain ⟨w1, hw1⟩ : ∃ w1, w.alloc (.cells #[.int .i64 0, .int .i64 0, .int .i64 0, .int .i64 0, .int .i64 0, .int .i64 0, .int .i64 0, .bool false, .slice none 0 0, .int .i64 0, .int .i64 0, .int .i64 0, .slice none 0 0, .int .i64 0, .int .i64 0, .int .i64 0, .slice none 0 0] 34) = w1 := ⟨_, rfl⟩
 rw [hw1] at HT1 ⊢
 clear hw1
 go_wp2_with fail
 have h4 := eNum_is HT1.out.i HT1.out.d HO0.out
 rw [HN.out.1, HN.out.2] at h4
 refine h4.mono ?_
 rintro e w2 ⟨rfl, h1, h2, h3⟩
 have HT2 := Lib.hid (HT1.out.call h1 h2 h3)
 clear h1 h2 h3 h4 HT1 HN
 go_wp2_with fail
 have h4 := eWrong_is HT2.out.i HT2.out.d true
 obtain ⟨s2, hs2⟩ : ∃ t, eWrong true s1 = t := ⟨_, rfl⟩
 rw [hs2] at h4 HF HQ
 clear hs2
 refine h4.mono ?_
 rintro e w3 ⟨rfl, h1, h2, h3⟩
 have HT3 := Lib.hid (HT2.out.call h1 h2 h3)
 clear h1 h2 h3 h4 HT2 q1 q2
 have c1 : w3.cell? ⟨x, 1, none⟩ = some (.int .i64 s2.e) := by
  obtain ⟨A, c, g1, _⟩ := HT3.out.i
  simp [World.cell?, g1]
 have hq := HQ.out
 go_upto_region 4 with fail
 clear c1 hq
 refine wp_region_list ?_
 refine wpList_cut 1 ?_
 simp only [List.take_succ_cons, List.take_zero, List.drop_succ_cons, List.drop_zero]
 go_wp2_with fail
 refine Halt.mk ?_
 have hT := HT3.out
 refine wpList_store_row rfl 34 (.tmp 2) (.tmp 20) rfl w.heap.size #[.int .i64 0, .int .i64 0, .int .i64 0, .int .i64 0, .int .i64 0, .int .i64 0, .int .i64 0, .bool false, .slice none 0 0, .int .i64 0, .int .i64 0, .int .i64 0, .slice none 0 0, .int .i64 0, .int .i64 0, .int .i64 0, .slice none 0 0] rfl rfl 34 _ hT.g0 (by kernel_rfl) rfl (by simp [Value.oneCell']) ?_
 go_wp2_with fail
 refine bodyPost_ret (results_cell_row rfl _ _ w.heap.size 34 _ (0, 0) _ rfl hT.fin.1 Tryz.underlying34 rfl (by kernel_rfl)) rfl ?_
 rw [HF.out]
 exact ⟨_, _, _, rfl, Kd.R_nil _ _ _ _ _, Kd.R_nil _ _ _ _ _, Kd.R_nil _ _ _ _ _, hT.fin.2.1, hT.fin.2.2.1, hT.fin.2.2.2⟩
theorem eMsg_is {w0 w : World} {x : Nat} {s : EyeS} (hI : IsEye w0 w x s) (hB : Below w0.heap.size w0 w) (hok : okS s) :
  Calls Tryz.prog 60 #[.pointer (some ⟨x, 0, none⟩)] w fun e w' => MsP (fun W s => IsEye w0 W x s) w0 w x (eMsg s).1 (eMsg s).2 e w' := by
 by_cases h0 : (eNum s).1 < 1
 ·exact eMsgL hI hB hok h0
 by_cases h7 : 6 < (eNum s).1
 ·exact eMsgH hI hB hok h7
 have he : (eNum s).2.e = 0 := by
  by_cases he : (eNum s).2.e = 0
  ·exact he
  ·have := eNum_z he; omega
 by_cases h1 : (eNum s).1 = 1
 ·exact eMsg1 hI hB hok h1 he
 by_cases h2 : (eNum s).1 = 2
 ·exact eMsg2 hI hB hok h2 he
 by_cases h3 : (eNum s).1 = 3
 ·exact eMsg3 hI hB hok h3 he
 by_cases h4 : (eNum s).1 = 4
 ·exact eMsg4 hI hB hok h4 he
 by_cases h5 : (eNum s).1 = 5
 ·exact eMsg5 hI hB hok h5 he
 exact eMsg6 hI hB hok (by omega) he
end Go.Proofs.YtgiefblcckikeaaGreat.M
end

section
/- What is read is within its kinds: numbers are int64, bytes are bytes. -/
namespace Go.Proofs.YtgiefblcckikeaaGreat.M
open Go.RowKit Go.Proofs.YtgiefblcckikeaaGreatW.PrintWords Go.Proofs.YtgiefblcckikeaaGreatW.PrintLast Go.Proofs.YtgiefblcckikeaaGreatW.PrintMore Go.Proofs.YtgiefblcckikeaaGreat.G
theorem num_i64 {s : EyeS} (h : okS s) : isI64 (eNum s).1 := by
 unfold eNum
 split
 ·show isI64 (takeNum s.l).1
  unfold takeNum
  split
  ·next he => exact (form_one h.1 he).2
  ·exact (by decide : isI64 0)
 ·exact (by decide : isI64 0)
theorem small_i64 {s : EyeS} (h : okS s) : isI64 (eSmall s).1 := by
 rw [eSmall_range]
 split
 ·exact num_i64 h
 ·exact (by decide : isI64 0)
theorem data_ok {s : EyeS} (h : okS s) : okB (eData s).1 = true := by
 unfold eData
 split
 ·show okB (takeBlob s.l).1 = true
  unfold takeBlob
  split
  ·unfold blD; exact okB_drop (okB_take h.1 _) _
  ·rfl
 ·rfl
theorem many_ok {α : Type} {g : EyeS → α × EyeS} {P : α → Prop} (hg : ∀ s, okS s → okS (g s).2 ∧ P (g s).1) : ∀ (n : Nat) (s : EyeS), okS s → ∀ x ∈ (eMany g n s).1, P x
 | 0, s, _ => fun x hx => by cases hx
 | n + 1, s, h => by
  intro x hx
  by_cases he : s.e = 0
  ·simp only [eMany, if_pos he] at hx
   rcases List.mem_cons.1 hx with rfl | hx
   ·exact (hg s h).2
   ·exact many_ok hg n _ (hg s h).1 x hx
  ·rw [eMany_stop he] at hx
   cases hx
theorem list_ok {α : Type} {g : EyeS → α × EyeS} {P : α → Prop} (hg : ∀ s, okS s → okS (g s).2 ∧ P (g s).1) {s : EyeS} (h : okS s) : ∀ x ∈ (eList g s).1, P x :=
 many_ok hg _ _ (okS_wrong _ (okS_num h))
theorem key_ok {s : EyeS} (h : okS s) : okK (eKey s).1 = true := by
 have h1 := eSmall_range s
 have h2 := num_i64 (okS_small h)
 have h0 : -2147483648 ≤ (eSmall s).1 ∧ (eSmall s).1 ≤ 2147483647 := by
  rw [h1]
  split
  ·next q => exact q
  ·exact (by decide : -2147483648 ≤ (0 : Int) ∧ (0 : Int) ≤ 2147483647)
 unfold okK
 exact decide_eq_true ⟨h0.1, h0.2, h2⟩
theorem txn_ok {s : EyeS} (h : okS s) : okT (eTxn s).1 = true := by
 have o1 := okS_num h
 have o2 := okS_num o1
 have o3 := okS_data o2
 have o4 := okS_list (fun _ => okS_num) o3
 have o5 := okS_list (fun _ => okS_key) o4
 unfold okT
 rw [decide_eq_true (show isI64 (eTxn s).1.f0 from num_i64 h), decide_eq_true (show isI64 (eTxn s).1.f1 from num_i64 o1), show okB (eTxn s).1.f2 = true from data_ok o2]
 have a : okI (eTxn s).1.f3 = true := List.all_eq_true.2 (fun x hx => decide_eq_true (list_ok (P := isI64) (fun s h => ⟨okS_num h, num_i64 h⟩) o3 x hx))
 have b : (eTxn s).1.f4.all okK = true := List.all_eq_true.2 (fun x hx => list_ok (P := fun k => okK k = true) (fun s h => ⟨okS_key h, key_ok h⟩) o4 x hx)
 have c : (eTxn s).1.f5.all okK = true := List.all_eq_true.2 (fun x hx => list_ok (P := fun k => okK k = true) (fun s h => ⟨okS_key h, key_ok h⟩) o5 x hx)
 rw [a, b, c]
 rfl
def okEn (x : EnD) : Prop := okE x.1 x.2.1 x.2.2.1 x.2.2.2 = true
theorem okE_mk {k f n : Int} {l : List TxD} (h0 : isI64 k) (h1 : isI64 f) (h2 : isI64 n) (h3 : ∀ t ∈ l, okT t = true) : okE k f n l = true := by
 unfold okE
 rw [decide_eq_true h0, decide_eq_true h1, decide_eq_true h2, List.all_eq_true.2 h3]
 rfl
theorem entry_ok {s : EyeS} (h : okS s) : okEn (eEntry s).1 := by
 unfold eEntry
 split
 ·exact okE_mk (k := 0) (f := 0) (n := 0) (l := []) (by decide) (by decide) (by decide) (fun t ht => by cases ht)
 ·have o := okS_kind h
  exact okE_mk (k := 1) (by decide) (small_i64 o) (num_i64 (okS_small o)) (list_ok (P := fun t => okT t = true) (fun s h => ⟨okS_txn h, txn_ok h⟩) (okS_num (okS_small o)))
def okTr (x : TrD) : Prop := isI64 x.f0 ∧ okE x.f1.f0 x.f1.f1 x.f1.f2 x.f1.f3 = true
theorem tr_ok {s : EyeS} (h : okS s) : okTr (eTr s).1 := ⟨num_i64 h, entry_ok (okS_num h)⟩
theorem okI3 {a b c : Int} (h0 : isI64 a) (h1 : isI64 b) (h2 : isI64 c) : okI [a, b, c] = true := okI_cons.2 ⟨h0, okI_cons.2 ⟨h1, okI_cons.2 ⟨h2, rfl⟩⟩⟩
theorem okI4 {a b c d : Int} (h0 : isI64 a) (h1 : isI64 b) (h2 : isI64 c) (h3 : isI64 d) : okI [a, b, c, d] = true := okI_cons.2 ⟨h0, okI3 h1 h2 h3⟩
theorem i64_0 : isI64 0 := by decide
theorem zE_ok : okE zE.f0 zE.f1 zE.f2 zE.f3 = true := by decide
theorem okM_zero : OkM zM := ⟨by decide, by decide, by decide, by decide, fun x hx => by cases hx⟩
theorem okM_body (k : Int) (hk : isI64 k) {s : EyeS} (h : okS s) : OkM (mBody eSmall eEntry (eList eTr) k s).1 ∧ isI64 (mBody eSmall eEntry (eList eTr) k s).1.f10.f2 ∧ okB (mBody eSmall eEntry (eList eTr) k s).1.f10.f3 = true := by
 have o1 := okS_small h
 have o2 := okS_small o1
 have a1 := small_i64 h
 have a2 := small_i64 o1
 have a3 := num_i64 o2
 have o3 := okS_num o2
 have a4 := num_i64 o3
 have o4 := okS_num o3
 have a5 := num_i64 o4
 have o5 := okS_num o4
 have a6 := num_i64 o5
 have o6 := okS_num o5
 unfold mBody
 split
 ·exact ⟨⟨okI3 (a := 1) (by decide) a1 a2, okI4 a3 a4 a5 i64_0, okI3 i64_0 i64_0 i64_0, zE_ok, fun x hx => by cases hx⟩, i64_0, rfl⟩
 split
 ·exact ⟨⟨okI3 (a := 2) (by decide) a1 a2, okI4 a3 i64_0 i64_0 i64_0, okI3 i64_0 i64_0 i64_0, zE_ok, fun x hx => by cases hx⟩, i64_0, rfl⟩
 split
 ·exact ⟨⟨okI3 (a := 3) (by decide) a1 a2, okI4 a3 a4 a5 a6, okI3 i64_0 i64_0 i64_0, zE_ok, list_ok (P := okTr) (fun s h => ⟨okS_tr h, tr_ok h⟩) o6⟩, i64_0, rfl⟩
 split
 ·exact ⟨⟨okI3 (a := 4) (by decide) a1 a2, okI4 a3 (num_i64 (okS_yes o3)) i64_0 i64_0, okI3 i64_0 i64_0 i64_0, zE_ok, fun x hx => by cases hx⟩, i64_0, rfl⟩
 split
 ·have o7 := okS_small o6
  exact ⟨⟨okI3 (a := 5) (by decide) a1 a2, okI4 a3 a4 a5 i64_0, okI3 a6 (small_i64 o6) (small_i64 o7), zE_ok, fun x hx => by cases hx⟩, small_i64 o7, data_ok (okS_small o7)⟩
 split
 ·exact ⟨⟨okI3 (a := 6) (by decide) a1 a2, okI4 i64_0 i64_0 i64_0 i64_0, okI3 i64_0 i64_0 i64_0, entry_ok o2, fun x hx => by cases hx⟩, i64_0, rfl⟩
 ·exact ⟨⟨okI3 hk a1 a2, okI4 a3 i64_0 i64_0 i64_0, okI3 i64_0 i64_0 i64_0, zE_ok, fun x hx => by cases hx⟩, i64_0, rfl⟩
theorem okM_eMsg {s : EyeS} (h : okS s) : OkM (eMsg s).1 ∧ isI64 (eMsg s).1.f10.f2 ∧ okB (eMsg s).1.f10.f3 = true := by
 unfold eMsg
 split
 ·exact ⟨okM_zero, i64_0, rfl⟩
 ·exact okM_body _ (num_i64 h) (okS_wrong _ (okS_num h))
end Go.Proofs.YtgiefblcckikeaaGreat.M
end

section
/- Contract of trivet/shape.eight: all eight bytes of a number (what append has not used is noughts). -/
namespace Go.Proofs.YtgiefblcckikeaaGreat.M
open Go.RowKit Go.Proofs.YtgiefblcckikeaaGreatW.PrintWords Go.Proofs.YtgiefblcckikeaaGreatW.PrintLast Go.Proofs.YtgiefblcckikeaaGreatW.PrintMore
def OwnZ (w : World) (base : Nat) (v : Value) (l : List Int) : Prop :=
 (v = .slice none 0 0 ∧ l = []) ∨ ∃ g cap cur, v = .slice (some ⟨g, 0, none⟩) l.length cap ∧ base ≤ g ∧ w.heap[g]? = some (.cells cur 5 (0, 0)) ∧ l.length ≤ cap ∧ cap ≤ maxLen ∧
  cur.toList = l.map (Value.int .u8) ++ List.replicate (cap - l.length) (.int .u8 0)
theorem OwnZ.own {w : World} {base : Nat} {v : Value} {l : List Int} (h : OwnZ w base v l) : w.ownsRow base 5 1 v l.length (l.map (Value.int .u8)) := by
 refine ⟨by simp, ?_⟩
 rcases h with ⟨rfl, rfl⟩ | ⟨g, cap, cur, rfl, h1, h2, h3, h4, h5⟩
 ·exact .inl ⟨rfl, rfl⟩
 ·refine .inr ⟨g, cap, cur, rfl, h1, h2, h3, h4, ?_, ?_⟩
  ·rw [← Array.length_toList, h5]; simp; omega
  ·rw [h5, Nat.mul_one, List.take_left' (by simp)]
theorem zeroCells_toList (n : Nat) : (Builtin.zeroCells #[Value.int .u8 0] n).toList = List.replicate n (.int .u8 0) := by
 refine List.ext_getElem (by simp [Builtin.zeroCells]) (fun i h1 h2 => ?_)
 simp [Builtin.zeroCells, Nat.mod_one]
theorem run_append_z (W : World) (base : Nat) (ty : TypeId) (v : Value) (l : List Int) (h : OwnZ W base v l) (hb : base ≤ W.heap.size) (a : Addr) (c : Nat) (x : Int) (hx : W.cell? a = some (.int .u8 x)) (hl : l.length + 1 ≤ 140737488355328) :
  ∃ v' w', (Builtin.append_ #[23, 23] ty #[v, .slice (some a) 1 c]).run Tryz.prog W = .ok v' w' ∧ OwnZ w' base v' (l ++ [x]) ∧ W.grownBy w' v.ownBlock := by
 obtain ⟨i0, hi, hz0, hz1, hz2⟩ := info_parts infoU8
 have hnews : ∀ j u, [Value.int .u8 x][j]? = some u → W.cell? (a.add j) = some u := by
  intro j u hu
  cases j with
  | zero => simp at hu; subst hu; rw [Addr.add_zero']; exact hx
  | succ j => simp at hu
 have hm : (Value.int .u8 0).cells = #[Value.int .u8 0] := rfl
 rcases h with ⟨rfl, rfl⟩ | ⟨g, cap, cur, rfl, h1, h2, h3, h4, h5⟩
 ·have hr := run_append_nil (P := Tryz.prog) W 23 ty 5 i0 (.int .u8 0) Tryz.underlying23 hi hz0 a 1 c [.int .u8 x] (by rw [hz1]; rfl) hnews (by omega) (by omega) (by rw [hz2]; decide)
  refine ⟨_, _, hr, .inr ⟨W.heap.size, _, _, rfl, hb, heap_alloc_new W.drew _, grownCap_ge W _ _ _, grownCap_le_maxLen W _ _ _ (by decide), ?_⟩, ⟨rfl, rfl, rfl, by simp, fun k hk _ => heap_alloc_old W.drew _ hk⟩⟩
  rw [hm, Array.toList_append, zeroCells_toList]
  rfl
 ·have hlen : cur.size = cap := by rw [← Array.length_toList, h5]; simp; omega
  by_cases hroom : l.length + 1 ≤ cap
  ·have hr := run_append_room (P := Tryz.prog) W 23 ty 5 i0 Tryz.underlying23 hi g l.length cap cur h2 a 1 c [.int .u8 x] (by rw [hz1]; rfl) hnews (by simp [Value.oneCell']) hroom (by rw [hz1, hlen]; simpa using hroom)
   refine ⟨_, _, hr, .inr ⟨g, cap, _, by simp, h1, setRow_heap W g cur _ 5 _ h2, by simpa using hroom, h4, ?_⟩, ⟨rfl, rfl, rfl, by simp, fun k hk hne => setRow_other W g k _ (fun e => hne (by simp [Value.ownBlock, e]))⟩⟩
   rw [hz1, h5, Nat.mul_one]
   rw [List.take_left' (by simp), List.drop_append, List.drop_eq_nil_of_le (by simp)]
   simp only [List.nil_append, List.map_append, List.map_cons, List.map_nil, List.length_append, List.length_map, List.length_cons, List.length_nil, List.drop_replicate]
   congr 2
   omega
  ·have holds : ∀ j u, (l.map (Value.int .u8))[j]? = some u → W.cell? ((⟨g, 0, none⟩ : Addr).add j) = some u := (OwnZ.own (.inr ⟨g, cap, cur, rfl, h1, h2, h3, h4, h5⟩)).cells (g := g) rfl
   have hr := run_append_grow (P := Tryz.prog) W 23 ty 5 i0 (.int .u8 0) Tryz.underlying23 hi hz0 ⟨g, 0, none⟩ l.length cap (l.map (Value.int .u8)) (by rw [hz1]; simp) holds a 1 c [.int .u8 x] (by rw [hz1]; rfl) hnews (by omega) (by omega) (by rw [hz2]; exact growslice_fits (by omega) (by omega))
   refine ⟨_, _, hr, .inr ⟨W.heap.size, grownCap W (l.length + 1) cap 5, _, by simp, hb, heap_alloc_new W.drew _, by simpa using grownCap_ge W (l.length + 1) cap 5, grownCap_le_maxLen W _ _ _ (by unfold maxLen; omega), ?_⟩, ⟨rfl, rfl, rfl, by simp, fun k hk _ => heap_alloc_old W.drew _ hk⟩⟩
   rw [hm]
   simp only [Array.toList_append, zeroCells_toList]
   simp
theorem OwnZ.alloc {W : World} {base : Nat} {v : Value} {l : List Int} (h : OwnZ W base v l) (o : Obj) : OwnZ (W.alloc o) base v l := by
 rcases h with h | ⟨g, cap, cur, h0, h1, h2, h3⟩
 ·exact .inl h
 ·exact .inr ⟨g, cap, cur, h0, h1, (heap_alloc_old W o (Array.getElem?_eq_some_iff.1 h2).1).trans h2, h3⟩
theorem wpList_append_z {ops : Array Oper} {rest : List Oper} {o : Oper} {a : Act} {Q : Exit → Act → World → Prop} {W : World} (base : Nat) (hgd : o.guard = none) (s x : Operand)
  (ho : o.op = .call { callee := .builtin .append, args := #[s, x], argTypes := #[23, 23] })
  (v : Value) (l : List Int) (y : Int) (hs : a.eval s = v) (hx : a.eval x = .slice (some ⟨W.heap.size, 0, none⟩) 1 1) (HO : OwnZ W base v l) (hb : base ≤ W.heap.size) (hl : l.length + 1 ≤ 140737488355328)
  (h : ∀ v' w', OwnZ w' base v' (l ++ [y]) → (W.alloc (.cells #[.int .u8 y] 5)).grownBy w' v.ownBlock → wpList Tryz.prog ops Q rest (a.put o.dst v') w') :
  wpList Tryz.prog ops Q (o :: rest) a (W.alloc (.cells #[.int .u8 y] 5)) := by
 refine wpList_plain hgd fun _ hK => ?_
 obtain ⟨v', w', hr, h2, h3⟩ := run_append_z (W.alloc (.cells #[.int .u8 y] 5)) base o.type v l (HO.alloc _) (by simp; omega) ⟨W.heap.size, 0, none⟩ 1 y (by simp) hl
 unfold Oper.wp execOp
 simp only [ho, resolve, invoke, builtin, Sem.run_bind, Sem.run_pure, Result.andThen_ok, List.map_toArray, List.map_cons, List.map_nil, hs, hx, hr]
 exact hK _ _ (h v' w' h2 h3)
theorem OwnZ.form {W : World} {base : Nat} {v : Value} {l : List Int} (h : OwnZ W base v l) : ∃ A n c, v = .slice A n c := by
 rcases h with ⟨rfl, _⟩ | ⟨g, cap, cur, rfl, _⟩
 ·exact ⟨_, _, _, rfl⟩
 ·exact ⟨_, _, _, rfl⟩
theorem OwnZ.lo {W : World} {base : Nat} {v : Value} {l : List Int} (h : OwnZ W base v l) (k : Nat) (hk : v.ownBlock = some k) : base ≤ k := by
 rcases h with ⟨rfl, _⟩ | ⟨g, cap, cur, rfl, h1, _⟩
 ·simp [Value.ownBlock] at hk
 ·simp [Value.ownBlock] at hk; omega
set_option maxHeartbeats 1000000 in
theorem low_z (n : Nat) (hn : n < 256 ^ 8) (w : World) :
  Calls Tryz.prog 152 #[.int .u64 (n : Int)] w fun e w' => ∃ v, e = .returned v ∧ OwnZ w' w.heap.size v (lowB n) ∧ Below w.heap.size w w' := by
 have HN := Aside0.mk (lowB_len n 8 hn)
 have HNN := Aside0.mk hn
 clear hn
 go_enter Tryz.func152, Tryz.ntmps152
 go_wp2
 go_loopw [0, 3] (fun u v wr => ∃ (m : Nat) (acc : List Int) (Av : Option Addr) (nv cv : Nat), u = .int .u64 (m : Int) ∧ v = .slice Av nv cv ∧ Aside0 (m < 256 ^ 8) ∧ Aside0 (Below w.heap.size w wr) ∧ Aside0 (acc ++ lowB m = lowB n) ∧ Aside0 (OwnZ wr w.heap.size (.slice Av nv cv) acc)) (fun u _ _ => (intOf u).toNat)
 case atStart => exact ⟨n, [], none, 0, 0, rfl, rfl, ⟨HNN.out⟩, ⟨Below.refl _ _⟩, ⟨rfl⟩, ⟨.inl ⟨rfl, rfl⟩⟩⟩
 case round =>
  obtain ⟨m, acc, Av, nv, cv, rfl, rfl, hm, HB, HA, HO⟩ := hrel
  by_cases h0 : 0 < m
  ·have hacc : acc.length + 1 ≤ 8 := by
    have h1 := HN.out
    rw [← HA.out, lowB_pos (by omega)] at h1
    simp at h1; omega
   have h0' : (0 : Int) < (m : Int) := by omega
   go_wp2_with ((with_reducible refine gate_builtin (b := .append) (xs := #[.tmp 8, .tmp 11]) rfl ?_); at_builtin; refine wpList_append_z w.heap.size rfl (.tmp 8) (.tmp 11) rfl _ acc ((m : Int) % 256) rfl rfl HO.out HB.out.size (by omega) ?_; intro v' w' ho hg)
   go_roundw
   case rel =>
    obtain ⟨A2, n2, c2, rfl⟩ := ho.form
    refine ⟨m / 256, acc ++ [(m : Int) % 256], A2, n2, c2, by go_num, rfl, ⟨by have := hm.out; omega⟩, ⟨(HB.out.alloc HB.out.size _).grown hg (by have := HB.out.size; simp; omega) (fun k hk => HO.out.lo k hk)⟩, ⟨?_⟩, ⟨ho⟩⟩
    rw [← HA.out, lowB_pos (n := m) (by omega)]
    simp
   case measure => simp [intOf]; omega
  ·obtain rfl : m = 0 := by omega
   have HZ := Aside0.mk (show acc = lowB n by have := HA.out; rw [lowB_zero, List.append_nil] at this; exact this)
   go_wp2
   go_ret
   exact ⟨_, rfl, by rw [← HZ.out]; exact HO.out, HB.out⟩
def pad8 (l : List Int) : List Int := l ++ List.replicate (8 - l.length) 0
theorem OwnZ.full {w : World} {base g n cap : Nat} {l : List Int} (h : OwnZ w base (.slice (some ⟨g, 0, none⟩) n cap) l) (m : Nat) (hm : l.length ≤ m) (hc : m ≤ cap) : Own w base (.slice (some ⟨g, 0, none⟩) m cap) (l ++ List.replicate (m - l.length) 0) := by
 rcases h with ⟨h, _⟩ | ⟨g', cap', cur, h0, h1, h2, h3, h4, h5⟩
 ·cases h
 ·simp only [Value.slice.injEq, Option.some.injEq, Addr.mk.injEq, and_true] at h0
  obtain ⟨rfl, _, rfl⟩ := h0
  refine Kd.R_of_own (enc := Value.int .u8) ?_ (fun _ _ => trivial)
  have hl : (l ++ List.replicate (m - l.length) (0 : Int)).length = m := by simp; omega
  refine ⟨by simp [encs], .inr ⟨g, cap, cur, by rw [hl], h1, h2, by omega, h4, ?_, ?_⟩⟩
  ·rw [← Array.length_toList, h5]; simp; omega
  ·rw [h5, hl, Nat.mul_one, List.take_append, List.length_map, List.take_of_length_le (by simp; omega), List.take_replicate]
   simp only [encs, List.map_append, List.map_replicate]
   congr 2
   omega
theorem own_form8 {w : World} {base : Nat} {v : Value} {l : List Int} (h : Own w base v l) (hl : l.length = 8) : ∃ g cap, v = .slice (some ⟨g, 0, none⟩) 8 cap ∧ 8 ≤ cap := by
 obtain ⟨A, c, e, hc, _⟩ := Kd.R_reads h
 obtain ⟨g, cap, e2, _⟩ := Kd.R_form h (by omega)
 rw [hl] at e2 hc e
 refine ⟨g, cap, e2, ?_⟩
 rw [e] at e2
 injection e2 with _ _ e3
 omega
theorem own_form8' {w : World} {base : Nat} {v : Value} {l : List Int} (h : Own w base v (l ++ List.replicate 8 0)) (hl : l.length ≤ 8) : ∃ g cap, v = .slice (some ⟨g, 0, none⟩) (l.length + 8) cap ∧ l.length + 8 ≤ cap ∧ Own w base (.slice (some ⟨g, 0, none⟩) 8 cap) (pad8 l) := by
 obtain ⟨A, c, e, hc, _⟩ := Kd.R_reads h
 obtain ⟨g, cap, e2, _⟩ := Kd.R_form h (by simp)
 have hlen : (l ++ List.replicate 8 (0 : Int)).length = l.length + 8 := by simp
 rw [hlen] at e2 hc e
 subst e2
 injection e with e1 _ e3
 refine ⟨g, cap, rfl, by omega, ?_⟩
 have ht := Kd.R_take (m := 8) h (by omega)
 have hp : (l ++ List.replicate 8 (0 : Int)).take 8 = pad8 l := by
  unfold pad8
  rw [List.take_append, List.take_of_length_le hl, List.take_replicate]
  congr 2; omega
 rw [hp] at ht
 exact ht
set_option maxHeartbeats 1000000 in
theorem grow8 (v : Value) (l : List Int) (base : Nat) (w : World) (h : OwnZ w base v l) (hl : l.length ≤ 8) (hb : base ≤ w.heap.size) :
  Calls Tryz.prog 151 #[v, .int .i64 8] w fun e w' => ∃ g cap, e = .returned (.slice (some ⟨g, 0, none⟩) l.length cap) ∧ 8 ≤ cap ∧ Own w' base (.slice (some ⟨g, 0, none⟩) 8 cap) (pad8 l) ∧ Below base w w' := by
 rcases h with ⟨rfl, rfl⟩ | ⟨g, cap, cur, rfl, h1, h2, h3, h4, h5⟩
 ·go_enter Tryz.func151, Tryz.ntmps151
  go_wp2_with ((with_reducible refine gate_builtin (b := .append) (xs := #[.tmp 20, .tmp 21]) rfl ?_); at_builtin; refine Kd.R_append_zeros (Kd.int .u8) (w0 := w) base rfl (.tmp 20) (.tmp 21) 23 3 5 (.int .u8 0) 1 rfl Tryz.underlying23 Tryz.underlying3 infoU8 rfl (by decide) (by decide) (.slice none 0 0) [] 0 8 (fun _ => True) rfl rfl rfl (fun _ _ => trivial) (Kd.R_nil _ _ _ _ _) (by decide) (Below.refl _ _) hb (by decide) ?_; intro v1 w1 ho hbl _ _; obtain ⟨g, cap, hv1, hc1⟩ := own_form8 ho (by simp); subst hv1)
  go_ret
  exact ⟨g, cap, rfl, hc1, ho, hbl⟩
 ·have HZ : OwnZ w base (.slice (some ⟨g, 0, none⟩) l.length cap) l := .inr ⟨g, cap, cur, rfl, h1, h2, h3, h4, h5⟩
  have hcm : (cap : Int) ≤ 9223372036854775807 := by unfold maxLen at h4; omega
  clear h1 h2 h4 h5
  by_cases hr : 8 ≤ cap - l.length
  ·have HO := Aside0.mk (HZ.full 8 (by omega) (by omega))
   have hr' : ¬ (0 : Int) < 8 - ((cap : Int) - (l.length : Int)) := by omega
   have hr2 : decide ((0 : Int) < 8 - ((cap : Int) - (l.length : Int))) = false := decide_eq_false hr'
   clear HZ
   go_enter Tryz.func151, Tryz.ntmps151
   go_wp2
   go_ret
   exact ⟨g, cap, rfl, by omega, HO.out, Below.refl _ _⟩
  ·have HO := Aside0.mk (HZ.full cap (by omega) (Nat.le_refl _))
   have hr' : (0 : Int) < 8 - ((cap : Int) - (l.length : Int)) := by omega
   have HE := Aside0.mk (show l ++ List.replicate (cap - l.length) (0 : Int) ++ List.replicate (8 - ((cap : Int) - (l.length : Int))).toNat 0 = l ++ List.replicate 8 0 by
    rw [List.append_assoc, List.replicate_append_replicate]; congr 2; omega)
   have hcl : (l ++ List.replicate (cap - l.length) (0 : Int)).length = cap := by simp; omega
   have HCL := Aside0.mk hcl
   clear HZ hcl
   go_enter Tryz.func151, Tryz.ntmps151
   go_wp2_with ((with_reducible refine gate_builtin (b := .append) (xs := #[.tmp 20, .tmp 21]) rfl ?_); at_builtin; refine Kd.R_append_zeros (Kd.int .u8) (w0 := w) base rfl (.tmp 20) (.tmp 21) 23 3 5 (.int .u8 0) 1 rfl Tryz.underlying23 Tryz.underlying3 infoU8 rfl (by decide) (by decide) _ _ 0 (8 - ((cap : Int) - (l.length : Int))) (fun _ => True) rfl rfl rfl (fun _ _ => trivial) HO.out (by omega) (Below.refl _ _) hb (by rw [HCL.out]; omega) ?_; intro v1 w1 ho hbl _ _; rw [HE.out] at ho; obtain ⟨g2, cap2, hv1, hc1, ho2⟩ := own_form8' ho hl; clear ho; subst hv1)
   go_ret
   exact ⟨g2, cap2, rfl, by omega, ho2, hbl⟩
def eightB (u : Nat) : List Int := pad8 (lowB u)
theorem eight_calls (u : Nat) (hu : u < 256 ^ 8) (w : World) :
  Calls Tryz.prog 102 #[.int .u64 (u : Int)] w fun e w' => ∃ v0_, e = .returned v0_ ∧ Own w' w.heap.size v0_ (eightB u) ∧ Below w.heap.size w w' := by
 have HL := Aside0.mk (lowB_len u 8 hu)
 have HU := Aside0.mk hu
 clear hu
 go_enter Tryz.func102, Tryz.ntmps102
 go_wp2_with fail
 refine (low_z u HU.out w).mono ?_
 rintro e w1 ⟨v, rfl, ho, hb⟩
 have HO := Aside0.mk ho
 have HB := Aside0.mk hb
 clear ho hb
 go_wp2_with fail
 refine (grow8 v (lowB u) w.heap.size w1 HO.out HL.out HB.out.size).mono ?_
 rintro e w2 ⟨g, cap, rfl, hc, ho2, hb2⟩
 have HO2 := Aside0.mk ho2
 have HB2 := Aside0.mk hb2
 have hc' : (8 : Int) ≤ (cap : Int) := by omega
 have hll := HL.out
 clear ho2 hb2
 go_wp2
 go_ret
 exact ⟨_, rfl, HO2.out, HB.out.trans HB2.out⟩
end Go.Proofs.YtgiefblcckikeaaGreat.M
namespace Go.Proofs.YtgiefblcckikeaaGreat.G
open Go.RowKit Go.Proofs.YtgiefblcckikeaaGreatW.PrintWords Go.Proofs.YtgiefblcckikeaaGreat.M
def shape_eight.f (a0 : Int) : Option (List Int) := if 0 ≤ a0 ∧ a0 ≤ 18446744073709551615 then some (eightB a0.toNat) else none
theorem shape_eight.calls (a0 : Int) (r : List Int) (w : World) (h : shape_eight.f a0 = some r) :
  Calls Tryz.prog 102 #[.int .u64 a0] w fun e w' => ∃ v0_ : Value, e = .returned (v0_) ∧ Kd.R (Kd.int .u8) 5 w' w.heap.size (fun _ => True) v0_ r ∧ Below w.heap.size w w' := by
 unfold shape_eight.f at h
 split at h
 ·rename_i hh
  obtain rfl := Option.some.inj h
  have := eight_calls a0.toNat (by omega) w
  rwa [show ((a0.toNat : Nat) : Int) = a0 from by omega] at this
 ·cases h
end Go.Proofs.YtgiefblcckikeaaGreat.G
end

section
-- Written by a program of this session's (wip/gprint.py over the kit's printer).
namespace Go.Proofs.YtgiefblcckikeaaGreat.G
open Go.RowKit Go.Proofs.YtgiefblcckikeaaGreatW.PrintWords Go.Proofs.YtgiefblcckikeaaGreatW.PrintLast Go.Proofs.YtgiefblcckikeaaGreatW.PrintMore
attribute [local go_sem] max2_int min2_int max_two min_two max_three min_three max_four min_four   -- for this text's walks alone
end Go.Proofs.YtgiefblcckikeaaGreat.G
end

section
-- Written by a program of this session's (wip/gprint.py over the kit's printer).
namespace Go.Proofs.YtgiefblcckikeaaGreat.G
open Go.RowKit Go.Proofs.YtgiefblcckikeaaGreatW.PrintWords Go.Proofs.YtgiefblcckikeaaGreatW.PrintLast Go.Proofs.YtgiefblcckikeaaGreatW.PrintMore
attribute [local go_sem] max2_int min2_int max_two min_two max_three min_three max_four min_four   -- for this text's walks alone
mutual
def shape_Check.l0 : Nat → Int → List (List Int) → Int → Int → Option (Int)
 | 0, _, _, _, _ => none
 | k + 1, x3, x8, x9, x10 => if x10 < x9 then (if 0 ≤ x10 then (if x10 < (x8.length : Int) then (shape_Check.l1 k x3 x8 x9 x10 (rd_L4 x8 x10) ((rd_L4 x8 x10).length : Int) 0) else (none)) else (none)) else (some x3)
def shape_Check.l1 : Nat → Int → List (List Int) → Int → Int → List Int → Int → Int → Option (Int)
 | 0, _, _, _, _, _, _, _ => none
 | k + 1, x3, x8, x9, x10, x14, x15, x16 => if x16 < x15 then (if 0 ≤ x16 then (if x16 < (x14.length : Int) then (shape_Check.l1 k (IntKind.u64.wrap ((Go.bits .xor .u64 x3 (IntKind.u64.wrap (rd x14 x16))) * 1099511628211)) x8 x9 x10 x14 x15 (wrap64 (x16 + 1))) else (none)) else (none)) else (shape_Check.l0 k x3 x8 x9 (wrap64 (x10 + 1)))
end
def shape_Check.f (k : Nat) (l0 : List (List Int)) : Option (Int) := shape_Check.l0 k 14695981039346656037 l0 (l0.length : Int) 0
set_option maxHeartbeats 8000000 in
set_option maxRecDepth 100000 in
theorem shape_Check.calls (k : Nat) (A0 : Option Addr) (c0 : Nat) (l0 : List (List Int)) (r : Int) (w : World) (hr0 : Kd.C (Kd.slice 5 (Kd.int .u8)) w A0 l0.length l0) (hc0 : l0.length ≤ c0) (h : shape_Check.f k l0 = some r) :
  Calls Tryz.prog 103 #[.slice A0 l0.length c0] w fun e w' => e = .returned (.int .u64 r) ∧ Drawn0 w w' := by
 have HR0 := Aside0.mk hr0
 have HC0 := Aside0.mk hc0
 clear hr0 hc0
 have H : (shape_Check.l0 k 14695981039346656037 l0 (l0.length : Int) 0) = some r := h
 clear h
 have H' := Aside0.mk H
 clear H
 go_enter Tryz.func103, Tryz.ntmps103
 go_wp2
 go_loopg [3, 10] k (fun kq v3 v10 w' => ∃ (x3_1 : Int) (x10_1 : Int), v3 = .int .u64 x3_1 ∧ v10 = .int .i64 x10_1 ∧ Aside0 (shape_Check.l0 kq x3_1 l0 (l0.length : Int) x10_1 = some r) ∧ Aside0 (kq ≤ k) ∧ Drawn0 w w')
 case atStart => exact ⟨(14695981039346656037), (0), (by first | rfl | (simp; done) | (simp [*]; done)), (by first | rfl | (simp; done) | (simp [*]; done)), H', ⟨Nat.le_refl _⟩, by repeat (first | exact Drawn0.refl _ | apply Drawn0.step)⟩
 case round =>
  clear H'
  try clear c1
  obtain ⟨x3_1, x10_1, rfl, rfl, HA, HK1, ⟨m1, rfl⟩⟩ := hrel
  cases gk with
  | zero => exact absurd HA.out (by simp [shape_Check.l0])
  | succ k1 =>
   have H := HA.out
   clear HA
   simp only [shape_Check.l0] at H
   by_cases c2 : x10_1 < (l0.length : Int)
   ·rw [if_pos c2] at H
    have c2b0 : decide (x10_1 < (l0.length : Int)) = true := decide_eq_true c2
    clear c2
    by_cases c3 : 0 ≤ x10_1
    ·rw [if_pos c3] at H
     have c3b0 : decide (0 ≤ x10_1) = true := decide_eq_true c3
     clear c3
     by_cases c4 : x10_1 < (l0.length : Int)
     ·rw [if_pos c4] at H
      have c4b0 : decide (x10_1 < (l0.length : Int)) = true := decide_eq_true c4
      clear c4
      have H' := Aside0.mk H
      clear H
      have p408 : 0 ≤ (x10_1 : Int) := of_decide_eq_true (by first | (with_reducible assumption) | assumption)
      have q408 : x10_1 < (l0.length : Int) := of_decide_eq_true (by first | (with_reducible assumption) | assumption)
      obtain ⟨ad408, A408_0, c408_0, e408, hx408_0, hl408_0, hi408_0⟩ := at_L4 HR0.out x10_1 p408 q408
      cases e408
      have HR408_0 := Aside0.mk hi408_0
      have HC408_0 := Aside0.mk hl408_0
      clear hi408_0 hl408_0
      replace p408 := eq_true p408
      replace q408 := eq_true q408
      go_wp2
      go_loopg [3, 16] k1 (fun kq v3 v16 w' => ∃ (x3_2 : Int) (x16_2 : Int), v3 = .int .u64 x3_2 ∧ v16 = .int .i64 x16_2 ∧ Aside0 (shape_Check.l1 kq x3_2 l0 (l0.length : Int) x10_1 (rd_L4 l0 x10_1) ((rd_L4 l0 x10_1).length : Int) x16_2 = some r) ∧ Aside0 (kq ≤ k1) ∧ Drawn0 w w')
      case atStart => exact ⟨(x3_1), (0), (by first | rfl | (simp; done) | (simp [*]; done)), (by first | rfl | (simp; done) | (simp [*]; done)), H', ⟨Nat.le_refl _⟩, by repeat (first | exact Drawn0.refl _ | apply Drawn0.step)⟩
      case round =>
       clear H'
       try clear c1
       try clear c2
       try clear c2b0
       try clear p2
       try clear c3
       try clear c3b0
       try clear c4
       try clear c4b0
       try clear p4
       try clear q4
       try clear hx4
       try clear hx408_0
       try clear p408
       try clear q408
       obtain ⟨x3_2, x16_2, rfl, rfl, HA, HK2, ⟨m2, rfl⟩⟩ := hrel
       cases gk with
       | zero => exact absurd HA.out (by simp [shape_Check.l1])
       | succ k2 =>
        have H := HA.out
        clear HA
        simp only [shape_Check.l1] at H
        by_cases c5 : x16_2 < ((rd_L4 l0 x10_1).length : Int)
        ·rw [if_pos c5] at H
         have c5b0 : decide (x16_2 < ((rd_L4 l0 x10_1).length : Int)) = true := decide_eq_true c5
         clear c5
         by_cases c6 : 0 ≤ x16_2
         ·rw [if_pos c6] at H
          have c6b0 : decide (0 ≤ x16_2) = true := decide_eq_true c6
          clear c6
          by_cases c7 : x16_2 < ((rd_L4 l0 x10_1).length : Int)
          ·rw [if_pos c7] at H
           have c7b0 : decide (x16_2 < ((rd_L4 l0 x10_1).length : Int)) = true := decide_eq_true c7
           clear c7
           have H' := Aside0.mk H
           clear H
           have p409 : 0 ≤ (x16_2 : Int) := of_decide_eq_true (by first | (with_reducible assumption) | assumption)
           have q409 : x16_2 < ((rd_L4 l0 x10_1).length : Int) := of_decide_eq_true (by first | (with_reducible assumption) | assumption)
           obtain ⟨ad409, e409, hx409_0⟩ := Kd.at_int HR408_0.out x16_2 p409 q409
           cases e409
           replace p409 := eq_true p409
           replace q409 := eq_true q409
           go_wp2
           go_roundg k2
           case measure => have := HK1.out; have := HK2.out; omega
           case rel => exact ⟨(IntKind.u64.wrap ((Go.bits .xor .u64 x3_2 (IntKind.u64.wrap (rd (rd_L4 l0 x10_1) x16_2))) * 1099511628211)), (wrap64 (x16_2 + 1)), (by first | rfl | (simp; done) | (simp [*]; done)), (by first | rfl | (simp; done) | (simp [*]; done)), H', ⟨by have := HK1.out; have := HK2.out; omega⟩, by repeat (first | exact Drawn0.refl _ | apply Drawn0.step)⟩
          ·rw [if_neg c7] at H
           exact absurd H (by simp)
         ·rw [if_neg c6] at H
          exact absurd H (by simp)
        ·rw [if_neg c5] at H
         have c5b0 : decide (x16_2 < ((rd_L4 l0 x10_1).length : Int)) = false := decide_eq_false c5
         clear c5
         have H' := Aside0.mk H
         clear H
         go_wp2
         go_roundg k2
         case measure => have := HK1.out; have := HK2.out; omega
         case rel => exact ⟨(x3_2), (wrap64 (x10_1 + 1)), (by first | rfl | (simp; done) | (simp [*]; done)), (by first | rfl | (simp; done) | (simp [*]; done)), H', ⟨by have := HK1.out; have := HK2.out; omega⟩, by repeat (first | exact Drawn0.refl _ | apply Drawn0.step)⟩
     ·rw [if_neg c4] at H
      exact absurd H (by simp)
    ·rw [if_neg c3] at H
     exact absurd H (by simp)
   ·rw [if_neg c2] at H
    have c2b0 : decide (x10_1 < (l0.length : Int)) = false := decide_eq_false c2
    clear c2
    obtain rfl := Option.some.inj H
    go_wp2
    go_ret
    exact ⟨by first | rfl | (simp; done) | (simp [*]; done), by repeat (first | exact Drawn0.refl _ | apply Drawn0.step)⟩
end Go.Proofs.YtgiefblcckikeaaGreat.G
end

section
-- Written by a program of this session's (wip/gprint.py over the kit's printer).
namespace Go.Proofs.YtgiefblcckikeaaGreat.G
open Go.RowKit Go.Proofs.YtgiefblcckikeaaGreatW.PrintWords Go.Proofs.YtgiefblcckikeaaGreatW.PrintLast Go.Proofs.YtgiefblcckikeaaGreatW.PrintMore
attribute [local go_sem] max2_int min2_int max_two min_two max_three min_three max_four min_four   -- for this text's walks alone
end Go.Proofs.YtgiefblcckikeaaGreat.G
end

section
-- Written by a program of this session's (wip/gprint.py over the kit's printer).
namespace Go.Proofs.YtgiefblcckikeaaGreat.G
open Go.RowKit Go.Proofs.YtgiefblcckikeaaGreatW.PrintWords Go.Proofs.YtgiefblcckikeaaGreatW.PrintLast Go.Proofs.YtgiefblcckikeaaGreatW.PrintMore
attribute [local go_sem] max2_int min2_int max_two min_two max_three min_three max_four min_four   -- for this text's walks alone
end Go.Proofs.YtgiefblcckikeaaGreat.G
end

section
/- An entry's and a message's form (the reference's) are entB, msgB. -/
namespace Go.Proofs.YtgiefblcckikeaaGreat.M
open Go.RowKit Go.Proofs.YtgiefblcckikeaaGreatW.PrintWords Go.Proofs.YtgiefblcckikeaaGreatW.PrintLast Go.Proofs.YtgiefblcckikeaaGreatW.PrintMore Go.Proofs.YtgiefblcckikeaaGreat.G
end Go.Proofs.YtgiefblcckikeaaGreat.M
end

section
/- Seals, in plain Lean: what both Seals write (printed by genseal04.py out of law01's rows). -/
namespace Go.Proofs.YtgiefblcckikeaaGreat.M
open Go.RowKit Go.Proofs.YtgiefblcckikeaaGreatW.PrintWords Go.Proofs.YtgiefblcckikeaaGreatW.PrintLast Go.Proofs.YtgiefblcckikeaaGreatW.PrintMore Go.Proofs.YtgiefblcckikeaaGreat.G
def chkFrom (h : Int) (l : List Int) : Int := l.foldl (fun h c => IntKind.u64.wrap ((Go.bits .xor .u64 h (IntKind.u64.wrap c)) * 1099511628211)) h
def chk (l : List Int) : Int := chkFrom 14695981039346656037 l
theorem chkFrom_cons (h c : Int) (l : List Int) : chkFrom h (c :: l) = chkFrom (IntKind.u64.wrap ((Go.bits .xor .u64 h (IntKind.u64.wrap c)) * 1099511628211)) l := rfl
theorem chkFrom_append (h : Int) (l m : List Int) : chkFrom h (l ++ m) = chkFrom (chkFrom h l) m := List.foldl_append ..
theorem check_l1 (d : Nat) : ∀ (k : Nat) (h : Int) (L : List (List Int)) (n i : Int) (x : List Int) (j : Nat), x.length - j = d → j ≤ x.length → (x.length : Int) ≤ 140737488355328 → d < k →
  shape_Check.l1 k h L n i x (x.length : Int) (j : Int) = shape_Check.l0 (k - d - 1) (chkFrom h (x.drop j)) L n (wrap64 (i + 1)) := by
 induction d with
 | zero =>
  intro k h L n i x j hd hj hx hk
  obtain ⟨k, rfl⟩ : ∃ m, k = m + 1 := ⟨k - 1, by omega⟩
  simp only [shape_Check.l1]
  rw [if_neg (by omega), List.drop_eq_nil_of_le (by omega)]
  rfl
 | succ d ih =>
  intro k h L n i x j hd hj hx hk
  obtain ⟨k, rfl⟩ : ∃ m, k = m + 1 := ⟨k - 1, by omega⟩
  have hlt : j < x.length := by omega
  simp only [shape_Check.l1]
  rw [if_pos (by omega), if_pos (by omega), if_pos (by omega)]
  have hw : wrap64 ((j : Int) + 1) = ((j + 1 : Nat) : Int) := by unfold wrap64; omega
  rw [hw, ih k _ L n i x (j + 1) (by omega) (by omega) hx (by omega), List.drop_eq_getElem_cons hlt, chkFrom_cons]
  have hr : rd x (j : Int) = x[j] := by simp [rd, List.getD_eq_getElem?_getD, List.getElem?_eq_getElem hlt]
  rw [hr]
  congr 1
  omega
theorem check_l0 (L : List (List Int)) (hL : (L.length : Int) ≤ 140737488355328) (hx : ∀ x ∈ L, (x.length : Int) ≤ 140737488355328) (d : Nat) : ∀ (i : Nat) (h : Int), L.length - i = d → i ≤ L.length →
  ∃ K, ∀ k, K ≤ k → shape_Check.l0 k h L (L.length : Int) (i : Int) = some (chkFrom h (L.drop i).flatten) := by
 induction d with
 | zero =>
  intro i h hd hi
  refine ⟨1, fun k hk => ?_⟩
  obtain ⟨k, rfl⟩ : ∃ m, k = m + 1 := ⟨k - 1, by omega⟩
  simp only [shape_Check.l0]
  rw [if_neg (by omega), List.drop_eq_nil_of_le (by omega)]
  rfl
 | succ d ih =>
  intro i h hd hi
  have hlt : i < L.length := by omega
  have hr : rd_L4 L (i : Int) = L[i] := by simp [rd_L4, List.getD_eq_getElem?_getD, List.getElem?_eq_getElem hlt]
  obtain ⟨K, hK⟩ := ih (i + 1) (chkFrom h L[i]) (by omega) (by omega)
  refine ⟨K + L[i].length + 2, fun k hk => ?_⟩
  obtain ⟨k, rfl⟩ : ∃ m, k = m + 1 := ⟨k - 1, by omega⟩
  simp only [shape_Check.l0]
  rw [if_pos (by omega), if_pos (by omega), if_pos (by omega), hr]
  have h1 := check_l1 L[i].length k h L (L.length : Int) (i : Int) L[i] 0 (by omega) (by omega) (hx _ (List.getElem_mem hlt)) (by omega)
  rw [show ((0 : Nat) : Int) = 0 from rfl] at h1
  rw [h1]
  have hw : wrap64 ((i : Int) + 1) = ((i + 1 : Nat) : Int) := by unfold wrap64; omega
  rw [hw, List.drop_zero, hK _ (by omega), List.drop_eq_getElem_cons hlt, List.flatten_cons, chkFrom_append]
theorem chk_f (L : List (List Int)) (hL : (L.length : Int) ≤ 140737488355328) (hx : ∀ x ∈ L, (x.length : Int) ≤ 140737488355328) : ∃ K, ∀ k, K ≤ k → shape_Check.f k L = some (chk L.flatten) := by
 obtain ⟨K, hK⟩ := check_l0 L hL hx L.length 0 14695981039346656037 (by omega) (by omega)
 exact ⟨K, fun k hk => by unfold shape_Check.f; exact hK k hk⟩
theorem chkFrom_range (h : Int) (l : List Int) (hh : 0 ≤ h ∧ h ≤ 18446744073709551615) : 0 ≤ chkFrom h l ∧ chkFrom h l ≤ 18446744073709551615 := by
 induction l generalizing h with
 | nil => exact hh
 | cons c l ih => rw [chkFrom_cons]; exact ih _ (by rw [IntKind.wrap_u64]; omega)
theorem chk_range (l : List Int) : 0 ≤ chk l ∧ chk l ≤ 18446744073709551615 := chkFrom_range _ l (by decide)
def sealB (l : List Int) : List Int := eightB (chk l).toNat
theorem ref_check_l0 (l : List Int) (hl : l.length < 140737488355328) (d : Nat) : ∀ (k j : Nat) (h : Int), l.length - j = d → j ≤ l.length → d < k → trivetref01_Check.l0 k l h (j : Int) = some (chkFrom h (l.drop j)) := by
 induction d with
 | zero =>
  intro k j h hd hj hk
  obtain ⟨k, rfl⟩ : ∃ q, k = q + 1 := ⟨k - 1, by omega⟩
  simp only [trivetref01_Check.l0]
  rw [if_neg (by omega), List.drop_eq_nil_of_le (by omega)]
  rfl
 | succ d ih =>
  intro k j h hd hj hk
  obtain ⟨k, rfl⟩ : ∃ q, k = q + 1 := ⟨k - 1, by omega⟩
  have hlt : j < l.length := by omega
  have hr : rd l (j : Int) = l[j] := by simp [rd, List.getD_eq_getElem?_getD, List.getElem?_eq_getElem hlt]
  have hw : wrap64 ((j : Int) + 1) = ((j + 1 : Nat) : Int) := by unfold wrap64; omega
  simp only [trivetref01_Check.l0]
  rw [if_pos (by omega), if_pos (by omega), hw, ih k (j + 1) _ (by omega) (by omega) (by omega), hr, List.drop_eq_getElem_cons hlt, chkFrom_cons]
theorem ref_check (l : List Int) (hl : l.length < 140737488355328) (k : Nat) (hk : l.length < k) : trivetref01_Check.f k l = some (chk l) := by
 unfold trivetref01_Check.f
 have := ref_check_l0 l hl l.length k 0 14695981039346656037 (by omega) (by omega) hk
 rw [show ((0 : Nat) : Int) = 0 from rfl, List.drop_zero] at this
 exact this
def padN : Nat → Nat → List Int
 | 0, _ => []
 | k + 1, n => ((n % 256 : Nat) : Int) :: padN k (n / 256)
theorem padN_low (k : Nat) : ∀ n, n < 256 ^ k → padN k n = lowB n ++ List.replicate (k - (lowB n).length) 0 := by
 induction k with
 | zero =>
  intro n hn
  obtain rfl : n = 0 := by simpa using hn
  simp [padN, lowB_zero]
 | succ k ih =>
  intro n hn
  have hi := ih (n / 256) (by rw [Nat.pow_succ] at hn; omega)
  by_cases h0 : n = 0
  ·subst h0
   simp only [padN, Nat.zero_mod, Nat.zero_div] at hi ⊢
   rw [hi, lowB_zero]
   simp [List.replicate_succ]
  ·rw [lowB_pos h0, padN, hi, List.length_cons, List.cons_append, Nat.add_sub_add_right]
theorem ref_low_l0 (n : Nat) (d : Nat) : ∀ (k j : Nat) (acc : List Int), 8 - j = d → j ≤ 8 → acc.length = j → d < k → trivetref01_low.l0 k (n : Int) acc (j : Int) = some (acc ++ padN d (n / 256 ^ j)) := by
 induction d with
 | zero =>
  intro k j acc hd hj ha hk
  obtain ⟨k, rfl⟩ : ∃ q, k = q + 1 := ⟨k - 1, by omega⟩
  simp only [trivetref01_low.l0]
  rw [if_neg (by omega)]
  simp [padN]
 | succ d ih =>
  intro k j acc hd hj ha hk
  obtain ⟨k, rfl⟩ : ∃ q, k = q + 1 := ⟨k - 1, by omega⟩
  have hw : wrap64 ((j : Int) + 1) = ((j + 1 : Nat) : Int) := by unfold wrap64; omega
  have hw8 : wrap64 (8 * (j : Int)) = ((8 * j : Nat) : Int) := by unfold wrap64; omega
  have hs : shr .u64 (n : Int) ((8 * j : Nat) : Int) % 256 = ((n / 256 ^ j % 256 : Nat) : Int) := by
   unfold shr
   have hb : IntKind.u64.bits = 64 := rfl
   have hp : (2 : Int) ^ (8 * j) = ((256 ^ j : Nat) : Int) := by
    rw [show (2 : Int) = ((2 : Nat) : Int) from rfl, ← Int.natCast_pow, Nat.pow_mul]
   rw [hb, Int.toNat_natCast, Nat.min_eq_left (by omega), hp]
   first | rfl | norm_cast
  simp only [trivetref01_low.l0]
  rw [if_pos (by omega), hw8, if_pos (by omega), if_pos (by omega), hs, hw, ih k (j + 1) _ (by omega) (by omega) (by simp; omega) (by omega), padN, List.append_assoc, List.singleton_append, Nat.div_div_eq_div_mul, Nat.pow_succ]
theorem ref_low (n : Int) (h : 0 ≤ n ∧ n ≤ 18446744073709551615) (k : Nat) (hk : 8 < k) : trivetref01_low.f k n = some (eightB n.toNat) := by
 unfold trivetref01_low.f
 have := ref_low_l0 n.toNat 8 k 0 [] (by omega) (by omega) rfl hk
 rw [show ((0 : Nat) : Int) = 0 from rfl, show ((n.toNat : Nat) : Int) = n from by omega] at this
 rw [this, Nat.pow_zero, Nat.div_one, padN_low 8 _ (by omega)]
 rfl
end Go.Proofs.YtgiefblcckikeaaGreat.M
end

section
/- slices.Equal of bytes, shape.Unseal (printed by genuns04.py out of law01's rows). -/
namespace Go.Proofs.YtgiefblcckikeaaGreat.M
open Go.RowKit Go.Proofs.YtgiefblcckikeaaGreatW.PrintWords Go.Proofs.YtgiefblcckikeaaGreatW.PrintLast Go.Proofs.YtgiefblcckikeaaGreatW.PrintMore Go.Proofs.YtgiefblcckikeaaGreat.G
set_option maxHeartbeats 1000000 in
theorem equal_calls (A : Option Addr) (c0 : Nat) (l0 : List Int) (B : Option Addr) (c1 : Nat) (l1 : List Int) (w : World) (hr0 : Kd.C (Kd.int .u8) w A l0.length l0) (hr1 : Kd.C (Kd.int .u8) w B l1.length l1) :
  Calls Tryz.prog 124 #[.slice A l0.length c0, .slice B l1.length c1] w fun e w' => e = .returned (.bool (decide (l0 = l1))) ∧ Drawn0 w w' := by
 have HR0 := Aside0.mk hr0
 have HR1 := Aside0.mk hr1
 have hm0 : (l0.length : Int) ≤ 9223372036854775807 := by have := Kd.C_max hr0; omega
 clear hr0 hr1
 by_cases hl : l0.length = l1.length
 ·have hl1 : ((l0.length : Int) != (l1.length : Int)) = false := by rw [bne_eq_false_iff_eq]; omega
  have HL := Aside0.mk hl
  clear hl
  go_enter Tryz.func124, Tryz.ntmps124
  go_wp2
  go_loopw [5, 13] (fun _ i wr => ∃ j : Nat, j ≤ l0.length ∧ i = .int .i64 (j : Int) ∧ Aside0 (l0.take j = l1.take j) ∧ Aside0 (Drawn0 w wr)) (fun _ i _ => l0.length - (intOf i).toNat)
  case atStart => exact ⟨0, Nat.zero_le _, rfl, ⟨rfl⟩, ⟨Drawn0.refl _⟩⟩
  case round =>
   obtain ⟨j, hj, rfl, HE, HD⟩ := hrel
   by_cases hlt : j < l0.length
   ·have hlt0 : (j : Int) < (l0.length : Int) := by omega
    have hlt1 : (j : Int) < (l1.length : Int) := by have := HL.out; omega
    have hj0 : (0 : Int) ≤ (j : Int) := by omega
    obtain ⟨ad0, hA, hx0⟩ := Kd.at_int (Kd.C_below HR0.out HD.out.below) (j : Int) hj0 hlt0
    obtain ⟨ad1, hB, hx1⟩ := Kd.at_int (Kd.C_below HR1.out HD.out.below) (j : Int) hj0 hlt1
    subst hA hB
    rw [Int.toNat_natCast] at hx0 hx1
    have HT0 := Aside0.mk (take_snoc_int l0 j hlt)
    have HT1 := Aside0.mk (take_snoc_int l1 j (by omega))
    by_cases he : rd l0 j = rd l1 j
    ·have he1 : (rd l0 j != rd l1 j) = false := bne_eq_false_iff_eq.2 he
     have HEE := Aside0.mk he
     clear he
     go_wp2
     go_quiet (fail)
     go_wp2
     go_roundw
     case rel => exact ⟨j + 1, by omega, by go_num, ⟨by rw [HT0.out, HT1.out, HE.out, HEE.out]⟩, ⟨HD.out.step _⟩⟩
     case measure => simp [intOf]; omega
    ·have he1 : (rd l0 j != rd l1 j) = true := bne_iff_ne.2 he
     have HF := Aside0.mk (show decide (l0 = l1) = false from decide_eq_false (fun e => he (by rw [e])))
     clear he
     go_wp2
     go_quiet (fail)
     go_wp2
     go_ret
     exact ⟨by rw [HF.out]; rfl, HD.out.step _⟩
   ·obtain rfl : j = l0.length := by omega
    have HF := Aside0.mk (show decide (l0 = l1) = true from decide_eq_true (by
     have := HE.out
     rw [List.take_length] at this
     rw [this, HL.out, List.take_length]))
    clear hlt
    go_wp2
    go_ret
    exact ⟨by rw [HF.out]; rfl, HD.out⟩
 ·have hl1 : ((l0.length : Int) != (l1.length : Int)) = true := by rw [bne_iff_ne]; omega
  have HF := Aside0.mk (show decide (l0 = l1) = false from decide_eq_false (fun e => hl (by rw [e])))
  clear hl
  go_enter Tryz.func124, Tryz.ntmps124
  go_wp2
  go_ret
  exact ⟨by rw [HF.out]; rfl, Drawn0.refl _⟩
def tail8 (l : List Int) : List Int := (l.take (blHi l + 8).toNat).drop (blHi l).toNat
def unE (l : List Int) : Int := if ¬ blE l 1048576 8 = 0 then blE l 1048576 8 else if sealB (blD l) = tail8 l then 0 else 12
def takeSeal (l : List Int) : List Int × Int × Int := if unE l = 0 then (blD l, blHi l + 8, 0) else ([], 0, unE l)
theorem C_row1 {w : World} {A : Option Addr} {c : Nat} {l : List Int} (h : Kd.C (Kd.int .u8) w A l.length l) (hc : l.length ≤ c) (e : TypeId) :
  Kd.C (Kd.slice 5 (Kd.int .u8)) (w.alloc (.cells #[.slice A l.length c] e)) (some ⟨w.heap.size, 0, none⟩) 1 [l] := by
 refine ⟨rfl, by omega, fun _ => ⟨_, rfl, fun j p hj => ?_⟩⟩
 cases j with
 | zero =>
  simp at hj
  subst hj
  refine ⟨[.slice A l.length c], rfl, ⟨A, c, rfl, hc, Kd.C_alloc h _⟩, fun i u hu => ?_⟩
  cases i with
  | zero => simp at hu; subst hu; rw [add_plain]; simp
  | succ i => simp at hu
 | succ j => simp at hj
theorem tail8_length {l : List Int} (h : 0 ≤ blHi l) (h8 : blHi l + 8 ≤ (l.length : Int)) : (tail8 l).length = (blHi l + 8).toNat - (blHi l).toNat := by
 unfold tail8
 rw [List.length_drop, List.length_take]
 omega
theorem tail_form {A : Option Addr} {c : Nat} {l : List Int} {w : World} (hr : Kd.C (Kd.int .u8) w A l.length l) (hc : l.length ≤ c) (h : 0 ≤ blHi l) (h8 : blHi l + 8 ≤ (l.length : Int)) :
  ∃ At ct, Value.slice (if c = (blHi l).toNat then A else A.map (·.add ((blHi l).toNat * 1))) ((blHi l + 8).toNat - (blHi l).toNat) (c - (blHi l).toNat) = .slice At (tail8 l).length ct ∧ (tail8 l).length ≤ ct ∧ Kd.C (Kd.int .u8) w At (tail8 l).length (tail8 l) := by
 refine ⟨_, c - (blHi l).toNat, ?_, ?_, Kd.C_mid (c := c) hr (by omega : (blHi l).toNat ≤ (blHi l + 8).toNat) (by omega) hc⟩
 ·rw [tail8_length h h8]
  rfl
 ·rw [tail8_length h h8]; omega
set_option maxHeartbeats 2000000 in
theorem takeseal1 (A : Option Addr) (c : Nat) (l : List Int) (w : World) (hr : Kd.C (Kd.int .u8) w A l.length l) (hc : l.length ≤ c) (hb : okB l = true) (hlen : l.length < 140737488355328) (b : Nat) (hx : Boxes b A c l.length (.slice none 0 0) (.int .i64 0) w) (hbs : b + 3 ≤ w.heap.size) :
  Calls Tryz.prog 121 #[.pointer (some ⟨b, 0, none⟩), .pointer (some ⟨b + 1, 0, none⟩), .pointer (some ⟨b + 2, 0, none⟩)] w fun e W => Keep2 b w W ∧
   (∃ v, W.cell? ⟨b + 1, 0, none⟩ = some v ∧ W.cell? ⟨b + 2, 0, none⟩ = some (.int .i64 (takeSeal l).2.1) ∧ W.frozen? ⟨b + 1, 0, none⟩ = false ∧ W.frozen? ⟨b + 2, 0, none⟩ = false ∧ Own W w.heap.size v (takeSeal l).1) ∧
   ((e = .returned (.tuple #[]) ∧ unE l = 0) ∨ e = .panicked [{ v := wrongV (unE l), recovered := false }]) := by
 have hT := blob_any A c l 1048576 8 w hr hc hb (by decide) (by decide) hlen
 obtain ⟨hb0, hn0, hn1, hs0, hs1⟩ := hx
 by_cases he : blE l 1048576 8 = 0
 ·obtain ⟨g1, g2, g3, g4, g5, g6⟩ := blE_good he
  obtain ⟨A', c', hV, hc', hr'⟩ := blobV_form hr hc ⟨g6, g5, by omega⟩
  have hl' : (blD l).length < 140737488355328 := by rw [blD_length ⟨g6, g5, by omega⟩]; omega
  have HT := Lib.hid (hT.mono (R' := fun e w' => w = w' ∧ e = .returned (.tuple #[.slice A' (blD l).length c', .int .i64 (blHi l)])) (by
   rintro e w' ⟨rfl, ⟨_, rfl⟩ | ⟨h, _⟩⟩
   ·exact ⟨rfl, by rw [hV]⟩
   ·exact absurd he h))
  have HR := Aside0.mk hr'
  have HRL := Aside0.mk hr
  have HU := Aside0.mk (show unE l = if sealB (blD l) = tail8 l then 0 else 12 by unfold unE; rw [if_neg (by omega)])
  obtain ⟨hi, HHI⟩ : ∃ hi, Aside0 (blHi l = hi) := ⟨_, ⟨rfl⟩⟩
  rw [HHI.out] at g4 g5 HT
  obtain ⟨K', hK⟩ := chk_f [blD l] (by simp) (by simp; omega)
  have HK := Aside0.mk (hK K' (Nat.le_refl _))
  rw [show ([blD l] : List (List Int)).flatten = blD l by simp] at HK
  obtain ⟨i0, hi0, hz0, hz1, hz2⟩ := info_parts infoU8
  have hcut := cut_mid (P := Tryz.prog) 23 5 .i64 .i64 Tryz.underlying23 hi0 1 hz1 A l.length c hi (hi + 8) (by omega) (by omega) (by omega) hc
  obtain ⟨At, ct, hVt, hct, hrt⟩ := tail_form (A := A) (c := c) (l := l) (w := w) hr hc (by rw [HHI.out]; omega) (by rw [HHI.out]; omega)
  have HRT := Aside0.mk hrt
  rw [HHI.out] at hVt
  rw [hVt] at hcut
  have HEI := Aside0.mk (show shape_eight.f (chk (blD l)) = some (sealB (blD l)) by unfold shape_eight.f sealB; rw [if_pos (chk_range _)])
  have hbl : b < w.heap.size := by omega
  have hw8 : IntKind.i64.wrap (hi + 8) = hi + 8 := by rw [IntKind.wrap_i64]; omega
  clear he hV hr' g1 g2 g3 hr hT hK hi0 hz0 hz1 hz2 hVt hrt
  go_enter Tryz.func121, Tryz.ntmps121
  go_wp2_with (go_at_call 122; refine HT.out.mono ?_; rintro e w' ⟨rfl, rfl⟩)
  by_cases heq : sealB (blD l) = tail8 l
  ·have HEQ := Aside0.mk (show decide (sealB (blD l) = tail8 l) = true from decide_eq_true heq)
   clear heq
   go_region_held3 (fun w' => w'.cell? ⟨b, 0, none⟩ = some (.slice A l.length c)) (go_keep) (first
    | (go_at_call 103; refine (shape_Check.calls K' _ 1 [blD l] _ _ (Kd.C_drew (C_row1 HR.out hc' _)) (Nat.le_refl 1) HK.out).mono ?_; rintro e w1 ⟨rfl, hd⟩; have q1 : w1.cell? ⟨b, 0, none⟩ = some (.slice A l.length c) := (hd.below.cell (by simp; omega)).trans (by simp [go_sem, hb0, hbl]); have HB1 := Aside0.mk (show Below w.heap.size w w1 from (((Below.refl _ _).alloc (Nat.le_refl _) _).drew.trans (hd.below.mono (by simp)))); clear hd)
    | (go_at_call 102; refine (shape_eight.calls (chk (blD l)) (sealB (blD l)) _ HEI.out).mono ?_; rintro e w2 ⟨v, rfl, ho, hb2⟩; obtain ⟨Av, cv, rfl, hcv, hrv⟩ := Kd.R_reads ho; have HRV := Aside0.mk hrv; have q2 : w2.cell? ⟨b, 0, none⟩ = some (.slice A l.length c) := (hb2.cell (by have := HB1.out.size; simp; omega)).trans q1; have HB2 := Aside0.mk (below_step HB1.out hb2); clear hb2 ho hrv)
    | (go_at_call 124; refine (equal_calls Av cv (sealB (blD l)) At ct (tail8 l) _ HRV.out (Kd.C_below HRT.out HB2.out)).mono ?_; rintro e w3 ⟨rfl, hd3⟩; rw [HEQ.out]; have q3 : w3.cell? ⟨b, 0, none⟩ = some (.slice A l.length c) := (hd3.below.cell (by have := HB2.out.size; simp; omega)).trans q2; have HB3 := Aside0.mk (below_step HB2.out hd3.below); clear hd3)
    | (go_at_call 123; refine (give_no _ _).mono ?_; rintro e w' ⟨rfl, rfl⟩))
   have HN := Aside0.mk (show takeSeal l = (blD l, hi + 8, 0) by
    unfold takeSeal; rw [HU.out, if_pos (of_decide_eq_true HEQ.out), if_pos rfl, HHI.out])
   have HZ := Aside0.mk (show unE l = 0 by rw [HU.out, if_pos (of_decide_eq_true HEQ.out)])
   have kn0 : w3.cell? ⟨b + 1, 0, none⟩ = some (.slice none 0 0) := (HB3.out.cell (by simp; omega)).trans hn0
   have ks0 : w3.cell? ⟨b + 2, 0, none⟩ = some (.int .i64 0) := (HB3.out.cell (by simp; omega)).trans hs0
   have kn1 : w3.frozen? ⟨b + 1, 0, none⟩ = false := (HB3.out.frozen (by simp; omega)).trans hn1
   have ks1 : w3.frozen? ⟨b + 2, 0, none⟩ = false := (HB3.out.frozen (by simp; omega)).trans hs1
   clear hn0 hs0 hn1 hs1 q1 q2 hw8 hcut
   go_wp2_with fail
   refine (clone_calls A' c' (blD l) _ (Kd.C_below HR.out HB3.out) hc' hl').mono ?_
   rintro e w4 ⟨v4, rfl, ho4, hb4⟩
   obtain ⟨A4, c4, rfl⟩ := Own.form ho4
   have HO4 := Aside0.mk ho4
   have HB4 := Aside0.mk (below_step HB3.out hb4)
   have hsz3 := HB3.out.size
   have k1 : w4.cell? ⟨b + 1, 0, none⟩ = some (.slice none 0 0) := (hb4.cell (by simp; omega)).trans kn0
   have k2 : w4.cell? ⟨b + 2, 0, none⟩ = some (.int .i64 0) := (hb4.cell (by simp; omega)).trans ks0
   have k3 : w4.frozen? ⟨b + 1, 0, none⟩ = false := (hb4.frozen (by simp; omega)).trans kn1
   have k4 : w4.frozen? ⟨b + 2, 0, none⟩ = false := (hb4.frozen (by simp; omega)).trans ks1
   have hw8 : IntKind.i64.wrap (hi + 8) = hi + 8 := by rw [IntKind.wrap_i64]; omega
   clear ho4 hb4 kn0 ks0 kn1 ks1 q3
   go_wp2
   go_end0
   rw [HN.out]
   refine ⟨((Keep2.of_below HB4.out).set1 _).set2 _, ⟨.slice A4 (blD l).length c4, ?_, ?_, ?_, ?_, ?_⟩, .inl ⟨rfl, HZ.out⟩⟩
   ·rw [World.cell?_setCell_other _ _ _ _ (by simp)]; exact World.cell?_setCell_same' _ _ _ (by rw [k1]; rfl)
   ·exact World.cell?_setCell_same' _ _ _ (by rw [World.cell?_setCell_other _ _ _ _ (by simp), k2]; rfl)
   ·simp [k3]
   ·simp [k4]
   ·exact ((HO4.out.lower hsz3).set (p := ⟨b + 1, 0, none⟩) (by show b + 1 < _; omega) _).set (p := ⟨b + 2, 0, none⟩) (by show b + 2 < _; omega) _
  ·have HEQ := Aside0.mk (show decide (sealB (blD l) = tail8 l) = false from decide_eq_false heq)
   have HN := Aside0.mk (show takeSeal l = ([], 0, 12) by unfold takeSeal; rw [HU.out, if_neg heq, if_neg (by decide)])
   have HZ := Aside0.mk (show unE l = 12 by rw [HU.out, if_neg heq])
   clear heq
   refine start_ (n := 12) (S := fun w' => w'.cell? ⟨b, 0, none⟩ = some (.slice A l.length c)) (ds := []) #[false, false, false, false, false, false, false, false, false, false, false, false] (by kernel_rfl) rfl rfl (by simpa using hb0) (fun hHeld => ?_)
   refine pure_ (i := 0) (N := some 10) (v := ?_) (a' := ?_) #[true, false, false, false, false, false, false, false, false, false, false, false] rfl rfl (by kernel_rfl) (fun _ _ _ h => h) (Or.inl ⟨by rfl, ?_⟩) ?_ ?_
   rotate_left
   ·intro w'
    go_simp
    try with_reducible rfl
   rotate_left
   ·simp only [Act.put, sq1, sq2, sq3, i64_w, i32_w]
    rfl
   refine pure_ (i := 5) (N := some 15) (v := ?_) (a' := ?_) #[true, false, false, false, false, true, false, false, false, false, false, false] rfl rfl (by kernel_rfl) (fun _ _ _ h => h) (Or.inl ⟨by rfl, ?_⟩) ?_ ?_
   rotate_left
   ·intro w'
    go_simp
    try with_reducible rfl
   rotate_left
   ·simp only [Act.put, sq1, sq2, sq3, i64_w, i32_w]
    rfl
   refine pure_ (i := 6) (N := some 16) (v := ?_) (a' := ?_) #[true, false, false, false, false, true, true, false, false, false, false, false] rfl rfl (by kernel_rfl) (fun _ _ _ h => h) (Or.inl ⟨by rfl, ?_⟩) ?_ ?_
   rotate_left
   ·intro w'
    go_simp
    try with_reducible rfl
   rotate_left
   ·simp only [Act.put, sq1, sq2, sq3, i64_w, i32_w]
    rfl
   refine pure_ (i := 7) (N := some 17) (v := ?_) (a' := ?_) #[true, false, false, false, false, true, true, true, false, false, false, false] rfl rfl (by kernel_rfl) (fun _ _ _ h => h) (Or.inl ⟨by rfl, ?_⟩) ?_ ?_
   rotate_left
   ·intro w'
    go_simp
    try with_reducible rfl
   rotate_left
   ·simp only [Act.put, sq1, sq2, sq3, i64_w, i32_w]
    rfl
   refine take_ (i := 4) (N := some 14) (v := ?_) (a' := ?_) #[true, false, false, false, true, true, true, true, false, false, false, false] rfl rfl (by kernel_rfl) (fun _ _ _ h => h) (Or.inl ⟨by rfl, ?_⟩) hHeld ?_ ?_
   rotate_left
   ·intro w' hS
    go_simp
    try with_reducible rfl
   rotate_left
   ·simp only [Act.put, sq1, sq2, sq3, i64_w, i32_w]
    rfl
   refine pure_ (i := 8) (N := some 18) (v := ?_) (a' := ?_) #[true, false, false, false, true, true, true, true, true, false, false, false] rfl rfl (by kernel_rfl) (fun _ _ _ h => h) (Or.inl ⟨by rfl, ?_⟩) ?_ ?_
   rotate_left
   ·intro w'
    go_simp
    try with_reducible rfl
   rotate_left
   ·simp only [Act.put, sq1, sq2, sq3, i64_w, i32_w]
    rfl
   refine one_ (i := 1) (N := some 11) #[true, true, false, false, true, true, true, true, true, false, false, false] rfl rfl (by kernel_rfl) (by decide) (fun K hK => ?_)
   go_simp
   refine hK.out _ _ (by simpa [go_sem, hbl] using hHeld) (fun hHeld => ?_)
   refine one_ (i := 2) (N := some 12) #[true, true, true, false, true, true, true, true, true, false, false, false] rfl rfl (by kernel_rfl) (by decide) (fun K hK => ?_)
   go_simp
   refine (shape_Check.calls K' _ 1 [blD l] _ _ (C_row1 (Kd.C_drew HR.out) hc' _) (Nat.le_refl 1) HK.out).mono ?_
   rintro e w1 ⟨rfl, hd⟩
   have HB1 := Aside0.mk (show Below w.heap.size w w1 from (((Below.refl _ _).drew.alloc (Nat.le_refl _) _).trans (hd.below.mono (by simp))))
   refine hK.out _ _ ((hd.below.cell (by simp; omega)).trans hHeld) (fun hHeld => ?_)
   refine one_ (i := 3) (N := some 13) #[true, true, true, true, true, true, true, true, true, false, false, false] rfl rfl (by kernel_rfl) (by decide) (fun K hK => ?_)
   go_simp
   refine (shape_eight.calls (chk (blD l)) (sealB (blD l)) _ HEI.out).mono ?_
   rintro e w2 ⟨v, rfl, ho, hb2⟩
   obtain ⟨Av, cv, rfl, hcv, hrv⟩ := Kd.R_reads ho
   have HRV := Aside0.mk hrv
   have HB2 := Aside0.mk (below_step HB1.out hb2)
   refine hK.out _ _ ((hb2.cell (by have := HB1.out.size; simp; omega)).trans hHeld) (fun hHeld => ?_)
   refine one_ (i := 9) (N := some 19) #[true, true, true, true, true, true, true, true, true, true, false, false] rfl rfl (by kernel_rfl) (by decide) (fun K hK => ?_)
   go_simp
   refine (equal_calls Av cv (sealB (blD l)) At ct (tail8 l) _ HRV.out (Kd.C_below HRT.out HB2.out)).mono ?_
   rintro e w3 ⟨rfl, hd3⟩
   rw [HEQ.out]
   have HB3 := Aside0.mk (below_step HB2.out hd3.below)
   refine hK.out _ _ ((hd3.below.cell (by have := HB2.out.size; simp; omega)).trans hHeld) (fun hHeld => ?_)
   refine pure_ (i := 10) (N := some 20) (v := ?_) (a' := ?_) #[true, true, true, true, true, true, true, true, true, true, true, false] rfl rfl (by kernel_rfl) (fun _ _ _ h => h) (Or.inl ⟨by rfl, ?_⟩) ?_ ?_
   rotate_left
   ·intro w'
    go_simp
    try with_reducible rfl
   rotate_left
   ·simp only [Act.put, sq1, sq2, sq3, i64_w, i32_w]
    rfl
   refine one_ (i := 11) (N := some 21) #[true, true, true, true, true, true, true, true, true, true, true, true] rfl rfl (by kernel_rfl) (by decide) (fun K hK => ?_)
   go_simp
   refine (give_yes _ _).mono ?_
   rintro e w' ⟨rfl, rfl⟩
   all_goals
    have kn0 : w3.cell? ⟨b + 1, 0, none⟩ = some (.slice none 0 0) := (HB3.out.cell (by simp; omega)).trans hn0
    have ks0 : w3.cell? ⟨b + 2, 0, none⟩ = some (.int .i64 0) := (HB3.out.cell (by simp; omega)).trans hs0
    have kn1 : w3.frozen? ⟨b + 1, 0, none⟩ = false := (HB3.out.frozen (by simp; omega)).trans hn1
    have ks1 : w3.frozen? ⟨b + 2, 0, none⟩ = false := (HB3.out.frozen (by simp; omega)).trans hs1
    dsimp only
    go_wp2
    rw [HN.out, HZ.out]
    exact ⟨rfl, Keep2.of_below HB3.out, ⟨_, kn0, ks0, kn1, ks1, Own.nil _ _⟩, .inr rfl⟩
 ·have HN := Aside0.mk (show takeSeal l = ([], 0, blE l 1048576 8) by
   have hu : unE l = blE l 1048576 8 := by unfold unE; rw [if_pos he]
   unfold takeSeal; rw [hu, if_neg he])
  have HU := Aside0.mk (show unE l = blE l 1048576 8 by unfold unE; rw [if_pos he])
  have HT := Lib.hid (hT.mono (R' := fun e w' => w = w' ∧ e = .panicked [{ v := wrongV (blE l 1048576 8), recovered := false }]) (by
   rintro e w' ⟨rfl, ⟨h, _⟩ | ⟨_, rfl⟩⟩
   ·exact absurd h he
   ·exact ⟨rfl, rfl⟩))
  clear he hr hT
  obtain ⟨er, HER⟩ : ∃ er, Aside0 (blE l 1048576 8 = er) := ⟨_, ⟨rfl⟩⟩
  rw [HER.out] at HT HN HU
  rw [HU.out]
  go_enter Tryz.func121, Tryz.ntmps121
  go_wp2_with (go_at_call 122; refine HT.out.mono ?_; rintro e w' ⟨rfl, rfl⟩)
  rw [HN.out]
  exact ⟨rfl, Keep2.refl _ _, ⟨_, hn0, hs0, hn1, hs1, Own.nil _ _⟩, .inr rfl⟩
end Go.Proofs.YtgiefblcckikeaaGreat.M
namespace Go.Proofs.YtgiefblcckikeaaGreat.M
open Go.RowKit Go.Proofs.YtgiefblcckikeaaGreatW.PrintWords
theorem takeSeal_calls (A : Option Addr) (c : Nat) (l : List Int) (w : World) (hr : Kd.C (Kd.int .u8) w A l.length l) (hc : l.length ≤ c) (hb : okB l = true) (hlen : l.length < 140737488355328) :
  Calls Tryz.prog 59 #[.slice A l.length c] w fun e w' => ∃ v0_ : Value, e = .returned (.tuple #[v0_, .int .i64 (takeSeal l).2.1, .int .i64 (takeSeal l).2.2]) ∧ Own w' w.heap.size v0_ (takeSeal l).1 ∧ Below w.heap.size w w' := by
 have HR := Aside0.mk hr
 have HC := Aside0.mk hc
 have HB := Aside0.mk hb
 have HL := Aside0.mk hlen
 clear hr hc hb hlen
 have hmf : ∀ (fn : Fn) (first cap : Array Value) (w : World), (Instr.makeFunc fn first cap).run Tryz.prog w = .ok (.func fn first cap) w := fun _ _ _ _ => rfl
 go_enter Tryz.func59, Tryz.ntmps59
 go_wp2_with fail
 have HX : Boxes w.heap.size A c l.length (.slice none 0 0) (.int .i64 0) ((((w.alloc (.cells #[.slice A l.length c] 23)).alloc (.cells #[.slice none 0 0] 23)).alloc (.cells #[.int .i64 0] 3)).alloc (.cells #[.int .i64 0] 36)) := by
  constructor <;> simp [go_sem]
 refine (try_calls 121 _ w.heap.size _ _ (unE l) (by simp) (enter_any _ _ _ Tryz.func121 rfl (by kernel_rfl))
  (takeseal1 A c l _ (Kd.C_alloc (Kd.C_alloc (Kd.C_alloc (Kd.C_alloc HR.out _) _) _) _) HC.out HB.out HL.out w.heap.size HX (by simp))).mono ?_
 rintro e w1 ⟨W, ⟨v, hn, hs, hnf, hsf, ho⟩, rfl, hk, hz, hbl, hg⟩
 simp only [World.size_alloc] at hz hbl hg ho
 obtain ⟨Av, cv, rfl⟩ := ho.form
 have hn1 : w1.cell? ⟨w.heap.size + 1, 0, none⟩ = some (.slice Av (takeSeal l).1.length cv) := (hbl.cell (by simp)).trans hn
 have hs1 : w1.cell? ⟨w.heap.size + 1 + 1, 0, none⟩ = some (.int .i64 (takeSeal l).2.1) := (hbl.cell (by simp)).trans hs
 have hnf1 : w1.frozen? ⟨w.heap.size + 1, 0, none⟩ = false := (hbl.frozen (by simp)).trans hnf
 have hsf1 : w1.frozen? ⟨w.heap.size + 1 + 1, 0, none⟩ = false := (hbl.frozen (by simp)).trans hsf
 have HO1 := Aside0.mk (show Own w1 (w.heap.size + 1 + 1 + 1 + 1) (.slice Av (takeSeal l).1.length cv) (takeSeal l).1 from
  Kd.R_mono (Kd.R_grown (Kd.R_bound ho) hg (fun k hk e => by have := hk.2.1; have := Option.some.inj e; omega)) (fun _ _ => trivial))
 have HBL := Aside0.mk (show Below w.heap.size w w1 from
  (((((Below.refl w.heap.size w).alloc (Nat.le_refl _) _).alloc (by simp) _).alloc (by simp; omega) _).trans (hk.below (by omega) (by simp; omega))).trans (hbl.mono (by omega)))
 have HT := Aside0.mk (show unE l = (takeSeal l).2.2 by unfold takeSeal; split <;> simp [*])
 obtain ⟨er, her⟩ : ∃ er, unE l = er := ⟨_, rfl⟩
 rw [her] at HT ⊢
 clear hn hs hnf hsf hk hz hbl HX hg ho her
 go_wp2
 go_region
 all_goals
  go_wp2
  refine bodyPost_ret (v := .tuple #[.slice Av (takeSeal l).1.length cv, .int .i64 (takeSeal l).2.1, .int .i64 er]) (by simp [results, Tryz.results59, go_sem, hn1, hs1]) rfl ⟨_, by rw [HT.out], ?_, ?_⟩
  ·refine Own.lower (base := w.heap.size + 1 + 1 + 1 + 1) ?_ (by omega)
   repeat first | exact HO1.out | apply Own.drew | refine Own.set ?_ (by first | (simp; done) | (simp; omega)) _
  ·repeat first | exact HBL.out | exact (by assumption) | apply Below.drew | refine Below.setCell ?_ (by first | (simp; done) | (simp; omega)) _
end Go.Proofs.YtgiefblcckikeaaGreat.M
namespace Go.Proofs.YtgiefblcckikeaaGreat.G
open Go.RowKit Go.Proofs.YtgiefblcckikeaaGreatW.PrintWords Go.Proofs.YtgiefblcckikeaaGreat.M
def shape_Unseal.f (l0 : List Int) : Option (List Int × Int × Int) := if okB l0 = true ∧ l0.length < 140737488355328 then some (takeSeal l0) else none
theorem shape_Unseal.calls (A0 : Option Addr) (c0 : Nat) (l0 : List Int) (r1 : List Int) (r2 : Int) (r3 : Int) (w : World) (hr0 : Kd.C (Kd.int .u8) w A0 l0.length l0) (hc0 : l0.length ≤ c0) (h : shape_Unseal.f l0 = some (r1, r2, r3)) :
  Calls Tryz.prog 59 #[.slice A0 l0.length c0] w fun e w' => ∃ v0_ : Value, e = .returned (.tuple #[v0_, .int .i64 r2, .int .i64 r3]) ∧ Kd.R (Kd.int .u8) 5 w' w.heap.size (fun _ => True) v0_ r1 ∧ Below w.heap.size w w' := by
 unfold shape_Unseal.f at h
 split at h
 ·rename_i hb
  have h := Option.some.inj h
  have h1 : r1 = (takeSeal l0).1 := by rw [h]
  have h2 : r2 = (takeSeal l0).2.1 := by rw [h]
  have h3 : r3 = (takeSeal l0).2.2 := by rw [h]
  rw [h1, h2, h3]
  exact takeSeal_calls A0 c0 l0 w hr0 hc0 hb.1 hb.2
 ·cases h
end Go.Proofs.YtgiefblcckikeaaGreat.G
end

section
/- record.Unmarshal (printed by genunm04.py). -/
attribute [local irreducible] Go.wpStill
namespace Go.Proofs.YtgiefblcckikeaaGreat.M
open Go.RowKit Go.Proofs.YtgiefblcckikeaaGreatW.PrintWords Go.Proofs.YtgiefblcckikeaaGreatW.PrintLast Go.Proofs.YtgiefblcckikeaaGreatW.PrintMore Go.Proofs.YtgiefblcckikeaaGreat.G
def unm (l : List Int) : MsgD × Int := if ¬ (takeSeal l).2.2 = 0 then (zM, (takeSeal l).2.2) else if (takeSeal l).2.1 < (l.length : Int) then (zM, 13) else takeMs (takeSeal l).1
def MsT (w : World) (y : MsgD) (er : Int) (e : Ending) (w' : World) : Prop := ∃ v8 v12 v16 : Value, e = .returned (.tuple #[.agg #[.int .i64 y.f0, .int .i64 y.f1, .int .i64 y.f2, .int .i64 y.f3, .int .i64 y.f4, .int .i64 y.f5, .int .i64 y.f6, .bool y.f7, v8, .int .i64 y.f9.f0, .int .i64 y.f9.f1, .int .i64 y.f9.f2, v12, .int .i64 y.f10.f0, .int .i64 y.f10.f1, .int .i64 y.f10.f2, v16], .int .i64 er]) ∧ Kd.R G.k63 63 w' w.heap.size (fun _ => True) v8 y.f8 ∧ Kd.R G.k26 26 w' w.heap.size (fun _ => True) v12 y.f9.f3 ∧ Kd.R (Kd.int .u8) 5 w' w.heap.size (fun _ => True) v16 y.f10.f3 ∧ Below w.heap.size w w'
theorem takeSeal_ok {l : List Int} (hb : okB l = true) (hl : l.length < 140737488355328) : okS ⟨(takeSeal l).1, 0, false⟩ := by
 unfold takeSeal
 split
 ·unfold blD
  refine ⟨okB_drop (okB_take hb _) _, ?_⟩
  show (List.drop _ (List.take _ l)).length < _
  rw [List.length_drop, List.length_take]
  omega
 ·exact (⟨rfl, by decide⟩ : okS ⟨[], 0, false⟩)
theorem setRow_below {w0 w : World} {b : Nat} {cs cs' : Array Value} {t : Nat} (hB : Below w0.heap.size w0 w) (hb : w0.heap.size ≤ b) : Below w0.heap.size w0 (w.setRow b cs') := by
 have hk : KeepS (fun k => k = b) w (w.setRow b cs') := ⟨rfl, rfl, rfl, by simp, fun i _ hi => setRow_other w b i cs' (fun e => hi e)⟩
 exact hB.trans (hk.below hB.size (by rintro i rfl; exact hb))
set_option maxHeartbeats 4000000 in
theorem unm_is (A : Option Addr) (c : Nat) (l : List Int) (w : World) (hr : Kd.C (Kd.int .u8) w A l.length l) (hc : l.length ≤ c) (hb : okB l = true) (hl : l.length < 140737488355328) :
  Calls Tryz.prog 25 #[.slice A l.length c] w fun e w' => MsT w (unm l).1 (unm l).2 e w' := by
 obtain ⟨d, hd⟩ : ∃ d, (takeSeal l).1 = d := ⟨_, rfl⟩
 obtain ⟨n, hn⟩ : ∃ n, (takeSeal l).2.1 = n := ⟨_, rfl⟩
 obtain ⟨er, her⟩ : ∃ er, (takeSeal l).2.2 = er := ⟨_, rfl⟩
 have hok := takeSeal_ok hb hl
 rw [hd] at hok
 have HOK := Lib.hid hok
 have HU := Lib.hid (show unm l = if ¬ er = 0 then (zM, er) else if n < (l.length : Int) then (zM, 13) else takeMs d by unfold unm; rw [hd, hn, her])
 have HS := Lib.hid (takeSeal_calls A c l (w.alloc (.cells #[.int .i64 0, .int .i64 0, .int .i64 0, .int .i64 0, .int .i64 0, .int .i64 0, .int .i64 0, .bool false, .slice none 0 0, .int .i64 0, .int .i64 0, .int .i64 0, .slice none 0 0, .int .i64 0, .int .i64 0, .int .i64 0, .slice none 0 0] 34)) (Kd.C_alloc hr _) hc hb hl)
 rw [hd, hn, her] at HS
 have hg := heap_alloc_new w (.cells #[.int .i64 0, .int .i64 0, .int .i64 0, .int .i64 0, .int .i64 0, .int .i64 0, .int .i64 0, .bool false, .slice none 0 0, .int .i64 0, .int .i64 0, .int .i64 0, .slice none 0 0, .int .i64 0, .int .i64 0, .int .i64 0, .slice none 0 0] 34)
 have hbz := (Below.refl _ w).alloc (Nat.le_refl _) (.cells #[.int .i64 0, .int .i64 0, .int .i64 0, .int .i64 0, .int .i64 0, .int .i64 0, .int .i64 0, .bool false, .slice none 0 0, .int .i64 0, .int .i64 0, .int .i64 0, .slice none 0 0, .int .i64 0, .int .i64 0, .int .i64 0, .slice none 0 0] 34)
 have hz : (w.alloc (.cells #[.int .i64 0, .int .i64 0, .int .i64 0, .int .i64 0, .int .i64 0, .int .i64 0, .int .i64 0, .bool false, .slice none 0 0, .int .i64 0, .int .i64 0, .int .i64 0, .slice none 0 0, .int .i64 0, .int .i64 0, .int .i64 0, .slice none 0 0] 34)).heap.size = w.heap.size + 1 := by simp
 clear hd hn her hok hr hc hb hl
 go_enter Tryz.func25, Tryz.ntmps25
 go_upto_region 1 with fail
 obtain ⟨wA, hw⟩ : ∃ W, w.alloc (.cells #[.int .i64 0, .int .i64 0, .int .i64 0, .int .i64 0, .int .i64 0, .int .i64 0, .int .i64 0, .bool false, .slice none 0 0, .int .i64 0, .int .i64 0, .int .i64 0, .slice none 0 0, .int .i64 0, .int .i64 0, .int .i64 0, .slice none 0 0] 34) = W := ⟨_, rfl⟩
 rw [hw] at HS hg hbz hz ⊢
 clear hw
 go_wp2_with fail
 refine HS.out.mono ?_
 rintro e w1 ⟨v, rfl, ho, hb1⟩
 obtain ⟨Ad, cd, rfl⟩ := Own.form ho
 have HO := Lib.hid (Kd.R_reads' ho)
 have HG := Lib.hid ((hb1.block w.heap.size (by omega)).trans hg)
 have HZ := Lib.hid (show w.heap.size < w1.heap.size by have := hb1.size; omega)
 have HB := Lib.hid (hbz.trans (hb1.mono (by omega)))
 clear ho hb1 hg hbz hz HS
 by_cases he : er = 0
 case neg =>
  have HR := Lib.hid (show unm l = (zM, er) by rw [HU.out, if_pos he])
  have q : (er != 0) = true := bne_iff_ne.2 he
  clear he HU
  go_upto_region 3 with fail
  refine wp_region_list ?_
  refine wpList_cut 2 ?_
  simp only [List.take_succ_cons, List.take_zero, List.drop_succ_cons, List.drop_zero]
  go_wp2_with fail
  refine Halt.mk ?_
  refine wpList_store_row rfl 34 (.tmp 2) (.tmp 18) rfl w.heap.size #[.int .i64 0, .int .i64 0, .int .i64 0, .int .i64 0, .int .i64 0, .int .i64 0, .int .i64 0, .bool false, .slice none 0 0, .int .i64 0, .int .i64 0, .int .i64 0, .slice none 0 0, .int .i64 0, .int .i64 0, .int .i64 0, .slice none 0 0] rfl rfl 34 #[.int .i64 0, .int .i64 0, .int .i64 0, .int .i64 0, .int .i64 0, .int .i64 0, .int .i64 0, .bool false, .slice none 0 0, .int .i64 0, .int .i64 0, .int .i64 0, .slice none 0 0, .int .i64 0, .int .i64 0, .int .i64 0, .slice none 0 0] HG.out (by kernel_rfl) rfl (by simp [Value.oneCell']) ?_
  have HEB := Lib.hid (setRow_heap w1 w.heap.size #[.int .i64 0, .int .i64 0, .int .i64 0, .int .i64 0, .int .i64 0, .int .i64 0, .int .i64 0, .bool false, .slice none 0 0, .int .i64 0, .int .i64 0, .int .i64 0, .slice none 0 0, .int .i64 0, .int .i64 0, .int .i64 0, .slice none 0 0] #[.int .i64 0, .int .i64 0, .int .i64 0, .int .i64 0, .int .i64 0, .int .i64 0, .int .i64 0, .bool false, .slice none 0 0, .int .i64 0, .int .i64 0, .int .i64 0, .slice none 0 0, .int .i64 0, .int .i64 0, .int .i64 0, .slice none 0 0] 34 (0, 0) HG.out)
  have HBE := Lib.hid (setRow_below (cs := #[.int .i64 0, .int .i64 0, .int .i64 0, .int .i64 0, .int .i64 0, .int .i64 0, .int .i64 0, .bool false, .slice none 0 0, .int .i64 0, .int .i64 0, .int .i64 0, .slice none 0 0, .int .i64 0, .int .i64 0, .int .i64 0, .slice none 0 0]) (cs' := #[.int .i64 0, .int .i64 0, .int .i64 0, .int .i64 0, .int .i64 0, .int .i64 0, .int .i64 0, .bool false, .slice none 0 0, .int .i64 0, .int .i64 0, .int .i64 0, .slice none 0 0, .int .i64 0, .int .i64 0, .int .i64 0, .slice none 0 0]) (t := 34) HB.out (Nat.le_refl _))
  obtain ⟨W, hW⟩ : ∃ W, w1.setRow w.heap.size #[.int .i64 0, .int .i64 0, .int .i64 0, .int .i64 0, .int .i64 0, .int .i64 0, .int .i64 0, .bool false, .slice none 0 0, .int .i64 0, .int .i64 0, .int .i64 0, .slice none 0 0, .int .i64 0, .int .i64 0, .int .i64 0, .slice none 0 0] = W := ⟨_, rfl⟩
  rw [hW] at HEB HBE ⊢
  clear hW
  go_wp2_with fail
  refine bodyPost_ret (results_ct rfl _ _ w.heap.size 34 #[.int .i64 0, .int .i64 0, .int .i64 0, .int .i64 0, .int .i64 0, .int .i64 0, .int .i64 0, .bool false, .slice none 0 0, .int .i64 0, .int .i64 0, .int .i64 0, .slice none 0 0, .int .i64 0, .int .i64 0, .int .i64 0, .slice none 0 0] (0, 0) _ rfl HEB.out Tryz.underlying34 rfl (by kernel_rfl)) rfl ?_
  rw [HR.out]
  exact ⟨_, _, _, rfl, Kd.R_nil _ _ _ _ _, Kd.R_nil _ _ _ _ _, Kd.R_nil _ _ _ _ _, HBE.out⟩
 case pos =>
  have q : (er != 0) = false := by rw [he]; rfl
  by_cases hn : n < (l.length : Int)
  case pos =>
   have HR := Lib.hid (show unm l = (zM, 13) by rw [HU.out, if_neg (fun q => q he), if_pos hn])
   have q2 : decide (n < (l.length : Int)) = true := decide_eq_true hn
   clear he hn HU
   go_upto_region 5 with fail
   refine wp_region_list ?_
   refine wpList_cut 1 ?_
   simp only [List.take_succ_cons, List.take_zero, List.drop_succ_cons, List.drop_zero]
   go_wp2_with fail
   refine Halt.mk ?_
   refine wpList_store_row rfl 34 (.tmp 2) (.tmp 24) rfl w.heap.size #[.int .i64 0, .int .i64 0, .int .i64 0, .int .i64 0, .int .i64 0, .int .i64 0, .int .i64 0, .bool false, .slice none 0 0, .int .i64 0, .int .i64 0, .int .i64 0, .slice none 0 0, .int .i64 0, .int .i64 0, .int .i64 0, .slice none 0 0] rfl rfl 34 #[.int .i64 0, .int .i64 0, .int .i64 0, .int .i64 0, .int .i64 0, .int .i64 0, .int .i64 0, .bool false, .slice none 0 0, .int .i64 0, .int .i64 0, .int .i64 0, .slice none 0 0, .int .i64 0, .int .i64 0, .int .i64 0, .slice none 0 0] HG.out (by kernel_rfl) rfl (by simp [Value.oneCell']) ?_
   have HEB := Lib.hid (setRow_heap w1 w.heap.size #[.int .i64 0, .int .i64 0, .int .i64 0, .int .i64 0, .int .i64 0, .int .i64 0, .int .i64 0, .bool false, .slice none 0 0, .int .i64 0, .int .i64 0, .int .i64 0, .slice none 0 0, .int .i64 0, .int .i64 0, .int .i64 0, .slice none 0 0] #[.int .i64 0, .int .i64 0, .int .i64 0, .int .i64 0, .int .i64 0, .int .i64 0, .int .i64 0, .bool false, .slice none 0 0, .int .i64 0, .int .i64 0, .int .i64 0, .slice none 0 0, .int .i64 0, .int .i64 0, .int .i64 0, .slice none 0 0] 34 (0, 0) HG.out)
   have HBE := Lib.hid (setRow_below (cs := #[.int .i64 0, .int .i64 0, .int .i64 0, .int .i64 0, .int .i64 0, .int .i64 0, .int .i64 0, .bool false, .slice none 0 0, .int .i64 0, .int .i64 0, .int .i64 0, .slice none 0 0, .int .i64 0, .int .i64 0, .int .i64 0, .slice none 0 0]) (cs' := #[.int .i64 0, .int .i64 0, .int .i64 0, .int .i64 0, .int .i64 0, .int .i64 0, .int .i64 0, .bool false, .slice none 0 0, .int .i64 0, .int .i64 0, .int .i64 0, .slice none 0 0, .int .i64 0, .int .i64 0, .int .i64 0, .slice none 0 0]) (t := 34) HB.out (Nat.le_refl _))
   obtain ⟨W, hW⟩ : ∃ W, w1.setRow w.heap.size #[.int .i64 0, .int .i64 0, .int .i64 0, .int .i64 0, .int .i64 0, .int .i64 0, .int .i64 0, .bool false, .slice none 0 0, .int .i64 0, .int .i64 0, .int .i64 0, .slice none 0 0, .int .i64 0, .int .i64 0, .int .i64 0, .slice none 0 0] = W := ⟨_, rfl⟩
   rw [hW] at HEB HBE ⊢
   clear hW
   go_wp2_with fail
   refine bodyPost_ret (results_ct rfl _ _ w.heap.size 34 #[.int .i64 0, .int .i64 0, .int .i64 0, .int .i64 0, .int .i64 0, .int .i64 0, .int .i64 0, .bool false, .slice none 0 0, .int .i64 0, .int .i64 0, .int .i64 0, .slice none 0 0, .int .i64 0, .int .i64 0, .int .i64 0, .slice none 0 0] (0, 0) _ rfl HEB.out Tryz.underlying34 rfl (by kernel_rfl)) rfl ?_
   rw [HR.out]
   exact ⟨_, _, _, rfl, Kd.R_nil _ _ _ _ _, Kd.R_nil _ _ _ _ _, Kd.R_nil _ _ _ _ _, HBE.out⟩
  case neg =>
   have q2 : decide (n < (l.length : Int)) = false := decide_eq_false hn
   have HR0 := Lib.hid (show unm l = takeMs d by rw [HU.out, if_neg (fun q => q he), if_neg hn])
   clear he hn HU
   obtain ⟨y, hy⟩ : ∃ y, (eMsg ⟨d, 0, false⟩).1 = y := ⟨_, rfl⟩
   obtain ⟨s', hs⟩ : ∃ t, (eMsg ⟨d, 0, false⟩).2 = t := ⟨_, rfl⟩
   have h0 := heap_alloc_new w1 (.cells #[.slice Ad d.length cd, .int .i64 0, .bool false] 81)
   have hb2 := (Below.refl _ w1).alloc (Nat.le_refl _) (.cells #[.slice Ad d.length cd, .int .i64 0, .bool false] 81)
   have hI : IsEye w1 (w1.alloc (.cells #[.slice Ad d.length cd, .int .i64 0, .bool false] 81)) w1.heap.size ⟨d, 0, false⟩ := ⟨Ad, cd, h0, Nat.le_refl _, HO.out.2.1, HO.out.2.2⟩
   have HN := Lib.hid (eMsg_is hI hb2 HOK.out)
   rw [hy, hs] at HN
   have HPI := Lib.hid (show isI64 y.f10.f2 by rw [← hy]; exact (okM_eMsg HOK.out).2.1)
   obtain ⟨e2, he2⟩ : ∃ e2, eEnds s' (mayMs y) true = e2 := ⟨_, rfl⟩
   have HR1 := Lib.hid (show unm l = if e2 = 0 then (y, 0) else (zM, e2) by rw [HR0.out]; unfold takeMs; unfold wholeOf; rw [hy, hs, he2])
   have HE2 := Lib.hid he2
   clear h0 hI hy hs he2 HR0
   go_wp2_with fail
   obtain ⟨w2, hw⟩ : ∃ W, w1.alloc (.cells #[.slice Ad d.length cd, .int .i64 0, .bool false] 81) = W := ⟨_, rfl⟩
   rw [hw] at HN hb2 ⊢
   refine HN.out.mono ?_
   rintro e w3 ⟨v8, v12, v16, rfl, r8, r12, r16, hI, hB, hK⟩
   obtain ⟨A8, c8, rfl⟩ := Kd.R_slice r8
   obtain ⟨A12, c12, rfl⟩ := Kd.R_slice r12
   obtain ⟨A16, c16, rfl⟩ := Kd.R_slice r16
   have HI := Lib.hid hI
   have HB3 := Lib.hid hB
   have HX2 := Lib.hid (show w1.heap.size < w2.heap.size by rw [← hw]; simp)
   have HX3 := Lib.hid (Nat.lt_of_lt_of_le HX2.out hK.size)
   have HZ2 := Lib.hid (show w.heap.size < w2.heap.size from Nat.lt_trans HZ.out HX2.out)
   clear hw
   have HSZ := Lib.hid (show w.heap.size ≤ w2.heap.size from Nat.le_trans (Nat.le_of_lt HZ.out) hb2.size)
   have HV8 := Lib.hid r8
   have HV12 := Lib.hid r12
   have HV16 := Lib.hid r16
   clear r8 r12 r16 hI hB hK hb2 HN q q2
   go_upto_region 8 with fail
   have hby := heap_alloc_new w3 (.cells #[.int .i64 y.f0, .int .i64 y.f1, .int .i64 y.f2, .int .i64 y.f3, .int .i64 y.f4, .int .i64 y.f5, .int .i64 y.f6, .bool y.f7, .slice A8 y.f8.length c8, .int .i64 y.f9.f0, .int .i64 y.f9.f1, .int .i64 y.f9.f2, .slice A12 y.f9.f3.length c12, .int .i64 y.f10.f0, .int .i64 y.f10.f1, .int .i64 y.f10.f2, .slice A16 y.f10.f3.length c16] 34)
   have hay := (Below.refl _ w3).alloc (Nat.le_refl _) (.cells #[.int .i64 y.f0, .int .i64 y.f1, .int .i64 y.f2, .int .i64 y.f3, .int .i64 y.f4, .int .i64 y.f5, .int .i64 y.f6, .bool y.f7, .slice A8 y.f8.length c8, .int .i64 y.f9.f0, .int .i64 y.f9.f1, .int .i64 y.f9.f2, .slice A12 y.f9.f3.length c12, .int .i64 y.f10.f0, .int .i64 y.f10.f1, .int .i64 y.f10.f2, .slice A16 y.f10.f3.length c16] 34)
   obtain ⟨w4, hw⟩ : ∃ W, w3.alloc (.cells #[.int .i64 y.f0, .int .i64 y.f1, .int .i64 y.f2, .int .i64 y.f3, .int .i64 y.f4, .int .i64 y.f5, .int .i64 y.f6, .bool y.f7, .slice A8 y.f8.length c8, .int .i64 y.f9.f0, .int .i64 y.f9.f1, .int .i64 y.f9.f2, .slice A12 y.f9.f3.length c12, .int .i64 y.f10.f0, .int .i64 y.f10.f1, .int .i64 y.f10.f2, .slice A16 y.f10.f3.length c16] 34) = W := ⟨_, rfl⟩
   rw [hw] at hby hay ⊢
   clear hw
   have HI4 := Lib.hid (HI.out.below hay)
   have HB4 := Lib.hid (HB3.out.trans (hay.mono HB3.out.size))
   have HW8 := Lib.hid (Kd.R_below HV8.out hay)
   have HW12 := Lib.hid (Kd.R_below HV12.out hay)
   have HW16 := Lib.hid (Kd.R_below HV16.out hay)
   obtain ⟨g, hg⟩ : ∃ g, w3.heap.size = g := ⟨_, rfl⟩
   have hxg : w1.heap.size < g := by rw [← hg]; exact HX3.out
   have hgz : g < w4.heap.size := by rw [← hg]; exact (Array.getElem?_eq_some_iff.1 hby).1
   rw [hg] at hby ⊢
   have HY4 := Lib.hid hby
   have HGZ := Lib.hid hgz
   clear hby hay hg hgz HI HB3 HV8 HV12 HV16
   have HXG := Lib.hid hxg
   clear hxg
   have HY5 := HY4; have HI5 := HI4; have HB5 := HB4; have HGZ5 := HGZ
   have HX8 := HW8
   have HX12 := HW12
   have HX16 := HW16
   clear HI4 HB4 HY4 HW8 HW12 HW16 HGZ
   refine wp_region_list ?_
   refine wpList_cut 1 ?_
   simp only [List.take_succ_cons, List.take_zero, List.drop_succ_cons, List.drop_zero]
   go_wp2_with fail
   refine Halt.mk ?_
   refine wpList_load_row rfl 34 (.tmp 8) rfl g rfl 34 #[.int .i64 y.f0, .int .i64 y.f1, .int .i64 y.f2, .int .i64 y.f3, .int .i64 y.f4, .int .i64 y.f5, .int .i64 y.f6, .bool y.f7, .slice A8 y.f8.length c8, .int .i64 y.f9.f0, .int .i64 y.f9.f1, .int .i64 y.f9.f2, .slice A12 y.f9.f3.length c12, .int .i64 y.f10.f0, .int .i64 y.f10.f1, .int .i64 y.f10.f2, .slice A16 y.f10.f3.length c16] (0, 0) _ HY5.out Tryz.underlying34 rfl (by kernel_rfl) ?_
   go_wp2_with fail
   have hm : MsgC w4 y A8 c8 A12 c12 A16 c16 := ⟨(Kd.R_reads' HX8.out).2.1, (Kd.R_reads' HX8.out).2.2, (Kd.R_reads' HX12.out).2.1, (Kd.R_reads' HX12.out).2.2, (Kd.R_reads' HX16.out).2.1, (Kd.R_reads' HX16.out).2.2⟩
   refine (msg_is y hm HPI.out).mono ?_
   rintro e w6 ⟨rfl, hb⟩
   have HI6 := Lib.hid (HI5.out.below hb)
   have HB6 := Lib.hid (HB5.out.trans (hb.mono HB5.out.size))
   have HY6 := Lib.hid ((hb.block g HGZ5.out).trans HY5.out)
   have HU8 := Lib.hid (Kd.R_below HX8.out hb)
   have HU12 := Lib.hid (Kd.R_below HX12.out hb)
   have HU16 := Lib.hid (Kd.R_below HX16.out hb)
   have HG6 := Lib.hid ((HB6.out.block w.heap.size HZ.out).trans HG.out)
   have HBW := Lib.hid (HB.out.trans (HB6.out.mono (Nat.le_of_lt HZ.out)))
   clear hm hb HI5 HB5 HY5 HX8 HX12 HX16 HGZ5
   have HE := eEnds_is HI6.out (mayMs y) true
   rw [HE2.out] at HE
   have HE := Lib.hid HE
   go_wp2_with fail
   refine HE.out.mono ?_
   rintro e w7 ⟨rfl, rfl⟩
   clear HE
   by_cases he : e2 = 0
   case pos =>
    have HR := Lib.hid (show unm l = (y, 0) by rw [HR1.out, if_pos he])
    have q : (e2 != 0) = false := by rw [he]; rfl
    clear he HR1
    go_upto_region 11 with fail
    refine wp_region_list ?_
    refine wpList_load_row rfl 34 (.tmp 8) rfl g rfl 34 #[.int .i64 y.f0, .int .i64 y.f1, .int .i64 y.f2, .int .i64 y.f3, .int .i64 y.f4, .int .i64 y.f5, .int .i64 y.f6, .bool y.f7, .slice A8 y.f8.length c8, .int .i64 y.f9.f0, .int .i64 y.f9.f1, .int .i64 y.f9.f2, .slice A12 y.f9.f3.length c12, .int .i64 y.f10.f0, .int .i64 y.f10.f1, .int .i64 y.f10.f2, .slice A16 y.f10.f3.length c16] (0, 0) _ HY6.out Tryz.underlying34 rfl (by kernel_rfl) ?_
    refine wpList_store_row rfl 34 (.tmp 2) (.tmp 38) rfl w.heap.size #[.int .i64 y.f0, .int .i64 y.f1, .int .i64 y.f2, .int .i64 y.f3, .int .i64 y.f4, .int .i64 y.f5, .int .i64 y.f6, .bool y.f7, .slice A8 y.f8.length c8, .int .i64 y.f9.f0, .int .i64 y.f9.f1, .int .i64 y.f9.f2, .slice A12 y.f9.f3.length c12, .int .i64 y.f10.f0, .int .i64 y.f10.f1, .int .i64 y.f10.f2, .slice A16 y.f10.f3.length c16] rfl rfl 34 #[.int .i64 0, .int .i64 0, .int .i64 0, .int .i64 0, .int .i64 0, .int .i64 0, .int .i64 0, .bool false, .slice none 0 0, .int .i64 0, .int .i64 0, .int .i64 0, .slice none 0 0, .int .i64 0, .int .i64 0, .int .i64 0, .slice none 0 0] HG6.out (by kernel_rfl) rfl (by simp [Value.oneCell']) ?_
    have HEB := Lib.hid (setRow_heap w7 w.heap.size #[.int .i64 0, .int .i64 0, .int .i64 0, .int .i64 0, .int .i64 0, .int .i64 0, .int .i64 0, .bool false, .slice none 0 0, .int .i64 0, .int .i64 0, .int .i64 0, .slice none 0 0, .int .i64 0, .int .i64 0, .int .i64 0, .slice none 0 0] #[.int .i64 y.f0, .int .i64 y.f1, .int .i64 y.f2, .int .i64 y.f3, .int .i64 y.f4, .int .i64 y.f5, .int .i64 y.f6, .bool y.f7, .slice A8 y.f8.length c8, .int .i64 y.f9.f0, .int .i64 y.f9.f1, .int .i64 y.f9.f2, .slice A12 y.f9.f3.length c12, .int .i64 y.f10.f0, .int .i64 y.f10.f1, .int .i64 y.f10.f2, .slice A16 y.f10.f3.length c16] 34 (0, 0) HG6.out)
    have HBE := Lib.hid (setRow_below (cs := #[.int .i64 0, .int .i64 0, .int .i64 0, .int .i64 0, .int .i64 0, .int .i64 0, .int .i64 0, .bool false, .slice none 0 0, .int .i64 0, .int .i64 0, .int .i64 0, .slice none 0 0, .int .i64 0, .int .i64 0, .int .i64 0, .slice none 0 0]) (cs' := #[.int .i64 y.f0, .int .i64 y.f1, .int .i64 y.f2, .int .i64 y.f3, .int .i64 y.f4, .int .i64 y.f5, .int .i64 y.f6, .bool y.f7, .slice A8 y.f8.length c8, .int .i64 y.f9.f0, .int .i64 y.f9.f1, .int .i64 y.f9.f2, .slice A12 y.f9.f3.length c12, .int .i64 y.f10.f0, .int .i64 y.f10.f1, .int .i64 y.f10.f2, .slice A16 y.f10.f3.length c16]) (t := 34) HBW.out (Nat.le_refl _))
    obtain ⟨W, hW⟩ : ∃ W, w7.setRow w.heap.size #[.int .i64 y.f0, .int .i64 y.f1, .int .i64 y.f2, .int .i64 y.f3, .int .i64 y.f4, .int .i64 y.f5, .int .i64 y.f6, .bool y.f7, .slice A8 y.f8.length c8, .int .i64 y.f9.f0, .int .i64 y.f9.f1, .int .i64 y.f9.f2, .slice A12 y.f9.f3.length c12, .int .i64 y.f10.f0, .int .i64 y.f10.f1, .int .i64 y.f10.f2, .slice A16 y.f10.f3.length c16] = W := ⟨_, rfl⟩
    rw [hW] at HEB HBE ⊢
    have hkp : ∀ k, k < w7.heap.size → k ≠ w.heap.size → W.heap[k]? = w7.heap[k]? := fun k _ hne => by rw [← hW]; exact setRow_other w7 w.heap.size k _ hne
    have HQ8 := Lib.hid (Kd.R_mono (Kd.R_step (Kd.R_lower (Kd.R_bound HU8.out) HSZ.out) (fun k hk hlt => hkp k hlt (by have h1 := hk.2.1; have h2 := HZ2.out; omega))) (fun _ _ => trivial) : Kd.R G.k63 63 W w.heap.size (fun _ => True) _ _)
    have HQ12 := Lib.hid (Kd.R_mono (Kd.R_step (Kd.R_lower (Kd.R_bound HU12.out) HSZ.out) (fun k hk hlt => hkp k hlt (by have h1 := hk.2.1; have h2 := HZ2.out; omega))) (fun _ _ => trivial) : Kd.R G.k26 26 W w.heap.size (fun _ => True) _ _)
    have HQ16 := Lib.hid (Kd.R_mono (Kd.R_step (Kd.R_lower (Kd.R_bound HU16.out) HSZ.out) (fun k hk hlt => hkp k hlt (by have h1 := hk.2.1; have h2 := HZ2.out; omega))) (fun _ _ => trivial) : Kd.R (Kd.int .u8) 5 W w.heap.size (fun _ => True) _ _)
    clear hkp
    clear hW
    go_wp2_with fail
    refine bodyPost_ret (results_ct rfl _ _ w.heap.size 34 #[.int .i64 y.f0, .int .i64 y.f1, .int .i64 y.f2, .int .i64 y.f3, .int .i64 y.f4, .int .i64 y.f5, .int .i64 y.f6, .bool y.f7, .slice A8 y.f8.length c8, .int .i64 y.f9.f0, .int .i64 y.f9.f1, .int .i64 y.f9.f2, .slice A12 y.f9.f3.length c12, .int .i64 y.f10.f0, .int .i64 y.f10.f1, .int .i64 y.f10.f2, .slice A16 y.f10.f3.length c16] (0, 0) _ rfl HEB.out Tryz.underlying34 rfl (by kernel_rfl)) rfl ?_
    rw [HR.out]
    exact ⟨_, _, _, rfl, HQ8.out, HQ12.out, HQ16.out, HBE.out⟩
   case neg =>
    have HR := Lib.hid (show unm l = (zM, e2) by rw [HR1.out, if_neg he])
    have q : (e2 != 0) = true := bne_iff_ne.2 he
    clear he HR1
    go_upto_region 10 with fail
    refine wp_region_list ?_
    refine wpList_cut 2 ?_
    simp only [List.take_succ_cons, List.take_zero, List.drop_succ_cons, List.drop_zero]
    go_wp2_with fail
    refine Halt.mk ?_
    refine wpList_store_row rfl 34 (.tmp 2) (.tmp 36) rfl w.heap.size #[.int .i64 0, .int .i64 0, .int .i64 0, .int .i64 0, .int .i64 0, .int .i64 0, .int .i64 0, .bool false, .slice none 0 0, .int .i64 0, .int .i64 0, .int .i64 0, .slice none 0 0, .int .i64 0, .int .i64 0, .int .i64 0, .slice none 0 0] rfl rfl 34 #[.int .i64 0, .int .i64 0, .int .i64 0, .int .i64 0, .int .i64 0, .int .i64 0, .int .i64 0, .bool false, .slice none 0 0, .int .i64 0, .int .i64 0, .int .i64 0, .slice none 0 0, .int .i64 0, .int .i64 0, .int .i64 0, .slice none 0 0] HG6.out (by kernel_rfl) rfl (by simp [Value.oneCell']) ?_
    have HEB := Lib.hid (setRow_heap w7 w.heap.size #[.int .i64 0, .int .i64 0, .int .i64 0, .int .i64 0, .int .i64 0, .int .i64 0, .int .i64 0, .bool false, .slice none 0 0, .int .i64 0, .int .i64 0, .int .i64 0, .slice none 0 0, .int .i64 0, .int .i64 0, .int .i64 0, .slice none 0 0] #[.int .i64 0, .int .i64 0, .int .i64 0, .int .i64 0, .int .i64 0, .int .i64 0, .int .i64 0, .bool false, .slice none 0 0, .int .i64 0, .int .i64 0, .int .i64 0, .slice none 0 0, .int .i64 0, .int .i64 0, .int .i64 0, .slice none 0 0] 34 (0, 0) HG6.out)
    have HBE := Lib.hid (setRow_below (cs := #[.int .i64 0, .int .i64 0, .int .i64 0, .int .i64 0, .int .i64 0, .int .i64 0, .int .i64 0, .bool false, .slice none 0 0, .int .i64 0, .int .i64 0, .int .i64 0, .slice none 0 0, .int .i64 0, .int .i64 0, .int .i64 0, .slice none 0 0]) (cs' := #[.int .i64 0, .int .i64 0, .int .i64 0, .int .i64 0, .int .i64 0, .int .i64 0, .int .i64 0, .bool false, .slice none 0 0, .int .i64 0, .int .i64 0, .int .i64 0, .slice none 0 0, .int .i64 0, .int .i64 0, .int .i64 0, .slice none 0 0]) (t := 34) HBW.out (Nat.le_refl _))
    obtain ⟨W, hW⟩ : ∃ W, w7.setRow w.heap.size #[.int .i64 0, .int .i64 0, .int .i64 0, .int .i64 0, .int .i64 0, .int .i64 0, .int .i64 0, .bool false, .slice none 0 0, .int .i64 0, .int .i64 0, .int .i64 0, .slice none 0 0, .int .i64 0, .int .i64 0, .int .i64 0, .slice none 0 0] = W := ⟨_, rfl⟩
    rw [hW] at HEB HBE ⊢
    clear hW
    go_wp2_with fail
    refine bodyPost_ret (results_ct rfl _ _ w.heap.size 34 #[.int .i64 0, .int .i64 0, .int .i64 0, .int .i64 0, .int .i64 0, .int .i64 0, .int .i64 0, .bool false, .slice none 0 0, .int .i64 0, .int .i64 0, .int .i64 0, .slice none 0 0, .int .i64 0, .int .i64 0, .int .i64 0, .slice none 0 0] (0, 0) _ rfl HEB.out Tryz.underlying34 rfl (by kernel_rfl)) rfl ?_
    rw [HR.out]
    exact ⟨_, _, _, rfl, Kd.R_nil _ _ _ _ _, Kd.R_nil _ _ _ _ _, Kd.R_nil _ _ _ _ _, HBE.out⟩
end Go.Proofs.YtgiefblcckikeaaGreat.M
end

section
/- Sealed bytes are taken back; a beginning of them, and changed ones, are not (printed by genuns04.py out of law01's rows). -/
namespace Go.Proofs.YtgiefblcckikeaaGreat.M
open Go.RowKit Go.Proofs.YtgiefblcckikeaaGreatW.PrintWords Go.Proofs.YtgiefblcckikeaaGreatW.PrintLast Go.Proofs.YtgiefblcckikeaaGreatW.PrintMore Go.Proofs.YtgiefblcckikeaaGreat.G
theorem zeros_ok (n : Nat) : okB (List.replicate n 0) = true := by
 unfold okB
 rw [List.all_eq_true]
 intro x hx
 rw [(List.mem_replicate.1 hx).2]
 rfl
theorem sealB_ok (l : List Int) : okB (sealB l) = true := okB_append (lowB_ok _) (zeros_ok _)
end Go.Proofs.YtgiefblcckikeaaGreat.M
end

section
/- trivetref01.Unseal (printed by genuns04.py out of law01's rows). -/
namespace Go.Proofs.YtgiefblcckikeaaGreat.M
open Go.RowKit Go.Proofs.YtgiefblcckikeaaGreatW.PrintWords Go.Proofs.YtgiefblcckikeaaGreatW.PrintLast Go.Proofs.YtgiefblcckikeaaGreatW.PrintMore Go.Proofs.YtgiefblcckikeaaGreat.G
set_option maxHeartbeats 4000000 in
theorem refUnseal_calls (A : Option Addr) (c : Nat) (l : List Int) (w : World) (hr : Kd.C (Kd.int .u8) w A l.length l) (hc : l.length ≤ c) (hb : okB l = true) (hlen : l.length < 140737488355328) :
  Calls Tryz.prog 61 #[.slice A l.length c] w fun e w' => ∃ v0_ : Value, e = .returned (.tuple #[v0_, .int .i64 (takeSeal l).2.1, .int .i64 (takeSeal l).2.2]) ∧ Own w' w.heap.size v0_ (takeSeal l).1 ∧ Below w.heap.size w w' := by
 have HR := Aside0.mk hr
 have HC := Aside0.mk hc
 have HLEN := Aside0.mk hlen
 obtain ⟨T1, T2, T3, HTS⟩ : ∃ T1 T2 T3, Aside0 (takeSeal l = (T1, T2, T3)) := ⟨_, _, _, ⟨rfl⟩⟩
 rw [HTS.out]
 obtain ⟨x1, x2, x3, hx⟩ : ∃ x1 x2 x3, takeNum l = (x1, x2, x3) := ⟨_, _, _, rfl⟩
 have HT := Aside0.mk (show trivetref01_TakeNum.f l = some (x1, x2, x3) by unfold trivetref01_TakeNum.f; rw [if_pos hb, hx])
 by_cases he : tkE l = 0
 ·obtain ⟨f1, f2⟩ := form_one hb he
  have hs1 := tkS_pos l
  have hs2 := tkE_size he
  unfold takeNum at hx
  rw [if_pos he] at hx
  simp only [Prod.mk.injEq] at hx
  obtain ⟨hn, hs, rfl⟩ := hx
  have HN := Aside0.mk hn
  have HS := Aside0.mk hs
  have HE := Aside0.mk he
  rw [hs] at hs1 hs2
  unfold isI64 at f2
  rw [hn] at f2
  have HBE := Aside0.mk (show blE l 1048576 8 = if x1 < 0 then 11 else if 1048576 < x1 then 3 else if (l.length : Int) - x2 - 8 < x1 then 10 else 0 by
   unfold blE; rw [if_neg (by omega), hn, hs])
  clear hn hs he f1
  have hbad : ∀ z : Int, ¬ z = 0 → blE l 1048576 8 = z → Aside0 (T1 = [] ∧ T2 = 0 ∧ T3 = z) := by
   intro z hz hzz
   have hu : unE l = z := by unfold unE; rw [if_pos (by omega), hzz]
   have := HTS.out
   unfold takeSeal at this
   rw [hu, if_neg hz] at this
   simp only [Prod.mk.injEq] at this
   exact ⟨this.1.symm, this.2.1.symm, this.2.2.symm⟩
  by_cases h1 : x1 < 0
  ·have HX := hbad 11 (by decide) (by rw [HBE.out, if_pos h1])
   have g1 : decide (x1 < 0) = true := decide_eq_true h1
   clear h1 hbad hs1 hs2 f2 hr hc hlen
   go_enter Tryz.func61, Tryz.ntmps61
   go_wp2_with (go_at_call 129; refine (trivetref01_TakeNum.calls A c l _ _ _ _ HR.out HC.out HT.out).mono ?_; rintro e w1 ⟨rfl, hd⟩; have HB1 := Aside0.mk hd; clear hd)
   refine bodyPost_ret (v := .tuple #[.slice none 0 0, .int .i64 0, .int .i64 11]) (by simp [results, Tryz.results61, go_sem]) rfl ⟨_, by rw [HX.out.2.1, HX.out.2.2], by rw [HX.out.1]; exact Own.nil _ _, HB1.out⟩
  have g1 : decide (x1 < 0) = false := decide_eq_false h1
  by_cases h2 : 1048576 < x1
  ·have HX := hbad 3 (by decide) (by rw [HBE.out, if_neg h1, if_pos h2])
   have g2 : decide (1048576 < x1) = true := decide_eq_true h2
   clear h1 h2 hbad hs1 hs2 f2 hr hc hlen
   go_enter Tryz.func61, Tryz.ntmps61
   go_wp2_with (go_at_call 129; refine (trivetref01_TakeNum.calls A c l _ _ _ _ HR.out HC.out HT.out).mono ?_; rintro e w1 ⟨rfl, hd⟩; have HB1 := Aside0.mk hd; clear hd)
   refine bodyPost_ret (v := .tuple #[.slice none 0 0, .int .i64 0, .int .i64 3]) (by simp [results, Tryz.results61, go_sem]) rfl ⟨_, by rw [HX.out.2.1, HX.out.2.2], by rw [HX.out.1]; exact Own.nil _ _, HB1.out⟩
  have g2 : decide (1048576 < x1) = false := decide_eq_false h2
  have w1a : IntKind.i64.wrap (x1 + 8) = x1 + 8 := by rw [IntKind.wrap_i64]; omega
  have w1b : IntKind.i64.wrap ((l.length : Int) - x2) = (l.length : Int) - x2 := by rw [IntKind.wrap_i64]; omega
  by_cases h3 : (l.length : Int) - x2 < x1 + 8
  ·have HX := hbad 10 (by decide) (by rw [HBE.out, if_neg h1, if_neg h2, if_pos (by omega)])
   have g3 : decide ((l.length : Int) - x2 < x1 + 8) = true := decide_eq_true h3
   clear h1 h2 h3 hbad hs1 hs2 f2 hr hc hlen
   go_enter Tryz.func61, Tryz.ntmps61
   go_wp2_with (go_at_call 129; refine (trivetref01_TakeNum.calls A c l _ _ _ _ HR.out HC.out HT.out).mono ?_; rintro e w1 ⟨rfl, hd⟩; have HB1 := Aside0.mk hd; clear hd)
   refine bodyPost_ret (v := .tuple #[.slice none 0 0, .int .i64 0, .int .i64 10]) (by simp [results, Tryz.results61, go_sem]) rfl ⟨_, by rw [HX.out.2.1, HX.out.2.2], by rw [HX.out.1]; exact Own.nil _ _, HB1.out⟩
  have g3 : decide ((l.length : Int) - x2 < x1 + 8) = false := decide_eq_false h3
  have hbz : blE l 1048576 8 = 0 := by rw [HBE.out, if_neg h1, if_neg h2, if_neg (by omega)]
  obtain ⟨q1, q2, q3, q4, q5, q6⟩ := blE_good hbz
  obtain ⟨hi, HHI⟩ : ∃ hi, Aside0 (blHi l = hi) := ⟨_, ⟨rfl⟩⟩
  have hlo : blLo l = x2 := HS.out
  have hhi : hi = x2 + x1 := by rw [← HHI.out]; unfold blHi; rw [HS.out, HN.out]
  obtain ⟨A', c', hV, hc', hr'⟩ := blobV_form hr hc ⟨q6, q5, by omega⟩
  unfold blobV at hV
  rw [hlo, HHI.out] at hV
  obtain ⟨At, ct, hVt, hct, hrt⟩ := tail_form (A := A) (c := c) (l := l) (w := w) hr hc (by omega) (by omega)
  rw [HHI.out] at hVt q4 q5
  obtain ⟨i0, hi0, hz0, hz1, hz2⟩ := info_parts infoU8
  have hcut1 := cut_mid (P := Tryz.prog) 23 5 .i64 .i64 Tryz.underlying23 hi0 1 hz1 A l.length c x2 hi (by omega) (by omega) (by omega) hc
  have hcut2 := cut_mid (P := Tryz.prog) 23 5 .i64 .i64 Tryz.underlying23 hi0 1 hz1 A l.length c hi (hi + 8) (by omega) (by omega) (by omega) hc
  rw [hV] at hcut1
  rw [hVt] at hcut2
  have HLD := Aside0.mk (show (blD l).length < 140737488355328 by
   have := blD_length (l := l) ⟨q6, by rw [hlo, HHI.out]; omega, by rw [HHI.out]; omega⟩
   rw [this, HHI.out]; omega)
  have HK1 := Aside0.mk (ref_check (blD l) HLD.out ((blD l).length + 1) (by omega))
  have HK2 := Aside0.mk (show trivetref01_low.f 9 (chk (blD l)) = some (sealB (blD l)) from ref_low _ (chk_range _) 9 (by omega))
  obtain ⟨K1, hK1⟩ : ∃ K1, (blD l).length + 1 = K1 := ⟨_, rfl⟩
  obtain ⟨K2, hK2⟩ : ∃ K2, 9 = K2 := ⟨_, rfl⟩
  rw [hK1] at HK1
  rw [hK2] at HK2
  have HRD := Aside0.mk hr'
  have HRT := Aside0.mk hrt
  have wa : IntKind.i64.wrap (x2 + x1) = hi := by rw [IntKind.wrap_i64]; omega
  have wb : IntKind.i64.wrap (hi + 8) = hi + 8 := by rw [IntKind.wrap_i64]; omega
  obtain ⟨bq, hbq⟩ : ∃ bq, ((strOfNums (sealB (blD l))).toList == (strOfNums (tail8 l)).toList) = bq := ⟨_, rfl⟩
  have HY0 := Aside0.mk (show bq = true → T1 = blD l ∧ T2 = hi + 8 ∧ T3 = 0 by
   intro h0
   rw [h0, beq_iff_eq] at hbq
   have e1 : sealB (blD l) = tail8 l := bytesOf_inj (sealB_ok (blD l)) (okB_drop (okB_take hb _) _) hbq
   have := HTS.out
   have hu : unE l = 0 := by unfold unE; rw [hbz, if_neg (by simp), if_pos e1]
   unfold takeSeal at this
   rw [hu, if_pos rfl, HHI.out] at this
   simp only [Prod.mk.injEq] at this
   exact ⟨this.1.symm, this.2.1.symm, this.2.2.symm⟩)
  have HY1 := Aside0.mk (show bq = false → T1 = [] ∧ T2 = 0 ∧ T3 = 12 by
   intro h0
   rw [h0, beq_eq_false_iff_ne] at hbq
   have := HTS.out
   have hu : unE l = 12 := by unfold unE; rw [hbz, if_neg (by simp), if_neg (fun e => hbq (by rw [e]))]
   unfold takeSeal at this
   rw [hu, if_neg (by decide)] at this
   simp only [Prod.mk.injEq] at this
   exact ⟨this.1.symm, this.2.1.symm, this.2.2.symm⟩)
  clear h1 h2 h3 hbad hs1 hs2 f2 hr hc hlen hbz q1 q2 q3 q4 q5 q6 hlo hhi hV hr' hVt hrt hi0 hz0 hz1 hz2 hK1 hK2 hct hb
  go_enter Tryz.func61, Tryz.ntmps61
  go_wp2_with (first
   | (go_at_call 129; refine (trivetref01_TakeNum.calls A c l _ _ _ _ HR.out HC.out HT.out).mono ?_; rintro e w1 ⟨rfl, hd⟩; have HB1 := Aside0.mk hd; clear hd)
   | ((with_reducible refine gate_builtin (b := .append) (xs := #[.tmp 33, .tmp 37]) rfl ?_); at_builtin; refine Kd.R_append_rows (Kd.int .u8) (w0 := w) w.heap.size rfl (.tmp 33) (.tmp 37) 23 5 (.int .u8 0) 1 rfl Tryz.underlying23 infoU8 rfl (by decide) (by omega) (.slice none 0 0) ([] : List Int) (blD l) _ _ _ (fun _ => True) (fun _ => False) rfl rfl (Kd.R_nil _ _ _ _ (fun _ => True)) (Kd.C_below HRD.out HB1.out) (fun _ _ h => h) (fun _ h => h.elim) (fun _ _ => trivial) HB1.out HB1.out.size (by have := HLD.out; simp; omega) ?_; intro v2 w2 ho hb2 _ _; rw [List.nil_append] at ho; obtain ⟨A2, c2, rfl, hc2, hr2⟩ := Kd.R_reads ho; have HO2 := Aside0.mk (show Own w2 w.heap.size (.slice A2 (blD l).length c2) (blD l) from ho); have HB2 := Aside0.mk hb2; have HR2 := Aside0.mk hr2; have HC2 := Aside0.mk hc2; clear ho hb2 hr2 hc2))
  refine start_ (n := 11) (S := fun w' => Kd.C (Kd.int .u8) w' At (tail8 l).length (tail8 l)) (ds := []) #[false, false, false, false, false, false, false, false, false, false, false] (by kernel_rfl) rfl rfl (Kd.C_drew (Kd.C_below HRT.out HB2.out)) (fun hHeld => ?_)
  refine pure_ (i := 0) (N := some 39) (v := ?_) (a' := ?_) #[true, false, false, false, false, false, false, false, false, false, false] rfl rfl (by kernel_rfl) (fun _ _ _ h => h) (Or.inl ⟨by rfl, ?_⟩) ?_ ?_
  rotate_left
  ·intro w'
   go_simp
   try with_reducible rfl
  rotate_left
  ·simp only [Act.put, sq1, sq2, sq3, i64_w, i32_w]
   rfl
  refine pure_ (i := 4) (N := some 43) (v := ?_) (a' := ?_) #[true, false, false, false, true, false, false, false, false, false, false] rfl rfl (by kernel_rfl) (fun _ _ _ h => h) (Or.inl ⟨by rfl, ?_⟩) ?_ ?_
  rotate_left
  ·intro w'
   go_simp
   try with_reducible rfl
  rotate_left
  ·simp only [Act.put, sq1, sq2, sq3, i64_w, i32_w]
   rfl
  refine pure_ (i := 5) (N := some 44) (v := ?_) (a' := ?_) #[true, false, false, false, true, true, false, false, false, false, false] rfl rfl (by kernel_rfl) (fun _ _ _ h => h) (Or.inl ⟨by rfl, ?_⟩) ?_ ?_
  rotate_left
  ·intro w'
   go_simp
   try with_reducible rfl
  rotate_left
  ·simp only [Act.put, sq1, sq2, sq3, i64_w, i32_w]
   rfl
  refine pure_ (i := 6) (N := some 45) (v := ?_) (a' := ?_) #[true, false, false, false, true, true, true, false, false, false, false] rfl rfl (by kernel_rfl) (fun _ _ _ h => h) (Or.inl ⟨by rfl, ?_⟩) ?_ ?_
  rotate_left
  ·intro w'
   go_simp
   try with_reducible rfl
  rotate_left
  ·simp only [Act.put, sq1, sq2, sq3, i64_w, i32_w]
   rfl
  refine pure_ (i := 7) (N := some 46) (v := ?_) (a' := ?_) #[true, false, false, false, true, true, true, true, false, false, false] rfl rfl (by kernel_rfl) (fun _ _ _ h => h) (Or.inl ⟨by rfl, ?_⟩) ?_ ?_
  rotate_left
  ·intro w'
   go_simp
   try with_reducible rfl
  rotate_left
  ·simp only [Act.put, sq1, sq2, sq3, i64_w, i32_w]
   rfl
  refine pure_ (i := 8) (N := some 47) (v := ?_) (a' := ?_) #[true, false, false, false, true, true, true, true, true, false, false] rfl rfl (by kernel_rfl) (fun _ _ _ h => h) (Or.inl ⟨by rfl, ?_⟩) ?_ ?_
  rotate_left
  ·intro w'
   go_simp
   try with_reducible rfl
  rotate_left
  ·simp only [Act.put, sq1, sq2, sq3, i64_w, i32_w]
   rfl
  refine take_ (i := 9) (N := some 48) (v := ?_) (a' := ?_) #[true, false, false, false, true, true, true, true, true, true, false] rfl rfl (by kernel_rfl) (fun _ _ _ h => h) (Or.inl ⟨by rfl, ?_⟩) hHeld ?_ ?_
  rotate_left
  ·intro w' hS
   have hcv := Kd.C_string (P := Tryz.prog) (src := 23) (dst := 9) (e := 5) (c := ct) Tryz.underlying23 Tryz.underlying5 Tryz.underlying9 hS
   go_simp
   try with_reducible rfl
  rotate_left
  ·simp only [Act.put, sq1, sq2, sq3, i64_w, i32_w]
   rfl
  refine one_ (i := 1) (N := some 40) #[true, true, false, false, true, true, true, true, true, true, false] rfl rfl (by kernel_rfl) (by decide) (fun K hK => ?_)
  go_simp
  refine (trivetref01_Check.calls K1 _ c2 (blD l) _ _ (Kd.C_drew HR2.out) HC2.out HK1.out).mono ?_
  rintro e w3 ⟨rfl, hd⟩
  have HB3 := Aside0.mk (show Below w.heap.size w w3 from below_step HB2.out.drew hd.below)
  have HO3 := Aside0.mk (show Own w3 w.heap.size (.slice A2 (blD l).length c2) (blD l) from Own.below HO2.out.drew hd.below)
  refine hK.out _ _ (Kd.C_below hHeld hd.below) (fun hHeld => ?_)
  refine one_ (i := 2) (N := some 41) #[true, true, true, false, true, true, true, true, true, true, false] rfl rfl (by kernel_rfl) (by decide) (fun K hK => ?_)
  go_simp
  refine (trivetref01_low.calls K2 (chk (blD l)) (sealB (blD l)) _ HK2.out).mono ?_
  rintro e w4 ⟨v4, rfl, ho4, hb4⟩
  have HB4 := Aside0.mk (show Below w.heap.size w w4 from below_step HB3.out hb4)
  have HO4 := Aside0.mk (show Own w4 w.heap.size (.slice A2 (blD l).length c2) (blD l) from Own.below HO3.out hb4)
  obtain ⟨A4, c4, rfl, hc4, hr4⟩ := Kd.R_reads ho4
  have hcv := Kd.C_string (P := Tryz.prog) (src := 23) (dst := 9) (e := 5) (c := c4) Tryz.underlying23 Tryz.underlying5 Tryz.underlying9 hr4
  refine hK.out _ _ (Kd.C_below hHeld hb4) (fun hHeld => ?_)
  clear hb4 ho4 hc4 hr4
  refine one_ (i := 3) (N := some 42) #[true, true, true, true, true, true, true, true, true, true, false] rfl rfl (by kernel_rfl) (by decide) (fun K hK => ?_)
  go_simp
  refine hK.out _ _ hHeld (fun hHeld => ?_)
  refine pure_ (i := 10) (N := some 49) (v := ?_) (a' := ?_) #[true, true, true, true, true, true, true, true, true, true, true] rfl rfl (by kernel_rfl) (fun _ _ _ h => h) (Or.inl ⟨by rfl, ?_⟩) ?_ ?_
  rotate_left
  ·intro w'
   go_simp
   try with_reducible rfl
  rotate_left
  ·simp only [Act.put, sq1, sq2, sq3, i64_w, i32_w]
   rfl
  refine done_ (by kernel_rfl) ?_
  cases bq with
  | true =>
   have HZ := Aside0.mk (HY0.out rfl)
   go_wp2
   refine bodyPost_ret (v := .tuple #[.slice A2 (blD l).length c2, .int .i64 (hi + 8), .int .i64 0]) (by simp [results, Tryz.results61, go_sem]) rfl ⟨_, by rw [HZ.out.2.1, HZ.out.2.2], by rw [HZ.out.1]; exact HO4.out, HB4.out⟩
  | false =>
   have HZ := Aside0.mk (HY1.out rfl)
   go_wp2
   refine bodyPost_ret (v := .tuple #[.slice none 0 0, .int .i64 0, .int .i64 12]) (by simp [results, Tryz.results61, go_sem]) rfl ⟨_, by rw [HZ.out.2.1, HZ.out.2.2], by rw [HZ.out.1]; exact Own.nil _ _, HB4.out⟩
 ·have HX := Aside0.mk (show T1 = [] ∧ T2 = 0 ∧ T3 = tkE l by
   have hbe : blE l 1048576 8 = tkE l := by unfold blE; rw [if_pos he]
   have hu : unE l = tkE l := by unfold unE; rw [hbe, if_pos he]
   have := HTS.out
   unfold takeSeal at this
   rw [hu, if_neg he] at this
   simp only [Prod.mk.injEq] at this
   exact ⟨this.1.symm, this.2.1.symm, this.2.2.symm⟩)
  unfold takeNum at hx
  rw [if_neg he] at hx
  simp only [Prod.mk.injEq] at hx
  obtain ⟨rfl, rfl, hx3⟩ := hx
  have g0 : (x3 != 0) = true := bne_iff_ne.2 (by omega)
  have HX3 := Aside0.mk hx3
  clear he hx3 hr hc hlen
  go_enter Tryz.func61, Tryz.ntmps61
  go_wp2_with (go_at_call 129; refine (trivetref01_TakeNum.calls A c l _ _ _ _ HR.out HC.out HT.out).mono ?_; rintro e w1 ⟨rfl, hd⟩; have HB1 := Aside0.mk hd; clear hd)
  refine bodyPost_ret (v := .tuple #[.slice none 0 0, .int .i64 0, .int .i64 x3]) (by simp [results, Tryz.results61, go_sem]) rfl ⟨_, by rw [HX.out.2.1, HX.out.2.2, HX3.out], by rw [HX.out.1]; exact Own.nil _ _, HB1.out⟩
end Go.Proofs.YtgiefblcckikeaaGreat.M
namespace Go.Proofs.YtgiefblcckikeaaGreat.G
open Go.RowKit Go.Proofs.YtgiefblcckikeaaGreatW.PrintWords Go.Proofs.YtgiefblcckikeaaGreat.M
def trivetref01_Unseal.f (l0 : List Int) : Option (List Int × Int × Int) := if okB l0 = true ∧ l0.length < 140737488355328 then some (takeSeal l0) else none
theorem trivetref01_Unseal.calls (A0 : Option Addr) (c0 : Nat) (l0 : List Int) (r1 : List Int) (r2 : Int) (r3 : Int) (w : World) (hr0 : Kd.C (Kd.int .u8) w A0 l0.length l0) (hc0 : l0.length ≤ c0) (h : trivetref01_Unseal.f l0 = some (r1, r2, r3)) :
  Calls Tryz.prog 61 #[.slice A0 l0.length c0] w fun e w' => ∃ v0_ : Value, e = .returned (.tuple #[v0_, .int .i64 r2, .int .i64 r3]) ∧ Kd.R (Kd.int .u8) 5 w' w.heap.size (fun _ => True) v0_ r1 ∧ Below w.heap.size w w' := by
 unfold trivetref01_Unseal.f at h
 split at h
 ·rename_i hb
  have h := Option.some.inj h
  have h1 : r1 = (takeSeal l0).1 := by rw [h]
  have h2 : r2 = (takeSeal l0).2.1 := by rw [h]
  have h3 : r3 = (takeSeal l0).2.2 := by rw [h]
  rw [h1, h2, h3]
  exact refUnseal_calls A0 c0 l0 w hr0 hc0 hb.1 hb.2
 ·cases h
end Go.Proofs.YtgiefblcckikeaaGreat.G
end
