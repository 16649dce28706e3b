/- RecordSamesUptoSaid: contracts of the functions that the law goes through, put together in build order (part 7 of 7). -/
import Derived.Test.YtgiefblcckikeaaPart5
section

/- RecordSames returns true (printed by gensames04.py). -/
set_option maxRecDepth 100000
set_option linter.unusedVariables false
set_option linter.unusedSimpArgs false
attribute [local irreducible] Go.wpStill
namespace Go.Proofs.Ytgiefblcckikeaa.M
open Go.RowKit Go.Proofs.YtgiefblcckikeaaW.PrintWords Go.Proofs.YtgiefblcckikeaaW.PrintLast Go.Proofs.YtgiefblcckikeaaW.PrintMore Go.Proofs.Ytgiefblcckikeaa.G
theorem eqTs_refl : ∀ l : List TxD, eqTs l l = true
  | [] => rfl
  | t :: l => by unfold eqTs; rw [show eqTx t t = true by unfold eqTx; simp [eqS_refl], eqTs_refl l]; rfl
theorem eqEn_refl (k f n : Int) (l : List TxD) : eqEn k f n l k f n l = true := by unfold eqEn; simp [eqTs_refl]
theorem eqTrs_refl : ∀ l : List TrD, eqTrs l l = true
  | [] => rfl
  | t :: l => by unfold eqTrs; rw [show eqTr t t = true by unfold eqTr; simp [eqEn_refl], eqTrs_refl l]; rfl
theorem eqMs_refl (m : MsgD) : eqMs m m = true := by unfold eqMs eqPt; simp [eqTrs_refl, eqEn_refl, eqS_refl]
def Box4 (W : World) (g : Nat) (a b : EntD) (A B : Option Addr) (ca cb : Nat) (m n : MsgD) (A8 A12 A16 B8 B12 B16 : Option Addr) (c8 c12 c16 d8 d12 d16 : Nat) : Prop :=
  EnBox W g a.f0 a.f1 a.f2 A a.f3.length ca ∧ EnBox W (g + 1) b.f0 b.f1 b.f2 B b.f3.length cb ∧ MsBox W (g + 2) m A8 c8 A12 c12 A16 c16 ∧ MsBox W (g + 3) n B8 d8 B12 d12 B16 d16
theorem Box4.below {W W' : World} {g : Nat} {a b : EntD} {A B : Option Addr} {ca cb : Nat} {m n : MsgD} {A8 A12 A16 B8 B12 B16 : Option Addr} {c8 c12 c16 d8 d12 d16 : Nat} (h : Box4 W g a b A B ca cb m n A8 A12 A16 B8 B12 B16 c8 c12 c16 d8 d12 d16) (hb : Below W.heap.size W W') : Box4 W' g a b A B ca cb m n A8 A12 A16 B8 B12 B16 c8 c12 c16 d8 d12 d16 :=
  ⟨h.1.below hb, h.2.1.below hb, h.2.2.1.below hb, h.2.2.2.below hb⟩
def SmI (l : Nat) (w : World) (i : Value) (W : World) : Prop := ∃ k : Nat, i = .int .i64 (k : Int) ∧ k ≤ l ∧ Below w.heap.size w W
def sames13_T : Bool × List (List Nat × List Nat) := (true, [([], []), ([0, 0], [0]), ([1], [1]), ([1], [1]), ([2, 3, 1, 1], [1, 2, 3]), ([1], [1]), ([1], [1]), ([5, 6, 4, 1], [1, 5, 6]), ([4, 7, 1], [1, 4, 7]), ([1, 8], [1, 8]), ([9, 7], [9]), ([10], [10]), ([10], [10]), ([11, 12, 10, 10], [10, 11, 12]), ([10], [10]), ([10], [10]), ([14, 15, 13, 10], [10, 14, 15]), ([13, 16, 10], [10, 13, 16]), ([10, 17], [10, 17]), ([18, 16], [18]), ([19], [19]), ([19], [19]), ([20, 21, 19, 19], [19, 20, 21]), ([19, 22], [19, 22]), ([23, 22], [23]), ([24], [24]), ([24], [24]), ([25, 26, 24, 24], [24, 25, 26]), ([24, 27], [24, 27]), ([28, 27], [28]), ([29], [29]), ([30, 29, 29], [29, 30]), ([29], [29]), ([31, 32, 31, 29], [29, 31, 32]), ([29, 33], [29, 33]), ([34, 33], [34]), ([35], [35]), ([36, 35, 35], [35, 36]), ([35], [35]), ([37, 38, 37, 35], [35, 37, 38]), ([35, 39], [35, 39]), ([40, 39, 0, 1, 2, 3, 4, 5, 6, 7, 8, 9, 10, 11, 12, 13, 14, 15, 16, 17, 18, 19, 20, 21, 22, 23, 24, 25, 26, 27, 28, 29, 30, 31, 32, 33, 34, 35, 36, 37, 38, 39, 40], [40])])
def sames13_B : List Nat := [0, 1, 3, 3, 15, 3, 3, 127, 255, 511, 1023, 2047, 2047, 8191, 2047, 2047, 65535, 131071, 262143, 524287, 1048575, 1048575, 4194303, 8388607, 16777215, 33554431, 33554431, 134217727, 268435455, 536870911, 1073741823, 2147483647, 1073741823, 8589934591, 17179869183, 34359738367, 68719476735, 137438953471, 68719476735, 549755813887, 1099511627775, 2199023255551]
theorem sames13_tab : rtab .any (opsOf Try.f6 13) = sames13_T := by kernel_rfl
theorem sames13_bits : waitsOk sames13_T.2 sames13_B = true := by kernel_rfl
set_option maxHeartbeats 8000000 in
theorem sames_walk (w : World) (a b : EntD) (m n : MsgD) {A B : Option Addr} {ca cb : Nat} {A8 A12 A16 B8 B12 B16 : Option Addr} {c8 c12 c16 d8 d12 d16 : Nat} (hla : a.f3.length ≤ ca) (ha : Kd.C G.k36 w A a.f3.length a.f3) (hlb : b.f3.length ≤ cb) (hb : Kd.C G.k36 w B b.f3.length b.f3) (hm : MsgC w m A8 c8 A12 c12 A16 c16) (hn : MsgC w n B8 d8 B12 d12 B16 d16) (sa : SmE a) (sb : SmE b) (sm : SmM m) :
    Calls Try.prog 6 #[.agg #[.int .i64 a.f0, .int .i64 a.f1, .int .i64 a.f2, .slice A a.f3.length ca], .agg #[.int .i64 b.f0, .int .i64 b.f1, .int .i64 b.f2, .slice B b.f3.length cb], .agg (msgCells m A8 c8 A12 c12 A16 c16), .agg (msgCells n B8 d8 B12 d12 B16 d16)] w fun e w' => e = .returned (.bool true) ∧ Below w.heap.size w w' := by
  obtain ⟨hb1, hx⟩ : Below w.heap.size w ((((w.alloc (.cells #[.int .i64 a.f0, .int .i64 a.f1, .int .i64 a.f2, .slice A a.f3.length ca] 24)).alloc (.cells #[.int .i64 b.f0, .int .i64 b.f1, .int .i64 b.f2, .slice B b.f3.length cb] 24)).alloc (.cells (msgCells m A8 c8 A12 c12 A16 c16) 57)).alloc (.cells (msgCells n B8 d8 B12 d12 B16 d16) 57)) ∧ Box4 ((((w.alloc (.cells #[.int .i64 a.f0, .int .i64 a.f1, .int .i64 a.f2, .slice A a.f3.length ca] 24)).alloc (.cells #[.int .i64 b.f0, .int .i64 b.f1, .int .i64 b.f2, .slice B b.f3.length cb] 24)).alloc (.cells (msgCells m A8 c8 A12 c12 A16 c16) 57)).alloc (.cells (msgCells n B8 d8 B12 d12 B16 d16) 57)) w.heap.size a b A B ca cb m n A8 A12 A16 B8 B12 B16 c8 c12 c16 d8 d12 d16 := by
    have z1 : (w.alloc (.cells #[.int .i64 a.f0, .int .i64 a.f1, .int .i64 a.f2, .slice A a.f3.length ca] 24)).heap.size = w.heap.size + 1 := by simp
    have z2 : ((w.alloc (.cells #[.int .i64 a.f0, .int .i64 a.f1, .int .i64 a.f2, .slice A a.f3.length ca] 24)).alloc (.cells #[.int .i64 b.f0, .int .i64 b.f1, .int .i64 b.f2, .slice B b.f3.length cb] 24)).heap.size = w.heap.size + 2 := by simp
    have z3 : (((w.alloc (.cells #[.int .i64 a.f0, .int .i64 a.f1, .int .i64 a.f2, .slice A a.f3.length ca] 24)).alloc (.cells #[.int .i64 b.f0, .int .i64 b.f1, .int .i64 b.f2, .slice B b.f3.length cb] 24)).alloc (.cells (msgCells m A8 c8 A12 c12 A16 c16) 57)).heap.size = w.heap.size + 3 := by simp
    obtain ⟨u1, h1⟩ : ∃ u, w.alloc (.cells #[.int .i64 a.f0, .int .i64 a.f1, .int .i64 a.f2, .slice A a.f3.length ca] 24) = u := ⟨_, rfl⟩
    have b1 := (Below.refl _ w).alloc (Nat.le_refl _) (.cells #[.int .i64 a.f0, .int .i64 a.f1, .int .i64 a.f2, .slice A a.f3.length ca] 24)
    have x1 := heap_alloc_new w (.cells #[.int .i64 a.f0, .int .i64 a.f1, .int .i64 a.f2, .slice A a.f3.length ca] 24)
    rw [h1] at b1 x1 z1 z2 z3 ⊢
    obtain ⟨u2, h2⟩ : ∃ u, u1.alloc (.cells #[.int .i64 b.f0, .int .i64 b.f1, .int .i64 b.f2, .slice B b.f3.length cb] 24) = u := ⟨_, rfl⟩
    have b2 := (Below.refl _ u1).alloc (Nat.le_refl _) (.cells #[.int .i64 b.f0, .int .i64 b.f1, .int .i64 b.f2, .slice B b.f3.length cb] 24)
    have x2 := heap_alloc_new u1 (.cells #[.int .i64 b.f0, .int .i64 b.f1, .int .i64 b.f2, .slice B b.f3.length cb] 24)
    rw [h2] at b2 x2 z2 z3 ⊢
    obtain ⟨u3, h3⟩ : ∃ u, u2.alloc (.cells (msgCells m A8 c8 A12 c12 A16 c16) 57) = u := ⟨_, rfl⟩
    have b3 := (Below.refl _ u2).alloc (Nat.le_refl _) (.cells (msgCells m A8 c8 A12 c12 A16 c16) 57)
    have x3 := heap_alloc_new u2 (.cells (msgCells m A8 c8 A12 c12 A16 c16) 57)
    rw [h3] at b3 x3 z3 ⊢
    have b4 := (Below.refl _ u3).alloc (Nat.le_refl _) (.cells (msgCells n B8 d8 B12 d12 B16 d16) 57)
    have x4 := heap_alloc_new u3 (.cells (msgCells n B8 d8 B12 d12 B16 d16) 57)
    rw [z1] at x2
    rw [z2] at x3
    rw [z3] at x4
    refine ⟨b1.trans ((b2.mono (by omega)).trans ((b3.mono (by omega)).trans (b4.mono (by omega)))), ?_, ?_, ?_, x4⟩
    · exact (b4.block _ (by omega)).trans ((b3.block _ (by omega)).trans ((b2.block _ (by omega)).trans x1))
    · exact (b4.block _ (by omega)).trans ((b3.block _ (by omega)).trans x2)
    · exact (b4.block _ (by omega)).trans x3
  have HA := Lib.hid (Kd.C_below ha hb1); have HBb := Lib.hid (Kd.C_below hb hb1); have HM := Lib.hid (hm.below hb1); have HN := Lib.hid (hn.below hb1)
  have HL := Lib.hid (And.intro hla hlb); have SA := Lib.hid sa; have SB := Lib.hid sb; have SM := Lib.hid sm; have HW := Lib.hid hb1; have HX := Lib.hid hx
  have hala : a.f3.length ≤ 1048576 := sa.1
  have halb : b.f3.length ≤ 1048576 := sb.1
  clear ha hb hm hn sa sb sm hla hlb hb1 hx
  go_enter Try.func6, Try.ntmps6
  go_upto_region 1 with fail
  obtain ⟨w1, hw⟩ : ∃ w1, ((((w.alloc (.cells #[.int .i64 a.f0, .int .i64 a.f1, .int .i64 a.f2, .slice A a.f3.length ca] 24)).alloc (.cells #[.int .i64 b.f0, .int .i64 b.f1, .int .i64 b.f2, .slice B b.f3.length cb] 24)).alloc (.cells (msgCells m A8 c8 A12 c12 A16 c16) 57)).alloc (.cells (msgCells n B8 d8 B12 d12 B16 d16) 57)) = w1 := ⟨_, rfl⟩
  obtain ⟨g, hg⟩ : ∃ g, w.heap.size = g := ⟨_, rfl⟩
  have HG := Lib.hid hg
  rw [hw] at HA HBb HM HN HW HX ⊢
  rw [hg] at HX ⊢
  clear hw hg
  obtain ⟨a0, a1, a2, a3, az⟩ := HX.out.1.cell
  go_wp2_with fail
  go_loopw [14] (fun i wr => SmI a.f3.length w1 i wr) (fun i _ => a.f3.length - (intOf i).toNat)
  case atStart => exact ⟨0, rfl, Nat.zero_le _, Below.refl _ _⟩
  case round =>
    obtain ⟨k, rfl, hk, hB⟩ := hrel
    have HB := Lib.hid hB
    have HXr := Lib.hid (HX.out.below hB)
    clear hB a0 a1 a2 a3 az
    by_cases hlt : k < a.f3.length
    · obtain ⟨t, ht⟩ : ∃ t, a.f3[k]? = some t := ⟨_, List.getElem?_eq_getElem hlt⟩
      have HTT := Lib.hid ht
      clear ht
      obtain ⟨b0, b1, b2, b3, bz⟩ := HXr.out.2.1.cell
      go_wp2_with fail
      go_loopw [20] (fun i wx => SmI b.f3.length w1 i wx) (fun i _ => b.f3.length - (intOf i).toNat)
      case atStart => exact ⟨0, rfl, Nat.zero_le _, HB.out⟩
      case round =>
        obtain ⟨j, rfl, hj, hB2⟩ := hrel
        have HBj := Lib.hid hB2
        have HXj := Lib.hid (HX.out.below hB2)
        clear hB2 b0 b1 b2 b3 bz
        by_cases hlt2 : j < b.f3.length
        · obtain ⟨u, hu⟩ : ∃ u, b.f3[j]? = some u := ⟨_, List.getElem?_eq_getElem hlt2⟩
          obtain ⟨ad, T2, t2, T3, t3, T4, t4, T5, t5, rfl, hTa, hTc⟩ := tx_get (Kd.C_below HA.out HBj.out) HTT.out
          obtain ⟨bd, U2, u2, U3, u3, U4, u4, U5, u5, rfl, hUa, hUc⟩ := tx_get (Kd.C_below HBb.out HBj.out) hu
          have HTA := Lib.hid hTa; have HTC := Lib.hid hTc; have HUA := Lib.hid hUa; have HUC := Lib.hid hUc
          clear hTa hTc hUa hUc hu
          go_wp2_with fail
          have HTAd := Lib.hid (HTA.out.below ((Below.refl _ _).drew)); have HUAd := Lib.hid (HUA.out.below ((Below.refl _ _).drew)); have HXd := Lib.hid (HXj.out.below ((Below.refl _ _).drew)); have HBd := Lib.hid HBj.out.drew; have HTCd := Lib.hid (HTC.out.below ((Below.refl _ _).drew)); have HUCd := Lib.hid (HUC.out.below ((Below.refl _ _).drew))
          clear HTA HUA HXj HBj HTC HUC
          refine start_ (n := 23) (S := fun w' => w'.cell? ⟨g, 3, none⟩ = some (.slice (some ad) a.f3.length ca) ∧ w'.cell? ⟨g + 1, 3, none⟩ = some (.slice (some bd) b.f3.length cb) ∧ TxAt w' (ad.add (k * 6)) t T2 t2 T3 t3 T4 t4 T5 t5 ∧ TxAt w' (bd.add (j * 6)) u U2 u2 U3 u3 U4 u4 U5 u5) (ds := []) #[false, false, false, false, false, false, false, false, false, false, false, false, false, false, false, false, false, false, false, false, false, false, false] (by kernel_rfl) rfl rfl ⟨(blk_cell HXd.out.1 3).trans rfl, (blk_cell HXd.out.2.1 3).trans rfl, HTAd.out, HUAd.out⟩ (fun hHeld => ?_)
          obtain ⟨wa, hwa⟩ : ∃ wa, wr.drew = wa := ⟨_, rfl⟩
          rw [hwa] at HTAd HUAd HXd HBd HTCd HUCd hHeld ⊢
          clear hwa
          refine pure_ (i := 0) (N := some 23) (v := ?_) (a' := ?_) #[true, false, false, false, false, false, false, false, false, false, false, false, false, false, false, false, false, false, false, false, false, false, false] rfl rfl (by kernel_rfl) (fun _ _ _ h => h) (Or.inl ⟨by rfl, ?_⟩) ?_ ?_
          rotate_left
          · intro w'
            go_simp
            try with_reducible rfl
          rotate_left
          · simp only [Act.put, List.setIfInBounds_toArray, List.set_cons_zero, List.set_cons_succ, i64_w, i32_w]
            rfl
          refine pure_ (i := 2) (N := some 25) (v := ?_) (a' := ?_) #[true, false, true, false, false, false, false, false, false, false, false, false, false, false, false, false, false, false, false, false, false, false, false] rfl rfl (by kernel_rfl) (fun _ _ _ h => h) (Or.inl ⟨by rfl, ?_⟩) ?_ ?_
          rotate_left
          · intro w'
            go_simp
            try with_reducible rfl
          rotate_left
          · simp only [Act.put, List.setIfInBounds_toArray, List.set_cons_zero, List.set_cons_succ, i64_w, i32_w]
            rfl
          refine pure_ (i := 5) (N := some 28) (v := ?_) (a' := ?_) #[true, false, true, false, false, true, false, false, false, false, false, false, false, false, false, false, false, false, false, false, false, false, false] rfl rfl (by kernel_rfl) (fun _ _ _ h => h) (Or.inl ⟨by rfl, ?_⟩) ?_ ?_
          rotate_left
          · intro w'
            go_simp
            try with_reducible rfl
          rotate_left
          · simp only [Act.put, List.setIfInBounds_toArray, List.set_cons_zero, List.set_cons_succ, i64_w, i32_w]
            rfl
          refine pure_ (i := 7) (N := some 30) (v := ?_) (a' := ?_) #[true, false, true, false, false, true, false, true, false, false, false, false, false, false, false, false, false, false, false, false, false, false, false] rfl rfl (by kernel_rfl) (fun _ _ _ h => h) (Or.inl ⟨by rfl, ?_⟩) ?_ ?_
          rotate_left
          · intro w'
            go_simp
            try with_reducible rfl
          rotate_left
          · simp only [Act.put, List.setIfInBounds_toArray, List.set_cons_zero, List.set_cons_succ, i64_w, i32_w]
            rfl
          refine pure_ (i := 11) (N := some 34) (v := ?_) (a' := ?_) #[true, false, true, false, false, true, false, true, false, false, false, true, false, false, false, false, false, false, false, false, false, false, false] rfl rfl (by kernel_rfl) (fun _ _ _ h => h) (Or.inl ⟨by rfl, ?_⟩) ?_ ?_
          rotate_left
          · intro w'
            go_simp
            try with_reducible rfl
          rotate_left
          · simp only [Act.put, List.setIfInBounds_toArray, List.set_cons_zero, List.set_cons_succ, i64_w, i32_w]
            rfl
          refine pure_ (i := 13) (N := some 36) (v := ?_) (a' := ?_) #[true, false, true, false, false, true, false, true, false, false, false, true, false, true, false, false, false, false, false, false, false, false, false] rfl rfl (by kernel_rfl) (fun _ _ _ h => h) (Or.inl ⟨by rfl, ?_⟩) ?_ ?_
          rotate_left
          · intro w'
            go_simp
            try with_reducible rfl
          rotate_left
          · simp only [Act.put, List.setIfInBounds_toArray, List.set_cons_zero, List.set_cons_succ, i64_w, i32_w]
            rfl
          refine pure_ (i := 16) (N := some 39) (v := ?_) (a' := ?_) #[true, false, true, false, false, true, false, true, false, false, false, true, false, true, false, false, true, false, false, false, false, false, false] rfl rfl (by kernel_rfl) (fun _ _ _ h => h) (Or.inl ⟨by rfl, ?_⟩) ?_ ?_
          rotate_left
          · intro w'
            go_simp
            try with_reducible rfl
          rotate_left
          · simp only [Act.put, List.setIfInBounds_toArray, List.set_cons_zero, List.set_cons_succ, i64_w, i32_w]
            rfl
          refine pure_ (i := 18) (N := some 41) (v := ?_) (a' := ?_) #[true, false, true, false, false, true, false, true, false, false, false, true, false, true, false, false, true, false, true, false, false, false, false] rfl rfl (by kernel_rfl) (fun _ _ _ h => h) (Or.inl ⟨by rfl, ?_⟩) ?_ ?_
          rotate_left
          · intro w'
            go_simp
            try with_reducible rfl
          rotate_left
          · simp only [Act.put, List.setIfInBounds_toArray, List.set_cons_zero, List.set_cons_succ, i64_w, i32_w]
            rfl
          refine take_ (i := 1) (N := some 24) (v := ?_) (a' := ?_) #[true, true, true, false, false, true, false, true, false, false, false, true, false, true, false, false, true, false, true, false, false, false, false] rfl rfl (by kernel_rfl) (fun _ _ _ h => h) (Or.inl ⟨by rfl, ?_⟩) hHeld ?_ ?_
          rotate_left
          · intro w' hS
            obtain ⟨s0, s1, ⟨e0, e1, e2, e3, e4, e5⟩, ⟨h0, h1, h2, h3, h4, h5⟩⟩ := hS
            go_simp
            try with_reducible rfl
          rotate_left
          · simp only [Act.put, List.setIfInBounds_toArray, List.set_cons_zero, List.set_cons_succ, i64_w, i32_w]
            rfl
          refine take_ (i := 6) (N := some 29) (v := ?_) (a' := ?_) #[true, true, true, false, false, true, true, true, false, false, false, true, false, true, false, false, true, false, true, false, false, false, false] rfl rfl (by kernel_rfl) (fun _ _ _ h => h) (Or.inl ⟨by rfl, ?_⟩) hHeld ?_ ?_
          rotate_left
          · intro w' hS
            obtain ⟨s0, s1, ⟨e0, e1, e2, e3, e4, e5⟩, ⟨h0, h1, h2, h3, h4, h5⟩⟩ := hS
            go_simp
            try with_reducible rfl
          rotate_left
          · simp only [Act.put, List.setIfInBounds_toArray, List.set_cons_zero, List.set_cons_succ, i64_w, i32_w]
            rfl
          refine take_ (i := 12) (N := some 35) (v := ?_) (a' := ?_) #[true, true, true, false, false, true, true, true, false, false, false, true, true, true, false, false, true, false, true, false, false, false, false] rfl rfl (by kernel_rfl) (fun _ _ _ h => h) (Or.inl ⟨by rfl, ?_⟩) hHeld ?_ ?_
          rotate_left
          · intro w' hS
            obtain ⟨s0, s1, ⟨e0, e1, e2, e3, e4, e5⟩, ⟨h0, h1, h2, h3, h4, h5⟩⟩ := hS
            go_simp
            try with_reducible rfl
          rotate_left
          · simp only [Act.put, List.setIfInBounds_toArray, List.set_cons_zero, List.set_cons_succ, i64_w, i32_w]
            rfl
          refine take_ (i := 17) (N := some 40) (v := ?_) (a' := ?_) #[true, true, true, false, false, true, true, true, false, false, false, true, true, true, false, false, true, true, true, false, false, false, false] rfl rfl (by kernel_rfl) (fun _ _ _ h => h) (Or.inl ⟨by rfl, ?_⟩) hHeld ?_ ?_
          rotate_left
          · intro w' hS
            obtain ⟨s0, s1, ⟨e0, e1, e2, e3, e4, e5⟩, ⟨h0, h1, h2, h3, h4, h5⟩⟩ := hS
            go_simp
            try with_reducible rfl
          rotate_left
          · simp only [Act.put, List.setIfInBounds_toArray, List.set_cons_zero, List.set_cons_succ, i64_w, i32_w]
            rfl
          refine pure_ (i := 3) (N := some 26) (v := ?_) (a' := ?_) #[true, true, true, true, false, true, true, true, false, false, false, true, true, true, false, false, true, true, true, false, false, false, false] rfl rfl (by kernel_rfl) (fun _ _ _ h => h) (Or.inl ⟨by rfl, ?_⟩) ?_ ?_
          rotate_left
          · intro w'
            go_simp
            try with_reducible rfl
          rotate_left
          · simp only [Act.put, List.setIfInBounds_toArray, List.set_cons_zero, List.set_cons_succ, i64_w, i32_w]
            rfl
          refine pure_ (i := 8) (N := some 31) (v := ?_) (a' := ?_) #[true, true, true, true, false, true, true, true, true, false, false, true, true, true, false, false, true, true, true, false, false, false, false] rfl rfl (by kernel_rfl) (fun _ _ _ h => h) (Or.inl ⟨by rfl, ?_⟩) ?_ ?_
          rotate_left
          · intro w'
            go_simp
            try with_reducible rfl
          rotate_left
          · simp only [Act.put, List.setIfInBounds_toArray, List.set_cons_zero, List.set_cons_succ, i64_w, i32_w]
            rfl
          refine pure_ (i := 14) (N := some 37) (v := ?_) (a' := ?_) #[true, true, true, true, false, true, true, true, true, false, false, true, true, true, true, false, true, true, true, false, false, false, false] rfl rfl (by kernel_rfl) (fun _ _ _ h => h) (Or.inl ⟨by rfl, ?_⟩) ?_ ?_
          rotate_left
          · intro w'
            go_simp
            try with_reducible rfl
          rotate_left
          · simp only [Act.put, List.setIfInBounds_toArray, List.set_cons_zero, List.set_cons_succ, i64_w, i32_w]
            rfl
          refine pure_ (i := 19) (N := some 42) (v := ?_) (a' := ?_) #[true, true, true, true, false, true, true, true, true, false, false, true, true, true, true, false, true, true, true, true, false, false, false] rfl rfl (by kernel_rfl) (fun _ _ _ h => h) (Or.inl ⟨by rfl, ?_⟩) ?_ ?_
          rotate_left
          · intro w'
            go_simp
            try with_reducible rfl
          rotate_left
          · simp only [Act.put, List.setIfInBounds_toArray, List.set_cons_zero, List.set_cons_succ, i64_w, i32_w]
            rfl
          refine take_ (i := 4) (N := some 27) (v := ?_) (a' := ?_) #[true, true, true, true, true, true, true, true, true, false, false, true, true, true, true, false, true, true, true, true, false, false, false] rfl rfl (by kernel_rfl) (fun _ _ _ h => h) (Or.inl ⟨by rfl, ?_⟩) hHeld ?_ ?_
          rotate_left
          · intro w' hS
            obtain ⟨s0, s1, ⟨e0, e1, e2, e3, e4, e5⟩, ⟨h0, h1, h2, h3, h4, h5⟩⟩ := hS
            go_simp
            try with_reducible rfl
          rotate_left
          · simp only [Act.put, List.setIfInBounds_toArray, List.set_cons_zero, List.set_cons_succ, i64_w, i32_w]
            rfl
          refine take_ (i := 9) (N := some 32) (v := ?_) (a' := ?_) #[true, true, true, true, true, true, true, true, true, true, false, true, true, true, true, false, true, true, true, true, false, false, false] rfl rfl (by kernel_rfl) (fun _ _ _ h => h) (Or.inl ⟨by rfl, ?_⟩) hHeld ?_ ?_
          rotate_left
          · intro w' hS
            obtain ⟨s0, s1, ⟨e0, e1, e2, e3, e4, e5⟩, ⟨h0, h1, h2, h3, h4, h5⟩⟩ := hS
            go_simp
            try with_reducible rfl
          rotate_left
          · simp only [Act.put, List.setIfInBounds_toArray, List.set_cons_zero, List.set_cons_succ, i64_w, i32_w]
            rfl
          refine take_ (i := 15) (N := some 38) (v := ?_) (a' := ?_) #[true, true, true, true, true, true, true, true, true, true, false, true, true, true, true, true, true, true, true, true, false, false, false] rfl rfl (by kernel_rfl) (fun _ _ _ h => h) (Or.inl ⟨by rfl, ?_⟩) hHeld ?_ ?_
          rotate_left
          · intro w' hS
            obtain ⟨s0, s1, ⟨e0, e1, e2, e3, e4, e5⟩, ⟨h0, h1, h2, h3, h4, h5⟩⟩ := hS
            go_simp
            try with_reducible rfl
          rotate_left
          · simp only [Act.put, List.setIfInBounds_toArray, List.set_cons_zero, List.set_cons_succ, i64_w, i32_w]
            rfl
          refine take_ (i := 20) (N := some 43) (v := ?_) (a' := ?_) #[true, true, true, true, true, true, true, true, true, true, false, true, true, true, true, true, true, true, true, true, true, false, false] rfl rfl (by kernel_rfl) (fun _ _ _ h => h) (Or.inl ⟨by rfl, ?_⟩) hHeld ?_ ?_
          rotate_left
          · intro w' hS
            obtain ⟨s0, s1, ⟨e0, e1, e2, e3, e4, e5⟩, ⟨h0, h1, h2, h3, h4, h5⟩⟩ := hS
            go_simp
            try with_reducible rfl
          rotate_left
          · simp only [Act.put, List.setIfInBounds_toArray, List.set_cons_zero, List.set_cons_succ, i64_w, i32_w]
            rfl
          obtain ⟨q, hq⟩ : ∃ q, eqTx t u = q := ⟨_, rfl⟩
          have HQ := Lib.hid hq
          clear hq
          refine one_ (i := 10) (N := some 33) #[true, true, true, true, true, true, true, true, true, true, true, true, true, true, true, true, true, true, true, true, true, false, false] rfl rfl (by kernel_rfl) (by decide) (fun K hK => ?_)
          go_simp
          refine (sameTx_is t u HTCd.out HUCd.out).mono ?_
          rw [HQ.out]
          rintro e wb ⟨rfl, hb⟩
          have HTAe := Lib.hid (HTAd.out.below hb); have HUAe := Lib.hid (HUAd.out.below hb); have HXe := Lib.hid (HXd.out.below hb); have HBe := Lib.hid (HBd.out.trans (hb.mono HBd.out.size)); have HTCe := Lib.hid (HTCd.out.below hb); have HUCe := Lib.hid (HUCd.out.below hb)
          clear hb HTAd HUAd HXd HBd HTCd HUCd
          refine hK.out _ _ ⟨(blk_cell HXe.out.1 3).trans rfl, (blk_cell HXe.out.2.1 3).trans rfl, HTAe.out, HUAe.out⟩ (fun hHeld => ?_)
          clear hK K
          refine one_ (i := 21) (N := some 44) #[true, true, true, true, true, true, true, true, true, true, true, true, true, true, true, true, true, true, true, true, true, true, false] rfl rfl (by kernel_rfl) (by decide) (fun K hK => ?_)
          go_simp
          refine (refSame_is t u HTCe.out HUCe.out).mono ?_
          rw [HQ.out]
          rintro e wc ⟨rfl, hb⟩
          have HTAf := Lib.hid (HTAe.out.below hb); have HUAf := Lib.hid (HUAe.out.below hb); have HXf := Lib.hid (HXe.out.below hb); have HBf := Lib.hid (HBe.out.trans (hb.mono HBe.out.size))
          clear hb HTAe HUAe HXe HBe HTCe HUCe
          refine hK.out _ _ ⟨(blk_cell HXf.out.1 3).trans rfl, (blk_cell HXf.out.2.1 3).trans rfl, HTAf.out, HUAf.out⟩ (fun hHeld => ?_)
          clear hK K
          have hqq : (q != q) = false := by simp
          refine pure_ (i := 22) (N := some 45) (v := ?_) (a' := ?_) #[true, true, true, true, true, true, true, true, true, true, true, true, true, true, true, true, true, true, true, true, true, true, true] rfl rfl (by kernel_rfl) (fun _ _ _ h => h) (Or.inl ⟨by rfl, ?_⟩) ?_ ?_
          rotate_left
          · intro w'
            go_simp
            try with_reducible rfl
          rotate_left
          · simp only [Act.put, List.setIfInBounds_toArray, List.set_cons_zero, List.set_cons_succ, i64_w, i32_w]
            rfl
          refine done_ (by kernel_rfl) ?_
          go_wp2_with fail
          go_roundw
          case rel => exact ⟨j + 1, by go_num, hlt2, HBf.out⟩
          case measure => simp [intOf]; omega
        · have hjl : j = b.f3.length := by omega
          subst hjl
          obtain ⟨ad, T2, t2, T3, t3, T4, t4, T5, t5, rfl, hTa, hTc⟩ := tx_get (Kd.C_below HA.out HBj.out) HTT.out
          have HTA := Lib.hid hTa; have HTC := Lib.hid hTc; have HTS := Lib.hid (show SmT t from SA.out.2 t (List.mem_of_getElem? HTT.out))
          clear hTa hTc
          go_wp2_with fail
          have HTAd := Lib.hid (HTA.out.below ((Below.refl _ _).drew)); have HXd := Lib.hid (HXj.out.below ((Below.refl _ _).drew)); have HBd := Lib.hid HBj.out.drew; have HTCd := Lib.hid (HTC.out.below ((Below.refl _ _).drew))
          clear HTA HXj HBj HTC
          refine start_ (n := 13) (S := fun w' => w'.cell? ⟨g, 3, none⟩ = some (.slice (some ad) a.f3.length ca) ∧ TxAt w' (ad.add (k * 6)) t T2 t2 T3 t3 T4 t4 T5 t5) (ds := []) #[false, false, false, false, false, false, false, false, false, false, false, false, false] (by kernel_rfl) rfl rfl ⟨(blk_cell HXd.out.1 3).trans rfl, HTAd.out⟩ (fun hHeld => ?_)
          obtain ⟨wa, hwa⟩ : ∃ wa, wr.drew = wa := ⟨_, rfl⟩
          rw [hwa] at HTAd HXd HBd HTCd hHeld ⊢
          clear hwa
          refine pure_ (i := 0) (N := some 47) (v := ?_) (a' := ?_) #[true, false, false, false, false, false, false, false, false, false, false, false, false] rfl rfl (by kernel_rfl) (fun _ _ _ h => h) (Or.inl ⟨by rfl, ?_⟩) ?_ ?_
          rotate_left
          · intro w'
            go_simp
            try with_reducible rfl
          rotate_left
          · simp only [Act.put, List.setIfInBounds_toArray, List.set_cons_zero, List.set_cons_succ, i64_w, i32_w]
            rfl
          refine pure_ (i := 2) (N := some 49) (v := ?_) (a' := ?_) #[true, false, true, false, false, false, false, false, false, false, false, false, false] rfl rfl (by kernel_rfl) (fun _ _ _ h => h) (Or.inl ⟨by rfl, ?_⟩) ?_ ?_
          rotate_left
          · intro w'
            go_simp
            try with_reducible rfl
          rotate_left
          · simp only [Act.put, List.setIfInBounds_toArray, List.set_cons_zero, List.set_cons_succ, i64_w, i32_w]
            rfl
          refine pure_ (i := 6) (N := some 53) (v := ?_) (a' := ?_) #[true, false, true, false, false, false, true, false, false, false, false, false, false] rfl rfl (by kernel_rfl) (fun _ _ _ h => h) (Or.inl ⟨by rfl, ?_⟩) ?_ ?_
          rotate_left
          · intro w'
            go_simp
            try with_reducible rfl
          rotate_left
          · simp only [Act.put, List.setIfInBounds_toArray, List.set_cons_zero, List.set_cons_succ, i64_w, i32_w]
            rfl
          refine pure_ (i := 8) (N := some 55) (v := ?_) (a' := ?_) #[true, false, true, false, false, false, true, false, true, false, false, false, false] rfl rfl (by kernel_rfl) (fun _ _ _ h => h) (Or.inl ⟨by rfl, ?_⟩) ?_ ?_
          rotate_left
          · intro w'
            go_simp
            try with_reducible rfl
          rotate_left
          · simp only [Act.put, List.setIfInBounds_toArray, List.set_cons_zero, List.set_cons_succ, i64_w, i32_w]
            rfl
          refine take_ (i := 1) (N := some 48) (v := ?_) (a' := ?_) #[true, true, true, false, false, false, true, false, true, false, false, false, false] rfl rfl (by kernel_rfl) (fun _ _ _ h => h) (Or.inl ⟨by rfl, ?_⟩) hHeld ?_ ?_
          rotate_left
          · intro w' hS
            obtain ⟨s0, ⟨e0, e1, e2, e3, e4, e5⟩⟩ := hS
            go_simp
            try with_reducible rfl
          rotate_left
          · simp only [Act.put, List.setIfInBounds_toArray, List.set_cons_zero, List.set_cons_succ, i64_w, i32_w]
            rfl
          refine take_ (i := 7) (N := some 54) (v := ?_) (a' := ?_) #[true, true, true, false, false, false, true, true, true, false, false, false, false] rfl rfl (by kernel_rfl) (fun _ _ _ h => h) (Or.inl ⟨by rfl, ?_⟩) hHeld ?_ ?_
          rotate_left
          · intro w' hS
            obtain ⟨s0, ⟨e0, e1, e2, e3, e4, e5⟩⟩ := hS
            go_simp
            try with_reducible rfl
          rotate_left
          · simp only [Act.put, List.setIfInBounds_toArray, List.set_cons_zero, List.set_cons_succ, i64_w, i32_w]
            rfl
          refine pure_ (i := 3) (N := some 50) (v := ?_) (a' := ?_) #[true, true, true, true, false, false, true, true, true, false, false, false, false] rfl rfl (by kernel_rfl) (fun _ _ _ h => h) (Or.inl ⟨by rfl, ?_⟩) ?_ ?_
          rotate_left
          · intro w'
            go_simp
            try with_reducible rfl
          rotate_left
          · simp only [Act.put, List.setIfInBounds_toArray, List.set_cons_zero, List.set_cons_succ, i64_w, i32_w]
            rfl
          refine pure_ (i := 9) (N := some 56) (v := ?_) (a' := ?_) #[true, true, true, true, false, false, true, true, true, true, false, false, false] rfl rfl (by kernel_rfl) (fun _ _ _ h => h) (Or.inl ⟨by rfl, ?_⟩) ?_ ?_
          rotate_left
          · intro w'
            go_simp
            try with_reducible rfl
          rotate_left
          · simp only [Act.put, List.setIfInBounds_toArray, List.set_cons_zero, List.set_cons_succ, i64_w, i32_w]
            rfl
          refine take_ (i := 4) (N := some 51) (v := ?_) (a' := ?_) #[true, true, true, true, true, false, true, true, true, true, false, false, false] rfl rfl (by kernel_rfl) (fun _ _ _ h => h) (Or.inl ⟨by rfl, ?_⟩) hHeld ?_ ?_
          rotate_left
          · intro w' hS
            obtain ⟨s0, ⟨e0, e1, e2, e3, e4, e5⟩⟩ := hS
            go_simp
            try with_reducible rfl
          rotate_left
          · simp only [Act.put, List.setIfInBounds_toArray, List.set_cons_zero, List.set_cons_succ, i64_w, i32_w]
            rfl
          refine take_ (i := 10) (N := some 57) (v := ?_) (a' := ?_) #[true, true, true, true, true, false, true, true, true, true, true, false, false] rfl rfl (by kernel_rfl) (fun _ _ _ h => h) (Or.inl ⟨by rfl, ?_⟩) hHeld ?_ ?_
          rotate_left
          · intro w' hS
            obtain ⟨s0, ⟨e0, e1, e2, e3, e4, e5⟩⟩ := hS
            go_simp
            try with_reducible rfl
          rotate_left
          · simp only [Act.put, List.setIfInBounds_toArray, List.set_cons_zero, List.set_cons_succ, i64_w, i32_w]
            rfl
          refine one_ (i := 5) (N := some 52) #[true, true, true, true, true, true, true, true, true, true, true, false, false] rfl rfl (by kernel_rfl) (by decide) (fun K hK => ?_)
          go_simp
          refine (cloneTx_is t HTCd.out HTS.out).mono ?_
          rintro e wb ⟨v2, v3, v4, v5, rfl, r2, r3, r4, r5, hb⟩
          obtain ⟨N2, n2, N3, n3, N4, n4, N5, n5, rfl, rfl, rfl, rfl, hN⟩ := TxW.of r2 r3 r4 r5
          have HTAe := Lib.hid (HTAd.out.below hb); have HXe := Lib.hid (HXd.out.below hb); have HBe := Lib.hid (HBd.out.trans (hb.mono HBd.out.size)); have HTCe := Lib.hid (HTCd.out.below hb); have HNe := Lib.hid hN.c
          clear hb HTAd HXd HBd HTCd r2 r3 r4 r5 hN
          refine hK.out _ _ ⟨(blk_cell HXe.out.1 3).trans rfl, HTAe.out⟩ (fun hHeld => ?_)
          clear hK K
          refine one_ (i := 11) (N := some 58) #[true, true, true, true, true, true, true, true, true, true, true, true, false] rfl rfl (by kernel_rfl) (by decide) (fun K hK => ?_)
          go_simp
          have h4 := refSame_is t t HNe.out HTCe.out
          rw [show eqTx t t = true by unfold eqTx; simp [eqS_refl]] at h4
          refine h4.mono ?_
          rintro e wc ⟨rfl, hb⟩
          have HTAf := Lib.hid (HTAe.out.below hb); have HXf := Lib.hid (HXe.out.below hb); have HBf := Lib.hid (HBe.out.trans (hb.mono HBe.out.size))
          clear hb h4 HTAe HXe HBe HTCe
          refine hK.out _ _ ⟨(blk_cell HXf.out.1 3).trans rfl, HTAf.out⟩ (fun hHeld => ?_)
          clear hK K
          refine pure_ (i := 12) (N := some 59) (v := ?_) (a' := ?_) #[true, true, true, true, true, true, true, true, true, true, true, true, true] rfl rfl (by kernel_rfl) (fun _ _ _ h => h) (Or.inl ⟨by rfl, ?_⟩) ?_ ?_
          rotate_left
          · intro w'
            go_simp
            try with_reducible rfl
          rotate_left
          · simp only [Act.put, List.setIfInBounds_toArray, List.set_cons_zero, List.set_cons_succ, i64_w, i32_w]
            rfl
          refine done_ (by kernel_rfl) ?_
          go_wp2_with fail
          go_roundw
          case rel => exact ⟨k + 1, by go_num, hlt, HBf.out⟩
          case measure => simp [intOf]; omega
    · have hkl : k = a.f3.length := by omega
      subst hkl
      skip
      go_wp2_with fail
      as_aux_lemma =>
        have HX0 := Lib.hid (HXr.out.below ((Below.refl _ _).drew)); have HB0 := Lib.hid HB.out.drew
        clear HXr HB
        refine start_ (n := 42) (S := fun w' => Box4 w' g a b A B ca cb m n A8 A12 A16 B8 B12 B16 c8 c12 c16 d8 d12 d16) (ds := []) #[false, false, false, false, false, false, false, false, false, false, false, false, false, false, false, false, false, false, false, false, false, false, false, false, false, false, false, false, false, false, false, false, false, false, false, false, false, false, false, false, false, false] (by kernel_rfl) rfl rfl HX0.out (fun hHeld => ?_)
        refine with_tabW sames13_tab sames13_bits (fun HT_ HW_ => ?_)
        obtain ⟨v0, hwa⟩ : ∃ wa, wr.drew = wa := ⟨_, rfl⟩
        rw [hwa] at HX0 HB0 hHeld ⊢
        clear hwa
        obtain ⟨q, hq⟩ : ∃ q, eqEn a.f0 a.f1 a.f2 a.f3 b.f0 b.f1 b.f2 b.f3 = q := ⟨_, rfl⟩
        have HQ := Lib.hid hq
        obtain ⟨p, hp⟩ : ∃ p, eqMs m n = p := ⟨_, rfl⟩
        have HP := Lib.hid hp
        have hqq : (q == q) = true := by simp
        have hpp : (p == p) = true := by simp
        clear hq hp
        refine one_ (i := 0) (N := some 61) #[true, false, false, false, false, false, false, false, false, false, false, false, false, false, false, false, false, false, false, false, false, false, false, false, false, false, false, false, false, false, false, false, false, false, false, false, false, false, false, false, false, false] rfl rfl (one_of HT_.out (by kernel_rfl)) (by decide) (fun K hK => ?_)
        go_simp
        have h4 := begun_is v0
        refine h4.mono ?_
        rintro e v1 ⟨rfl, hb⟩
        have HX1 := Lib.hid (HX0.out.below hb); have HB1 := Lib.hid (HB0.out.trans (hb.mono HB0.out.size))
        clear h4 hb HX0 HB0
        refine hK.out _ _ HX1.out (fun hHeld => ?_)
        clear hK K
        refine pure_ (i := 1) (N := some 62) (v := ?_) (a' := ?_) #[true, true, false, false, false, false, false, false, false, false, false, false, false, false, false, false, false, false, false, false, false, false, false, false, false, false, false, false, false, false, false, false, false, false, false, false, false, false, false, false, false, false] rfl rfl (any_of HT_.out (by kernel_rfl)) (fun _ _ _ h => h) (Or.inl ⟨by rfl, ?_⟩) ?_ ?_
        rotate_left
        · intro w'
          go_simp
          try with_reducible rfl
        rotate_left
        · simp only [Act.put, List.setIfInBounds_toArray, List.set_cons_zero, List.set_cons_succ, i64_w, i32_w]
          rfl
        refine take_ (i := 2) (N := some 63) (v := _) (a' := ?_) #[true, true, true, false, false, false, false, false, false, false, false, false, false, false, false, false, false, false, false, false, false, false, false, false, false, false, false, false, false, false, false, false, false, false, false, false, false, false, false, false, false, false] rfl rfl (take_ofW HT_.out HW_.out (by kernel_rfl)) (fun _ _ _ h => h) (Or.inl ⟨by rfl, fun w' hS => exec_load_row rfl rfl (hS.1) Try.underlying24 rfl (by kernel_rfl)⟩) hHeld ?_ ?_
        rotate_left
        · simp only [Act.put, List.setIfInBounds_toArray, List.set_cons_zero, List.set_cons_succ, i64_w, i32_w]
          rfl
        refine take_ (i := 3) (N := some 64) (v := _) (a' := ?_) #[true, true, true, true, false, false, false, false, false, false, false, false, false, false, false, false, false, false, false, false, false, false, false, false, false, false, false, false, false, false, false, false, false, false, false, false, false, false, false, false, false, false] rfl rfl (take_ofW HT_.out HW_.out (by kernel_rfl)) (fun _ _ _ h => h) (Or.inl ⟨by rfl, fun w' hS => exec_load_row rfl rfl (hS.2.1) Try.underlying24 rfl (by kernel_rfl)⟩) hHeld ?_ ?_
        rotate_left
        · simp only [Act.put, List.setIfInBounds_toArray, List.set_cons_zero, List.set_cons_succ, i64_w, i32_w]
          rfl
        refine take_ (i := 5) (N := some 66) (v := _) (a' := ?_) #[true, true, true, true, false, true, false, false, false, false, false, false, false, false, false, false, false, false, false, false, false, false, false, false, false, false, false, false, false, false, false, false, false, false, false, false, false, false, false, false, false, false] rfl rfl (take_ofW HT_.out HW_.out (by kernel_rfl)) (fun _ _ _ h => h) (Or.inl ⟨by rfl, fun w' hS => exec_load_row rfl rfl (hS.1) Try.underlying24 rfl (by kernel_rfl)⟩) hHeld ?_ ?_
        rotate_left
        · simp only [Act.put, List.setIfInBounds_toArray, List.set_cons_zero, List.set_cons_succ, i64_w, i32_w]
          rfl
        refine take_ (i := 6) (N := some 67) (v := _) (a' := ?_) #[true, true, true, true, false, true, true, false, false, false, false, false, false, false, false, false, false, false, false, false, false, false, false, false, false, false, false, false, false, false, false, false, false, false, false, false, false, false, false, false, false, false] rfl rfl (take_ofW HT_.out HW_.out (by kernel_rfl)) (fun _ _ _ h => h) (Or.inl ⟨by rfl, fun w' hS => exec_load_row rfl rfl (hS.2.1) Try.underlying24 rfl (by kernel_rfl)⟩) hHeld ?_ ?_
        rotate_left
        · simp only [Act.put, List.setIfInBounds_toArray, List.set_cons_zero, List.set_cons_succ, i64_w, i32_w]
          rfl
        refine one_ (i := 4) (N := some 65) #[true, true, true, true, true, true, true, false, false, false, false, false, false, false, false, false, false, false, false, false, false, false, false, false, false, false, false, false, false, false, false, false, false, false, false, false, false, false, false, false, false, false] rfl rfl (one_of HT_.out (by kernel_rfl)) (by decide) (fun K hK => ?_)
        go_simp
        have h4 := sameEn_is a.f0 a.f1 a.f2 A ca a.f3 b.f0 b.f1 b.f2 B cb b.f3 v1 (Kd.C_below HA.out HB1.out) (Kd.C_below HBb.out HB1.out)
        rw [HQ.out] at h4
        refine h4.mono ?_
        rintro e v2 ⟨rfl, hb⟩
        have HX2 := Lib.hid (HX1.out.below hb); have HB2 := Lib.hid (HB1.out.trans (hb.mono HB1.out.size))
        clear h4 hb HX1 HB1
        refine hK.out _ _ HX2.out (fun hHeld => ?_)
        clear hK K
        refine one_ (i := 7) (N := some 68) #[true, true, true, true, true, true, true, true, false, false, false, false, false, false, false, false, false, false, false, false, false, false, false, false, false, false, false, false, false, false, false, false, false, false, false, false, false, false, false, false, false, false] rfl rfl (one_of HT_.out (by kernel_rfl)) (by decide) (fun K hK => ?_)
        go_simp
        have h4 := refSameEn_is a.f0 a.f1 a.f2 A ca a.f3 b.f0 b.f1 b.f2 B cb b.f3 v2 (Kd.C_below HA.out HB2.out) HL.out.1 (Kd.C_below HBb.out HB2.out) HL.out.2
        rw [HQ.out] at h4
        refine h4.mono ?_
        rintro e v3 ⟨rfl, hb⟩
        have HX3 := Lib.hid (HX2.out.below hb); have HB3 := Lib.hid (HB2.out.trans (hb.mono HB2.out.size))
        clear h4 hb HX2 HB2
        refine hK.out _ _ HX3.out (fun hHeld => ?_)
        clear hK K
        refine pure_ (i := 8) (N := some 69) (v := ?_) (a' := ?_) #[true, true, true, true, true, true, true, true, true, false, false, false, false, false, false, false, false, false, false, false, false, false, false, false, false, false, false, false, false, false, false, false, false, false, false, false, false, false, false, false, false, false] rfl rfl (any_of HT_.out (by kernel_rfl)) (fun _ _ _ h => h) (Or.inl ⟨by rfl, ?_⟩) ?_ ?_
        rotate_left
        · intro w'
          go_simp
          try with_reducible rfl
        rotate_left
        · simp only [Act.put, List.setIfInBounds_toArray, List.set_cons_zero, List.set_cons_succ, i64_w, i32_w]
          rfl
        refine pure_ (i := 9) (N := some 70) (v := ?_) (a' := ?_) #[true, true, true, true, true, true, true, true, true, true, false, false, false, false, false, false, false, false, false, false, false, false, false, false, false, false, false, false, false, false, false, false, false, false, false, false, false, false, false, false, false, false] rfl rfl (any_of HT_.out (by kernel_rfl)) (fun _ _ _ h => h) (Or.inl ⟨by rfl, ?_⟩) ?_ ?_
        rotate_left
        · intro w'
          go_simp
          try with_reducible rfl
        rotate_left
        · simp only [Act.put, List.setIfInBounds_toArray, List.set_cons_zero, List.set_cons_succ, i64_w, i32_w]
          rfl
        refine pure_ (i := 10) (N := some 71) (v := ?_) (a' := ?_) #[true, true, true, true, true, true, true, true, true, true, true, false, false, false, false, false, false, false, false, false, false, false, false, false, false, false, false, false, false, false, false, false, false, false, false, false, false, false, false, false, false, false] rfl rfl (any_of HT_.out (by kernel_rfl)) (fun _ _ _ h => h) (Or.inl ⟨by rfl, ?_⟩) ?_ ?_
        rotate_left
        · intro w'
          go_simp
          try with_reducible rfl
        rotate_left
        · simp only [Act.put, List.setIfInBounds_toArray, List.set_cons_zero, List.set_cons_succ, i64_w, i32_w]
          rfl
        as_aux_lemma =>
          refine take_ (i := 11) (N := some 72) (v := _) (a' := ?_) #[true, true, true, true, true, true, true, true, true, true, true, true, false, false, false, false, false, false, false, false, false, false, false, false, false, false, false, false, false, false, false, false, false, false, false, false, false, false, false, false, false, false] rfl rfl (take_ofW HT_.out HW_.out (by kernel_rfl)) (fun _ _ _ h => h) (Or.inl ⟨by rfl, fun w' hS => exec_load_row rfl rfl (hS.2.2.1) Try.underlying57 rfl (by kernel_rfl)⟩) hHeld ?_ ?_
          rotate_left
          · simp only [Act.put, List.setIfInBounds_toArray, List.set_cons_zero, List.set_cons_succ, i64_w, i32_w]
            rfl
          refine take_ (i := 12) (N := some 73) (v := _) (a' := ?_) #[true, true, true, true, true, true, true, true, true, true, true, true, true, false, false, false, false, false, false, false, false, false, false, false, false, false, false, false, false, false, false, false, false, false, false, false, false, false, false, false, false, false] rfl rfl (take_ofW HT_.out HW_.out (by kernel_rfl)) (fun _ _ _ h => h) (Or.inl ⟨by rfl, fun w' hS => exec_load_row rfl rfl (hS.2.2.2) Try.underlying57 rfl (by kernel_rfl)⟩) hHeld ?_ ?_
          rotate_left
          · simp only [Act.put, List.setIfInBounds_toArray, List.set_cons_zero, List.set_cons_succ, i64_w, i32_w]
            rfl
          refine take_ (i := 14) (N := some 75) (v := _) (a' := ?_) #[true, true, true, true, true, true, true, true, true, true, true, true, true, false, true, false, false, false, false, false, false, false, false, false, false, false, false, false, false, false, false, false, false, false, false, false, false, false, false, false, false, false] rfl rfl (take_ofW HT_.out HW_.out (by kernel_rfl)) (fun _ _ _ h => h) (Or.inl ⟨by rfl, fun w' hS => exec_load_row rfl rfl (hS.2.2.1) Try.underlying57 rfl (by kernel_rfl)⟩) hHeld ?_ ?_
          rotate_left
          · simp only [Act.put, List.setIfInBounds_toArray, List.set_cons_zero, List.set_cons_succ, i64_w, i32_w]
            rfl
          refine take_ (i := 15) (N := some 76) (v := _) (a' := ?_) #[true, true, true, true, true, true, true, true, true, true, true, true, true, false, true, true, false, false, false, false, false, false, false, false, false, false, false, false, false, false, false, false, false, false, false, false, false, false, false, false, false, false] rfl rfl (take_ofW HT_.out HW_.out (by kernel_rfl)) (fun _ _ _ h => h) (Or.inl ⟨by rfl, fun w' hS => exec_load_row rfl rfl (hS.2.2.2) Try.underlying57 rfl (by kernel_rfl)⟩) hHeld ?_ ?_
          rotate_left
          · simp only [Act.put, List.setIfInBounds_toArray, List.set_cons_zero, List.set_cons_succ, i64_w, i32_w]
            rfl
          refine one_ (i := 13) (N := some 74) #[true, true, true, true, true, true, true, true, true, true, true, true, true, true, true, true, false, false, false, false, false, false, false, false, false, false, false, false, false, false, false, false, false, false, false, false, false, false, false, false, false, false] rfl rfl (one_of HT_.out (by kernel_rfl)) (by decide) (fun K hK => ?_)
          go_simp
          have h4 := sameMs_is m n (HM.out.below HB3.out) (HN.out.below HB3.out)
          rw [HP.out] at h4
          refine h4.mono ?_
          rintro e v4 ⟨rfl, hb⟩
          have HX4 := Lib.hid (HX3.out.below hb); have HB4 := Lib.hid (HB3.out.trans (hb.mono HB3.out.size))
          clear h4 hb HX3 HB3
          refine hK.out _ _ HX4.out (fun hHeld => ?_)
          clear hK K
          refine one_ (i := 16) (N := some 77) #[true, true, true, true, true, true, true, true, true, true, true, true, true, true, true, true, true, false, false, false, false, false, false, false, false, false, false, false, false, false, false, false, false, false, false, false, false, false, false, false, false, false] rfl rfl (one_of HT_.out (by kernel_rfl)) (by decide) (fun K hK => ?_)
          go_simp
          have h4 := refSameMs_is m n (HM.out.below HB4.out) (HN.out.below HB4.out)
          rw [HP.out] at h4
          refine h4.mono ?_
          rintro e v5 ⟨rfl, hb⟩
          have HX5 := Lib.hid (HX4.out.below hb); have HB5 := Lib.hid (HB4.out.trans (hb.mono HB4.out.size))
          clear h4 hb HX4 HB4
          refine hK.out _ _ HX5.out (fun hHeld => ?_)
          clear hK K
          refine pure_ (i := 17) (N := some 78) (v := ?_) (a' := ?_) #[true, true, true, true, true, true, true, true, true, true, true, true, true, true, true, true, true, true, false, false, false, false, false, false, false, false, false, false, false, false, false, false, false, false, false, false, false, false, false, false, false, false] rfl rfl (any_of HT_.out (by kernel_rfl)) (fun _ _ _ h => h) (Or.inl ⟨by rfl, ?_⟩) ?_ ?_
          rotate_left
          · intro w'
            go_simp
            try with_reducible rfl
          rotate_left
          · simp only [Act.put, List.setIfInBounds_toArray, List.set_cons_zero, List.set_cons_succ, i64_w, i32_w]
            rfl
          refine pure_ (i := 18) (N := some 79) (v := ?_) (a' := ?_) #[true, true, true, true, true, true, true, true, true, true, true, true, true, true, true, true, true, true, true, false, false, false, false, false, false, false, false, false, false, false, false, false, false, false, false, false, false, false, false, false, false, false] rfl rfl (any_of HT_.out (by kernel_rfl)) (fun _ _ _ h => h) (Or.inl ⟨by rfl, ?_⟩) ?_ ?_
          rotate_left
          · intro w'
            go_simp
            try with_reducible rfl
          rotate_left
          · simp only [Act.put, List.setIfInBounds_toArray, List.set_cons_zero, List.set_cons_succ, i64_w, i32_w]
            rfl
          refine pure_ (i := 19) (N := some 80) (v := ?_) (a' := ?_) #[true, true, true, true, true, true, true, true, true, true, true, true, true, true, true, true, true, true, true, true, false, false, false, false, false, false, false, false, false, false, false, false, false, false, false, false, false, false, false, false, false, false] rfl rfl (any_of HT_.out (by kernel_rfl)) (fun _ _ _ h => h) (Or.inl ⟨by rfl, ?_⟩) ?_ ?_
          rotate_left
          · intro w'
            go_simp
            try with_reducible rfl
          rotate_left
          · simp only [Act.put, List.setIfInBounds_toArray, List.set_cons_zero, List.set_cons_succ, i64_w, i32_w]
            rfl
          as_aux_lemma =>
            refine take_ (i := 20) (N := some 81) (v := _) (a' := ?_) #[true, true, true, true, true, true, true, true, true, true, true, true, true, true, true, true, true, true, true, true, true, false, false, false, false, false, false, false, false, false, false, false, false, false, false, false, false, false, false, false, false, false] rfl rfl (take_ofW HT_.out HW_.out (by kernel_rfl)) (fun _ _ _ h => h) (Or.inl ⟨by rfl, fun w' hS => exec_load_row rfl rfl (hS.1) Try.underlying24 rfl (by kernel_rfl)⟩) hHeld ?_ ?_
            rotate_left
            · simp only [Act.put, List.setIfInBounds_toArray, List.set_cons_zero, List.set_cons_succ, i64_w, i32_w]
              rfl
            refine take_ (i := 21) (N := some 82) (v := _) (a' := ?_) #[true, true, true, true, true, true, true, true, true, true, true, true, true, true, true, true, true, true, true, true, true, true, false, false, false, false, false, false, false, false, false, false, false, false, false, false, false, false, false, false, false, false] rfl rfl (take_ofW HT_.out HW_.out (by kernel_rfl)) (fun _ _ _ h => h) (Or.inl ⟨by rfl, fun w' hS => exec_load_row rfl rfl (hS.1) Try.underlying24 rfl (by kernel_rfl)⟩) hHeld ?_ ?_
            rotate_left
            · simp only [Act.put, List.setIfInBounds_toArray, List.set_cons_zero, List.set_cons_succ, i64_w, i32_w]
              rfl
            refine one_ (i := 22) (N := some 83) #[true, true, true, true, true, true, true, true, true, true, true, true, true, true, true, true, true, true, true, true, true, true, true, false, false, false, false, false, false, false, false, false, false, false, false, false, false, false, false, false, false, false] rfl rfl (one_of HT_.out (by kernel_rfl)) (by decide) (fun K hK => ?_)
            go_simp
            have h4 := sameEn_is a.f0 a.f1 a.f2 A ca a.f3 a.f0 a.f1 a.f2 A ca a.f3 v5 (Kd.C_below HA.out HB5.out) (Kd.C_below HA.out HB5.out)
            rw [eqEn_refl] at h4
            refine h4.mono ?_
            rintro e v6 ⟨rfl, hb⟩
            have HX6 := Lib.hid (HX5.out.below hb); have HB6 := Lib.hid (HB5.out.trans (hb.mono HB5.out.size))
            clear h4 hb HX5 HB5
            refine hK.out _ _ HX6.out (fun hHeld => ?_)
            clear hK K
            refine pure_ (i := 23) (N := some 84) (v := ?_) (a' := ?_) #[true, true, true, true, true, true, true, true, true, true, true, true, true, true, true, true, true, true, true, true, true, true, true, true, false, false, false, false, false, false, false, false, false, false, false, false, false, false, false, false, false, false] rfl rfl (any_of HT_.out (by kernel_rfl)) (fun _ _ _ h => h) (Or.inl ⟨by rfl, ?_⟩) ?_ ?_
            rotate_left
            · intro w'
              go_simp
              try with_reducible rfl
            rotate_left
            · simp only [Act.put, List.setIfInBounds_toArray, List.set_cons_zero, List.set_cons_succ, i64_w, i32_w]
              rfl
            refine pure_ (i := 24) (N := some 85) (v := ?_) (a' := ?_) #[true, true, true, true, true, true, true, true, true, true, true, true, true, true, true, true, true, true, true, true, true, true, true, true, true, false, false, false, false, false, false, false, false, false, false, false, false, false, false, false, false, false] rfl rfl (any_of HT_.out (by kernel_rfl)) (fun _ _ _ h => h) (Or.inl ⟨by rfl, ?_⟩) ?_ ?_
            rotate_left
            · intro w'
              go_simp
              try with_reducible rfl
            rotate_left
            · simp only [Act.put, List.setIfInBounds_toArray, List.set_cons_zero, List.set_cons_succ, i64_w, i32_w]
              rfl
            refine take_ (i := 25) (N := some 86) (v := _) (a' := ?_) #[true, true, true, true, true, true, true, true, true, true, true, true, true, true, true, true, true, true, true, true, true, true, true, true, true, true, false, false, false, false, false, false, false, false, false, false, false, false, false, false, false, false] rfl rfl (take_ofW HT_.out HW_.out (by kernel_rfl)) (fun _ _ _ h => h) (Or.inl ⟨by rfl, fun w' hS => exec_load_row rfl rfl (hS.2.2.1) Try.underlying57 rfl (by kernel_rfl)⟩) hHeld ?_ ?_
            rotate_left
            · simp only [Act.put, List.setIfInBounds_toArray, List.set_cons_zero, List.set_cons_succ, i64_w, i32_w]
              rfl
            refine take_ (i := 26) (N := some 87) (v := _) (a' := ?_) #[true, true, true, true, true, true, true, true, true, true, true, true, true, true, true, true, true, true, true, true, true, true, true, true, true, true, true, false, false, false, false, false, false, false, false, false, false, false, false, false, false, false] rfl rfl (take_ofW HT_.out HW_.out (by kernel_rfl)) (fun _ _ _ h => h) (Or.inl ⟨by rfl, fun w' hS => exec_load_row rfl rfl (hS.2.2.1) Try.underlying57 rfl (by kernel_rfl)⟩) hHeld ?_ ?_
            rotate_left
            · simp only [Act.put, List.setIfInBounds_toArray, List.set_cons_zero, List.set_cons_succ, i64_w, i32_w]
              rfl
            refine one_ (i := 27) (N := some 88) #[true, true, true, true, true, true, true, true, true, true, true, true, true, true, true, true, true, true, true, true, true, true, true, true, true, true, true, true, false, false, false, false, false, false, false, false, false, false, false, false, false, false] rfl rfl (one_of HT_.out (by kernel_rfl)) (by decide) (fun K hK => ?_)
            go_simp
            have h4 := sameMs_is m m (HM.out.below HB6.out) (HM.out.below HB6.out)
            rw [eqMs_refl] at h4
            refine h4.mono ?_
            rintro e v7 ⟨rfl, hb⟩
            have HX7 := Lib.hid (HX6.out.below hb); have HB7 := Lib.hid (HB6.out.trans (hb.mono HB6.out.size))
            clear h4 hb HX6 HB6
            refine hK.out _ _ HX7.out (fun hHeld => ?_)
            clear hK K
            refine pure_ (i := 28) (N := some 89) (v := ?_) (a' := ?_) #[true, true, true, true, true, true, true, true, true, true, true, true, true, true, true, true, true, true, true, true, true, true, true, true, true, true, true, true, true, false, false, false, false, false, false, false, false, false, false, false, false, false] rfl rfl (any_of HT_.out (by kernel_rfl)) (fun _ _ _ h => h) (Or.inl ⟨by rfl, ?_⟩) ?_ ?_
            rotate_left
            · intro w'
              go_simp
              try with_reducible rfl
            rotate_left
            · simp only [Act.put, List.setIfInBounds_toArray, List.set_cons_zero, List.set_cons_succ, i64_w, i32_w]
              rfl
            refine pure_ (i := 29) (N := some 90) (v := ?_) (a' := ?_) #[true, true, true, true, true, true, true, true, true, true, true, true, true, true, true, true, true, true, true, true, true, true, true, true, true, true, true, true, true, true, false, false, false, false, false, false, false, false, false, false, false, false] rfl rfl (any_of HT_.out (by kernel_rfl)) (fun _ _ _ h => h) (Or.inl ⟨by rfl, ?_⟩) ?_ ?_
            rotate_left
            · intro w'
              go_simp
              try with_reducible rfl
            rotate_left
            · simp only [Act.put, List.setIfInBounds_toArray, List.set_cons_zero, List.set_cons_succ, i64_w, i32_w]
              rfl
            as_aux_lemma =>
              refine take_ (i := 30) (N := some 91) (v := _) (a' := ?_) #[true, true, true, true, true, true, true, true, true, true, true, true, true, true, true, true, true, true, true, true, true, true, true, true, true, true, true, true, true, true, true, false, false, false, false, false, false, false, false, false, false, false] rfl rfl (take_ofW HT_.out HW_.out (by kernel_rfl)) (fun _ _ _ h => h) (Or.inl ⟨by rfl, fun w' hS => exec_load_row rfl rfl (hS.1) Try.underlying24 rfl (by kernel_rfl)⟩) hHeld ?_ ?_
              rotate_left
              · simp only [Act.put, List.setIfInBounds_toArray, List.set_cons_zero, List.set_cons_succ, i64_w, i32_w]
                rfl
              refine take_ (i := 32) (N := some 93) (v := _) (a' := ?_) #[true, true, true, true, true, true, true, true, true, true, true, true, true, true, true, true, true, true, true, true, true, true, true, true, true, true, true, true, true, true, true, false, true, false, false, false, false, false, false, false, false, false] rfl rfl (take_ofW HT_.out HW_.out (by kernel_rfl)) (fun _ _ _ h => h) (Or.inl ⟨by rfl, fun w' hS => exec_load_row rfl rfl (hS.1) Try.underlying24 rfl (by kernel_rfl)⟩) hHeld ?_ ?_
              rotate_left
              · simp only [Act.put, List.setIfInBounds_toArray, List.set_cons_zero, List.set_cons_succ, i64_w, i32_w]
                rfl
              refine one_ (i := 31) (N := some 92) #[true, true, true, true, true, true, true, true, true, true, true, true, true, true, true, true, true, true, true, true, true, true, true, true, true, true, true, true, true, true, true, true, true, false, false, false, false, false, false, false, false, false] rfl rfl (one_of HT_.out (by kernel_rfl)) (by decide) (fun K hK => ?_)
              go_simp
              have h4 := cloneEn_is (w := v7) a HL.out.1 (Kd.C_below HA.out HB7.out) SA.out
              refine h4.mono ?_
              rintro e v8 ⟨u3, rfl, hv, hb⟩
              have HX8 := Lib.hid (HX7.out.below hb); have HB8 := Lib.hid (HB7.out.trans (hb.mono HB7.out.size))
              obtain ⟨N, nc, rfl⟩ := Kd.R_slice (Kd.S_R hv)
              obtain ⟨-, hnl, hN⟩ := Kd.R_reads' (Kd.S_R hv)
              have HNE := Lib.hid (And.intro hnl hN)
              clear hv hnl hN
              clear h4 hb HX7 HB7
              refine hK.out _ _ HX8.out (fun hHeld => ?_)
              clear hK K
              refine one_ (i := 33) (N := some 94) #[true, true, true, true, true, true, true, true, true, true, true, true, true, true, true, true, true, true, true, true, true, true, true, true, true, true, true, true, true, true, true, true, true, true, false, false, false, false, false, false, false, false] rfl rfl (one_of HT_.out (by kernel_rfl)) (by decide) (fun K hK => ?_)
              go_simp
              have h4 := refSameEn_is a.f0 a.f1 a.f2 N nc a.f3 a.f0 a.f1 a.f2 A ca a.f3 v8 HNE.out.2 HNE.out.1 (Kd.C_below HA.out HB8.out) HL.out.1
              rw [eqEn_refl] at h4
              refine h4.mono ?_
              rintro e v9 ⟨rfl, hb⟩
              have HX9 := Lib.hid (HX8.out.below hb); have HB9 := Lib.hid (HB8.out.trans (hb.mono HB8.out.size))
              clear h4 hb HX8 HB8
              refine hK.out _ _ HX9.out (fun hHeld => ?_)
              clear hK K
              refine pure_ (i := 34) (N := some 95) (v := ?_) (a' := ?_) #[true, true, true, true, true, true, true, true, true, true, true, true, true, true, true, true, true, true, true, true, true, true, true, true, true, true, true, true, true, true, true, true, true, true, true, false, false, false, false, false, false, false] rfl rfl (any_of HT_.out (by kernel_rfl)) (fun _ _ _ h => h) (Or.inl ⟨by rfl, ?_⟩) ?_ ?_
              rotate_left
              · intro w'
                go_simp
                try with_reducible rfl
              rotate_left
              · simp only [Act.put, List.setIfInBounds_toArray, List.set_cons_zero, List.set_cons_succ, i64_w, i32_w]
                rfl
              refine pure_ (i := 35) (N := some 96) (v := ?_) (a' := ?_) #[true, true, true, true, true, true, true, true, true, true, true, true, true, true, true, true, true, true, true, true, true, true, true, true, true, true, true, true, true, true, true, true, true, true, true, true, false, false, false, false, false, false] rfl rfl (any_of HT_.out (by kernel_rfl)) (fun _ _ _ h => h) (Or.inl ⟨by rfl, ?_⟩) ?_ ?_
              rotate_left
              · intro w'
                go_simp
                try with_reducible rfl
              rotate_left
              · simp only [Act.put, List.setIfInBounds_toArray, List.set_cons_zero, List.set_cons_succ, i64_w, i32_w]
                rfl
              refine take_ (i := 36) (N := some 97) (v := _) (a' := ?_) #[true, true, true, true, true, true, true, true, true, true, true, true, true, true, true, true, true, true, true, true, true, true, true, true, true, true, true, true, true, true, true, true, true, true, true, true, true, false, false, false, false, false] rfl rfl (take_ofW HT_.out HW_.out (by kernel_rfl)) (fun _ _ _ h => h) (Or.inl ⟨by rfl, fun w' hS => exec_load_row rfl rfl (hS.2.2.1) Try.underlying57 rfl (by kernel_rfl)⟩) hHeld ?_ ?_
              rotate_left
              · simp only [Act.put, List.setIfInBounds_toArray, List.set_cons_zero, List.set_cons_succ, i64_w, i32_w]
                rfl
              refine take_ (i := 38) (N := some 99) (v := _) (a' := ?_) #[true, true, true, true, true, true, true, true, true, true, true, true, true, true, true, true, true, true, true, true, true, true, true, true, true, true, true, true, true, true, true, true, true, true, true, true, true, false, true, false, false, false] rfl rfl (take_ofW HT_.out HW_.out (by kernel_rfl)) (fun _ _ _ h => h) (Or.inl ⟨by rfl, fun w' hS => exec_load_row rfl rfl (hS.2.2.1) Try.underlying57 rfl (by kernel_rfl)⟩) hHeld ?_ ?_
              rotate_left
              · simp only [Act.put, List.setIfInBounds_toArray, List.set_cons_zero, List.set_cons_succ, i64_w, i32_w]
                rfl
              refine one_ (i := 37) (N := some 98) #[true, true, true, true, true, true, true, true, true, true, true, true, true, true, true, true, true, true, true, true, true, true, true, true, true, true, true, true, true, true, true, true, true, true, true, true, true, true, true, false, false, false] rfl rfl (one_of HT_.out (by kernel_rfl)) (by decide) (fun K hK => ?_)
              go_simp
              have h4 := cloneMs_is (w := v9) m (HM.out.below HB9.out) SM.out
              refine h4.mono ?_
              rintro e v10 ⟨u8, u12, u16, h1, h2, rfl, hh, k8, k12, k16, hb⟩
              have HX10 := Lib.hid (HX9.out.below hb); have HB10 := Lib.hid (HB9.out.trans (hb.mono HB9.out.size))
              obtain ⟨N8, n8, rfl⟩ := Kd.R_slice (Kd.S_R k8)
              obtain ⟨N12, n12, rfl⟩ := Kd.R_slice (Kd.S_R k12)
              obtain ⟨N16, n16, rfl⟩ := Kd.R_slice k16
              have HNM := Lib.hid (show MsgC v10 m N8 n8 N12 n12 N16 n16 from ⟨(Kd.R_reads' (Kd.S_R k8)).2.1, (Kd.R_reads' (Kd.S_R k8)).2.2, (Kd.R_reads' (Kd.S_R k12)).2.1, (Kd.R_reads' (Kd.S_R k12)).2.2, (Kd.R_reads' k16).2.1, (Kd.R_reads' k16).2.2⟩)
              clear hh k8 k12 k16
              clear h4 hb HX9 HB9
              refine hK.out _ _ HX10.out (fun hHeld => ?_)
              clear hK K
              refine one_ (i := 39) (N := some 100) #[true, true, true, true, true, true, true, true, true, true, true, true, true, true, true, true, true, true, true, true, true, true, true, true, true, true, true, true, true, true, true, true, true, true, true, true, true, true, true, true, false, false] rfl rfl (one_of HT_.out (by kernel_rfl)) (by decide) (fun K hK => ?_)
              go_simp
              have h4 := refSameMs_is m m HNM.out (HM.out.below HB10.out)
              rw [eqMs_refl] at h4
              refine h4.mono ?_
              rintro e v11 ⟨rfl, hb⟩
              have HX11 := Lib.hid (HX10.out.below hb); have HB11 := Lib.hid (HB10.out.trans (hb.mono HB10.out.size))
              clear h4 hb HX10 HB10
              refine hK.out _ _ HX11.out (fun hHeld => ?_)
              clear hK K
              refine pure_ (i := 40) (N := some 101) (v := ?_) (a' := ?_) #[true, true, true, true, true, true, true, true, true, true, true, true, true, true, true, true, true, true, true, true, true, true, true, true, true, true, true, true, true, true, true, true, true, true, true, true, true, true, true, true, true, false] rfl rfl (any_of HT_.out (by kernel_rfl)) (fun _ _ _ h => h) (Or.inl ⟨by rfl, ?_⟩) ?_ ?_
              rotate_left
              · intro w'
                go_simp
                try with_reducible rfl
              rotate_left
              · simp only [Act.put, List.setIfInBounds_toArray, List.set_cons_zero, List.set_cons_succ, i64_w, i32_w]
                rfl
              refine pure_ (i := 41) (N := some 8) (v := ?_) (a' := ?_) #[true, true, true, true, true, true, true, true, true, true, true, true, true, true, true, true, true, true, true, true, true, true, true, true, true, true, true, true, true, true, true, true, true, true, true, true, true, true, true, true, true, true] rfl rfl (any_of HT_.out (by kernel_rfl)) (fun _ _ _ h => h) (Or.inl ⟨by rfl, ?_⟩) ?_ ?_
              rotate_left
              · intro w'
                go_simp
                try with_reducible rfl
              rotate_left
              · simp only [Act.put, List.setIfInBounds_toArray, List.set_cons_zero, List.set_cons_succ, i64_w, i32_w]
                rfl
              refine done_ (done_of HT_.out (by kernel_rfl)) ?_
              go_wp2_with fail
              go_ret
              exact ⟨rfl, HW.out.trans (HB11.out.mono HW.out.size)⟩
end Go.Proofs.Ytgiefblcckikeaa.M
end

section

/- What is of small bulk has no long list. -/
set_option linter.unusedVariables false
namespace Go.Proofs.Ytgiefblcckikeaa.M
open Go.RowKit Go.Proofs.YtgiefblcckikeaaW.PrintWords Go.Proofs.Ytgiefblcckikeaa.G
theorem szL_len {α : Type} {sz : α → Nat} (h : ∀ x, 1 ≤ sz x) : ∀ l : List α, l.length ≤ szL sz l
  | [] => by simp
  | x :: l => by
    have h1 := h x; have h2 := szL_len h l
    unfold szL at h2 ⊢
    simp only [List.length_cons, List.map_cons, List.sum_cons]
    omega
theorem szL_mem {α : Type} {sz : α → Nat} : ∀ {l : List α} {x : α}, x ∈ l → sz x ≤ szL sz l
  | y :: l, x, h => by
    unfold szL
    simp only [List.map_cons, List.sum_cons]
    rcases List.mem_cons.1 h with rfl | h
    · omega
    · have := szL_mem (sz := sz) h
      unfold szL at this
      omega
theorem smT_of {t : TxD} (h : szT t ≤ 1048576) : SmT t := by
  unfold szT at h
  have h2 : t.f2.length ≤ szN t.f2 := szL_len (sz := fun _ : Int => 1) (fun _ => Nat.le_refl _) t.f2
  have h3 : t.f3.length ≤ szN t.f3 := szL_len (sz := fun _ : Int => 1) (fun _ => Nat.le_refl _) t.f3
  have h4 := szL_len (sz := szK) (fun _ => by unfold szK; omega) t.f4
  have h5 := szL_len (sz := szK) (fun _ => by unfold szK; omega) t.f5
  exact ⟨by omega, by omega, by omega, by omega⟩
theorem smE_of {e : EntD} (h : szE e ≤ 1048576) : SmE e := by
  unfold szE at h
  refine ⟨?_, fun t ht => smT_of ?_⟩
  · have := szL_len (sz := szT) (fun _ => by unfold szT; omega) e.f3
    omega
  · have := szL_mem (sz := szT) ht
    omega
theorem smM_of {m : MsgD} (h : szM m ≤ 1048576) : SmM m := by
  unfold szM at h
  refine ⟨?_, fun x hx => smE_of ?_, smE_of (by omega), ?_⟩
  · have := szL_len (sz := fun x : TrD => 1 + szE x.f1 + 1) (fun _ => by omega) m.f8
    omega
  · have := szL_mem (sz := fun x : TrD => 1 + szE x.f1 + 1) hx
    omega
  · have h2 : m.f10.f3.length ≤ szN m.f10.f3 := szL_len (sz := fun _ : Int => 1) (fun _ => Nat.le_refl _) m.f10.f3
    unfold szP at h
    omega
end Go.Proofs.Ytgiefblcckikeaa.M
end
