/- RecordWritesSaid: contracts of the functions that the law goes through, put together in build order (part 5 of 7). -/
import Derived.Test.YtgiefblcckikeaaGreatPart3
set_option linter.unusedVariables false
set_option linter.unusedSimpArgs false
set_option maxRecDepth 100000
section
/- The pen writes a message (printed by genpenm04.py). -/
attribute [local irreducible] Go.wpStill
namespace Go.Proofs.YtgiefblcckikeaaGreat.M
open Go.RowKit Go.Proofs.YtgiefblcckikeaaGreatW.PrintWords Go.Proofs.YtgiefblcckikeaaGreatW.PrintLast Go.Proofs.YtgiefblcckikeaaGreatW.PrintMore Go.Proofs.YtgiefblcckikeaaGreat.G
def yesB (b : Bool) : List Int := numB (if b = true then 1 else 0)
def trB (x : TrD) : List Int := numB x.f0 ++ entB x.f1.f0 x.f1.f1 x.f1.f2 x.f1.f3
def tailB (m : MsgD) : List Int := if m.f0 = 1 then numsB [m.f3, m.f4, m.f5] else if m.f0 = 2 then numB m.f3 ++ yesB m.f7 else if m.f0 = 3 then numsB [m.f3, m.f4, m.f5, m.f6] ++ numB m.f8.length ++ m.f8.flatMap trB else if m.f0 = 4 then numB m.f3 ++ yesB m.f7 ++ numB m.f4 else if m.f0 = 5 then numsB [m.f3, m.f4, m.f5, m.f10.f0, m.f10.f1, m.f10.f2] ++ numB m.f10.f3.length ++ m.f10.f3 else entB m.f9.f0 m.f9.f1 m.f9.f2 m.f9.f3
def msgB (m : MsgD) : List Int := numsB [m.f0, m.f1, m.f2] ++ tailB m
structure OkM (m : MsgD) : Prop where
 h : okI [m.f0, m.f1, m.f2] = true
 t : okI [m.f3, m.f4, m.f5, m.f6] = true
 p : okI [m.f10.f0, m.f10.f1, m.f10.f2] = true
 e : okE m.f9.f0 m.f9.f1 m.f9.f2 m.f9.f3 = true
 l : ∀ x ∈ m.f8, isI64 x.f0 ∧ okE x.f1.f0 x.f1.f1 x.f1.f2 x.f1.f3 = true
theorem okI_cons {x : Int} {l : List Int} : okI (x :: l) = true ↔ isI64 x ∧ okI l = true := by simp [okI]
theorem numsB_one (n : Int) : numsB [n] = numB n := by simp [numsB]
theorem numsB_le {l : List Int} (h : okI l = true) (k : Nat) (hk : 9 * l.length ≤ k) : (numsB l).length ≤ k := Nat.le_trans (numsB_len h) hk
theorem yesB_len (b : Bool) : (yesB b).length ≤ 9 := by cases b <;> exact (numB_len (by decide)).2
theorem MsBox.keep {W W' : World} {b p : Nat} {m : MsgD} {A8 A12 A16 : Option Addr} {c8 c12 c16 : Nat} (h : MsBox W b m A8 c8 A12 c12 A16 c16) (hk : KeepS (fun i => i = p) W W') (hb : b ≠ p) : MsBox W' b m A8 c8 A12 c12 A16 c16 := (hk.block b (Array.getElem?_eq_some_iff.1 h).1 hb).trans h
theorem mayTr_e {x : TrD} (h : mayTr x = true) : mayE x.f1.f0 x.f1.f1 x.f1.f2 x.f1.f3 = true := by unfold mayTr at h; exact (Bool.and_eq_true _ _ ▸ h).2
theorem trB_len {x : TrD} (ho : isI64 x.f0 ∧ okE x.f1.f0 x.f1.f1 x.f1.f2 x.f1.f3 = true) (hm : mayE x.f1.f0 x.f1.f1 x.f1.f2 x.f1.f3 = true) : (trB x).length ≤ 25009 := by
 have h1 := (numB_len ho.1).2
 have h2 := entB_len ho.2 hm
 unfold trB
 rw [List.length_append]
 omega
def TrL (w0 w : World) (p : Nat) (l0 : List Int) (l : List TrD) (i : Value) (wr : World) : Prop := ∃ j : Nat, i = .int .i64 j ∧ j ≤ l.length ∧ IsPen wr w0.heap.size p (l0 ++ (l.take j).flatMap trB) ∧ Below w0.heap.size w0 wr ∧ KeepS (fun i => i = p) w wr
set_option maxHeartbeats 1000000 in
theorem penYes_is {w0 w : World} {p : Nat} {l0 : List Int} (hI : IsPen w w0.heap.size p l0) (hB : Below w0.heap.size w0 w) (hp : w0.heap.size ≤ p) (q : Bool) (hs : l0.length + 9 < 140737488355328) :
  Calls Tryz.prog 99 #[.pointer (some ⟨p, 0, none⟩), .bool q] w fun e w' => PenP w0 w p (l0 ++ yesB q) e w' := by
 have HN := Lib.hid (fun n (hn : isI64 n) => nums_is (hI.below ((Below.refl _ w).alloc (Nat.le_refl _) (.cells #[.int .i64 n] 2))) (hB.alloc hB.size _) hp _ 1 [n] (C_lit w [n] (by simp)) (by simp [okI, hn]) (by simpa using hs))
 have HKK := Lib.hid (fun n : Int => (KeepS.refl (fun i => i = p) w).alloc (.cells #[.int .i64 n] 2))
 clear hI hB hp hs
 cases q with
 | true =>
  go_enter Tryz.func99, Tryz.ntmps99
  go_wp2_with fail
  refine (HN.out 1 (by decide)).mono ?_
  rintro e w1 ⟨rfl, h1, h2, h3⟩
  have HF := Lib.hid (show PenP w0 w p (l0 ++ yesB true) (.returned (.tuple #[])) w1 from ⟨rfl, by rw [numsB_one] at h1; exact h1, h2, (HKK.out 1).trans h3⟩)
  clear h1 h2 h3
  go_wp2_with fail
  go_end0
  exact HF.out
 | false =>
  go_enter Tryz.func99, Tryz.ntmps99
  go_wp2_with fail
  refine (HN.out 0 (by decide)).mono ?_
  rintro e w1 ⟨rfl, h1, h2, h3⟩
  have HF := Lib.hid (show PenP w0 w p (l0 ++ yesB false) (.returned (.tuple #[])) w1 from ⟨rfl, by rw [numsB_one] at h1; exact h1, h2, (HKK.out 0).trans h3⟩)
  clear h1 h2 h3
  go_wp2_with fail
  go_end0
  exact HF.out
set_option maxHeartbeats 4000000 in
theorem penMsg1 {w0 w : World} {p : Nat} {l0 : List Int} (hI : IsPen w w0.heap.size p l0) (hB : Below w0.heap.size w0 w) (hp : w0.heap.size ≤ p) (m : MsgD) {A8 A12 A16 : Option Addr} {c8 c12 c16 : Nat} (hm : MsgC w0 m A8 c8 A12 c12 A16 c16) (ho : OkM m) (hk : m.f0 = 1) (hs : l0.length + 200000000 < 140737488355328) :
  Calls Tryz.prog 50 #[.pointer (some ⟨p, 0, none⟩), .agg #[.int .i64 m.f0, .int .i64 m.f1, .int .i64 m.f2, .int .i64 m.f3, .int .i64 m.f4, .int .i64 m.f5, .int .i64 m.f6, .bool m.f7, .slice A8 m.f8.length c8, .int .i64 m.f9.f0, .int .i64 m.f9.f1, .int .i64 m.f9.f2, .slice A12 m.f9.f3.length c12, .int .i64 m.f10.f0, .int .i64 m.f10.f1, .int .i64 m.f10.f2, .slice A16 m.f10.f3.length c16]] w fun e w' => PenP w0 w p (l0 ++ msgB m) e w' := by
 have HO := Lib.hid ho; have HM := Lib.hid hm; have HP := Lib.hid hp; have HS := Lib.hid hs; have HL0 := Lib.hid (show l0.length ≤ l0.length + 0 from Nat.le_refl _)
 have HNE := Lib.hid (show w.heap.size ≠ p by have := hI.lt; omega)
 have H0 := Lib.hid (hI.below ((Below.refl _ w).alloc (Nat.le_refl _) (.cells #[.int .i64 m.f0, .int .i64 m.f1, .int .i64 m.f2, .int .i64 m.f3, .int .i64 m.f4, .int .i64 m.f5, .int .i64 m.f6, .bool m.f7, .slice A8 m.f8.length c8, .int .i64 m.f9.f0, .int .i64 m.f9.f1, .int .i64 m.f9.f2, .slice A12 m.f9.f3.length c12, .int .i64 m.f10.f0, .int .i64 m.f10.f1, .int .i64 m.f10.f2, .slice A16 m.f10.f3.length c16] 34))); have HB0 := Lib.hid (hB.alloc hB.size (.cells #[.int .i64 m.f0, .int .i64 m.f1, .int .i64 m.f2, .int .i64 m.f3, .int .i64 m.f4, .int .i64 m.f5, .int .i64 m.f6, .bool m.f7, .slice A8 m.f8.length c8, .int .i64 m.f9.f0, .int .i64 m.f9.f1, .int .i64 m.f9.f2, .slice A12 m.f9.f3.length c12, .int .i64 m.f10.f0, .int .i64 m.f10.f1, .int .i64 m.f10.f2, .slice A16 m.f10.f3.length c16] 34)); have HK0 := Lib.hid ((KeepS.refl (fun i => i = p) w).alloc (.cells #[.int .i64 m.f0, .int .i64 m.f1, .int .i64 m.f2, .int .i64 m.f3, .int .i64 m.f4, .int .i64 m.f5, .int .i64 m.f6, .bool m.f7, .slice A8 m.f8.length c8, .int .i64 m.f9.f0, .int .i64 m.f9.f1, .int .i64 m.f9.f2, .slice A12 m.f9.f3.length c12, .int .i64 m.f10.f0, .int .i64 m.f10.f1, .int .i64 m.f10.f2, .slice A16 m.f10.f3.length c16] 34))
 have HX0 := Lib.hid (show MsBox (w.alloc (.cells #[.int .i64 m.f0, .int .i64 m.f1, .int .i64 m.f2, .int .i64 m.f3, .int .i64 m.f4, .int .i64 m.f5, .int .i64 m.f6, .bool m.f7, .slice A8 m.f8.length c8, .int .i64 m.f9.f0, .int .i64 m.f9.f1, .int .i64 m.f9.f2, .slice A12 m.f9.f3.length c12, .int .i64 m.f10.f0, .int .i64 m.f10.f1, .int .i64 m.f10.f2, .slice A16 m.f10.f3.length c16] 34)) w.heap.size m A8 c8 A12 c12 A16 c16 from heap_alloc_new w _)
 have HT3 := Lib.hid (show okI [m.f3, m.f4, m.f5] = true by have := ho.t; simp only [okI_cons] at this ⊢; exact ⟨this.1, this.2.1, this.2.2.1, rfl⟩)
 have q1 : (m.f0 == 1) = true := by rw [hk]; rfl
 have HTB := Lib.hid (show msgB m = numsB [m.f0, m.f1, m.f2] ++ (numsB [m.f3, m.f4, m.f5]) by unfold msgB tailB; simp only [hk]; rfl)
 clear hI hB hp hs ho hm hk
 go_enter Tryz.func50, Tryz.ntmps50
 go_upto_region 1 with fail
 obtain ⟨v0, hv⟩ : ∃ v, w.alloc (.cells #[.int .i64 m.f0, .int .i64 m.f1, .int .i64 m.f2, .int .i64 m.f3, .int .i64 m.f4, .int .i64 m.f5, .int .i64 m.f6, .bool m.f7, .slice A8 m.f8.length c8, .int .i64 m.f9.f0, .int .i64 m.f9.f1, .int .i64 m.f9.f2, .slice A12 m.f9.f3.length c12, .int .i64 m.f10.f0, .int .i64 m.f10.f1, .int .i64 m.f10.f2, .slice A16 m.f10.f3.length c16] 34) = v := ⟨_, rfl⟩
 obtain ⟨b, hb⟩ : ∃ b, w.heap.size = b := ⟨_, rfl⟩
 rw [hv] at H0 HB0 HK0 HX0 ⊢
 rw [hb] at HNE HX0 ⊢
 clear hv hb
 obtain ⟨la0, hl0⟩ : ∃ la, l0 = la := ⟨_, rfl⟩
 have HQ0 := Lib.hid hl0
 have HLZ := Lib.hid (show la0.length ≤ l0.length + 0 by rw [← hl0]; exact Nat.le_refl _)
 rw [hl0] at H0
 clear hl0 HL0
 have HL0 := HLZ
 have HD := Lib.hid (show Below v0.heap.size v0 v0.drew from (Below.refl _ _).drew)
 have Hd := Lib.hid (H0.out.below HD.out); have HBd := Lib.hid HB0.out.drew; have HKd := Lib.hid HK0.out.drew; have HXd := Lib.hid (show MsBox v0.drew b m A8 c8 A12 c12 A16 c16 from HX0.out)
 clear HD
 obtain ⟨d0, d1, d2, d3, d4, d5, d6, d7, d8, d9, d10, d11, d12, d13, d14, d15, d16⟩ := HXd.out.cell
 refine start_ (n := 11) (S := fun w' => w'.cell? ⟨b, 0, none⟩ = some (.int .i64 m.f0) ∧ w'.cell? ⟨b, 1, none⟩ = some (.int .i64 m.f1) ∧ w'.cell? ⟨b, 2, none⟩ = some (.int .i64 m.f2)) (ds := []) #[false, false, false, false, false, false, false, false, false, false, false] (by kernel_rfl) rfl rfl ⟨d0, d1, d2⟩ (fun hHeld => ?_)
 obtain ⟨u, hu⟩ : ∃ u, v0.drew = u := ⟨_, rfl⟩
 rw [hu] at Hd HBd HKd HXd hHeld ⊢
 clear hu d0 d1 d2 d3 d4 d5 d6 d7 d8 d9 d10 d11 d12 d13 d14 d15 d16
 refine pure_ (i := 0) (N := some 6) (v := ?_) (a' := ?_) #[true, false, false, false, false, false, false, false, false, false, false] rfl rfl (by kernel_rfl) (fun _ _ _ h => h) (Or.inl ⟨by rfl, ?_⟩) ?_ ?_
 rotate_left
 ·intro w'
  go_simp
  try with_reducible rfl
 rotate_left
 ·simp only [Act.put, sq1, sq2, sq3, i64_w, i32_w]
  rfl
 refine pure_ (i := 1) (N := some 7) (v := ?_) (a' := ?_) #[true, true, false, false, false, false, false, false, false, false, false] rfl rfl (by kernel_rfl) (fun _ _ _ h => h) (Or.inl ⟨by rfl, ?_⟩) ?_ ?_
 rotate_left
 ·intro w'
  go_simp
  try with_reducible rfl
 rotate_left
 ·simp only [Act.put, sq1, sq2, sq3, i64_w, i32_w]
  rfl
 refine pure_ (i := 2) (N := some 8) (v := ?_) (a' := ?_) #[true, true, true, false, false, false, false, false, false, false, false] rfl rfl (by kernel_rfl) (fun _ _ _ h => h) (Or.inl ⟨by rfl, ?_⟩) ?_ ?_
 rotate_left
 ·intro w'
  go_simp
  try with_reducible rfl
 rotate_left
 ·simp only [Act.put, sq1, sq2, sq3, i64_w, i32_w]
  rfl
 refine pure_ (i := 3) (N := some 9) (v := ?_) (a' := ?_) #[true, true, true, true, false, false, false, false, false, false, false] rfl rfl (by kernel_rfl) (fun _ _ _ h => h) (Or.inl ⟨by rfl, ?_⟩) ?_ ?_
 rotate_left
 ·intro w'
  go_simp
  try with_reducible rfl
 rotate_left
 ·simp only [Act.put, sq1, sq2, sq3, i64_w, i32_w]
  rfl
 refine take_ (i := 4) (N := some 10) (v := ?_) (a' := ?_) #[true, true, true, true, true, false, false, false, false, false, false] rfl rfl (by kernel_rfl) (fun _ _ _ h => h) (Or.inl ⟨by rfl, ?_⟩) hHeld ?_ ?_
 rotate_left
 ·intro w' hS
  obtain ⟨x0, x1, x2⟩ := hS
  go_simp
  try with_reducible rfl
 rotate_left
 ·simp only [Act.put, sq1, sq2, sq3, i64_w, i32_w]
  rfl
 refine pure_ (i := 5) (N := some 11) (v := ?_) (a' := ?_) #[true, true, true, true, true, true, false, false, false, false, false] rfl rfl (by kernel_rfl) (fun _ _ _ h => h) (Or.inl ⟨by rfl, ?_⟩) ?_ ?_
 rotate_left
 ·intro w'
  go_simp
  try with_reducible rfl
 rotate_left
 ·simp only [Act.put, sq1, sq2, sq3, i64_w, i32_w]
  rfl
 refine take_ (i := 6) (N := some 12) (v := ?_) (a' := ?_) #[true, true, true, true, true, true, true, false, false, false, false] rfl rfl (by kernel_rfl) (fun _ _ _ h => h) (Or.inl ⟨by rfl, ?_⟩) hHeld ?_ ?_
 rotate_left
 ·intro w' hS
  obtain ⟨x0, x1, x2⟩ := hS
  go_simp
  try with_reducible rfl
 rotate_left
 ·simp only [Act.put, sq1, sq2, sq3, i64_w, i32_w]
  rfl
 refine pure_ (i := 7) (N := some 13) (v := ?_) (a' := ?_) #[true, true, true, true, true, true, true, true, false, false, false] rfl rfl (by kernel_rfl) (fun _ _ _ h => h) (Or.inl ⟨by rfl, ?_⟩) ?_ ?_
 rotate_left
 ·intro w'
  go_simp
  try with_reducible rfl
 rotate_left
 ·simp only [Act.put, sq1, sq2, sq3, i64_w, i32_w]
  rfl
 refine take_ (i := 8) (N := some 14) (v := ?_) (a' := ?_) #[true, true, true, true, true, true, true, true, true, false, false] rfl rfl (by kernel_rfl) (fun _ _ _ h => h) (Or.inl ⟨by rfl, ?_⟩) hHeld ?_ ?_
 rotate_left
 ·intro w' hS
  obtain ⟨x0, x1, x2⟩ := hS
  go_simp
  try with_reducible rfl
 rotate_left
 ·simp only [Act.put, sq1, sq2, sq3, i64_w, i32_w]
  rfl
 refine one_ (i := 9) (N := some 15) #[true, true, true, true, true, true, true, true, true, true, false] rfl rfl (by kernel_rfl) (by decide) (fun K hK => ?_)
 refine value_ (w1 := ?_) (v := ?_) (by rfl) rfl ?_ ?_
 rotate_left 2
 ·go_simp
  constructor <;> rfl
 have hba := (Below.refl _ u).alloc (Nat.le_refl _) (.cells #[.int .i64 m.f0, .int .i64 m.f1, .int .i64 m.f2] 2)
 have HXe := Lib.hid (show MsBox (u.alloc (.cells #[.int .i64 m.f0, .int .i64 m.f1, .int .i64 m.f2] 2)) b m A8 c8 A12 c12 A16 c16 from HXd.out.below hba); have He := Lib.hid (Hd.out.below hba); have HBe := Lib.hid (HBd.out.alloc HBd.out.size (.cells #[.int .i64 m.f0, .int .i64 m.f1, .int .i64 m.f2] 2)); have HKe := Lib.hid (HKd.out.alloc (.cells #[.int .i64 m.f0, .int .i64 m.f1, .int .i64 m.f2] 2))
 clear hba
 obtain ⟨d0, d1, d2, d3, d4, d5, d6, d7, d8, d9, d10, d11, d12, d13, d14, d15, d16⟩ := HXe.out.cell
 refine hK.out _ _ ⟨d0, d1, d2⟩ (fun hHeld => ?_)
 clear hK K
 clear d0 d1 d2 d3 d4 d5 d6 d7 d8 d9 d10 d11 d12 d13 d14 d15 d16
 refine norm_ (a' := ?_) ?_ ?_
 rotate_left
 ·show Act.put _ (some 15) _ = _
  simp only [Act.put, sq1, sq2, sq3, i64_w, i32_w]
  rfl
 refine one_ (i := 10) (N := some 16) #[true, true, true, true, true, true, true, true, true, true, true] rfl rfl (by kernel_rfl) (by decide) (fun K hK => ?_)
 go_simp
 refine (nums_is He.out HBe.out HP.out _ 3 [m.f0, m.f1, m.f2] (C_lit u [m.f0, m.f1, m.f2] (by simp)) HO.out.h (by have := HS.out; have := HL0.out; simp only [List.length_cons, List.length_nil]; omega)).mono ?_
 rintro e v1 ⟨rfl, h1, h2, h3⟩
 obtain ⟨la1, hla⟩ : ∃ la, la0 ++ numsB [m.f0, m.f1, m.f2] = la := ⟨_, rfl⟩
 have HL1 := Lib.hid (show la1.length ≤ l0.length + 27 by rw [← hla]; have h8 := HL0.out; have h9 : (numsB [m.f0, m.f1, m.f2]).length ≤ 27 := numsB_le HO.out.h _ (by simp); simp only [List.length_append] at h9 ⊢; omega)
 have HQ1 := Lib.hid hla
 have H1 := Lib.hid (show IsPen v1 w0.heap.size p la1 by rw [← hla]; simpa only [List.append_assoc] using h1); have HB1 := Lib.hid h2; have HK1 := Lib.hid (HKe.out.trans h3); have HX1 := Lib.hid (HXe.out.keep h3 HNE.out)
 clear h1 h2 h3 hla
 obtain ⟨d0, d1, d2, d3, d4, d5, d6, d7, d8, d9, d10, d11, d12, d13, d14, d15, d16⟩ := HX1.out.cell
 refine hK.out _ _ ⟨d0, d1, d2⟩ (fun hHeld => ?_)
 clear hK K
 clear d0 d1 d2 d3 d4 d5 d6 d7 d8 d9 d10 d11 d12 d13 d14 d15 d16
 refine done_ (by kernel_rfl) ?_
 obtain ⟨d0, d1, d2, d3, d4, d5, d6, d7, d8, d9, d10, d11, d12, d13, d14, d15, d16⟩ := HX1.out.cell
 go_upto_region 4 with fail
 clear d0 d1 d2 d3 d4 d5 d6 d7 d8 d9 d10 d11 d12 d13 d14 d15 d16
 have HD := Lib.hid (show Below v1.heap.size v1 v1.drew from (Below.refl _ _).drew)
 have Hd := Lib.hid (H1.out.below HD.out); have HBd := Lib.hid HB1.out.drew; have HKd := Lib.hid HK1.out.drew; have HXd := Lib.hid (show MsBox v1.drew b m A8 c8 A12 c12 A16 c16 from HX1.out)
 clear HD
 obtain ⟨d0, d1, d2, d3, d4, d5, d6, d7, d8, d9, d10, d11, d12, d13, d14, d15, d16⟩ := HXd.out.cell
 refine start_ (n := 11) (S := fun w' => w'.cell? ⟨b, 3, none⟩ = some (.int .i64 m.f3) ∧ w'.cell? ⟨b, 4, none⟩ = some (.int .i64 m.f4) ∧ w'.cell? ⟨b, 5, none⟩ = some (.int .i64 m.f5)) (ds := []) #[false, false, false, false, false, false, false, false, false, false, false] (by kernel_rfl) rfl rfl ⟨d3, d4, d5⟩ (fun hHeld => ?_)
 obtain ⟨u, hu⟩ : ∃ u, v1.drew = u := ⟨_, rfl⟩
 rw [hu] at Hd HBd HKd HXd hHeld ⊢
 clear hu d0 d1 d2 d3 d4 d5 d6 d7 d8 d9 d10 d11 d12 d13 d14 d15 d16
 refine pure_ (i := 0) (N := some 21) (v := ?_) (a' := ?_) #[true, false, false, false, false, false, false, false, false, false, false] rfl rfl (by kernel_rfl) (fun _ _ _ h => h) (Or.inl ⟨by rfl, ?_⟩) ?_ ?_
 rotate_left
 ·intro w'
  go_simp
  try with_reducible rfl
 rotate_left
 ·simp only [Act.put, sq1, sq2, sq3, i64_w, i32_w]
  rfl
 refine pure_ (i := 1) (N := some 22) (v := ?_) (a' := ?_) #[true, true, false, false, false, false, false, false, false, false, false] rfl rfl (by kernel_rfl) (fun _ _ _ h => h) (Or.inl ⟨by rfl, ?_⟩) ?_ ?_
 rotate_left
 ·intro w'
  go_simp
  try with_reducible rfl
 rotate_left
 ·simp only [Act.put, sq1, sq2, sq3, i64_w, i32_w]
  rfl
 refine pure_ (i := 2) (N := some 23) (v := ?_) (a' := ?_) #[true, true, true, false, false, false, false, false, false, false, false] rfl rfl (by kernel_rfl) (fun _ _ _ h => h) (Or.inl ⟨by rfl, ?_⟩) ?_ ?_
 rotate_left
 ·intro w'
  go_simp
  try with_reducible rfl
 rotate_left
 ·simp only [Act.put, sq1, sq2, sq3, i64_w, i32_w]
  rfl
 refine pure_ (i := 3) (N := some 24) (v := ?_) (a' := ?_) #[true, true, true, true, false, false, false, false, false, false, false] rfl rfl (by kernel_rfl) (fun _ _ _ h => h) (Or.inl ⟨by rfl, ?_⟩) ?_ ?_
 rotate_left
 ·intro w'
  go_simp
  try with_reducible rfl
 rotate_left
 ·simp only [Act.put, sq1, sq2, sq3, i64_w, i32_w]
  rfl
 refine take_ (i := 4) (N := some 25) (v := ?_) (a' := ?_) #[true, true, true, true, true, false, false, false, false, false, false] rfl rfl (by kernel_rfl) (fun _ _ _ h => h) (Or.inl ⟨by rfl, ?_⟩) hHeld ?_ ?_
 rotate_left
 ·intro w' hS
  obtain ⟨x3, x4, x5⟩ := hS
  go_simp
  try with_reducible rfl
 rotate_left
 ·simp only [Act.put, sq1, sq2, sq3, i64_w, i32_w]
  rfl
 refine pure_ (i := 5) (N := some 26) (v := ?_) (a' := ?_) #[true, true, true, true, true, true, false, false, false, false, false] rfl rfl (by kernel_rfl) (fun _ _ _ h => h) (Or.inl ⟨by rfl, ?_⟩) ?_ ?_
 rotate_left
 ·intro w'
  go_simp
  try with_reducible rfl
 rotate_left
 ·simp only [Act.put, sq1, sq2, sq3, i64_w, i32_w]
  rfl
 refine take_ (i := 6) (N := some 27) (v := ?_) (a' := ?_) #[true, true, true, true, true, true, true, false, false, false, false] rfl rfl (by kernel_rfl) (fun _ _ _ h => h) (Or.inl ⟨by rfl, ?_⟩) hHeld ?_ ?_
 rotate_left
 ·intro w' hS
  obtain ⟨x3, x4, x5⟩ := hS
  go_simp
  try with_reducible rfl
 rotate_left
 ·simp only [Act.put, sq1, sq2, sq3, i64_w, i32_w]
  rfl
 refine pure_ (i := 7) (N := some 28) (v := ?_) (a' := ?_) #[true, true, true, true, true, true, true, true, false, false, false] rfl rfl (by kernel_rfl) (fun _ _ _ h => h) (Or.inl ⟨by rfl, ?_⟩) ?_ ?_
 rotate_left
 ·intro w'
  go_simp
  try with_reducible rfl
 rotate_left
 ·simp only [Act.put, sq1, sq2, sq3, i64_w, i32_w]
  rfl
 refine take_ (i := 8) (N := some 29) (v := ?_) (a' := ?_) #[true, true, true, true, true, true, true, true, true, false, false] rfl rfl (by kernel_rfl) (fun _ _ _ h => h) (Or.inl ⟨by rfl, ?_⟩) hHeld ?_ ?_
 rotate_left
 ·intro w' hS
  obtain ⟨x3, x4, x5⟩ := hS
  go_simp
  try with_reducible rfl
 rotate_left
 ·simp only [Act.put, sq1, sq2, sq3, i64_w, i32_w]
  rfl
 refine one_ (i := 9) (N := some 30) #[true, true, true, true, true, true, true, true, true, true, false] rfl rfl (by kernel_rfl) (by decide) (fun K hK => ?_)
 refine value_ (w1 := ?_) (v := ?_) (by rfl) rfl ?_ ?_
 rotate_left 2
 ·go_simp
  constructor <;> rfl
 have hba := (Below.refl _ u).alloc (Nat.le_refl _) (.cells #[.int .i64 m.f3, .int .i64 m.f4, .int .i64 m.f5] 2)
 have HXe := Lib.hid (show MsBox (u.alloc (.cells #[.int .i64 m.f3, .int .i64 m.f4, .int .i64 m.f5] 2)) b m A8 c8 A12 c12 A16 c16 from HXd.out.below hba); have He := Lib.hid (Hd.out.below hba); have HBe := Lib.hid (HBd.out.alloc HBd.out.size (.cells #[.int .i64 m.f3, .int .i64 m.f4, .int .i64 m.f5] 2)); have HKe := Lib.hid (HKd.out.alloc (.cells #[.int .i64 m.f3, .int .i64 m.f4, .int .i64 m.f5] 2))
 clear hba
 obtain ⟨d0, d1, d2, d3, d4, d5, d6, d7, d8, d9, d10, d11, d12, d13, d14, d15, d16⟩ := HXe.out.cell
 refine hK.out _ _ ⟨d3, d4, d5⟩ (fun hHeld => ?_)
 clear hK K
 clear d0 d1 d2 d3 d4 d5 d6 d7 d8 d9 d10 d11 d12 d13 d14 d15 d16
 refine norm_ (a' := ?_) ?_ ?_
 rotate_left
 ·show Act.put _ (some 30) _ = _
  simp only [Act.put, sq1, sq2, sq3, i64_w, i32_w]
  rfl
 refine one_ (i := 10) (N := some 31) #[true, true, true, true, true, true, true, true, true, true, true] rfl rfl (by kernel_rfl) (by decide) (fun K hK => ?_)
 go_simp
 refine (nums_is He.out HBe.out HP.out _ 3 [m.f3, m.f4, m.f5] (C_lit u [m.f3, m.f4, m.f5] (by simp)) HT3.out (by have := HS.out; have := HL1.out; simp only [List.length_cons, List.length_nil]; omega)).mono ?_
 rintro e v2 ⟨rfl, h1, h2, h3⟩
 obtain ⟨la2, hla⟩ : ∃ la, la1 ++ numsB [m.f3, m.f4, m.f5] = la := ⟨_, rfl⟩
 have HL2 := Lib.hid (show la2.length ≤ l0.length + 54 by rw [← hla]; have h8 := HL1.out; have h9 : (numsB [m.f3, m.f4, m.f5]).length ≤ 27 := numsB_le HT3.out _ (by simp); simp only [List.length_append] at h9 ⊢; omega)
 have HQ2 := Lib.hid hla
 have H2 := Lib.hid (show IsPen v2 w0.heap.size p la2 by rw [← hla]; simpa only [List.append_assoc] using h1); have HB2 := Lib.hid h2; have HK2 := Lib.hid (HKe.out.trans h3); have HX2 := Lib.hid (HXe.out.keep h3 HNE.out)
 clear h1 h2 h3 hla
 obtain ⟨d0, d1, d2, d3, d4, d5, d6, d7, d8, d9, d10, d11, d12, d13, d14, d15, d16⟩ := HX2.out.cell
 refine hK.out _ _ ⟨d3, d4, d5⟩ (fun hHeld => ?_)
 clear hK K
 clear d0 d1 d2 d3 d4 d5 d6 d7 d8 d9 d10 d11 d12 d13 d14 d15 d16
 refine done_ (by kernel_rfl) ?_
 have HF := Lib.hid (show IsPen v2 w0.heap.size p (l0 ++ msgB m) by
  have h1 := H2.out
  rw [← HQ2.out, ← HQ1.out, ← HQ0.out] at h1
  rw [HTB.out]
  simpa only [List.append_assoc, numsB_one] using h1)
 go_wp2_with fail
 go_end0
 exact ⟨rfl, HF.out, HB2.out, HK2.out⟩
set_option maxHeartbeats 4000000 in
theorem penMsg2 {w0 w : World} {p : Nat} {l0 : List Int} (hI : IsPen w w0.heap.size p l0) (hB : Below w0.heap.size w0 w) (hp : w0.heap.size ≤ p) (m : MsgD) {A8 A12 A16 : Option Addr} {c8 c12 c16 : Nat} (hm : MsgC w0 m A8 c8 A12 c12 A16 c16) (ho : OkM m) (hk : m.f0 = 2) (hs : l0.length + 200000000 < 140737488355328) :
  Calls Tryz.prog 50 #[.pointer (some ⟨p, 0, none⟩), .agg #[.int .i64 m.f0, .int .i64 m.f1, .int .i64 m.f2, .int .i64 m.f3, .int .i64 m.f4, .int .i64 m.f5, .int .i64 m.f6, .bool m.f7, .slice A8 m.f8.length c8, .int .i64 m.f9.f0, .int .i64 m.f9.f1, .int .i64 m.f9.f2, .slice A12 m.f9.f3.length c12, .int .i64 m.f10.f0, .int .i64 m.f10.f1, .int .i64 m.f10.f2, .slice A16 m.f10.f3.length c16]] w fun e w' => PenP w0 w p (l0 ++ msgB m) e w' := by
 have HO := Lib.hid ho; have HM := Lib.hid hm; have HP := Lib.hid hp; have HS := Lib.hid hs; have HL0 := Lib.hid (show l0.length ≤ l0.length + 0 from Nat.le_refl _)
 have HNE := Lib.hid (show w.heap.size ≠ p by have := hI.lt; omega)
 have H0 := Lib.hid (hI.below ((Below.refl _ w).alloc (Nat.le_refl _) (.cells #[.int .i64 m.f0, .int .i64 m.f1, .int .i64 m.f2, .int .i64 m.f3, .int .i64 m.f4, .int .i64 m.f5, .int .i64 m.f6, .bool m.f7, .slice A8 m.f8.length c8, .int .i64 m.f9.f0, .int .i64 m.f9.f1, .int .i64 m.f9.f2, .slice A12 m.f9.f3.length c12, .int .i64 m.f10.f0, .int .i64 m.f10.f1, .int .i64 m.f10.f2, .slice A16 m.f10.f3.length c16] 34))); have HB0 := Lib.hid (hB.alloc hB.size (.cells #[.int .i64 m.f0, .int .i64 m.f1, .int .i64 m.f2, .int .i64 m.f3, .int .i64 m.f4, .int .i64 m.f5, .int .i64 m.f6, .bool m.f7, .slice A8 m.f8.length c8, .int .i64 m.f9.f0, .int .i64 m.f9.f1, .int .i64 m.f9.f2, .slice A12 m.f9.f3.length c12, .int .i64 m.f10.f0, .int .i64 m.f10.f1, .int .i64 m.f10.f2, .slice A16 m.f10.f3.length c16] 34)); have HK0 := Lib.hid ((KeepS.refl (fun i => i = p) w).alloc (.cells #[.int .i64 m.f0, .int .i64 m.f1, .int .i64 m.f2, .int .i64 m.f3, .int .i64 m.f4, .int .i64 m.f5, .int .i64 m.f6, .bool m.f7, .slice A8 m.f8.length c8, .int .i64 m.f9.f0, .int .i64 m.f9.f1, .int .i64 m.f9.f2, .slice A12 m.f9.f3.length c12, .int .i64 m.f10.f0, .int .i64 m.f10.f1, .int .i64 m.f10.f2, .slice A16 m.f10.f3.length c16] 34))
 have HX0 := Lib.hid (show MsBox (w.alloc (.cells #[.int .i64 m.f0, .int .i64 m.f1, .int .i64 m.f2, .int .i64 m.f3, .int .i64 m.f4, .int .i64 m.f5, .int .i64 m.f6, .bool m.f7, .slice A8 m.f8.length c8, .int .i64 m.f9.f0, .int .i64 m.f9.f1, .int .i64 m.f9.f2, .slice A12 m.f9.f3.length c12, .int .i64 m.f10.f0, .int .i64 m.f10.f1, .int .i64 m.f10.f2, .slice A16 m.f10.f3.length c16] 34)) w.heap.size m A8 c8 A12 c12 A16 c16 from heap_alloc_new w _)
 have HT1 := Lib.hid (show okI [m.f3] = true by have := ho.t; simp only [okI_cons] at this ⊢; exact ⟨this.1, rfl⟩)
 have q1 : (m.f0 == 1) = false := by rw [hk]; rfl
 have q2 : (m.f0 == 2) = true := by rw [hk]; rfl
 have HTB := Lib.hid (show msgB m = numsB [m.f0, m.f1, m.f2] ++ (numB m.f3 ++ yesB m.f7) by unfold msgB tailB; simp only [hk]; rfl)
 clear hI hB hp hs ho hm hk
 go_enter Tryz.func50, Tryz.ntmps50
 go_upto_region 1 with fail
 obtain ⟨v0, hv⟩ : ∃ v, w.alloc (.cells #[.int .i64 m.f0, .int .i64 m.f1, .int .i64 m.f2, .int .i64 m.f3, .int .i64 m.f4, .int .i64 m.f5, .int .i64 m.f6, .bool m.f7, .slice A8 m.f8.length c8, .int .i64 m.f9.f0, .int .i64 m.f9.f1, .int .i64 m.f9.f2, .slice A12 m.f9.f3.length c12, .int .i64 m.f10.f0, .int .i64 m.f10.f1, .int .i64 m.f10.f2, .slice A16 m.f10.f3.length c16] 34) = v := ⟨_, rfl⟩
 obtain ⟨b, hb⟩ : ∃ b, w.heap.size = b := ⟨_, rfl⟩
 rw [hv] at H0 HB0 HK0 HX0 ⊢
 rw [hb] at HNE HX0 ⊢
 clear hv hb
 obtain ⟨la0, hl0⟩ : ∃ la, l0 = la := ⟨_, rfl⟩
 have HQ0 := Lib.hid hl0
 have HLZ := Lib.hid (show la0.length ≤ l0.length + 0 by rw [← hl0]; exact Nat.le_refl _)
 rw [hl0] at H0
 clear hl0 HL0
 have HL0 := HLZ
 have HD := Lib.hid (show Below v0.heap.size v0 v0.drew from (Below.refl _ _).drew)
 have Hd := Lib.hid (H0.out.below HD.out); have HBd := Lib.hid HB0.out.drew; have HKd := Lib.hid HK0.out.drew; have HXd := Lib.hid (show MsBox v0.drew b m A8 c8 A12 c12 A16 c16 from HX0.out)
 clear HD
 obtain ⟨d0, d1, d2, d3, d4, d5, d6, d7, d8, d9, d10, d11, d12, d13, d14, d15, d16⟩ := HXd.out.cell
 refine start_ (n := 11) (S := fun w' => w'.cell? ⟨b, 0, none⟩ = some (.int .i64 m.f0) ∧ w'.cell? ⟨b, 1, none⟩ = some (.int .i64 m.f1) ∧ w'.cell? ⟨b, 2, none⟩ = some (.int .i64 m.f2)) (ds := []) #[false, false, false, false, false, false, false, false, false, false, false] (by kernel_rfl) rfl rfl ⟨d0, d1, d2⟩ (fun hHeld => ?_)
 obtain ⟨u, hu⟩ : ∃ u, v0.drew = u := ⟨_, rfl⟩
 rw [hu] at Hd HBd HKd HXd hHeld ⊢
 clear hu d0 d1 d2 d3 d4 d5 d6 d7 d8 d9 d10 d11 d12 d13 d14 d15 d16
 refine pure_ (i := 0) (N := some 6) (v := ?_) (a' := ?_) #[true, false, false, false, false, false, false, false, false, false, false] rfl rfl (by kernel_rfl) (fun _ _ _ h => h) (Or.inl ⟨by rfl, ?_⟩) ?_ ?_
 rotate_left
 ·intro w'
  go_simp
  try with_reducible rfl
 rotate_left
 ·simp only [Act.put, sq1, sq2, sq3, i64_w, i32_w]
  rfl
 refine pure_ (i := 1) (N := some 7) (v := ?_) (a' := ?_) #[true, true, false, false, false, false, false, false, false, false, false] rfl rfl (by kernel_rfl) (fun _ _ _ h => h) (Or.inl ⟨by rfl, ?_⟩) ?_ ?_
 rotate_left
 ·intro w'
  go_simp
  try with_reducible rfl
 rotate_left
 ·simp only [Act.put, sq1, sq2, sq3, i64_w, i32_w]
  rfl
 refine pure_ (i := 2) (N := some 8) (v := ?_) (a' := ?_) #[true, true, true, false, false, false, false, false, false, false, false] rfl rfl (by kernel_rfl) (fun _ _ _ h => h) (Or.inl ⟨by rfl, ?_⟩) ?_ ?_
 rotate_left
 ·intro w'
  go_simp
  try with_reducible rfl
 rotate_left
 ·simp only [Act.put, sq1, sq2, sq3, i64_w, i32_w]
  rfl
 refine pure_ (i := 3) (N := some 9) (v := ?_) (a' := ?_) #[true, true, true, true, false, false, false, false, false, false, false] rfl rfl (by kernel_rfl) (fun _ _ _ h => h) (Or.inl ⟨by rfl, ?_⟩) ?_ ?_
 rotate_left
 ·intro w'
  go_simp
  try with_reducible rfl
 rotate_left
 ·simp only [Act.put, sq1, sq2, sq3, i64_w, i32_w]
  rfl
 refine take_ (i := 4) (N := some 10) (v := ?_) (a' := ?_) #[true, true, true, true, true, false, false, false, false, false, false] rfl rfl (by kernel_rfl) (fun _ _ _ h => h) (Or.inl ⟨by rfl, ?_⟩) hHeld ?_ ?_
 rotate_left
 ·intro w' hS
  obtain ⟨x0, x1, x2⟩ := hS
  go_simp
  try with_reducible rfl
 rotate_left
 ·simp only [Act.put, sq1, sq2, sq3, i64_w, i32_w]
  rfl
 refine pure_ (i := 5) (N := some 11) (v := ?_) (a' := ?_) #[true, true, true, true, true, true, false, false, false, false, false] rfl rfl (by kernel_rfl) (fun _ _ _ h => h) (Or.inl ⟨by rfl, ?_⟩) ?_ ?_
 rotate_left
 ·intro w'
  go_simp
  try with_reducible rfl
 rotate_left
 ·simp only [Act.put, sq1, sq2, sq3, i64_w, i32_w]
  rfl
 refine take_ (i := 6) (N := some 12) (v := ?_) (a' := ?_) #[true, true, true, true, true, true, true, false, false, false, false] rfl rfl (by kernel_rfl) (fun _ _ _ h => h) (Or.inl ⟨by rfl, ?_⟩) hHeld ?_ ?_
 rotate_left
 ·intro w' hS
  obtain ⟨x0, x1, x2⟩ := hS
  go_simp
  try with_reducible rfl
 rotate_left
 ·simp only [Act.put, sq1, sq2, sq3, i64_w, i32_w]
  rfl
 refine pure_ (i := 7) (N := some 13) (v := ?_) (a' := ?_) #[true, true, true, true, true, true, true, true, false, false, false] rfl rfl (by kernel_rfl) (fun _ _ _ h => h) (Or.inl ⟨by rfl, ?_⟩) ?_ ?_
 rotate_left
 ·intro w'
  go_simp
  try with_reducible rfl
 rotate_left
 ·simp only [Act.put, sq1, sq2, sq3, i64_w, i32_w]
  rfl
 refine take_ (i := 8) (N := some 14) (v := ?_) (a' := ?_) #[true, true, true, true, true, true, true, true, true, false, false] rfl rfl (by kernel_rfl) (fun _ _ _ h => h) (Or.inl ⟨by rfl, ?_⟩) hHeld ?_ ?_
 rotate_left
 ·intro w' hS
  obtain ⟨x0, x1, x2⟩ := hS
  go_simp
  try with_reducible rfl
 rotate_left
 ·simp only [Act.put, sq1, sq2, sq3, i64_w, i32_w]
  rfl
 refine one_ (i := 9) (N := some 15) #[true, true, true, true, true, true, true, true, true, true, false] rfl rfl (by kernel_rfl) (by decide) (fun K hK => ?_)
 refine value_ (w1 := ?_) (v := ?_) (by rfl) rfl ?_ ?_
 rotate_left 2
 ·go_simp
  constructor <;> rfl
 have hba := (Below.refl _ u).alloc (Nat.le_refl _) (.cells #[.int .i64 m.f0, .int .i64 m.f1, .int .i64 m.f2] 2)
 have HXe := Lib.hid (show MsBox (u.alloc (.cells #[.int .i64 m.f0, .int .i64 m.f1, .int .i64 m.f2] 2)) b m A8 c8 A12 c12 A16 c16 from HXd.out.below hba); have He := Lib.hid (Hd.out.below hba); have HBe := Lib.hid (HBd.out.alloc HBd.out.size (.cells #[.int .i64 m.f0, .int .i64 m.f1, .int .i64 m.f2] 2)); have HKe := Lib.hid (HKd.out.alloc (.cells #[.int .i64 m.f0, .int .i64 m.f1, .int .i64 m.f2] 2))
 clear hba
 obtain ⟨d0, d1, d2, d3, d4, d5, d6, d7, d8, d9, d10, d11, d12, d13, d14, d15, d16⟩ := HXe.out.cell
 refine hK.out _ _ ⟨d0, d1, d2⟩ (fun hHeld => ?_)
 clear hK K
 clear d0 d1 d2 d3 d4 d5 d6 d7 d8 d9 d10 d11 d12 d13 d14 d15 d16
 refine norm_ (a' := ?_) ?_ ?_
 rotate_left
 ·show Act.put _ (some 15) _ = _
  simp only [Act.put, sq1, sq2, sq3, i64_w, i32_w]
  rfl
 refine one_ (i := 10) (N := some 16) #[true, true, true, true, true, true, true, true, true, true, true] rfl rfl (by kernel_rfl) (by decide) (fun K hK => ?_)
 go_simp
 refine (nums_is He.out HBe.out HP.out _ 3 [m.f0, m.f1, m.f2] (C_lit u [m.f0, m.f1, m.f2] (by simp)) HO.out.h (by have := HS.out; have := HL0.out; simp only [List.length_cons, List.length_nil]; omega)).mono ?_
 rintro e v1 ⟨rfl, h1, h2, h3⟩
 obtain ⟨la1, hla⟩ : ∃ la, la0 ++ numsB [m.f0, m.f1, m.f2] = la := ⟨_, rfl⟩
 have HL1 := Lib.hid (show la1.length ≤ l0.length + 27 by rw [← hla]; have h8 := HL0.out; have h9 : (numsB [m.f0, m.f1, m.f2]).length ≤ 27 := numsB_le HO.out.h _ (by simp); simp only [List.length_append] at h9 ⊢; omega)
 have HQ1 := Lib.hid hla
 have H1 := Lib.hid (show IsPen v1 w0.heap.size p la1 by rw [← hla]; simpa only [List.append_assoc] using h1); have HB1 := Lib.hid h2; have HK1 := Lib.hid (HKe.out.trans h3); have HX1 := Lib.hid (HXe.out.keep h3 HNE.out)
 clear h1 h2 h3 hla
 obtain ⟨d0, d1, d2, d3, d4, d5, d6, d7, d8, d9, d10, d11, d12, d13, d14, d15, d16⟩ := HX1.out.cell
 refine hK.out _ _ ⟨d0, d1, d2⟩ (fun hHeld => ?_)
 clear hK K
 clear d0 d1 d2 d3 d4 d5 d6 d7 d8 d9 d10 d11 d12 d13 d14 d15 d16
 refine done_ (by kernel_rfl) ?_
 obtain ⟨d0, d1, d2, d3, d4, d5, d6, d7, d8, d9, d10, d11, d12, d13, d14, d15, d16⟩ := HX1.out.cell
 go_upto_region 6 with fail
 clear d0 d1 d2 d3 d4 d5 d6 d7 d8 d9 d10 d11 d12 d13 d14 d15 d16
 have HD := Lib.hid (show Below v1.heap.size v1 v1.drew from (Below.refl _ _).drew)
 have Hd := Lib.hid (H1.out.below HD.out); have HBd := Lib.hid HB1.out.drew; have HKd := Lib.hid HK1.out.drew; have HXd := Lib.hid (show MsBox v1.drew b m A8 c8 A12 c12 A16 c16 from HX1.out)
 clear HD
 obtain ⟨d0, d1, d2, d3, d4, d5, d6, d7, d8, d9, d10, d11, d12, d13, d14, d15, d16⟩ := HXd.out.cell
 refine start_ (n := 7) (S := fun w' => w'.cell? ⟨b, 3, none⟩ = some (.int .i64 m.f3)) (ds := []) #[false, false, false, false, false, false, false] (by kernel_rfl) rfl rfl d3 (fun hHeld => ?_)
 obtain ⟨u, hu⟩ : ∃ u, v1.drew = u := ⟨_, rfl⟩
 rw [hu] at Hd HBd HKd HXd hHeld ⊢
 clear hu d0 d1 d2 d3 d4 d5 d6 d7 d8 d9 d10 d11 d12 d13 d14 d15 d16
 refine pure_ (i := 0) (N := some 34) (v := ?_) (a' := ?_) #[true, false, false, false, false, false, false] rfl rfl (by kernel_rfl) (fun _ _ _ h => h) (Or.inl ⟨by rfl, ?_⟩) ?_ ?_
 rotate_left
 ·intro w'
  go_simp
  try with_reducible rfl
 rotate_left
 ·simp only [Act.put, sq1, sq2, sq3, i64_w, i32_w]
  rfl
 refine pure_ (i := 1) (N := some 35) (v := ?_) (a' := ?_) #[true, true, false, false, false, false, false] rfl rfl (by kernel_rfl) (fun _ _ _ h => h) (Or.inl ⟨by rfl, ?_⟩) ?_ ?_
 rotate_left
 ·intro w'
  go_simp
  try with_reducible rfl
 rotate_left
 ·simp only [Act.put, sq1, sq2, sq3, i64_w, i32_w]
  rfl
 refine pure_ (i := 2) (N := some 36) (v := ?_) (a' := ?_) #[true, true, true, false, false, false, false] rfl rfl (by kernel_rfl) (fun _ _ _ h => h) (Or.inl ⟨by rfl, ?_⟩) ?_ ?_
 rotate_left
 ·intro w'
  go_simp
  try with_reducible rfl
 rotate_left
 ·simp only [Act.put, sq1, sq2, sq3, i64_w, i32_w]
  rfl
 refine pure_ (i := 3) (N := some 37) (v := ?_) (a' := ?_) #[true, true, true, true, false, false, false] rfl rfl (by kernel_rfl) (fun _ _ _ h => h) (Or.inl ⟨by rfl, ?_⟩) ?_ ?_
 rotate_left
 ·intro w'
  go_simp
  try with_reducible rfl
 rotate_left
 ·simp only [Act.put, sq1, sq2, sq3, i64_w, i32_w]
  rfl
 refine take_ (i := 4) (N := some 38) (v := ?_) (a' := ?_) #[true, true, true, true, true, false, false] rfl rfl (by kernel_rfl) (fun _ _ _ h => h) (Or.inl ⟨by rfl, ?_⟩) hHeld ?_ ?_
 rotate_left
 ·intro w' hS
  have x0 := hS
  go_simp
  try with_reducible rfl
 rotate_left
 ·simp only [Act.put, sq1, sq2, sq3, i64_w, i32_w]
  rfl
 refine one_ (i := 5) (N := some 39) #[true, true, true, true, true, true, false] rfl rfl (by kernel_rfl) (by decide) (fun K hK => ?_)
 refine value_ (w1 := ?_) (v := ?_) (by rfl) rfl ?_ ?_
 rotate_left 2
 ·go_simp
  constructor <;> rfl
 have hba := (Below.refl _ u).alloc (Nat.le_refl _) (.cells #[.int .i64 m.f3] 2)
 have HXe := Lib.hid (show MsBox (u.alloc (.cells #[.int .i64 m.f3] 2)) b m A8 c8 A12 c12 A16 c16 from HXd.out.below hba); have He := Lib.hid (Hd.out.below hba); have HBe := Lib.hid (HBd.out.alloc HBd.out.size (.cells #[.int .i64 m.f3] 2)); have HKe := Lib.hid (HKd.out.alloc (.cells #[.int .i64 m.f3] 2))
 clear hba
 obtain ⟨d0, d1, d2, d3, d4, d5, d6, d7, d8, d9, d10, d11, d12, d13, d14, d15, d16⟩ := HXe.out.cell
 refine hK.out _ _ d3 (fun hHeld => ?_)
 clear hK K
 clear d0 d1 d2 d3 d4 d5 d6 d7 d8 d9 d10 d11 d12 d13 d14 d15 d16
 refine norm_ (a' := ?_) ?_ ?_
 rotate_left
 ·show Act.put _ (some 39) _ = _
  simp only [Act.put, sq1, sq2, sq3, i64_w, i32_w]
  rfl
 refine one_ (i := 6) (N := some 40) #[true, true, true, true, true, true, true] rfl rfl (by kernel_rfl) (by decide) (fun K hK => ?_)
 go_simp
 refine (nums_is He.out HBe.out HP.out _ 1 [m.f3] (C_lit u [m.f3] (by simp)) HT1.out (by have := HS.out; have := HL1.out; simp only [List.length_cons, List.length_nil]; omega)).mono ?_
 rintro e v2 ⟨rfl, h1, h2, h3⟩
 obtain ⟨la2, hla⟩ : ∃ la, la1 ++ numsB [m.f3] = la := ⟨_, rfl⟩
 have HL2 := Lib.hid (show la2.length ≤ l0.length + 36 by rw [← hla]; have h8 := HL1.out; have h9 : (numsB [m.f3]).length ≤ 9 := numsB_le HT1.out _ (by simp); simp only [List.length_append] at h9 ⊢; omega)
 have HQ2 := Lib.hid hla
 have H2 := Lib.hid (show IsPen v2 w0.heap.size p la2 by rw [← hla]; simpa only [List.append_assoc] using h1); have HB2 := Lib.hid h2; have HK2 := Lib.hid (HKe.out.trans h3); have HX2 := Lib.hid (HXe.out.keep h3 HNE.out)
 clear h1 h2 h3 hla
 obtain ⟨d0, d1, d2, d3, d4, d5, d6, d7, d8, d9, d10, d11, d12, d13, d14, d15, d16⟩ := HX2.out.cell
 refine hK.out _ _ d3 (fun hHeld => ?_)
 clear hK K
 clear d0 d1 d2 d3 d4 d5 d6 d7 d8 d9 d10 d11 d12 d13 d14 d15 d16
 refine done_ (by kernel_rfl) ?_
 obtain ⟨d0, d1, d2, d3, d4, d5, d6, d7, d8, d9, d10, d11, d12, d13, d14, d15, d16⟩ := HX2.out.cell
 go_wp2_with fail
 refine (penYes_is H2.out HB2.out HP.out m.f7 (by have := HS.out; have := HL2.out; omega)).mono ?_
 rintro e v3 ⟨rfl, h1, h2, h3⟩
 obtain ⟨la3, hla⟩ : ∃ la, la2 ++ yesB m.f7 = la := ⟨_, rfl⟩
 have HL3 := Lib.hid (show la3.length ≤ l0.length + 45 by rw [← hla]; have h8 := HL2.out; have h9 : (yesB m.f7).length ≤ 9 := yesB_len _; simp only [List.length_append] at h9 ⊢; omega)
 have HQ3 := Lib.hid hla
 have H3 := Lib.hid (show IsPen v3 w0.heap.size p la3 by rw [← hla]; simpa only [List.append_assoc] using h1); have HB3 := Lib.hid h2; have HK3 := Lib.hid (HK2.out.trans h3); have HX3 := Lib.hid (HX2.out.keep h3 HNE.out)
 clear h1 h2 h3 hla
 clear d0 d1 d2 d3 d4 d5 d6 d7 d8 d9 d10 d11 d12 d13 d14 d15 d16
 have HF := Lib.hid (show IsPen v3 w0.heap.size p (l0 ++ msgB m) by
  have h1 := H3.out
  rw [← HQ3.out, ← HQ2.out, ← HQ1.out, ← HQ0.out] at h1
  rw [HTB.out]
  simpa only [List.append_assoc, numsB_one] using h1)
 go_wp2_with fail
 go_end0
 exact ⟨rfl, HF.out, HB3.out, HK3.out⟩
set_option maxHeartbeats 4000000 in
theorem penMsg3 {w0 w : World} {p : Nat} {l0 : List Int} (hI : IsPen w w0.heap.size p l0) (hB : Below w0.heap.size w0 w) (hp : w0.heap.size ≤ p) (m : MsgD) {A8 A12 A16 : Option Addr} {c8 c12 c16 : Nat} (hm : MsgC w0 m A8 c8 A12 c12 A16 c16) (ho : OkM m) (hk : m.f0 = 3) (hml : m.f8.all mayTr = true) (hl8 : m.f8.length ≤ 4096) (hs : l0.length + 200000000 < 140737488355328) :
  Calls Tryz.prog 50 #[.pointer (some ⟨p, 0, none⟩), .agg #[.int .i64 m.f0, .int .i64 m.f1, .int .i64 m.f2, .int .i64 m.f3, .int .i64 m.f4, .int .i64 m.f5, .int .i64 m.f6, .bool m.f7, .slice A8 m.f8.length c8, .int .i64 m.f9.f0, .int .i64 m.f9.f1, .int .i64 m.f9.f2, .slice A12 m.f9.f3.length c12, .int .i64 m.f10.f0, .int .i64 m.f10.f1, .int .i64 m.f10.f2, .slice A16 m.f10.f3.length c16]] w fun e w' => PenP w0 w p (l0 ++ msgB m) e w' := by
 have HO := Lib.hid ho; have HM := Lib.hid hm; have HP := Lib.hid hp; have HS := Lib.hid hs; have HL0 := Lib.hid (show l0.length ≤ l0.length + 0 from Nat.le_refl _)
 have HNE := Lib.hid (show w.heap.size ≠ p by have := hI.lt; omega)
 have H0 := Lib.hid (hI.below ((Below.refl _ w).alloc (Nat.le_refl _) (.cells #[.int .i64 m.f0, .int .i64 m.f1, .int .i64 m.f2, .int .i64 m.f3, .int .i64 m.f4, .int .i64 m.f5, .int .i64 m.f6, .bool m.f7, .slice A8 m.f8.length c8, .int .i64 m.f9.f0, .int .i64 m.f9.f1, .int .i64 m.f9.f2, .slice A12 m.f9.f3.length c12, .int .i64 m.f10.f0, .int .i64 m.f10.f1, .int .i64 m.f10.f2, .slice A16 m.f10.f3.length c16] 34))); have HB0 := Lib.hid (hB.alloc hB.size (.cells #[.int .i64 m.f0, .int .i64 m.f1, .int .i64 m.f2, .int .i64 m.f3, .int .i64 m.f4, .int .i64 m.f5, .int .i64 m.f6, .bool m.f7, .slice A8 m.f8.length c8, .int .i64 m.f9.f0, .int .i64 m.f9.f1, .int .i64 m.f9.f2, .slice A12 m.f9.f3.length c12, .int .i64 m.f10.f0, .int .i64 m.f10.f1, .int .i64 m.f10.f2, .slice A16 m.f10.f3.length c16] 34)); have HK0 := Lib.hid ((KeepS.refl (fun i => i = p) w).alloc (.cells #[.int .i64 m.f0, .int .i64 m.f1, .int .i64 m.f2, .int .i64 m.f3, .int .i64 m.f4, .int .i64 m.f5, .int .i64 m.f6, .bool m.f7, .slice A8 m.f8.length c8, .int .i64 m.f9.f0, .int .i64 m.f9.f1, .int .i64 m.f9.f2, .slice A12 m.f9.f3.length c12, .int .i64 m.f10.f0, .int .i64 m.f10.f1, .int .i64 m.f10.f2, .slice A16 m.f10.f3.length c16] 34))
 have HX0 := Lib.hid (show MsBox (w.alloc (.cells #[.int .i64 m.f0, .int .i64 m.f1, .int .i64 m.f2, .int .i64 m.f3, .int .i64 m.f4, .int .i64 m.f5, .int .i64 m.f6, .bool m.f7, .slice A8 m.f8.length c8, .int .i64 m.f9.f0, .int .i64 m.f9.f1, .int .i64 m.f9.f2, .slice A12 m.f9.f3.length c12, .int .i64 m.f10.f0, .int .i64 m.f10.f1, .int .i64 m.f10.f2, .slice A16 m.f10.f3.length c16] 34)) w.heap.size m A8 c8 A12 c12 A16 c16 from heap_alloc_new w _)
 have HML := Lib.hid hml; have HL8 := Lib.hid hl8; have hlm : m.f8.length ≤ 9223372036854775807 := hm.g8.2.1
 have HI8 := Lib.hid (show isI64 (m.f8.length : Int) by unfold isI64; omega)
 have q1 : (m.f0 == 1) = false := by rw [hk]; rfl
 have q2 : (m.f0 == 2) = false := by rw [hk]; rfl
 have q3 : (m.f0 == 3) = true := by rw [hk]; rfl
 have HTB := Lib.hid (show msgB m = numsB [m.f0, m.f1, m.f2] ++ (numsB [m.f3, m.f4, m.f5, m.f6] ++ numB m.f8.length ++ m.f8.flatMap trB) by unfold msgB tailB; simp only [hk]; rfl)
 clear hI hB hp hs ho hm hk hml hl8
 go_enter Tryz.func50, Tryz.ntmps50
 go_upto_region 1 with fail
 obtain ⟨v0, hv⟩ : ∃ v, w.alloc (.cells #[.int .i64 m.f0, .int .i64 m.f1, .int .i64 m.f2, .int .i64 m.f3, .int .i64 m.f4, .int .i64 m.f5, .int .i64 m.f6, .bool m.f7, .slice A8 m.f8.length c8, .int .i64 m.f9.f0, .int .i64 m.f9.f1, .int .i64 m.f9.f2, .slice A12 m.f9.f3.length c12, .int .i64 m.f10.f0, .int .i64 m.f10.f1, .int .i64 m.f10.f2, .slice A16 m.f10.f3.length c16] 34) = v := ⟨_, rfl⟩
 obtain ⟨b, hb⟩ : ∃ b, w.heap.size = b := ⟨_, rfl⟩
 rw [hv] at H0 HB0 HK0 HX0 ⊢
 rw [hb] at HNE HX0 ⊢
 clear hv hb
 obtain ⟨la0, hl0⟩ : ∃ la, l0 = la := ⟨_, rfl⟩
 have HQ0 := Lib.hid hl0
 have HLZ := Lib.hid (show la0.length ≤ l0.length + 0 by rw [← hl0]; exact Nat.le_refl _)
 rw [hl0] at H0
 clear hl0 HL0
 have HL0 := HLZ
 have HD := Lib.hid (show Below v0.heap.size v0 v0.drew from (Below.refl _ _).drew)
 have Hd := Lib.hid (H0.out.below HD.out); have HBd := Lib.hid HB0.out.drew; have HKd := Lib.hid HK0.out.drew; have HXd := Lib.hid (show MsBox v0.drew b m A8 c8 A12 c12 A16 c16 from HX0.out)
 clear HD
 obtain ⟨d0, d1, d2, d3, d4, d5, d6, d7, d8, d9, d10, d11, d12, d13, d14, d15, d16⟩ := HXd.out.cell
 refine start_ (n := 11) (S := fun w' => w'.cell? ⟨b, 0, none⟩ = some (.int .i64 m.f0) ∧ w'.cell? ⟨b, 1, none⟩ = some (.int .i64 m.f1) ∧ w'.cell? ⟨b, 2, none⟩ = some (.int .i64 m.f2)) (ds := []) #[false, false, false, false, false, false, false, false, false, false, false] (by kernel_rfl) rfl rfl ⟨d0, d1, d2⟩ (fun hHeld => ?_)
 obtain ⟨u, hu⟩ : ∃ u, v0.drew = u := ⟨_, rfl⟩
 rw [hu] at Hd HBd HKd HXd hHeld ⊢
 clear hu d0 d1 d2 d3 d4 d5 d6 d7 d8 d9 d10 d11 d12 d13 d14 d15 d16
 refine pure_ (i := 0) (N := some 6) (v := ?_) (a' := ?_) #[true, false, false, false, false, false, false, false, false, false, false] rfl rfl (by kernel_rfl) (fun _ _ _ h => h) (Or.inl ⟨by rfl, ?_⟩) ?_ ?_
 rotate_left
 ·intro w'
  go_simp
  try with_reducible rfl
 rotate_left
 ·simp only [Act.put, sq1, sq2, sq3, i64_w, i32_w]
  rfl
 refine pure_ (i := 1) (N := some 7) (v := ?_) (a' := ?_) #[true, true, false, false, false, false, false, false, false, false, false] rfl rfl (by kernel_rfl) (fun _ _ _ h => h) (Or.inl ⟨by rfl, ?_⟩) ?_ ?_
 rotate_left
 ·intro w'
  go_simp
  try with_reducible rfl
 rotate_left
 ·simp only [Act.put, sq1, sq2, sq3, i64_w, i32_w]
  rfl
 refine pure_ (i := 2) (N := some 8) (v := ?_) (a' := ?_) #[true, true, true, false, false, false, false, false, false, false, false] rfl rfl (by kernel_rfl) (fun _ _ _ h => h) (Or.inl ⟨by rfl, ?_⟩) ?_ ?_
 rotate_left
 ·intro w'
  go_simp
  try with_reducible rfl
 rotate_left
 ·simp only [Act.put, sq1, sq2, sq3, i64_w, i32_w]
  rfl
 refine pure_ (i := 3) (N := some 9) (v := ?_) (a' := ?_) #[true, true, true, true, false, false, false, false, false, false, false] rfl rfl (by kernel_rfl) (fun _ _ _ h => h) (Or.inl ⟨by rfl, ?_⟩) ?_ ?_
 rotate_left
 ·intro w'
  go_simp
  try with_reducible rfl
 rotate_left
 ·simp only [Act.put, sq1, sq2, sq3, i64_w, i32_w]
  rfl
 refine take_ (i := 4) (N := some 10) (v := ?_) (a' := ?_) #[true, true, true, true, true, false, false, false, false, false, false] rfl rfl (by kernel_rfl) (fun _ _ _ h => h) (Or.inl ⟨by rfl, ?_⟩) hHeld ?_ ?_
 rotate_left
 ·intro w' hS
  obtain ⟨x0, x1, x2⟩ := hS
  go_simp
  try with_reducible rfl
 rotate_left
 ·simp only [Act.put, sq1, sq2, sq3, i64_w, i32_w]
  rfl
 refine pure_ (i := 5) (N := some 11) (v := ?_) (a' := ?_) #[true, true, true, true, true, true, false, false, false, false, false] rfl rfl (by kernel_rfl) (fun _ _ _ h => h) (Or.inl ⟨by rfl, ?_⟩) ?_ ?_
 rotate_left
 ·intro w'
  go_simp
  try with_reducible rfl
 rotate_left
 ·simp only [Act.put, sq1, sq2, sq3, i64_w, i32_w]
  rfl
 refine take_ (i := 6) (N := some 12) (v := ?_) (a' := ?_) #[true, true, true, true, true, true, true, false, false, false, false] rfl rfl (by kernel_rfl) (fun _ _ _ h => h) (Or.inl ⟨by rfl, ?_⟩) hHeld ?_ ?_
 rotate_left
 ·intro w' hS
  obtain ⟨x0, x1, x2⟩ := hS
  go_simp
  try with_reducible rfl
 rotate_left
 ·simp only [Act.put, sq1, sq2, sq3, i64_w, i32_w]
  rfl
 refine pure_ (i := 7) (N := some 13) (v := ?_) (a' := ?_) #[true, true, true, true, true, true, true, true, false, false, false] rfl rfl (by kernel_rfl) (fun _ _ _ h => h) (Or.inl ⟨by rfl, ?_⟩) ?_ ?_
 rotate_left
 ·intro w'
  go_simp
  try with_reducible rfl
 rotate_left
 ·simp only [Act.put, sq1, sq2, sq3, i64_w, i32_w]
  rfl
 refine take_ (i := 8) (N := some 14) (v := ?_) (a' := ?_) #[true, true, true, true, true, true, true, true, true, false, false] rfl rfl (by kernel_rfl) (fun _ _ _ h => h) (Or.inl ⟨by rfl, ?_⟩) hHeld ?_ ?_
 rotate_left
 ·intro w' hS
  obtain ⟨x0, x1, x2⟩ := hS
  go_simp
  try with_reducible rfl
 rotate_left
 ·simp only [Act.put, sq1, sq2, sq3, i64_w, i32_w]
  rfl
 refine one_ (i := 9) (N := some 15) #[true, true, true, true, true, true, true, true, true, true, false] rfl rfl (by kernel_rfl) (by decide) (fun K hK => ?_)
 refine value_ (w1 := ?_) (v := ?_) (by rfl) rfl ?_ ?_
 rotate_left 2
 ·go_simp
  constructor <;> rfl
 have hba := (Below.refl _ u).alloc (Nat.le_refl _) (.cells #[.int .i64 m.f0, .int .i64 m.f1, .int .i64 m.f2] 2)
 have HXe := Lib.hid (show MsBox (u.alloc (.cells #[.int .i64 m.f0, .int .i64 m.f1, .int .i64 m.f2] 2)) b m A8 c8 A12 c12 A16 c16 from HXd.out.below hba); have He := Lib.hid (Hd.out.below hba); have HBe := Lib.hid (HBd.out.alloc HBd.out.size (.cells #[.int .i64 m.f0, .int .i64 m.f1, .int .i64 m.f2] 2)); have HKe := Lib.hid (HKd.out.alloc (.cells #[.int .i64 m.f0, .int .i64 m.f1, .int .i64 m.f2] 2))
 clear hba
 obtain ⟨d0, d1, d2, d3, d4, d5, d6, d7, d8, d9, d10, d11, d12, d13, d14, d15, d16⟩ := HXe.out.cell
 refine hK.out _ _ ⟨d0, d1, d2⟩ (fun hHeld => ?_)
 clear hK K
 clear d0 d1 d2 d3 d4 d5 d6 d7 d8 d9 d10 d11 d12 d13 d14 d15 d16
 refine norm_ (a' := ?_) ?_ ?_
 rotate_left
 ·show Act.put _ (some 15) _ = _
  simp only [Act.put, sq1, sq2, sq3, i64_w, i32_w]
  rfl
 refine one_ (i := 10) (N := some 16) #[true, true, true, true, true, true, true, true, true, true, true] rfl rfl (by kernel_rfl) (by decide) (fun K hK => ?_)
 go_simp
 refine (nums_is He.out HBe.out HP.out _ 3 [m.f0, m.f1, m.f2] (C_lit u [m.f0, m.f1, m.f2] (by simp)) HO.out.h (by have := HS.out; have := HL0.out; simp only [List.length_cons, List.length_nil]; omega)).mono ?_
 rintro e v1 ⟨rfl, h1, h2, h3⟩
 obtain ⟨la1, hla⟩ : ∃ la, la0 ++ numsB [m.f0, m.f1, m.f2] = la := ⟨_, rfl⟩
 have HL1 := Lib.hid (show la1.length ≤ l0.length + 27 by rw [← hla]; have h8 := HL0.out; have h9 : (numsB [m.f0, m.f1, m.f2]).length ≤ 27 := numsB_le HO.out.h _ (by simp); simp only [List.length_append] at h9 ⊢; omega)
 have HQ1 := Lib.hid hla
 have H1 := Lib.hid (show IsPen v1 w0.heap.size p la1 by rw [← hla]; simpa only [List.append_assoc] using h1); have HB1 := Lib.hid h2; have HK1 := Lib.hid (HKe.out.trans h3); have HX1 := Lib.hid (HXe.out.keep h3 HNE.out)
 clear h1 h2 h3 hla
 obtain ⟨d0, d1, d2, d3, d4, d5, d6, d7, d8, d9, d10, d11, d12, d13, d14, d15, d16⟩ := HX1.out.cell
 refine hK.out _ _ ⟨d0, d1, d2⟩ (fun hHeld => ?_)
 clear hK K
 clear d0 d1 d2 d3 d4 d5 d6 d7 d8 d9 d10 d11 d12 d13 d14 d15 d16
 refine done_ (by kernel_rfl) ?_
 obtain ⟨d0, d1, d2, d3, d4, d5, d6, d7, d8, d9, d10, d11, d12, d13, d14, d15, d16⟩ := HX1.out.cell
 go_upto_region 9 with fail
 clear d0 d1 d2 d3 d4 d5 d6 d7 d8 d9 d10 d11 d12 d13 d14 d15 d16
 have HD := Lib.hid (show Below v1.heap.size v1 v1.drew from (Below.refl _ _).drew)
 have Hd := Lib.hid (H1.out.below HD.out); have HBd := Lib.hid HB1.out.drew; have HKd := Lib.hid HK1.out.drew; have HXd := Lib.hid (show MsBox v1.drew b m A8 c8 A12 c12 A16 c16 from HX1.out)
 clear HD
 obtain ⟨d0, d1, d2, d3, d4, d5, d6, d7, d8, d9, d10, d11, d12, d13, d14, d15, d16⟩ := HXd.out.cell
 refine start_ (n := 13) (S := fun w' => w'.cell? ⟨b, 3, none⟩ = some (.int .i64 m.f3) ∧ w'.cell? ⟨b, 4, none⟩ = some (.int .i64 m.f4) ∧ w'.cell? ⟨b, 5, none⟩ = some (.int .i64 m.f5) ∧ w'.cell? ⟨b, 6, none⟩ = some (.int .i64 m.f6)) (ds := []) #[false, false, false, false, false, false, false, false, false, false, false, false, false] (by kernel_rfl) rfl rfl ⟨d3, d4, d5, d6⟩ (fun hHeld => ?_)
 obtain ⟨u, hu⟩ : ∃ u, v1.drew = u := ⟨_, rfl⟩
 rw [hu] at Hd HBd HKd HXd hHeld ⊢
 clear hu d0 d1 d2 d3 d4 d5 d6 d7 d8 d9 d10 d11 d12 d13 d14 d15 d16
 refine pure_ (i := 0) (N := some 47) (v := ?_) (a' := ?_) #[true, false, false, false, false, false, false, false, false, false, false, false, false] rfl rfl (by kernel_rfl) (fun _ _ _ h => h) (Or.inl ⟨by rfl, ?_⟩) ?_ ?_
 rotate_left
 ·intro w'
  go_simp
  try with_reducible rfl
 rotate_left
 ·simp only [Act.put, sq1, sq2, sq3, i64_w, i32_w]
  rfl
 refine pure_ (i := 1) (N := some 48) (v := ?_) (a' := ?_) #[true, true, false, false, false, false, false, false, false, false, false, false, false] rfl rfl (by kernel_rfl) (fun _ _ _ h => h) (Or.inl ⟨by rfl, ?_⟩) ?_ ?_
 rotate_left
 ·intro w'
  go_simp
  try with_reducible rfl
 rotate_left
 ·simp only [Act.put, sq1, sq2, sq3, i64_w, i32_w]
  rfl
 refine pure_ (i := 2) (N := some 49) (v := ?_) (a' := ?_) #[true, true, true, false, false, false, false, false, false, false, false, false, false] rfl rfl (by kernel_rfl) (fun _ _ _ h => h) (Or.inl ⟨by rfl, ?_⟩) ?_ ?_
 rotate_left
 ·intro w'
  go_simp
  try with_reducible rfl
 rotate_left
 ·simp only [Act.put, sq1, sq2, sq3, i64_w, i32_w]
  rfl
 refine pure_ (i := 3) (N := some 50) (v := ?_) (a' := ?_) #[true, true, true, true, false, false, false, false, false, false, false, false, false] rfl rfl (by kernel_rfl) (fun _ _ _ h => h) (Or.inl ⟨by rfl, ?_⟩) ?_ ?_
 rotate_left
 ·intro w'
  go_simp
  try with_reducible rfl
 rotate_left
 ·simp only [Act.put, sq1, sq2, sq3, i64_w, i32_w]
  rfl
 refine take_ (i := 4) (N := some 51) (v := ?_) (a' := ?_) #[true, true, true, true, true, false, false, false, false, false, false, false, false] rfl rfl (by kernel_rfl) (fun _ _ _ h => h) (Or.inl ⟨by rfl, ?_⟩) hHeld ?_ ?_
 rotate_left
 ·intro w' hS
  obtain ⟨x3, x4, x5, x6⟩ := hS
  go_simp
  try with_reducible rfl
 rotate_left
 ·simp only [Act.put, sq1, sq2, sq3, i64_w, i32_w]
  rfl
 refine pure_ (i := 5) (N := some 52) (v := ?_) (a' := ?_) #[true, true, true, true, true, true, false, false, false, false, false, false, false] rfl rfl (by kernel_rfl) (fun _ _ _ h => h) (Or.inl ⟨by rfl, ?_⟩) ?_ ?_
 rotate_left
 ·intro w'
  go_simp
  try with_reducible rfl
 rotate_left
 ·simp only [Act.put, sq1, sq2, sq3, i64_w, i32_w]
  rfl
 refine take_ (i := 6) (N := some 53) (v := ?_) (a' := ?_) #[true, true, true, true, true, true, true, false, false, false, false, false, false] rfl rfl (by kernel_rfl) (fun _ _ _ h => h) (Or.inl ⟨by rfl, ?_⟩) hHeld ?_ ?_
 rotate_left
 ·intro w' hS
  obtain ⟨x3, x4, x5, x6⟩ := hS
  go_simp
  try with_reducible rfl
 rotate_left
 ·simp only [Act.put, sq1, sq2, sq3, i64_w, i32_w]
  rfl
 refine pure_ (i := 7) (N := some 54) (v := ?_) (a' := ?_) #[true, true, true, true, true, true, true, true, false, false, false, false, false] rfl rfl (by kernel_rfl) (fun _ _ _ h => h) (Or.inl ⟨by rfl, ?_⟩) ?_ ?_
 rotate_left
 ·intro w'
  go_simp
  try with_reducible rfl
 rotate_left
 ·simp only [Act.put, sq1, sq2, sq3, i64_w, i32_w]
  rfl
 refine take_ (i := 8) (N := some 55) (v := ?_) (a' := ?_) #[true, true, true, true, true, true, true, true, true, false, false, false, false] rfl rfl (by kernel_rfl) (fun _ _ _ h => h) (Or.inl ⟨by rfl, ?_⟩) hHeld ?_ ?_
 rotate_left
 ·intro w' hS
  obtain ⟨x3, x4, x5, x6⟩ := hS
  go_simp
  try with_reducible rfl
 rotate_left
 ·simp only [Act.put, sq1, sq2, sq3, i64_w, i32_w]
  rfl
 refine pure_ (i := 9) (N := some 56) (v := ?_) (a' := ?_) #[true, true, true, true, true, true, true, true, true, true, false, false, false] rfl rfl (by kernel_rfl) (fun _ _ _ h => h) (Or.inl ⟨by rfl, ?_⟩) ?_ ?_
 rotate_left
 ·intro w'
  go_simp
  try with_reducible rfl
 rotate_left
 ·simp only [Act.put, sq1, sq2, sq3, i64_w, i32_w]
  rfl
 refine take_ (i := 10) (N := some 57) (v := ?_) (a' := ?_) #[true, true, true, true, true, true, true, true, true, true, true, false, false] rfl rfl (by kernel_rfl) (fun _ _ _ h => h) (Or.inl ⟨by rfl, ?_⟩) hHeld ?_ ?_
 rotate_left
 ·intro w' hS
  obtain ⟨x3, x4, x5, x6⟩ := hS
  go_simp
  try with_reducible rfl
 rotate_left
 ·simp only [Act.put, sq1, sq2, sq3, i64_w, i32_w]
  rfl
 refine one_ (i := 11) (N := some 58) #[true, true, true, true, true, true, true, true, true, true, true, true, false] rfl rfl (by kernel_rfl) (by decide) (fun K hK => ?_)
 refine value_ (w1 := ?_) (v := ?_) (by rfl) rfl ?_ ?_
 rotate_left 2
 ·go_simp
  constructor <;> rfl
 have hba := (Below.refl _ u).alloc (Nat.le_refl _) (.cells #[.int .i64 m.f3, .int .i64 m.f4, .int .i64 m.f5, .int .i64 m.f6] 2)
 have HXe := Lib.hid (show MsBox (u.alloc (.cells #[.int .i64 m.f3, .int .i64 m.f4, .int .i64 m.f5, .int .i64 m.f6] 2)) b m A8 c8 A12 c12 A16 c16 from HXd.out.below hba); have He := Lib.hid (Hd.out.below hba); have HBe := Lib.hid (HBd.out.alloc HBd.out.size (.cells #[.int .i64 m.f3, .int .i64 m.f4, .int .i64 m.f5, .int .i64 m.f6] 2)); have HKe := Lib.hid (HKd.out.alloc (.cells #[.int .i64 m.f3, .int .i64 m.f4, .int .i64 m.f5, .int .i64 m.f6] 2))
 clear hba
 obtain ⟨d0, d1, d2, d3, d4, d5, d6, d7, d8, d9, d10, d11, d12, d13, d14, d15, d16⟩ := HXe.out.cell
 refine hK.out _ _ ⟨d3, d4, d5, d6⟩ (fun hHeld => ?_)
 clear hK K
 clear d0 d1 d2 d3 d4 d5 d6 d7 d8 d9 d10 d11 d12 d13 d14 d15 d16
 refine norm_ (a' := ?_) ?_ ?_
 rotate_left
 ·show Act.put _ (some 58) _ = _
  simp only [Act.put, sq1, sq2, sq3, i64_w, i32_w]
  rfl
 refine one_ (i := 12) (N := some 59) #[true, true, true, true, true, true, true, true, true, true, true, true, true] rfl rfl (by kernel_rfl) (by decide) (fun K hK => ?_)
 go_simp
 refine (nums_is He.out HBe.out HP.out _ 4 [m.f3, m.f4, m.f5, m.f6] (C_lit u [m.f3, m.f4, m.f5, m.f6] (by simp)) HO.out.t (by have := HS.out; have := HL1.out; simp only [List.length_cons, List.length_nil]; omega)).mono ?_
 rintro e v2 ⟨rfl, h1, h2, h3⟩
 obtain ⟨la2, hla⟩ : ∃ la, la1 ++ numsB [m.f3, m.f4, m.f5, m.f6] = la := ⟨_, rfl⟩
 have HL2 := Lib.hid (show la2.length ≤ l0.length + 63 by rw [← hla]; have h8 := HL1.out; have h9 : (numsB [m.f3, m.f4, m.f5, m.f6]).length ≤ 36 := numsB_le HO.out.t _ (by simp); simp only [List.length_append] at h9 ⊢; omega)
 have HQ2 := Lib.hid hla
 have H2 := Lib.hid (show IsPen v2 w0.heap.size p la2 by rw [← hla]; simpa only [List.append_assoc] using h1); have HB2 := Lib.hid h2; have HK2 := Lib.hid (HKe.out.trans h3); have HX2 := Lib.hid (HXe.out.keep h3 HNE.out)
 clear h1 h2 h3 hla
 obtain ⟨d0, d1, d2, d3, d4, d5, d6, d7, d8, d9, d10, d11, d12, d13, d14, d15, d16⟩ := HX2.out.cell
 refine hK.out _ _ ⟨d3, d4, d5, d6⟩ (fun hHeld => ?_)
 clear hK K
 clear d0 d1 d2 d3 d4 d5 d6 d7 d8 d9 d10 d11 d12 d13 d14 d15 d16
 refine done_ (by kernel_rfl) ?_
 obtain ⟨d0, d1, d2, d3, d4, d5, d6, d7, d8, d9, d10, d11, d12, d13, d14, d15, d16⟩ := HX2.out.cell
 go_upto_region 10 with fail
 clear d0 d1 d2 d3 d4 d5 d6 d7 d8 d9 d10 d11 d12 d13 d14 d15 d16
 have HD := Lib.hid (show Below v2.heap.size v2 v2.drew from (Below.refl _ _).drew)
 have Hd := Lib.hid (H2.out.below HD.out); have HBd := Lib.hid HB2.out.drew; have HKd := Lib.hid HK2.out.drew; have HXd := Lib.hid (show MsBox v2.drew b m A8 c8 A12 c12 A16 c16 from HX2.out)
 clear HD
 obtain ⟨d0, d1, d2, d3, d4, d5, d6, d7, d8, d9, d10, d11, d12, d13, d14, d15, d16⟩ := HXd.out.cell
 refine start_ (n := 7) (S := fun w' => w'.cell? ⟨b, 8, none⟩ = some (.slice A8 m.f8.length c8)) (ds := []) #[false, false, false, false, false, false, false] (by kernel_rfl) rfl rfl d8 (fun hHeld => ?_)
 obtain ⟨u, hu⟩ : ∃ u, v2.drew = u := ⟨_, rfl⟩
 rw [hu] at Hd HBd HKd HXd hHeld ⊢
 clear hu d0 d1 d2 d3 d4 d5 d6 d7 d8 d9 d10 d11 d12 d13 d14 d15 d16
 refine pure_ (i := 0) (N := some 60) (v := ?_) (a' := ?_) #[true, false, false, false, false, false, false] rfl rfl (by kernel_rfl) (fun _ _ _ h => h) (Or.inl ⟨by rfl, ?_⟩) ?_ ?_
 rotate_left
 ·intro w'
  go_simp
  try with_reducible rfl
 rotate_left
 ·simp only [Act.put, sq1, sq2, sq3, i64_w, i32_w]
  rfl
 refine pure_ (i := 1) (N := some 61) (v := ?_) (a' := ?_) #[true, true, false, false, false, false, false] rfl rfl (by kernel_rfl) (fun _ _ _ h => h) (Or.inl ⟨by rfl, ?_⟩) ?_ ?_
 rotate_left
 ·intro w'
  go_simp
  try with_reducible rfl
 rotate_left
 ·simp only [Act.put, sq1, sq2, sq3, i64_w, i32_w]
  rfl
 refine pure_ (i := 2) (N := some 62) (v := ?_) (a' := ?_) #[true, true, true, false, false, false, false] rfl rfl (by kernel_rfl) (fun _ _ _ h => h) (Or.inl ⟨by rfl, ?_⟩) ?_ ?_
 rotate_left
 ·intro w'
  go_simp
  try with_reducible rfl
 rotate_left
 ·simp only [Act.put, sq1, sq2, sq3, i64_w, i32_w]
  rfl
 refine pure_ (i := 3) (N := some 63) (v := ?_) (a' := ?_) #[true, true, true, true, false, false, false] rfl rfl (by kernel_rfl) (fun _ _ _ h => h) (Or.inl ⟨by rfl, ?_⟩) ?_ ?_
 rotate_left
 ·intro w'
  go_simp
  try with_reducible rfl
 rotate_left
 ·simp only [Act.put, sq1, sq2, sq3, i64_w, i32_w]
  rfl
 refine take_ (i := 4) (N := some 64) (v := ?_) (a' := ?_) #[true, true, true, true, true, false, false] rfl rfl (by kernel_rfl) (fun _ _ _ h => h) (Or.inl ⟨by rfl, ?_⟩) hHeld ?_ ?_
 rotate_left
 ·intro w' hS
  have x0 := hS
  go_simp
  try with_reducible rfl
 rotate_left
 ·simp only [Act.put, sq1, sq2, sq3, i64_w, i32_w]
  rfl
 refine pure_ (i := 5) (N := some 65) (v := ?_) (a' := ?_) #[true, true, true, true, true, true, false] rfl rfl (by kernel_rfl) (fun _ _ _ h => h) (Or.inl ⟨by rfl, ?_⟩) ?_ ?_
 rotate_left
 ·intro w'
  go_simp
  try with_reducible rfl
 rotate_left
 ·simp only [Act.put, sq1, sq2, sq3, i64_w, i32_w]
  rfl
 refine one_ (i := 6) (N := some 66) #[true, true, true, true, true, true, true] rfl rfl (by kernel_rfl) (by decide) (fun K hK => ?_)
 go_simp
 refine (many_is Hd.out HBd.out HP.out m.f8.length HI8.out (by have := HS.out; have := HL2.out; omega)).mono ?_
 rintro e v3 ⟨rfl, h1, h2, h3⟩
 obtain ⟨la3, hla⟩ : ∃ la, la2 ++ numB m.f8.length = la := ⟨_, rfl⟩
 have HL3 := Lib.hid (show la3.length ≤ l0.length + 72 by rw [← hla]; have h8 := HL2.out; have h9 : (numB m.f8.length).length ≤ 9 := (numB_len HI8.out).2; simp only [List.length_append] at h9 ⊢; omega)
 have HQ3 := Lib.hid hla
 have H3 := Lib.hid (show IsPen v3 w0.heap.size p la3 by rw [← hla]; simpa only [List.append_assoc] using h1); have HB3 := Lib.hid h2; have HK3 := Lib.hid (HKd.out.trans h3); have HX3 := Lib.hid (HXd.out.keep h3 HNE.out)
 clear h1 h2 h3 hla
 obtain ⟨d0, d1, d2, d3, d4, d5, d6, d7, d8, d9, d10, d11, d12, d13, d14, d15, d16⟩ := HX3.out.cell
 refine hK.out _ _ d8 (fun hHeld => ?_)
 clear hK K
 clear d0 d1 d2 d3 d4 d5 d6 d7 d8 d9 d10 d11 d12 d13 d14 d15 d16
 refine done_ (by kernel_rfl) ?_
 obtain ⟨d0, d1, d2, d3, d4, d5, d6, d7, d8, d9, d10, d11, d12, d13, d14, d15, d16⟩ := HX3.out.cell
 go_wp2_with fail
 go_loopw [70] (fun i wr => TrL w0 w p la3 m.f8 i wr) (fun i _ => m.f8.length - (intOf i).toNat)
 case atStart => exact ⟨0, rfl, Nat.zero_le _, by simpa using H3.out, HB3.out, HK3.out⟩
 case round =>
  clear d0 d1 d2 d3 d4 d5 d6 d7 d8 d9 d10 d11 d12 d13 d14 d15 d16
  obtain ⟨j, rfl, hj, hI, hB, hK⟩ := hrel
  have HI := Lib.hid hI; have HB := Lib.hid hB; have HKj := Lib.hid hK
  clear hI hB hK
  by_cases hlt : j < m.f8.length
  ·obtain ⟨x, hx⟩ : ∃ x, m.f8[j]? = some x := ⟨_, List.getElem?_eq_getElem hlt⟩
   obtain ⟨ad, A4, c4, rfl, z0, z1, z2, z3, z4, hl, hX⟩ := tr_get HM.out.g8 hx
   have x0 := (HB.out.cell (World.block_lt_of_cell? _ _ z0)).trans z0
   have x1 := (HB.out.cell (World.block_lt_of_cell? _ _ z1)).trans z1
   have x2 := (HB.out.cell (World.block_lt_of_cell? _ _ z2)).trans z2
   have x3 := (HB.out.cell (World.block_lt_of_cell? _ _ z3)).trans z3
   have x4 := (HB.out.cell (World.block_lt_of_cell? _ _ z4)).trans z4
   clear z0 z1 z2 z3 z4
   have HXC := Lib.hid (show Kd.C G.k26 w0 A4 x.f1.f3.length x.f1.f3 from hX)
   have HX := Lib.hid (show m.f8.take (j + 1) = m.f8.take j ++ [x] by rw [List.take_add_one, hx]; rfl)
   have HOX := Lib.hid (HO.out.l x (List.mem_of_getElem? hx))
   have HMX := Lib.hid (mayTr_e (List.all_eq_true.1 HML.out x (List.mem_of_getElem? hx)))
   have HLJ := Lib.hid (show (la3 ++ (m.f8.take j).flatMap trB).length + 60000 < 140737488355328 by
    have h1 := flat_len trB 25009 (m.f8.take j) (fun y hy => trB_len (HO.out.l y (List.mem_of_mem_take hy)) (mayTr_e (List.all_eq_true.1 HML.out y (List.mem_of_mem_take hy))))
    have h2 := HL8.out; have h3 := HL3.out; have h4 := HS.out
    rw [List.length_take] at h1
    rw [List.length_append]
    omega)
   obtain ⟨lj, hlj⟩ : ∃ lj, la3 ++ (m.f8.take j).flatMap trB = lj := ⟨_, rfl⟩
   rw [hlj] at HI HLJ
   have HQJ := Lib.hid hlj
   have HI5 := Lib.hid (HI.out.below ((Below.refl _ wr).alloc (Nat.le_refl _) (.cells #[.int .i64 x.f0, .int .i64 x.f1.f0, .int .i64 x.f1.f1, .int .i64 x.f1.f2, .slice A4 x.f1.f3.length c4] 63))); have HB5 := Lib.hid (HB.out.alloc HB.out.size (.cells #[.int .i64 x.f0, .int .i64 x.f1.f0, .int .i64 x.f1.f1, .int .i64 x.f1.f2, .slice A4 x.f1.f3.length c4] 63)); have HK5 := Lib.hid (HKj.out.alloc (.cells #[.int .i64 x.f0, .int .i64 x.f1.f0, .int .i64 x.f1.f1, .int .i64 x.f1.f2, .slice A4 x.f1.f3.length c4] 63))
   have HY5 := Lib.hid (show (wr.alloc (.cells #[.int .i64 x.f0, .int .i64 x.f1.f0, .int .i64 x.f1.f1, .int .i64 x.f1.f2, .slice A4 x.f1.f3.length c4] 63)).heap[wr.heap.size]? = some (.cells #[.int .i64 x.f0, .int .i64 x.f1.f0, .int .i64 x.f1.f1, .int .i64 x.f1.f2, .slice A4 x.f1.f3.length c4] 63) from heap_alloc_new wr _)
   have HN5 := Lib.hid (show wr.heap.size ≠ p by have := HI.out.lt; omega)
   clear hx hl hX hlj
   go_upto_region 14 with fail
   clear x0 x1 x2 x3 x4
   obtain ⟨v, hv⟩ : ∃ v, wr.alloc (.cells #[.int .i64 x.f0, .int .i64 x.f1.f0, .int .i64 x.f1.f1, .int .i64 x.f1.f2, .slice A4 x.f1.f3.length c4] 63) = v := ⟨_, rfl⟩
   obtain ⟨g, hg⟩ : ∃ g, wr.heap.size = g := ⟨_, rfl⟩
   rw [hv] at HI5 HB5 HK5 HY5 ⊢
   rw [hg] at HY5 HN5 ⊢
   clear hv hg
   have HD := Lib.hid (show Below v.heap.size v v.drew from (Below.refl _ _).drew)
   have Hd := Lib.hid (HI5.out.below HD.out); have HBd := Lib.hid HB5.out.drew; have HKd := Lib.hid HK5.out.drew; have HYd := Lib.hid (show v.drew.heap[g]? = some (.cells #[.int .i64 x.f0, .int .i64 x.f1.f0, .int .i64 x.f1.f1, .int .i64 x.f1.f2, .slice A4 x.f1.f3.length c4] 63) from HY5.out)
   have y0 : v.drew.cell? ⟨g, 0, none⟩ = some (.int .i64 x.f0) := by simp [World.cell?, HYd.out]
   refine start_ (n := 7) (S := fun w' => w'.cell? ⟨g, 0, none⟩ = some (.int .i64 x.f0)) (ds := []) #[false, false, false, false, false, false, false] (by kernel_rfl) rfl rfl y0 (fun hHeld => ?_)
   obtain ⟨u, hu⟩ : ∃ u, v.drew = u := ⟨_, rfl⟩
   rw [hu] at Hd HBd HKd HYd hHeld ⊢
   clear hu y0 HD
   refine pure_ (i := 0) (N := some 74) (v := ?_) (a' := ?_) #[true, false, false, false, false, false, false] rfl rfl (by kernel_rfl) (fun _ _ _ h => h) (Or.inl ⟨by rfl, ?_⟩) ?_ ?_
   rotate_left
   ·intro w'
    go_simp
    try with_reducible rfl
   rotate_left
   ·simp only [Act.put, sq1, sq2, sq3, i64_w, i32_w]
    rfl
   refine pure_ (i := 1) (N := some 75) (v := ?_) (a' := ?_) #[true, true, false, false, false, false, false] rfl rfl (by kernel_rfl) (fun _ _ _ h => h) (Or.inl ⟨by rfl, ?_⟩) ?_ ?_
   rotate_left
   ·intro w'
    go_simp
    try with_reducible rfl
   rotate_left
   ·simp only [Act.put, sq1, sq2, sq3, i64_w, i32_w]
    rfl
   refine pure_ (i := 2) (N := some 76) (v := ?_) (a' := ?_) #[true, true, true, false, false, false, false] rfl rfl (by kernel_rfl) (fun _ _ _ h => h) (Or.inl ⟨by rfl, ?_⟩) ?_ ?_
   rotate_left
   ·intro w'
    go_simp
    try with_reducible rfl
   rotate_left
   ·simp only [Act.put, sq1, sq2, sq3, i64_w, i32_w]
    rfl
   refine pure_ (i := 3) (N := some 77) (v := ?_) (a' := ?_) #[true, true, true, true, false, false, false] rfl rfl (by kernel_rfl) (fun _ _ _ h => h) (Or.inl ⟨by rfl, ?_⟩) ?_ ?_
   rotate_left
   ·intro w'
    go_simp
    try with_reducible rfl
   rotate_left
   ·simp only [Act.put, sq1, sq2, sq3, i64_w, i32_w]
    rfl
   refine take_ (i := 4) (N := some 78) (v := ?_) (a' := ?_) #[true, true, true, true, true, false, false] rfl rfl (by kernel_rfl) (fun _ _ _ h => h) (Or.inl ⟨by rfl, ?_⟩) hHeld ?_ ?_
   rotate_left
   ·intro w' hS
    go_simp
    try with_reducible rfl
   rotate_left
   ·simp only [Act.put, sq1, sq2, sq3, i64_w, i32_w]
    rfl
   refine one_ (i := 5) (N := some 79) #[true, true, true, true, true, true, false] rfl rfl (by kernel_rfl) (by decide) (fun K hK => ?_)
   refine value_ (w1 := ?_) (v := ?_) (by rfl) rfl ?_ ?_
   rotate_left 2
   ·go_simp
    constructor <;> rfl
   have hba := (Below.refl _ u).alloc (Nat.le_refl _) (.cells #[.int .i64 x.f0] 2)
   have HYe := Lib.hid (show (u.alloc (.cells #[.int .i64 x.f0] 2)).heap[g]? = some (.cells #[.int .i64 x.f0, .int .i64 x.f1.f0, .int .i64 x.f1.f1, .int .i64 x.f1.f2, .slice A4 x.f1.f3.length c4] 63) from (hba.block g (Array.getElem?_eq_some_iff.1 HYd.out).1).trans HYd.out); have He := Lib.hid (Hd.out.below hba); have HBe := Lib.hid (HBd.out.alloc HBd.out.size (.cells #[.int .i64 x.f0] 2)); have HKe := Lib.hid (HKd.out.alloc (.cells #[.int .i64 x.f0] 2))
   clear hba
   refine hK.out _ _ (by simp [World.cell?, HYe.out]) (fun hHeld => ?_)
   clear hK K
   refine norm_ (a' := ?_) ?_ ?_
   rotate_left
   ·show Act.put _ (some 79) _ = _
    simp only [Act.put, sq1, sq2, sq3, i64_w, i32_w]
    rfl
   refine one_ (i := 6) (N := some 80) #[true, true, true, true, true, true, true] rfl rfl (by kernel_rfl) (by decide) (fun K hK => ?_)
   go_simp
   refine (nums_is He.out HBe.out HP.out _ 1 [x.f0] (C_lit u [x.f0] (by simp)) (by simp [okI, HOX.out.1]) (by have := HLJ.out; simp only [List.length_cons, List.length_nil]; omega)).mono ?_
   rintro e v1 ⟨rfl, h1, h2, h3⟩
   have HI6 := Lib.hid (show IsPen v1 w0.heap.size p (lj ++ numB x.f0) by rw [numsB_one] at h1; exact h1); have HB6 := Lib.hid h2; have HK6 := Lib.hid (HKe.out.trans h3)
   have HY6 := Lib.hid (show v1.heap[g]? = some (.cells #[.int .i64 x.f0, .int .i64 x.f1.f0, .int .i64 x.f1.f1, .int .i64 x.f1.f2, .slice A4 x.f1.f3.length c4] 63) from (h3.block g (Array.getElem?_eq_some_iff.1 HYe.out).1 HN5.out).trans HYe.out)
   clear h1 h2 h3
   refine hK.out _ _ (by simp [World.cell?, HY6.out]) (fun hHeld => ?_)
   clear hK K
   refine done_ (by kernel_rfl) ?_
   have HLL6 := Lib.hid (show (lj ++ numB x.f0).length + 30000 < 140737488355328 by have h1 := HLJ.out; have h2 := (numB_len HOX.out.1).2; rw [List.length_append]; omega)
   have y0 : v1.cell? ⟨g, 0, none⟩ = some (.int .i64 x.f0) := by simp [World.cell?, HY6.out]
   have y1 : v1.cell? ⟨g, 1, none⟩ = some (.int .i64 x.f1.f0) := by simp [World.cell?, HY6.out]
   have y2 : v1.cell? ⟨g, 2, none⟩ = some (.int .i64 x.f1.f1) := by simp [World.cell?, HY6.out]
   have y3 : v1.cell? ⟨g, 3, none⟩ = some (.int .i64 x.f1.f2) := by simp [World.cell?, HY6.out]
   have y4 : v1.cell? ⟨g, 4, none⟩ = some (.slice A4 x.f1.f3.length c4) := by simp [World.cell?, HY6.out]
   go_wp2_with fail
   refine (penEntry_is HI6.out HB6.out HP.out x.f1.f0 x.f1.f1 x.f1.f2 A4 c4 x.f1.f3 HXC.out HOX.out.2 HMX.out HLL6.out).mono ?_
   rintro e v2 ⟨rfl, h1, h2, h3⟩
   have HI7 := Lib.hid h1; have HB7 := Lib.hid h2; have HK7 := Lib.hid (HK6.out.trans h3)
   clear h1 h2 h3 y0 y1 y2 y3 y4
   go_wp2_with fail
   go_roundw
   case rel =>
    refine ⟨j + 1, by go_num, hlt, ?_, HB7.out, HK7.out⟩
    have h1 := HI7.out
    rw [HX.out, List.flatMap_append, List.flatMap_cons, List.flatMap_nil, List.append_nil, ← List.append_assoc, HQJ.out]
    unfold trB
    rw [← List.append_assoc]
    exact h1
   case measure => simp [intOf]; omega
  ·have hjn : j = m.f8.length := by omega
   have HF := Lib.hid (show IsPen wr w0.heap.size p (l0 ++ msgB m) by
    have h1 := HI.out
    rw [hjn, List.take_length, ← HQ3.out, ← HQ2.out, ← HQ1.out, ← HQ0.out] at h1
    rw [HTB.out]
    simpa only [List.append_assoc, numsB_one] using h1)
   clear hjn
   go_wp2_with fail
   go_end0
   exact ⟨rfl, HF.out, HB.out, HKj.out⟩
set_option maxHeartbeats 4000000 in
theorem penMsg4 {w0 w : World} {p : Nat} {l0 : List Int} (hI : IsPen w w0.heap.size p l0) (hB : Below w0.heap.size w0 w) (hp : w0.heap.size ≤ p) (m : MsgD) {A8 A12 A16 : Option Addr} {c8 c12 c16 : Nat} (hm : MsgC w0 m A8 c8 A12 c12 A16 c16) (ho : OkM m) (hk : m.f0 = 4) (hs : l0.length + 200000000 < 140737488355328) :
  Calls Tryz.prog 50 #[.pointer (some ⟨p, 0, none⟩), .agg #[.int .i64 m.f0, .int .i64 m.f1, .int .i64 m.f2, .int .i64 m.f3, .int .i64 m.f4, .int .i64 m.f5, .int .i64 m.f6, .bool m.f7, .slice A8 m.f8.length c8, .int .i64 m.f9.f0, .int .i64 m.f9.f1, .int .i64 m.f9.f2, .slice A12 m.f9.f3.length c12, .int .i64 m.f10.f0, .int .i64 m.f10.f1, .int .i64 m.f10.f2, .slice A16 m.f10.f3.length c16]] w fun e w' => PenP w0 w p (l0 ++ msgB m) e w' := by
 have HO := Lib.hid ho; have HM := Lib.hid hm; have HP := Lib.hid hp; have HS := Lib.hid hs; have HL0 := Lib.hid (show l0.length ≤ l0.length + 0 from Nat.le_refl _)
 have HNE := Lib.hid (show w.heap.size ≠ p by have := hI.lt; omega)
 have H0 := Lib.hid (hI.below ((Below.refl _ w).alloc (Nat.le_refl _) (.cells #[.int .i64 m.f0, .int .i64 m.f1, .int .i64 m.f2, .int .i64 m.f3, .int .i64 m.f4, .int .i64 m.f5, .int .i64 m.f6, .bool m.f7, .slice A8 m.f8.length c8, .int .i64 m.f9.f0, .int .i64 m.f9.f1, .int .i64 m.f9.f2, .slice A12 m.f9.f3.length c12, .int .i64 m.f10.f0, .int .i64 m.f10.f1, .int .i64 m.f10.f2, .slice A16 m.f10.f3.length c16] 34))); have HB0 := Lib.hid (hB.alloc hB.size (.cells #[.int .i64 m.f0, .int .i64 m.f1, .int .i64 m.f2, .int .i64 m.f3, .int .i64 m.f4, .int .i64 m.f5, .int .i64 m.f6, .bool m.f7, .slice A8 m.f8.length c8, .int .i64 m.f9.f0, .int .i64 m.f9.f1, .int .i64 m.f9.f2, .slice A12 m.f9.f3.length c12, .int .i64 m.f10.f0, .int .i64 m.f10.f1, .int .i64 m.f10.f2, .slice A16 m.f10.f3.length c16] 34)); have HK0 := Lib.hid ((KeepS.refl (fun i => i = p) w).alloc (.cells #[.int .i64 m.f0, .int .i64 m.f1, .int .i64 m.f2, .int .i64 m.f3, .int .i64 m.f4, .int .i64 m.f5, .int .i64 m.f6, .bool m.f7, .slice A8 m.f8.length c8, .int .i64 m.f9.f0, .int .i64 m.f9.f1, .int .i64 m.f9.f2, .slice A12 m.f9.f3.length c12, .int .i64 m.f10.f0, .int .i64 m.f10.f1, .int .i64 m.f10.f2, .slice A16 m.f10.f3.length c16] 34))
 have HX0 := Lib.hid (show MsBox (w.alloc (.cells #[.int .i64 m.f0, .int .i64 m.f1, .int .i64 m.f2, .int .i64 m.f3, .int .i64 m.f4, .int .i64 m.f5, .int .i64 m.f6, .bool m.f7, .slice A8 m.f8.length c8, .int .i64 m.f9.f0, .int .i64 m.f9.f1, .int .i64 m.f9.f2, .slice A12 m.f9.f3.length c12, .int .i64 m.f10.f0, .int .i64 m.f10.f1, .int .i64 m.f10.f2, .slice A16 m.f10.f3.length c16] 34)) w.heap.size m A8 c8 A12 c12 A16 c16 from heap_alloc_new w _)
 have HT1 := Lib.hid (show okI [m.f3] = true by have := ho.t; simp only [okI_cons] at this ⊢; exact ⟨this.1, rfl⟩)
 have HT4 := Lib.hid (show okI [m.f4] = true by have := ho.t; simp only [okI_cons] at this ⊢; exact ⟨this.2.1, rfl⟩)
 have q1 : (m.f0 == 1) = false := by rw [hk]; rfl
 have q2 : (m.f0 == 2) = false := by rw [hk]; rfl
 have q3 : (m.f0 == 3) = false := by rw [hk]; rfl
 have q4 : (m.f0 == 4) = true := by rw [hk]; rfl
 have HTB := Lib.hid (show msgB m = numsB [m.f0, m.f1, m.f2] ++ (numB m.f3 ++ yesB m.f7 ++ numB m.f4) by unfold msgB tailB; simp only [hk]; rfl)
 clear hI hB hp hs ho hm hk
 go_enter Tryz.func50, Tryz.ntmps50
 go_upto_region 1 with fail
 obtain ⟨v0, hv⟩ : ∃ v, w.alloc (.cells #[.int .i64 m.f0, .int .i64 m.f1, .int .i64 m.f2, .int .i64 m.f3, .int .i64 m.f4, .int .i64 m.f5, .int .i64 m.f6, .bool m.f7, .slice A8 m.f8.length c8, .int .i64 m.f9.f0, .int .i64 m.f9.f1, .int .i64 m.f9.f2, .slice A12 m.f9.f3.length c12, .int .i64 m.f10.f0, .int .i64 m.f10.f1, .int .i64 m.f10.f2, .slice A16 m.f10.f3.length c16] 34) = v := ⟨_, rfl⟩
 obtain ⟨b, hb⟩ : ∃ b, w.heap.size = b := ⟨_, rfl⟩
 rw [hv] at H0 HB0 HK0 HX0 ⊢
 rw [hb] at HNE HX0 ⊢
 clear hv hb
 obtain ⟨la0, hl0⟩ : ∃ la, l0 = la := ⟨_, rfl⟩
 have HQ0 := Lib.hid hl0
 have HLZ := Lib.hid (show la0.length ≤ l0.length + 0 by rw [← hl0]; exact Nat.le_refl _)
 rw [hl0] at H0
 clear hl0 HL0
 have HL0 := HLZ
 have HD := Lib.hid (show Below v0.heap.size v0 v0.drew from (Below.refl _ _).drew)
 have Hd := Lib.hid (H0.out.below HD.out); have HBd := Lib.hid HB0.out.drew; have HKd := Lib.hid HK0.out.drew; have HXd := Lib.hid (show MsBox v0.drew b m A8 c8 A12 c12 A16 c16 from HX0.out)
 clear HD
 obtain ⟨d0, d1, d2, d3, d4, d5, d6, d7, d8, d9, d10, d11, d12, d13, d14, d15, d16⟩ := HXd.out.cell
 refine start_ (n := 11) (S := fun w' => w'.cell? ⟨b, 0, none⟩ = some (.int .i64 m.f0) ∧ w'.cell? ⟨b, 1, none⟩ = some (.int .i64 m.f1) ∧ w'.cell? ⟨b, 2, none⟩ = some (.int .i64 m.f2)) (ds := []) #[false, false, false, false, false, false, false, false, false, false, false] (by kernel_rfl) rfl rfl ⟨d0, d1, d2⟩ (fun hHeld => ?_)
 obtain ⟨u, hu⟩ : ∃ u, v0.drew = u := ⟨_, rfl⟩
 rw [hu] at Hd HBd HKd HXd hHeld ⊢
 clear hu d0 d1 d2 d3 d4 d5 d6 d7 d8 d9 d10 d11 d12 d13 d14 d15 d16
 refine pure_ (i := 0) (N := some 6) (v := ?_) (a' := ?_) #[true, false, false, false, false, false, false, false, false, false, false] rfl rfl (by kernel_rfl) (fun _ _ _ h => h) (Or.inl ⟨by rfl, ?_⟩) ?_ ?_
 rotate_left
 ·intro w'
  go_simp
  try with_reducible rfl
 rotate_left
 ·simp only [Act.put, sq1, sq2, sq3, i64_w, i32_w]
  rfl
 refine pure_ (i := 1) (N := some 7) (v := ?_) (a' := ?_) #[true, true, false, false, false, false, false, false, false, false, false] rfl rfl (by kernel_rfl) (fun _ _ _ h => h) (Or.inl ⟨by rfl, ?_⟩) ?_ ?_
 rotate_left
 ·intro w'
  go_simp
  try with_reducible rfl
 rotate_left
 ·simp only [Act.put, sq1, sq2, sq3, i64_w, i32_w]
  rfl
 refine pure_ (i := 2) (N := some 8) (v := ?_) (a' := ?_) #[true, true, true, false, false, false, false, false, false, false, false] rfl rfl (by kernel_rfl) (fun _ _ _ h => h) (Or.inl ⟨by rfl, ?_⟩) ?_ ?_
 rotate_left
 ·intro w'
  go_simp
  try with_reducible rfl
 rotate_left
 ·simp only [Act.put, sq1, sq2, sq3, i64_w, i32_w]
  rfl
 refine pure_ (i := 3) (N := some 9) (v := ?_) (a' := ?_) #[true, true, true, true, false, false, false, false, false, false, false] rfl rfl (by kernel_rfl) (fun _ _ _ h => h) (Or.inl ⟨by rfl, ?_⟩) ?_ ?_
 rotate_left
 ·intro w'
  go_simp
  try with_reducible rfl
 rotate_left
 ·simp only [Act.put, sq1, sq2, sq3, i64_w, i32_w]
  rfl
 refine take_ (i := 4) (N := some 10) (v := ?_) (a' := ?_) #[true, true, true, true, true, false, false, false, false, false, false] rfl rfl (by kernel_rfl) (fun _ _ _ h => h) (Or.inl ⟨by rfl, ?_⟩) hHeld ?_ ?_
 rotate_left
 ·intro w' hS
  obtain ⟨x0, x1, x2⟩ := hS
  go_simp
  try with_reducible rfl
 rotate_left
 ·simp only [Act.put, sq1, sq2, sq3, i64_w, i32_w]
  rfl
 refine pure_ (i := 5) (N := some 11) (v := ?_) (a' := ?_) #[true, true, true, true, true, true, false, false, false, false, false] rfl rfl (by kernel_rfl) (fun _ _ _ h => h) (Or.inl ⟨by rfl, ?_⟩) ?_ ?_
 rotate_left
 ·intro w'
  go_simp
  try with_reducible rfl
 rotate_left
 ·simp only [Act.put, sq1, sq2, sq3, i64_w, i32_w]
  rfl
 refine take_ (i := 6) (N := some 12) (v := ?_) (a' := ?_) #[true, true, true, true, true, true, true, false, false, false, false] rfl rfl (by kernel_rfl) (fun _ _ _ h => h) (Or.inl ⟨by rfl, ?_⟩) hHeld ?_ ?_
 rotate_left
 ·intro w' hS
  obtain ⟨x0, x1, x2⟩ := hS
  go_simp
  try with_reducible rfl
 rotate_left
 ·simp only [Act.put, sq1, sq2, sq3, i64_w, i32_w]
  rfl
 refine pure_ (i := 7) (N := some 13) (v := ?_) (a' := ?_) #[true, true, true, true, true, true, true, true, false, false, false] rfl rfl (by kernel_rfl) (fun _ _ _ h => h) (Or.inl ⟨by rfl, ?_⟩) ?_ ?_
 rotate_left
 ·intro w'
  go_simp
  try with_reducible rfl
 rotate_left
 ·simp only [Act.put, sq1, sq2, sq3, i64_w, i32_w]
  rfl
 refine take_ (i := 8) (N := some 14) (v := ?_) (a' := ?_) #[true, true, true, true, true, true, true, true, true, false, false] rfl rfl (by kernel_rfl) (fun _ _ _ h => h) (Or.inl ⟨by rfl, ?_⟩) hHeld ?_ ?_
 rotate_left
 ·intro w' hS
  obtain ⟨x0, x1, x2⟩ := hS
  go_simp
  try with_reducible rfl
 rotate_left
 ·simp only [Act.put, sq1, sq2, sq3, i64_w, i32_w]
  rfl
 refine one_ (i := 9) (N := some 15) #[true, true, true, true, true, true, true, true, true, true, false] rfl rfl (by kernel_rfl) (by decide) (fun K hK => ?_)
 refine value_ (w1 := ?_) (v := ?_) (by rfl) rfl ?_ ?_
 rotate_left 2
 ·go_simp
  constructor <;> rfl
 have hba := (Below.refl _ u).alloc (Nat.le_refl _) (.cells #[.int .i64 m.f0, .int .i64 m.f1, .int .i64 m.f2] 2)
 have HXe := Lib.hid (show MsBox (u.alloc (.cells #[.int .i64 m.f0, .int .i64 m.f1, .int .i64 m.f2] 2)) b m A8 c8 A12 c12 A16 c16 from HXd.out.below hba); have He := Lib.hid (Hd.out.below hba); have HBe := Lib.hid (HBd.out.alloc HBd.out.size (.cells #[.int .i64 m.f0, .int .i64 m.f1, .int .i64 m.f2] 2)); have HKe := Lib.hid (HKd.out.alloc (.cells #[.int .i64 m.f0, .int .i64 m.f1, .int .i64 m.f2] 2))
 clear hba
 obtain ⟨d0, d1, d2, d3, d4, d5, d6, d7, d8, d9, d10, d11, d12, d13, d14, d15, d16⟩ := HXe.out.cell
 refine hK.out _ _ ⟨d0, d1, d2⟩ (fun hHeld => ?_)
 clear hK K
 clear d0 d1 d2 d3 d4 d5 d6 d7 d8 d9 d10 d11 d12 d13 d14 d15 d16
 refine norm_ (a' := ?_) ?_ ?_
 rotate_left
 ·show Act.put _ (some 15) _ = _
  simp only [Act.put, sq1, sq2, sq3, i64_w, i32_w]
  rfl
 refine one_ (i := 10) (N := some 16) #[true, true, true, true, true, true, true, true, true, true, true] rfl rfl (by kernel_rfl) (by decide) (fun K hK => ?_)
 go_simp
 refine (nums_is He.out HBe.out HP.out _ 3 [m.f0, m.f1, m.f2] (C_lit u [m.f0, m.f1, m.f2] (by simp)) HO.out.h (by have := HS.out; have := HL0.out; simp only [List.length_cons, List.length_nil]; omega)).mono ?_
 rintro e v1 ⟨rfl, h1, h2, h3⟩
 obtain ⟨la1, hla⟩ : ∃ la, la0 ++ numsB [m.f0, m.f1, m.f2] = la := ⟨_, rfl⟩
 have HL1 := Lib.hid (show la1.length ≤ l0.length + 27 by rw [← hla]; have h8 := HL0.out; have h9 : (numsB [m.f0, m.f1, m.f2]).length ≤ 27 := numsB_le HO.out.h _ (by simp); simp only [List.length_append] at h9 ⊢; omega)
 have HQ1 := Lib.hid hla
 have H1 := Lib.hid (show IsPen v1 w0.heap.size p la1 by rw [← hla]; simpa only [List.append_assoc] using h1); have HB1 := Lib.hid h2; have HK1 := Lib.hid (HKe.out.trans h3); have HX1 := Lib.hid (HXe.out.keep h3 HNE.out)
 clear h1 h2 h3 hla
 obtain ⟨d0, d1, d2, d3, d4, d5, d6, d7, d8, d9, d10, d11, d12, d13, d14, d15, d16⟩ := HX1.out.cell
 refine hK.out _ _ ⟨d0, d1, d2⟩ (fun hHeld => ?_)
 clear hK K
 clear d0 d1 d2 d3 d4 d5 d6 d7 d8 d9 d10 d11 d12 d13 d14 d15 d16
 refine done_ (by kernel_rfl) ?_
 obtain ⟨d0, d1, d2, d3, d4, d5, d6, d7, d8, d9, d10, d11, d12, d13, d14, d15, d16⟩ := HX1.out.cell
 go_upto_region 18 with fail
 clear d0 d1 d2 d3 d4 d5 d6 d7 d8 d9 d10 d11 d12 d13 d14 d15 d16
 have HD := Lib.hid (show Below v1.heap.size v1 v1.drew from (Below.refl _ _).drew)
 have Hd := Lib.hid (H1.out.below HD.out); have HBd := Lib.hid HB1.out.drew; have HKd := Lib.hid HK1.out.drew; have HXd := Lib.hid (show MsBox v1.drew b m A8 c8 A12 c12 A16 c16 from HX1.out)
 clear HD
 obtain ⟨d0, d1, d2, d3, d4, d5, d6, d7, d8, d9, d10, d11, d12, d13, d14, d15, d16⟩ := HXd.out.cell
 refine start_ (n := 7) (S := fun w' => w'.cell? ⟨b, 3, none⟩ = some (.int .i64 m.f3)) (ds := []) #[false, false, false, false, false, false, false] (by kernel_rfl) rfl rfl d3 (fun hHeld => ?_)
 obtain ⟨u, hu⟩ : ∃ u, v1.drew = u := ⟨_, rfl⟩
 rw [hu] at Hd HBd HKd HXd hHeld ⊢
 clear hu d0 d1 d2 d3 d4 d5 d6 d7 d8 d9 d10 d11 d12 d13 d14 d15 d16
 refine pure_ (i := 0) (N := some 88) (v := ?_) (a' := ?_) #[true, false, false, false, false, false, false] rfl rfl (by kernel_rfl) (fun _ _ _ h => h) (Or.inl ⟨by rfl, ?_⟩) ?_ ?_
 rotate_left
 ·intro w'
  go_simp
  try with_reducible rfl
 rotate_left
 ·simp only [Act.put, sq1, sq2, sq3, i64_w, i32_w]
  rfl
 refine pure_ (i := 1) (N := some 89) (v := ?_) (a' := ?_) #[true, true, false, false, false, false, false] rfl rfl (by kernel_rfl) (fun _ _ _ h => h) (Or.inl ⟨by rfl, ?_⟩) ?_ ?_
 rotate_left
 ·intro w'
  go_simp
  try with_reducible rfl
 rotate_left
 ·simp only [Act.put, sq1, sq2, sq3, i64_w, i32_w]
  rfl
 refine pure_ (i := 2) (N := some 90) (v := ?_) (a' := ?_) #[true, true, true, false, false, false, false] rfl rfl (by kernel_rfl) (fun _ _ _ h => h) (Or.inl ⟨by rfl, ?_⟩) ?_ ?_
 rotate_left
 ·intro w'
  go_simp
  try with_reducible rfl
 rotate_left
 ·simp only [Act.put, sq1, sq2, sq3, i64_w, i32_w]
  rfl
 refine pure_ (i := 3) (N := some 91) (v := ?_) (a' := ?_) #[true, true, true, true, false, false, false] rfl rfl (by kernel_rfl) (fun _ _ _ h => h) (Or.inl ⟨by rfl, ?_⟩) ?_ ?_
 rotate_left
 ·intro w'
  go_simp
  try with_reducible rfl
 rotate_left
 ·simp only [Act.put, sq1, sq2, sq3, i64_w, i32_w]
  rfl
 refine take_ (i := 4) (N := some 92) (v := ?_) (a' := ?_) #[true, true, true, true, true, false, false] rfl rfl (by kernel_rfl) (fun _ _ _ h => h) (Or.inl ⟨by rfl, ?_⟩) hHeld ?_ ?_
 rotate_left
 ·intro w' hS
  have x0 := hS
  go_simp
  try with_reducible rfl
 rotate_left
 ·simp only [Act.put, sq1, sq2, sq3, i64_w, i32_w]
  rfl
 refine one_ (i := 5) (N := some 93) #[true, true, true, true, true, true, false] rfl rfl (by kernel_rfl) (by decide) (fun K hK => ?_)
 refine value_ (w1 := ?_) (v := ?_) (by rfl) rfl ?_ ?_
 rotate_left 2
 ·go_simp
  constructor <;> rfl
 have hba := (Below.refl _ u).alloc (Nat.le_refl _) (.cells #[.int .i64 m.f3] 2)
 have HXe := Lib.hid (show MsBox (u.alloc (.cells #[.int .i64 m.f3] 2)) b m A8 c8 A12 c12 A16 c16 from HXd.out.below hba); have He := Lib.hid (Hd.out.below hba); have HBe := Lib.hid (HBd.out.alloc HBd.out.size (.cells #[.int .i64 m.f3] 2)); have HKe := Lib.hid (HKd.out.alloc (.cells #[.int .i64 m.f3] 2))
 clear hba
 obtain ⟨d0, d1, d2, d3, d4, d5, d6, d7, d8, d9, d10, d11, d12, d13, d14, d15, d16⟩ := HXe.out.cell
 refine hK.out _ _ d3 (fun hHeld => ?_)
 clear hK K
 clear d0 d1 d2 d3 d4 d5 d6 d7 d8 d9 d10 d11 d12 d13 d14 d15 d16
 refine norm_ (a' := ?_) ?_ ?_
 rotate_left
 ·show Act.put _ (some 93) _ = _
  simp only [Act.put, sq1, sq2, sq3, i64_w, i32_w]
  rfl
 refine one_ (i := 6) (N := some 94) #[true, true, true, true, true, true, true] rfl rfl (by kernel_rfl) (by decide) (fun K hK => ?_)
 go_simp
 refine (nums_is He.out HBe.out HP.out _ 1 [m.f3] (C_lit u [m.f3] (by simp)) HT1.out (by have := HS.out; have := HL1.out; simp only [List.length_cons, List.length_nil]; omega)).mono ?_
 rintro e v2 ⟨rfl, h1, h2, h3⟩
 obtain ⟨la2, hla⟩ : ∃ la, la1 ++ numsB [m.f3] = la := ⟨_, rfl⟩
 have HL2 := Lib.hid (show la2.length ≤ l0.length + 36 by rw [← hla]; have h8 := HL1.out; have h9 : (numsB [m.f3]).length ≤ 9 := numsB_le HT1.out _ (by simp); simp only [List.length_append] at h9 ⊢; omega)
 have HQ2 := Lib.hid hla
 have H2 := Lib.hid (show IsPen v2 w0.heap.size p la2 by rw [← hla]; simpa only [List.append_assoc] using h1); have HB2 := Lib.hid h2; have HK2 := Lib.hid (HKe.out.trans h3); have HX2 := Lib.hid (HXe.out.keep h3 HNE.out)
 clear h1 h2 h3 hla
 obtain ⟨d0, d1, d2, d3, d4, d5, d6, d7, d8, d9, d10, d11, d12, d13, d14, d15, d16⟩ := HX2.out.cell
 refine hK.out _ _ d3 (fun hHeld => ?_)
 clear hK K
 clear d0 d1 d2 d3 d4 d5 d6 d7 d8 d9 d10 d11 d12 d13 d14 d15 d16
 refine done_ (by kernel_rfl) ?_
 obtain ⟨d0, d1, d2, d3, d4, d5, d6, d7, d8, d9, d10, d11, d12, d13, d14, d15, d16⟩ := HX2.out.cell
 go_wp2_with fail
 refine (penYes_is H2.out HB2.out HP.out m.f7 (by have := HS.out; have := HL2.out; omega)).mono ?_
 rintro e v3 ⟨rfl, h1, h2, h3⟩
 obtain ⟨la3, hla⟩ : ∃ la, la2 ++ yesB m.f7 = la := ⟨_, rfl⟩
 have HL3 := Lib.hid (show la3.length ≤ l0.length + 45 by rw [← hla]; have h8 := HL2.out; have h9 : (yesB m.f7).length ≤ 9 := yesB_len _; simp only [List.length_append] at h9 ⊢; omega)
 have HQ3 := Lib.hid hla
 have H3 := Lib.hid (show IsPen v3 w0.heap.size p la3 by rw [← hla]; simpa only [List.append_assoc] using h1); have HB3 := Lib.hid h2; have HK3 := Lib.hid (HK2.out.trans h3); have HX3 := Lib.hid (HX2.out.keep h3 HNE.out)
 clear h1 h2 h3 hla
 clear d0 d1 d2 d3 d4 d5 d6 d7 d8 d9 d10 d11 d12 d13 d14 d15 d16
 obtain ⟨d0, d1, d2, d3, d4, d5, d6, d7, d8, d9, d10, d11, d12, d13, d14, d15, d16⟩ := HX3.out.cell
 go_upto_region 20 with fail
 clear d0 d1 d2 d3 d4 d5 d6 d7 d8 d9 d10 d11 d12 d13 d14 d15 d16
 have HD := Lib.hid (show Below v3.heap.size v3 v3.drew from (Below.refl _ _).drew)
 have Hd := Lib.hid (H3.out.below HD.out); have HBd := Lib.hid HB3.out.drew; have HKd := Lib.hid HK3.out.drew; have HXd := Lib.hid (show MsBox v3.drew b m A8 c8 A12 c12 A16 c16 from HX3.out)
 clear HD
 obtain ⟨d0, d1, d2, d3, d4, d5, d6, d7, d8, d9, d10, d11, d12, d13, d14, d15, d16⟩ := HXd.out.cell
 refine start_ (n := 7) (S := fun w' => w'.cell? ⟨b, 4, none⟩ = some (.int .i64 m.f4)) (ds := []) #[false, false, false, false, false, false, false] (by kernel_rfl) rfl rfl d4 (fun hHeld => ?_)
 obtain ⟨u, hu⟩ : ∃ u, v3.drew = u := ⟨_, rfl⟩
 rw [hu] at Hd HBd HKd HXd hHeld ⊢
 clear hu d0 d1 d2 d3 d4 d5 d6 d7 d8 d9 d10 d11 d12 d13 d14 d15 d16
 refine pure_ (i := 0) (N := some 99) (v := ?_) (a' := ?_) #[true, false, false, false, false, false, false] rfl rfl (by kernel_rfl) (fun _ _ _ h => h) (Or.inl ⟨by rfl, ?_⟩) ?_ ?_
 rotate_left
 ·intro w'
  go_simp
  try with_reducible rfl
 rotate_left
 ·simp only [Act.put, sq1, sq2, sq3, i64_w, i32_w]
  rfl
 refine pure_ (i := 1) (N := some 100) (v := ?_) (a' := ?_) #[true, true, false, false, false, false, false] rfl rfl (by kernel_rfl) (fun _ _ _ h => h) (Or.inl ⟨by rfl, ?_⟩) ?_ ?_
 rotate_left
 ·intro w'
  go_simp
  try with_reducible rfl
 rotate_left
 ·simp only [Act.put, sq1, sq2, sq3, i64_w, i32_w]
  rfl
 refine pure_ (i := 2) (N := some 101) (v := ?_) (a' := ?_) #[true, true, true, false, false, false, false] rfl rfl (by kernel_rfl) (fun _ _ _ h => h) (Or.inl ⟨by rfl, ?_⟩) ?_ ?_
 rotate_left
 ·intro w'
  go_simp
  try with_reducible rfl
 rotate_left
 ·simp only [Act.put, sq1, sq2, sq3, i64_w, i32_w]
  rfl
 refine pure_ (i := 3) (N := some 102) (v := ?_) (a' := ?_) #[true, true, true, true, false, false, false] rfl rfl (by kernel_rfl) (fun _ _ _ h => h) (Or.inl ⟨by rfl, ?_⟩) ?_ ?_
 rotate_left
 ·intro w'
  go_simp
  try with_reducible rfl
 rotate_left
 ·simp only [Act.put, sq1, sq2, sq3, i64_w, i32_w]
  rfl
 refine take_ (i := 4) (N := some 103) (v := ?_) (a' := ?_) #[true, true, true, true, true, false, false] rfl rfl (by kernel_rfl) (fun _ _ _ h => h) (Or.inl ⟨by rfl, ?_⟩) hHeld ?_ ?_
 rotate_left
 ·intro w' hS
  have x0 := hS
  go_simp
  try with_reducible rfl
 rotate_left
 ·simp only [Act.put, sq1, sq2, sq3, i64_w, i32_w]
  rfl
 refine one_ (i := 5) (N := some 104) #[true, true, true, true, true, true, false] rfl rfl (by kernel_rfl) (by decide) (fun K hK => ?_)
 refine value_ (w1 := ?_) (v := ?_) (by rfl) rfl ?_ ?_
 rotate_left 2
 ·go_simp
  constructor <;> rfl
 have hba := (Below.refl _ u).alloc (Nat.le_refl _) (.cells #[.int .i64 m.f4] 2)
 have HXe := Lib.hid (show MsBox (u.alloc (.cells #[.int .i64 m.f4] 2)) b m A8 c8 A12 c12 A16 c16 from HXd.out.below hba); have He := Lib.hid (Hd.out.below hba); have HBe := Lib.hid (HBd.out.alloc HBd.out.size (.cells #[.int .i64 m.f4] 2)); have HKe := Lib.hid (HKd.out.alloc (.cells #[.int .i64 m.f4] 2))
 clear hba
 obtain ⟨d0, d1, d2, d3, d4, d5, d6, d7, d8, d9, d10, d11, d12, d13, d14, d15, d16⟩ := HXe.out.cell
 refine hK.out _ _ d4 (fun hHeld => ?_)
 clear hK K
 clear d0 d1 d2 d3 d4 d5 d6 d7 d8 d9 d10 d11 d12 d13 d14 d15 d16
 refine norm_ (a' := ?_) ?_ ?_
 rotate_left
 ·show Act.put _ (some 104) _ = _
  simp only [Act.put, sq1, sq2, sq3, i64_w, i32_w]
  rfl
 refine one_ (i := 6) (N := some 105) #[true, true, true, true, true, true, true] rfl rfl (by kernel_rfl) (by decide) (fun K hK => ?_)
 go_simp
 refine (nums_is He.out HBe.out HP.out _ 1 [m.f4] (C_lit u [m.f4] (by simp)) HT4.out (by have := HS.out; have := HL3.out; simp only [List.length_cons, List.length_nil]; omega)).mono ?_
 rintro e v4 ⟨rfl, h1, h2, h3⟩
 obtain ⟨la4, hla⟩ : ∃ la, la3 ++ numsB [m.f4] = la := ⟨_, rfl⟩
 have HL4 := Lib.hid (show la4.length ≤ l0.length + 54 by rw [← hla]; have h8 := HL3.out; have h9 : (numsB [m.f4]).length ≤ 9 := numsB_le HT4.out _ (by simp); simp only [List.length_append] at h9 ⊢; omega)
 have HQ4 := Lib.hid hla
 have H4 := Lib.hid (show IsPen v4 w0.heap.size p la4 by rw [← hla]; simpa only [List.append_assoc] using h1); have HB4 := Lib.hid h2; have HK4 := Lib.hid (HKe.out.trans h3); have HX4 := Lib.hid (HXe.out.keep h3 HNE.out)
 clear h1 h2 h3 hla
 obtain ⟨d0, d1, d2, d3, d4, d5, d6, d7, d8, d9, d10, d11, d12, d13, d14, d15, d16⟩ := HX4.out.cell
 refine hK.out _ _ d4 (fun hHeld => ?_)
 clear hK K
 clear d0 d1 d2 d3 d4 d5 d6 d7 d8 d9 d10 d11 d12 d13 d14 d15 d16
 refine done_ (by kernel_rfl) ?_
 have HF := Lib.hid (show IsPen v4 w0.heap.size p (l0 ++ msgB m) by
  have h1 := H4.out
  rw [← HQ4.out, ← HQ3.out, ← HQ2.out, ← HQ1.out, ← HQ0.out] at h1
  rw [HTB.out]
  simpa only [List.append_assoc, numsB_one] using h1)
 go_wp2_with fail
 go_end0
 exact ⟨rfl, HF.out, HB4.out, HK4.out⟩
set_option maxHeartbeats 4000000 in
theorem penMsg5 {w0 w : World} {p : Nat} {l0 : List Int} (hI : IsPen w w0.heap.size p l0) (hB : Below w0.heap.size w0 w) (hp : w0.heap.size ≤ p) (m : MsgD) {A8 A12 A16 : Option Addr} {c8 c12 c16 : Nat} (hm : MsgC w0 m A8 c8 A12 c12 A16 c16) (ho : OkM m) (hk : m.f0 = 5) (hpl : m.f10.f3.length ≤ 16384) (hs : l0.length + 200000000 < 140737488355328) :
  Calls Tryz.prog 50 #[.pointer (some ⟨p, 0, none⟩), .agg #[.int .i64 m.f0, .int .i64 m.f1, .int .i64 m.f2, .int .i64 m.f3, .int .i64 m.f4, .int .i64 m.f5, .int .i64 m.f6, .bool m.f7, .slice A8 m.f8.length c8, .int .i64 m.f9.f0, .int .i64 m.f9.f1, .int .i64 m.f9.f2, .slice A12 m.f9.f3.length c12, .int .i64 m.f10.f0, .int .i64 m.f10.f1, .int .i64 m.f10.f2, .slice A16 m.f10.f3.length c16]] w fun e w' => PenP w0 w p (l0 ++ msgB m) e w' := by
 have HO := Lib.hid ho; have HM := Lib.hid hm; have HP := Lib.hid hp; have HS := Lib.hid hs; have HL0 := Lib.hid (show l0.length ≤ l0.length + 0 from Nat.le_refl _)
 have HNE := Lib.hid (show w.heap.size ≠ p by have := hI.lt; omega)
 have H0 := Lib.hid (hI.below ((Below.refl _ w).alloc (Nat.le_refl _) (.cells #[.int .i64 m.f0, .int .i64 m.f1, .int .i64 m.f2, .int .i64 m.f3, .int .i64 m.f4, .int .i64 m.f5, .int .i64 m.f6, .bool m.f7, .slice A8 m.f8.length c8, .int .i64 m.f9.f0, .int .i64 m.f9.f1, .int .i64 m.f9.f2, .slice A12 m.f9.f3.length c12, .int .i64 m.f10.f0, .int .i64 m.f10.f1, .int .i64 m.f10.f2, .slice A16 m.f10.f3.length c16] 34))); have HB0 := Lib.hid (hB.alloc hB.size (.cells #[.int .i64 m.f0, .int .i64 m.f1, .int .i64 m.f2, .int .i64 m.f3, .int .i64 m.f4, .int .i64 m.f5, .int .i64 m.f6, .bool m.f7, .slice A8 m.f8.length c8, .int .i64 m.f9.f0, .int .i64 m.f9.f1, .int .i64 m.f9.f2, .slice A12 m.f9.f3.length c12, .int .i64 m.f10.f0, .int .i64 m.f10.f1, .int .i64 m.f10.f2, .slice A16 m.f10.f3.length c16] 34)); have HK0 := Lib.hid ((KeepS.refl (fun i => i = p) w).alloc (.cells #[.int .i64 m.f0, .int .i64 m.f1, .int .i64 m.f2, .int .i64 m.f3, .int .i64 m.f4, .int .i64 m.f5, .int .i64 m.f6, .bool m.f7, .slice A8 m.f8.length c8, .int .i64 m.f9.f0, .int .i64 m.f9.f1, .int .i64 m.f9.f2, .slice A12 m.f9.f3.length c12, .int .i64 m.f10.f0, .int .i64 m.f10.f1, .int .i64 m.f10.f2, .slice A16 m.f10.f3.length c16] 34))
 have HX0 := Lib.hid (show MsBox (w.alloc (.cells #[.int .i64 m.f0, .int .i64 m.f1, .int .i64 m.f2, .int .i64 m.f3, .int .i64 m.f4, .int .i64 m.f5, .int .i64 m.f6, .bool m.f7, .slice A8 m.f8.length c8, .int .i64 m.f9.f0, .int .i64 m.f9.f1, .int .i64 m.f9.f2, .slice A12 m.f9.f3.length c12, .int .i64 m.f10.f0, .int .i64 m.f10.f1, .int .i64 m.f10.f2, .slice A16 m.f10.f3.length c16] 34)) w.heap.size m A8 c8 A12 c12 A16 c16 from heap_alloc_new w _)
 have HT6 := Lib.hid (show okI [m.f3, m.f4, m.f5, m.f10.f0, m.f10.f1, m.f10.f2] = true by have h1 := ho.t; have h2 := ho.p; simp only [okI_cons] at h1 h2 ⊢; exact ⟨h1.1, h1.2.1, h1.2.2.1, h2.1, h2.2.1, h2.2.2.1, rfl⟩)
 have HPL := Lib.hid hpl
 have q1 : (m.f0 == 1) = false := by rw [hk]; rfl
 have q2 : (m.f0 == 2) = false := by rw [hk]; rfl
 have q3 : (m.f0 == 3) = false := by rw [hk]; rfl
 have q4 : (m.f0 == 4) = false := by rw [hk]; rfl
 have q5 : (m.f0 == 5) = true := by rw [hk]; rfl
 have HTB := Lib.hid (show msgB m = numsB [m.f0, m.f1, m.f2] ++ (numsB [m.f3, m.f4, m.f5, m.f10.f0, m.f10.f1, m.f10.f2] ++ numB m.f10.f3.length ++ m.f10.f3) by unfold msgB tailB; simp only [hk]; rfl)
 clear hI hB hp hs ho hm hk hpl
 go_enter Tryz.func50, Tryz.ntmps50
 go_upto_region 1 with fail
 obtain ⟨v0, hv⟩ : ∃ v, w.alloc (.cells #[.int .i64 m.f0, .int .i64 m.f1, .int .i64 m.f2, .int .i64 m.f3, .int .i64 m.f4, .int .i64 m.f5, .int .i64 m.f6, .bool m.f7, .slice A8 m.f8.length c8, .int .i64 m.f9.f0, .int .i64 m.f9.f1, .int .i64 m.f9.f2, .slice A12 m.f9.f3.length c12, .int .i64 m.f10.f0, .int .i64 m.f10.f1, .int .i64 m.f10.f2, .slice A16 m.f10.f3.length c16] 34) = v := ⟨_, rfl⟩
 obtain ⟨b, hb⟩ : ∃ b, w.heap.size = b := ⟨_, rfl⟩
 rw [hv] at H0 HB0 HK0 HX0 ⊢
 rw [hb] at HNE HX0 ⊢
 clear hv hb
 obtain ⟨la0, hl0⟩ : ∃ la, l0 = la := ⟨_, rfl⟩
 have HQ0 := Lib.hid hl0
 have HLZ := Lib.hid (show la0.length ≤ l0.length + 0 by rw [← hl0]; exact Nat.le_refl _)
 rw [hl0] at H0
 clear hl0 HL0
 have HL0 := HLZ
 have HD := Lib.hid (show Below v0.heap.size v0 v0.drew from (Below.refl _ _).drew)
 have Hd := Lib.hid (H0.out.below HD.out); have HBd := Lib.hid HB0.out.drew; have HKd := Lib.hid HK0.out.drew; have HXd := Lib.hid (show MsBox v0.drew b m A8 c8 A12 c12 A16 c16 from HX0.out)
 clear HD
 obtain ⟨d0, d1, d2, d3, d4, d5, d6, d7, d8, d9, d10, d11, d12, d13, d14, d15, d16⟩ := HXd.out.cell
 refine start_ (n := 11) (S := fun w' => w'.cell? ⟨b, 0, none⟩ = some (.int .i64 m.f0) ∧ w'.cell? ⟨b, 1, none⟩ = some (.int .i64 m.f1) ∧ w'.cell? ⟨b, 2, none⟩ = some (.int .i64 m.f2)) (ds := []) #[false, false, false, false, false, false, false, false, false, false, false] (by kernel_rfl) rfl rfl ⟨d0, d1, d2⟩ (fun hHeld => ?_)
 obtain ⟨u, hu⟩ : ∃ u, v0.drew = u := ⟨_, rfl⟩
 rw [hu] at Hd HBd HKd HXd hHeld ⊢
 clear hu d0 d1 d2 d3 d4 d5 d6 d7 d8 d9 d10 d11 d12 d13 d14 d15 d16
 refine pure_ (i := 0) (N := some 6) (v := ?_) (a' := ?_) #[true, false, false, false, false, false, false, false, false, false, false] rfl rfl (by kernel_rfl) (fun _ _ _ h => h) (Or.inl ⟨by rfl, ?_⟩) ?_ ?_
 rotate_left
 ·intro w'
  go_simp
  try with_reducible rfl
 rotate_left
 ·simp only [Act.put, sq1, sq2, sq3, i64_w, i32_w]
  rfl
 refine pure_ (i := 1) (N := some 7) (v := ?_) (a' := ?_) #[true, true, false, false, false, false, false, false, false, false, false] rfl rfl (by kernel_rfl) (fun _ _ _ h => h) (Or.inl ⟨by rfl, ?_⟩) ?_ ?_
 rotate_left
 ·intro w'
  go_simp
  try with_reducible rfl
 rotate_left
 ·simp only [Act.put, sq1, sq2, sq3, i64_w, i32_w]
  rfl
 refine pure_ (i := 2) (N := some 8) (v := ?_) (a' := ?_) #[true, true, true, false, false, false, false, false, false, false, false] rfl rfl (by kernel_rfl) (fun _ _ _ h => h) (Or.inl ⟨by rfl, ?_⟩) ?_ ?_
 rotate_left
 ·intro w'
  go_simp
  try with_reducible rfl
 rotate_left
 ·simp only [Act.put, sq1, sq2, sq3, i64_w, i32_w]
  rfl
 refine pure_ (i := 3) (N := some 9) (v := ?_) (a' := ?_) #[true, true, true, true, false, false, false, false, false, false, false] rfl rfl (by kernel_rfl) (fun _ _ _ h => h) (Or.inl ⟨by rfl, ?_⟩) ?_ ?_
 rotate_left
 ·intro w'
  go_simp
  try with_reducible rfl
 rotate_left
 ·simp only [Act.put, sq1, sq2, sq3, i64_w, i32_w]
  rfl
 refine take_ (i := 4) (N := some 10) (v := ?_) (a' := ?_) #[true, true, true, true, true, false, false, false, false, false, false] rfl rfl (by kernel_rfl) (fun _ _ _ h => h) (Or.inl ⟨by rfl, ?_⟩) hHeld ?_ ?_
 rotate_left
 ·intro w' hS
  obtain ⟨x0, x1, x2⟩ := hS
  go_simp
  try with_reducible rfl
 rotate_left
 ·simp only [Act.put, sq1, sq2, sq3, i64_w, i32_w]
  rfl
 refine pure_ (i := 5) (N := some 11) (v := ?_) (a' := ?_) #[true, true, true, true, true, true, false, false, false, false, false] rfl rfl (by kernel_rfl) (fun _ _ _ h => h) (Or.inl ⟨by rfl, ?_⟩) ?_ ?_
 rotate_left
 ·intro w'
  go_simp
  try with_reducible rfl
 rotate_left
 ·simp only [Act.put, sq1, sq2, sq3, i64_w, i32_w]
  rfl
 refine take_ (i := 6) (N := some 12) (v := ?_) (a' := ?_) #[true, true, true, true, true, true, true, false, false, false, false] rfl rfl (by kernel_rfl) (fun _ _ _ h => h) (Or.inl ⟨by rfl, ?_⟩) hHeld ?_ ?_
 rotate_left
 ·intro w' hS
  obtain ⟨x0, x1, x2⟩ := hS
  go_simp
  try with_reducible rfl
 rotate_left
 ·simp only [Act.put, sq1, sq2, sq3, i64_w, i32_w]
  rfl
 refine pure_ (i := 7) (N := some 13) (v := ?_) (a' := ?_) #[true, true, true, true, true, true, true, true, false, false, false] rfl rfl (by kernel_rfl) (fun _ _ _ h => h) (Or.inl ⟨by rfl, ?_⟩) ?_ ?_
 rotate_left
 ·intro w'
  go_simp
  try with_reducible rfl
 rotate_left
 ·simp only [Act.put, sq1, sq2, sq3, i64_w, i32_w]
  rfl
 refine take_ (i := 8) (N := some 14) (v := ?_) (a' := ?_) #[true, true, true, true, true, true, true, true, true, false, false] rfl rfl (by kernel_rfl) (fun _ _ _ h => h) (Or.inl ⟨by rfl, ?_⟩) hHeld ?_ ?_
 rotate_left
 ·intro w' hS
  obtain ⟨x0, x1, x2⟩ := hS
  go_simp
  try with_reducible rfl
 rotate_left
 ·simp only [Act.put, sq1, sq2, sq3, i64_w, i32_w]
  rfl
 refine one_ (i := 9) (N := some 15) #[true, true, true, true, true, true, true, true, true, true, false] rfl rfl (by kernel_rfl) (by decide) (fun K hK => ?_)
 refine value_ (w1 := ?_) (v := ?_) (by rfl) rfl ?_ ?_
 rotate_left 2
 ·go_simp
  constructor <;> rfl
 have hba := (Below.refl _ u).alloc (Nat.le_refl _) (.cells #[.int .i64 m.f0, .int .i64 m.f1, .int .i64 m.f2] 2)
 have HXe := Lib.hid (show MsBox (u.alloc (.cells #[.int .i64 m.f0, .int .i64 m.f1, .int .i64 m.f2] 2)) b m A8 c8 A12 c12 A16 c16 from HXd.out.below hba); have He := Lib.hid (Hd.out.below hba); have HBe := Lib.hid (HBd.out.alloc HBd.out.size (.cells #[.int .i64 m.f0, .int .i64 m.f1, .int .i64 m.f2] 2)); have HKe := Lib.hid (HKd.out.alloc (.cells #[.int .i64 m.f0, .int .i64 m.f1, .int .i64 m.f2] 2))
 clear hba
 obtain ⟨d0, d1, d2, d3, d4, d5, d6, d7, d8, d9, d10, d11, d12, d13, d14, d15, d16⟩ := HXe.out.cell
 refine hK.out _ _ ⟨d0, d1, d2⟩ (fun hHeld => ?_)
 clear hK K
 clear d0 d1 d2 d3 d4 d5 d6 d7 d8 d9 d10 d11 d12 d13 d14 d15 d16
 refine norm_ (a' := ?_) ?_ ?_
 rotate_left
 ·show Act.put _ (some 15) _ = _
  simp only [Act.put, sq1, sq2, sq3, i64_w, i32_w]
  rfl
 refine one_ (i := 10) (N := some 16) #[true, true, true, true, true, true, true, true, true, true, true] rfl rfl (by kernel_rfl) (by decide) (fun K hK => ?_)
 go_simp
 refine (nums_is He.out HBe.out HP.out _ 3 [m.f0, m.f1, m.f2] (C_lit u [m.f0, m.f1, m.f2] (by simp)) HO.out.h (by have := HS.out; have := HL0.out; simp only [List.length_cons, List.length_nil]; omega)).mono ?_
 rintro e v1 ⟨rfl, h1, h2, h3⟩
 obtain ⟨la1, hla⟩ : ∃ la, la0 ++ numsB [m.f0, m.f1, m.f2] = la := ⟨_, rfl⟩
 have HL1 := Lib.hid (show la1.length ≤ l0.length + 27 by rw [← hla]; have h8 := HL0.out; have h9 : (numsB [m.f0, m.f1, m.f2]).length ≤ 27 := numsB_le HO.out.h _ (by simp); simp only [List.length_append] at h9 ⊢; omega)
 have HQ1 := Lib.hid hla
 have H1 := Lib.hid (show IsPen v1 w0.heap.size p la1 by rw [← hla]; simpa only [List.append_assoc] using h1); have HB1 := Lib.hid h2; have HK1 := Lib.hid (HKe.out.trans h3); have HX1 := Lib.hid (HXe.out.keep h3 HNE.out)
 clear h1 h2 h3 hla
 obtain ⟨d0, d1, d2, d3, d4, d5, d6, d7, d8, d9, d10, d11, d12, d13, d14, d15, d16⟩ := HX1.out.cell
 refine hK.out _ _ ⟨d0, d1, d2⟩ (fun hHeld => ?_)
 clear hK K
 clear d0 d1 d2 d3 d4 d5 d6 d7 d8 d9 d10 d11 d12 d13 d14 d15 d16
 refine done_ (by kernel_rfl) ?_
 obtain ⟨d0, d1, d2, d3, d4, d5, d6, d7, d8, d9, d10, d11, d12, d13, d14, d15, d16⟩ := HX1.out.cell
 go_upto_region 22 with fail
 clear d0 d1 d2 d3 d4 d5 d6 d7 d8 d9 d10 d11 d12 d13 d14 d15 d16
 have HD := Lib.hid (show Below v1.heap.size v1 v1.drew from (Below.refl _ _).drew)
 have Hd := Lib.hid (H1.out.below HD.out); have HBd := Lib.hid HB1.out.drew; have HKd := Lib.hid HK1.out.drew; have HXd := Lib.hid (show MsBox v1.drew b m A8 c8 A12 c12 A16 c16 from HX1.out)
 clear HD
 obtain ⟨d0, d1, d2, d3, d4, d5, d6, d7, d8, d9, d10, d11, d12, d13, d14, d15, d16⟩ := HXd.out.cell
 refine start_ (n := 20) (S := fun w' => w'.cell? ⟨b, 3, none⟩ = some (.int .i64 m.f3) ∧ w'.cell? ⟨b, 4, none⟩ = some (.int .i64 m.f4) ∧ w'.cell? ⟨b, 5, none⟩ = some (.int .i64 m.f5) ∧ w'.cell? ⟨b, 13, none⟩ = some (.int .i64 m.f10.f0) ∧ w'.cell? ⟨b, 14, none⟩ = some (.int .i64 m.f10.f1) ∧ w'.cell? ⟨b, 15, none⟩ = some (.int .i64 m.f10.f2)) (ds := []) #[false, false, false, false, false, false, false, false, false, false, false, false, false, false, false, false, false, false, false, false] (by kernel_rfl) rfl rfl ⟨d3, d4, d5, d13, d14, d15⟩ (fun hHeld => ?_)
 obtain ⟨u, hu⟩ : ∃ u, v1.drew = u := ⟨_, rfl⟩
 rw [hu] at Hd HBd HKd HXd hHeld ⊢
 clear hu d0 d1 d2 d3 d4 d5 d6 d7 d8 d9 d10 d11 d12 d13 d14 d15 d16
 refine pure_ (i := 0) (N := some 108) (v := ?_) (a' := ?_) #[true, false, false, false, false, false, false, false, false, false, false, false, false, false, false, false, false, false, false, false] rfl rfl (by kernel_rfl) (fun _ _ _ h => h) (Or.inl ⟨by rfl, ?_⟩) ?_ ?_
 rotate_left
 ·intro w'
  go_simp
  try with_reducible rfl
 rotate_left
 ·simp only [Act.put, sq1, sq2, sq3, i64_w, i32_w]
  rfl
 refine pure_ (i := 1) (N := some 109) (v := ?_) (a' := ?_) #[true, true, false, false, false, false, false, false, false, false, false, false, false, false, false, false, false, false, false, false] rfl rfl (by kernel_rfl) (fun _ _ _ h => h) (Or.inl ⟨by rfl, ?_⟩) ?_ ?_
 rotate_left
 ·intro w'
  go_simp
  try with_reducible rfl
 rotate_left
 ·simp only [Act.put, sq1, sq2, sq3, i64_w, i32_w]
  rfl
 refine pure_ (i := 2) (N := some 110) (v := ?_) (a' := ?_) #[true, true, true, false, false, false, false, false, false, false, false, false, false, false, false, false, false, false, false, false] rfl rfl (by kernel_rfl) (fun _ _ _ h => h) (Or.inl ⟨by rfl, ?_⟩) ?_ ?_
 rotate_left
 ·intro w'
  go_simp
  try with_reducible rfl
 rotate_left
 ·simp only [Act.put, sq1, sq2, sq3, i64_w, i32_w]
  rfl
 refine pure_ (i := 3) (N := some 111) (v := ?_) (a' := ?_) #[true, true, true, true, false, false, false, false, false, false, false, false, false, false, false, false, false, false, false, false] rfl rfl (by kernel_rfl) (fun _ _ _ h => h) (Or.inl ⟨by rfl, ?_⟩) ?_ ?_
 rotate_left
 ·intro w'
  go_simp
  try with_reducible rfl
 rotate_left
 ·simp only [Act.put, sq1, sq2, sq3, i64_w, i32_w]
  rfl
 refine take_ (i := 4) (N := some 112) (v := ?_) (a' := ?_) #[true, true, true, true, true, false, false, false, false, false, false, false, false, false, false, false, false, false, false, false] rfl rfl (by kernel_rfl) (fun _ _ _ h => h) (Or.inl ⟨by rfl, ?_⟩) hHeld ?_ ?_
 rotate_left
 ·intro w' hS
  obtain ⟨x3, x4, x5, x13, x14, x15⟩ := hS
  go_simp
  try with_reducible rfl
 rotate_left
 ·simp only [Act.put, sq1, sq2, sq3, i64_w, i32_w]
  rfl
 refine pure_ (i := 5) (N := some 113) (v := ?_) (a' := ?_) #[true, true, true, true, true, true, false, false, false, false, false, false, false, false, false, false, false, false, false, false] rfl rfl (by kernel_rfl) (fun _ _ _ h => h) (Or.inl ⟨by rfl, ?_⟩) ?_ ?_
 rotate_left
 ·intro w'
  go_simp
  try with_reducible rfl
 rotate_left
 ·simp only [Act.put, sq1, sq2, sq3, i64_w, i32_w]
  rfl
 refine take_ (i := 6) (N := some 114) (v := ?_) (a' := ?_) #[true, true, true, true, true, true, true, false, false, false, false, false, false, false, false, false, false, false, false, false] rfl rfl (by kernel_rfl) (fun _ _ _ h => h) (Or.inl ⟨by rfl, ?_⟩) hHeld ?_ ?_
 rotate_left
 ·intro w' hS
  obtain ⟨x3, x4, x5, x13, x14, x15⟩ := hS
  go_simp
  try with_reducible rfl
 rotate_left
 ·simp only [Act.put, sq1, sq2, sq3, i64_w, i32_w]
  rfl
 refine pure_ (i := 7) (N := some 115) (v := ?_) (a' := ?_) #[true, true, true, true, true, true, true, true, false, false, false, false, false, false, false, false, false, false, false, false] rfl rfl (by kernel_rfl) (fun _ _ _ h => h) (Or.inl ⟨by rfl, ?_⟩) ?_ ?_
 rotate_left
 ·intro w'
  go_simp
  try with_reducible rfl
 rotate_left
 ·simp only [Act.put, sq1, sq2, sq3, i64_w, i32_w]
  rfl
 refine take_ (i := 8) (N := some 116) (v := ?_) (a' := ?_) #[true, true, true, true, true, true, true, true, true, false, false, false, false, false, false, false, false, false, false, false] rfl rfl (by kernel_rfl) (fun _ _ _ h => h) (Or.inl ⟨by rfl, ?_⟩) hHeld ?_ ?_
 rotate_left
 ·intro w' hS
  obtain ⟨x3, x4, x5, x13, x14, x15⟩ := hS
  go_simp
  try with_reducible rfl
 rotate_left
 ·simp only [Act.put, sq1, sq2, sq3, i64_w, i32_w]
  rfl
 refine pure_ (i := 9) (N := some 117) (v := ?_) (a' := ?_) #[true, true, true, true, true, true, true, true, true, true, false, false, false, false, false, false, false, false, false, false] rfl rfl (by kernel_rfl) (fun _ _ _ h => h) (Or.inl ⟨by rfl, ?_⟩) ?_ ?_
 rotate_left
 ·intro w'
  go_simp
  try with_reducible rfl
 rotate_left
 ·simp only [Act.put, sq1, sq2, sq3, i64_w, i32_w]
  rfl
 refine pure_ (i := 10) (N := some 118) (v := ?_) (a' := ?_) #[true, true, true, true, true, true, true, true, true, true, true, false, false, false, false, false, false, false, false, false] rfl rfl (by kernel_rfl) (fun _ _ _ h => h) (Or.inl ⟨by rfl, ?_⟩) ?_ ?_
 rotate_left
 ·intro w'
  go_simp
  try with_reducible rfl
 rotate_left
 ·simp only [Act.put, sq1, sq2, sq3, i64_w, i32_w]
  rfl
 refine take_ (i := 11) (N := some 119) (v := ?_) (a' := ?_) #[true, true, true, true, true, true, true, true, true, true, true, true, false, false, false, false, false, false, false, false] rfl rfl (by kernel_rfl) (fun _ _ _ h => h) (Or.inl ⟨by rfl, ?_⟩) hHeld ?_ ?_
 rotate_left
 ·intro w' hS
  obtain ⟨x3, x4, x5, x13, x14, x15⟩ := hS
  go_simp
  try with_reducible rfl
 rotate_left
 ·simp only [Act.put, sq1, sq2, sq3, i64_w, i32_w]
  rfl
 refine pure_ (i := 12) (N := some 120) (v := ?_) (a' := ?_) #[true, true, true, true, true, true, true, true, true, true, true, true, true, false, false, false, false, false, false, false] rfl rfl (by kernel_rfl) (fun _ _ _ h => h) (Or.inl ⟨by rfl, ?_⟩) ?_ ?_
 rotate_left
 ·intro w'
  go_simp
  try with_reducible rfl
 rotate_left
 ·simp only [Act.put, sq1, sq2, sq3, i64_w, i32_w]
  rfl
 refine pure_ (i := 13) (N := some 121) (v := ?_) (a' := ?_) #[true, true, true, true, true, true, true, true, true, true, true, true, true, true, false, false, false, false, false, false] rfl rfl (by kernel_rfl) (fun _ _ _ h => h) (Or.inl ⟨by rfl, ?_⟩) ?_ ?_
 rotate_left
 ·intro w'
  go_simp
  try with_reducible rfl
 rotate_left
 ·simp only [Act.put, sq1, sq2, sq3, i64_w, i32_w]
  rfl
 refine take_ (i := 14) (N := some 122) (v := ?_) (a' := ?_) #[true, true, true, true, true, true, true, true, true, true, true, true, true, true, true, false, false, false, false, false] rfl rfl (by kernel_rfl) (fun _ _ _ h => h) (Or.inl ⟨by rfl, ?_⟩) hHeld ?_ ?_
 rotate_left
 ·intro w' hS
  obtain ⟨x3, x4, x5, x13, x14, x15⟩ := hS
  go_simp
  try with_reducible rfl
 rotate_left
 ·simp only [Act.put, sq1, sq2, sq3, i64_w, i32_w]
  rfl
 refine pure_ (i := 15) (N := some 123) (v := ?_) (a' := ?_) #[true, true, true, true, true, true, true, true, true, true, true, true, true, true, true, true, false, false, false, false] rfl rfl (by kernel_rfl) (fun _ _ _ h => h) (Or.inl ⟨by rfl, ?_⟩) ?_ ?_
 rotate_left
 ·intro w'
  go_simp
  try with_reducible rfl
 rotate_left
 ·simp only [Act.put, sq1, sq2, sq3, i64_w, i32_w]
  rfl
 refine pure_ (i := 16) (N := some 124) (v := ?_) (a' := ?_) #[true, true, true, true, true, true, true, true, true, true, true, true, true, true, true, true, true, false, false, false] rfl rfl (by kernel_rfl) (fun _ _ _ h => h) (Or.inl ⟨by rfl, ?_⟩) ?_ ?_
 rotate_left
 ·intro w'
  go_simp
  try with_reducible rfl
 rotate_left
 ·simp only [Act.put, sq1, sq2, sq3, i64_w, i32_w]
  rfl
 refine take_ (i := 17) (N := some 125) (v := ?_) (a' := ?_) #[true, true, true, true, true, true, true, true, true, true, true, true, true, true, true, true, true, true, false, false] rfl rfl (by kernel_rfl) (fun _ _ _ h => h) (Or.inl ⟨by rfl, ?_⟩) hHeld ?_ ?_
 rotate_left
 ·intro w' hS
  obtain ⟨x3, x4, x5, x13, x14, x15⟩ := hS
  go_simp
  try with_reducible rfl
 rotate_left
 ·simp only [Act.put, sq1, sq2, sq3, i64_w, i32_w]
  rfl
 refine one_ (i := 18) (N := some 126) #[true, true, true, true, true, true, true, true, true, true, true, true, true, true, true, true, true, true, true, false] rfl rfl (by kernel_rfl) (by decide) (fun K hK => ?_)
 refine value_ (w1 := ?_) (v := ?_) (by rfl) rfl ?_ ?_
 rotate_left 2
 ·go_simp
  constructor <;> rfl
 have hba := (Below.refl _ u).alloc (Nat.le_refl _) (.cells #[.int .i64 m.f3, .int .i64 m.f4, .int .i64 m.f5, .int .i64 m.f10.f0, .int .i64 m.f10.f1, .int .i64 m.f10.f2] 2)
 have HXe := Lib.hid (show MsBox (u.alloc (.cells #[.int .i64 m.f3, .int .i64 m.f4, .int .i64 m.f5, .int .i64 m.f10.f0, .int .i64 m.f10.f1, .int .i64 m.f10.f2] 2)) b m A8 c8 A12 c12 A16 c16 from HXd.out.below hba); have He := Lib.hid (Hd.out.below hba); have HBe := Lib.hid (HBd.out.alloc HBd.out.size (.cells #[.int .i64 m.f3, .int .i64 m.f4, .int .i64 m.f5, .int .i64 m.f10.f0, .int .i64 m.f10.f1, .int .i64 m.f10.f2] 2)); have HKe := Lib.hid (HKd.out.alloc (.cells #[.int .i64 m.f3, .int .i64 m.f4, .int .i64 m.f5, .int .i64 m.f10.f0, .int .i64 m.f10.f1, .int .i64 m.f10.f2] 2))
 clear hba
 obtain ⟨d0, d1, d2, d3, d4, d5, d6, d7, d8, d9, d10, d11, d12, d13, d14, d15, d16⟩ := HXe.out.cell
 refine hK.out _ _ ⟨d3, d4, d5, d13, d14, d15⟩ (fun hHeld => ?_)
 clear hK K
 clear d0 d1 d2 d3 d4 d5 d6 d7 d8 d9 d10 d11 d12 d13 d14 d15 d16
 refine norm_ (a' := ?_) ?_ ?_
 rotate_left
 ·show Act.put _ (some 126) _ = _
  simp only [Act.put, sq1, sq2, sq3, i64_w, i32_w]
  rfl
 refine one_ (i := 19) (N := some 127) #[true, true, true, true, true, true, true, true, true, true, true, true, true, true, true, true, true, true, true, true] rfl rfl (by kernel_rfl) (by decide) (fun K hK => ?_)
 go_simp
 refine (nums_is He.out HBe.out HP.out _ 6 [m.f3, m.f4, m.f5, m.f10.f0, m.f10.f1, m.f10.f2] (C_lit u [m.f3, m.f4, m.f5, m.f10.f0, m.f10.f1, m.f10.f2] (by simp)) HT6.out (by have := HS.out; have := HL1.out; simp only [List.length_cons, List.length_nil]; omega)).mono ?_
 rintro e v2 ⟨rfl, h1, h2, h3⟩
 obtain ⟨la2, hla⟩ : ∃ la, la1 ++ numsB [m.f3, m.f4, m.f5, m.f10.f0, m.f10.f1, m.f10.f2] = la := ⟨_, rfl⟩
 have HL2 := Lib.hid (show la2.length ≤ l0.length + 81 by rw [← hla]; have h8 := HL1.out; have h9 : (numsB [m.f3, m.f4, m.f5, m.f10.f0, m.f10.f1, m.f10.f2]).length ≤ 54 := numsB_le HT6.out _ (by simp); simp only [List.length_append] at h9 ⊢; omega)
 have HQ2 := Lib.hid hla
 have H2 := Lib.hid (show IsPen v2 w0.heap.size p la2 by rw [← hla]; simpa only [List.append_assoc] using h1); have HB2 := Lib.hid h2; have HK2 := Lib.hid (HKe.out.trans h3); have HX2 := Lib.hid (HXe.out.keep h3 HNE.out)
 clear h1 h2 h3 hla
 obtain ⟨d0, d1, d2, d3, d4, d5, d6, d7, d8, d9, d10, d11, d12, d13, d14, d15, d16⟩ := HX2.out.cell
 refine hK.out _ _ ⟨d3, d4, d5, d13, d14, d15⟩ (fun hHeld => ?_)
 clear hK K
 clear d0 d1 d2 d3 d4 d5 d6 d7 d8 d9 d10 d11 d12 d13 d14 d15 d16
 refine done_ (by kernel_rfl) ?_
 obtain ⟨d0, d1, d2, d3, d4, d5, d6, d7, d8, d9, d10, d11, d12, d13, d14, d15, d16⟩ := HX2.out.cell
 go_upto_region 23 with fail
 clear d0 d1 d2 d3 d4 d5 d6 d7 d8 d9 d10 d11 d12 d13 d14 d15 d16
 have HD := Lib.hid (show Below v2.heap.size v2 v2.drew from (Below.refl _ _).drew)
 have Hd := Lib.hid (H2.out.below HD.out); have HBd := Lib.hid HB2.out.drew; have HKd := Lib.hid HK2.out.drew; have HXd := Lib.hid (show MsBox v2.drew b m A8 c8 A12 c12 A16 c16 from HX2.out)
 clear HD
 obtain ⟨d0, d1, d2, d3, d4, d5, d6, d7, d8, d9, d10, d11, d12, d13, d14, d15, d16⟩ := HXd.out.cell
 refine start_ (n := 7) (S := fun w' => w'.cell? ⟨b, 16, none⟩ = some (.slice A16 m.f10.f3.length c16)) (ds := []) #[false, false, false, false, false, false, false] (by kernel_rfl) rfl rfl d16 (fun hHeld => ?_)
 obtain ⟨u, hu⟩ : ∃ u, v2.drew = u := ⟨_, rfl⟩
 rw [hu] at Hd HBd HKd HXd hHeld ⊢
 clear hu d0 d1 d2 d3 d4 d5 d6 d7 d8 d9 d10 d11 d12 d13 d14 d15 d16
 refine pure_ (i := 0) (N := some 128) (v := ?_) (a' := ?_) #[true, false, false, false, false, false, false] rfl rfl (by kernel_rfl) (fun _ _ _ h => h) (Or.inl ⟨by rfl, ?_⟩) ?_ ?_
 rotate_left
 ·intro w'
  go_simp
  try with_reducible rfl
 rotate_left
 ·simp only [Act.put, sq1, sq2, sq3, i64_w, i32_w]
  rfl
 refine pure_ (i := 1) (N := some 129) (v := ?_) (a' := ?_) #[true, true, false, false, false, false, false] rfl rfl (by kernel_rfl) (fun _ _ _ h => h) (Or.inl ⟨by rfl, ?_⟩) ?_ ?_
 rotate_left
 ·intro w'
  go_simp
  try with_reducible rfl
 rotate_left
 ·simp only [Act.put, sq1, sq2, sq3, i64_w, i32_w]
  rfl
 refine pure_ (i := 2) (N := some 130) (v := ?_) (a' := ?_) #[true, true, true, false, false, false, false] rfl rfl (by kernel_rfl) (fun _ _ _ h => h) (Or.inl ⟨by rfl, ?_⟩) ?_ ?_
 rotate_left
 ·intro w'
  go_simp
  try with_reducible rfl
 rotate_left
 ·simp only [Act.put, sq1, sq2, sq3, i64_w, i32_w]
  rfl
 refine pure_ (i := 3) (N := some 131) (v := ?_) (a' := ?_) #[true, true, true, true, false, false, false] rfl rfl (by kernel_rfl) (fun _ _ _ h => h) (Or.inl ⟨by rfl, ?_⟩) ?_ ?_
 rotate_left
 ·intro w'
  go_simp
  try with_reducible rfl
 rotate_left
 ·simp only [Act.put, sq1, sq2, sq3, i64_w, i32_w]
  rfl
 refine pure_ (i := 4) (N := some 132) (v := ?_) (a' := ?_) #[true, true, true, true, true, false, false] rfl rfl (by kernel_rfl) (fun _ _ _ h => h) (Or.inl ⟨by rfl, ?_⟩) ?_ ?_
 rotate_left
 ·intro w'
  go_simp
  try with_reducible rfl
 rotate_left
 ·simp only [Act.put, sq1, sq2, sq3, i64_w, i32_w]
  rfl
 refine take_ (i := 5) (N := some 133) (v := ?_) (a' := ?_) #[true, true, true, true, true, true, false] rfl rfl (by kernel_rfl) (fun _ _ _ h => h) (Or.inl ⟨by rfl, ?_⟩) hHeld ?_ ?_
 rotate_left
 ·intro w' hS
  have x0 := hS
  go_simp
  try with_reducible rfl
 rotate_left
 ·simp only [Act.put, sq1, sq2, sq3, i64_w, i32_w]
  rfl
 refine one_ (i := 6) (N := some 134) #[true, true, true, true, true, true, true] rfl rfl (by kernel_rfl) (by decide) (fun K hK => ?_)
 go_simp
 refine (data_is Hd.out HBd.out HP.out A16 c16 m.f10.f3 (Kd.C_below HM.out.g16 HBd.out) HM.out.l16 (by have := HS.out; have := HL2.out; have := HPL.out; omega)).mono ?_
 rintro e v3 ⟨rfl, h1, h2, h3⟩
 obtain ⟨la3, hla⟩ : ∃ la, la2 ++ (numB m.f10.f3.length ++ m.f10.f3) = la := ⟨_, rfl⟩
 have HL3 := Lib.hid (show la3.length ≤ l0.length + 16481 by rw [← hla]; have h8 := HL2.out; have h9 : ((numB m.f10.f3.length ++ m.f10.f3)).length ≤ 16400 := (by have h7 := HPL.out; have h6 := (numB_len (n := (m.f10.f3.length : Int)) (by unfold isI64; omega)).2; simp only [List.length_append]; omega); simp only [List.length_append] at h9 ⊢; omega)
 have HQ3 := Lib.hid hla
 have H3 := Lib.hid (show IsPen v3 w0.heap.size p la3 by rw [← hla]; simpa only [List.append_assoc] using h1); have HB3 := Lib.hid h2; have HK3 := Lib.hid (HKd.out.trans h3); have HX3 := Lib.hid (HXd.out.keep h3 HNE.out)
 clear h1 h2 h3 hla
 obtain ⟨d0, d1, d2, d3, d4, d5, d6, d7, d8, d9, d10, d11, d12, d13, d14, d15, d16⟩ := HX3.out.cell
 refine hK.out _ _ d16 (fun hHeld => ?_)
 clear hK K
 clear d0 d1 d2 d3 d4 d5 d6 d7 d8 d9 d10 d11 d12 d13 d14 d15 d16
 refine done_ (by kernel_rfl) ?_
 have HF := Lib.hid (show IsPen v3 w0.heap.size p (l0 ++ msgB m) by
  have h1 := H3.out
  rw [← HQ3.out, ← HQ2.out, ← HQ1.out, ← HQ0.out] at h1
  rw [HTB.out]
  simpa only [List.append_assoc, numsB_one] using h1)
 go_wp2_with fail
 go_end0
 exact ⟨rfl, HF.out, HB3.out, HK3.out⟩
set_option maxHeartbeats 4000000 in
theorem penMsg6 {w0 w : World} {p : Nat} {l0 : List Int} (hI : IsPen w w0.heap.size p l0) (hB : Below w0.heap.size w0 w) (hp : w0.heap.size ≤ p) (m : MsgD) {A8 A12 A16 : Option Addr} {c8 c12 c16 : Nat} (hm : MsgC w0 m A8 c8 A12 c12 A16 c16) (ho : OkM m) (hk : m.f0 = 6) (hme : mayE m.f9.f0 m.f9.f1 m.f9.f2 m.f9.f3 = true) (hs : l0.length + 200000000 < 140737488355328) :
  Calls Tryz.prog 50 #[.pointer (some ⟨p, 0, none⟩), .agg #[.int .i64 m.f0, .int .i64 m.f1, .int .i64 m.f2, .int .i64 m.f3, .int .i64 m.f4, .int .i64 m.f5, .int .i64 m.f6, .bool m.f7, .slice A8 m.f8.length c8, .int .i64 m.f9.f0, .int .i64 m.f9.f1, .int .i64 m.f9.f2, .slice A12 m.f9.f3.length c12, .int .i64 m.f10.f0, .int .i64 m.f10.f1, .int .i64 m.f10.f2, .slice A16 m.f10.f3.length c16]] w fun e w' => PenP w0 w p (l0 ++ msgB m) e w' := by
 have HO := Lib.hid ho; have HM := Lib.hid hm; have HP := Lib.hid hp; have HS := Lib.hid hs; have HL0 := Lib.hid (show l0.length ≤ l0.length + 0 from Nat.le_refl _)
 have HNE := Lib.hid (show w.heap.size ≠ p by have := hI.lt; omega)
 have H0 := Lib.hid (hI.below ((Below.refl _ w).alloc (Nat.le_refl _) (.cells #[.int .i64 m.f0, .int .i64 m.f1, .int .i64 m.f2, .int .i64 m.f3, .int .i64 m.f4, .int .i64 m.f5, .int .i64 m.f6, .bool m.f7, .slice A8 m.f8.length c8, .int .i64 m.f9.f0, .int .i64 m.f9.f1, .int .i64 m.f9.f2, .slice A12 m.f9.f3.length c12, .int .i64 m.f10.f0, .int .i64 m.f10.f1, .int .i64 m.f10.f2, .slice A16 m.f10.f3.length c16] 34))); have HB0 := Lib.hid (hB.alloc hB.size (.cells #[.int .i64 m.f0, .int .i64 m.f1, .int .i64 m.f2, .int .i64 m.f3, .int .i64 m.f4, .int .i64 m.f5, .int .i64 m.f6, .bool m.f7, .slice A8 m.f8.length c8, .int .i64 m.f9.f0, .int .i64 m.f9.f1, .int .i64 m.f9.f2, .slice A12 m.f9.f3.length c12, .int .i64 m.f10.f0, .int .i64 m.f10.f1, .int .i64 m.f10.f2, .slice A16 m.f10.f3.length c16] 34)); have HK0 := Lib.hid ((KeepS.refl (fun i => i = p) w).alloc (.cells #[.int .i64 m.f0, .int .i64 m.f1, .int .i64 m.f2, .int .i64 m.f3, .int .i64 m.f4, .int .i64 m.f5, .int .i64 m.f6, .bool m.f7, .slice A8 m.f8.length c8, .int .i64 m.f9.f0, .int .i64 m.f9.f1, .int .i64 m.f9.f2, .slice A12 m.f9.f3.length c12, .int .i64 m.f10.f0, .int .i64 m.f10.f1, .int .i64 m.f10.f2, .slice A16 m.f10.f3.length c16] 34))
 have HX0 := Lib.hid (show MsBox (w.alloc (.cells #[.int .i64 m.f0, .int .i64 m.f1, .int .i64 m.f2, .int .i64 m.f3, .int .i64 m.f4, .int .i64 m.f5, .int .i64 m.f6, .bool m.f7, .slice A8 m.f8.length c8, .int .i64 m.f9.f0, .int .i64 m.f9.f1, .int .i64 m.f9.f2, .slice A12 m.f9.f3.length c12, .int .i64 m.f10.f0, .int .i64 m.f10.f1, .int .i64 m.f10.f2, .slice A16 m.f10.f3.length c16] 34)) w.heap.size m A8 c8 A12 c12 A16 c16 from heap_alloc_new w _)
 have HME := Lib.hid hme
 have q1 : (m.f0 == 1) = false := by rw [hk]; rfl
 have q2 : (m.f0 == 2) = false := by rw [hk]; rfl
 have q3 : (m.f0 == 3) = false := by rw [hk]; rfl
 have q4 : (m.f0 == 4) = false := by rw [hk]; rfl
 have q5 : (m.f0 == 5) = false := by rw [hk]; rfl
 have q6 : (m.f0 == 6) = true := by rw [hk]; rfl
 have HTB := Lib.hid (show msgB m = numsB [m.f0, m.f1, m.f2] ++ (entB m.f9.f0 m.f9.f1 m.f9.f2 m.f9.f3) by unfold msgB tailB; simp only [hk]; rfl)
 clear hI hB hp hs ho hm hk hme
 go_enter Tryz.func50, Tryz.ntmps50
 go_upto_region 1 with fail
 obtain ⟨v0, hv⟩ : ∃ v, w.alloc (.cells #[.int .i64 m.f0, .int .i64 m.f1, .int .i64 m.f2, .int .i64 m.f3, .int .i64 m.f4, .int .i64 m.f5, .int .i64 m.f6, .bool m.f7, .slice A8 m.f8.length c8, .int .i64 m.f9.f0, .int .i64 m.f9.f1, .int .i64 m.f9.f2, .slice A12 m.f9.f3.length c12, .int .i64 m.f10.f0, .int .i64 m.f10.f1, .int .i64 m.f10.f2, .slice A16 m.f10.f3.length c16] 34) = v := ⟨_, rfl⟩
 obtain ⟨b, hb⟩ : ∃ b, w.heap.size = b := ⟨_, rfl⟩
 rw [hv] at H0 HB0 HK0 HX0 ⊢
 rw [hb] at HNE HX0 ⊢
 clear hv hb
 obtain ⟨la0, hl0⟩ : ∃ la, l0 = la := ⟨_, rfl⟩
 have HQ0 := Lib.hid hl0
 have HLZ := Lib.hid (show la0.length ≤ l0.length + 0 by rw [← hl0]; exact Nat.le_refl _)
 rw [hl0] at H0
 clear hl0 HL0
 have HL0 := HLZ
 have HD := Lib.hid (show Below v0.heap.size v0 v0.drew from (Below.refl _ _).drew)
 have Hd := Lib.hid (H0.out.below HD.out); have HBd := Lib.hid HB0.out.drew; have HKd := Lib.hid HK0.out.drew; have HXd := Lib.hid (show MsBox v0.drew b m A8 c8 A12 c12 A16 c16 from HX0.out)
 clear HD
 obtain ⟨d0, d1, d2, d3, d4, d5, d6, d7, d8, d9, d10, d11, d12, d13, d14, d15, d16⟩ := HXd.out.cell
 refine start_ (n := 11) (S := fun w' => w'.cell? ⟨b, 0, none⟩ = some (.int .i64 m.f0) ∧ w'.cell? ⟨b, 1, none⟩ = some (.int .i64 m.f1) ∧ w'.cell? ⟨b, 2, none⟩ = some (.int .i64 m.f2)) (ds := []) #[false, false, false, false, false, false, false, false, false, false, false] (by kernel_rfl) rfl rfl ⟨d0, d1, d2⟩ (fun hHeld => ?_)
 obtain ⟨u, hu⟩ : ∃ u, v0.drew = u := ⟨_, rfl⟩
 rw [hu] at Hd HBd HKd HXd hHeld ⊢
 clear hu d0 d1 d2 d3 d4 d5 d6 d7 d8 d9 d10 d11 d12 d13 d14 d15 d16
 refine pure_ (i := 0) (N := some 6) (v := ?_) (a' := ?_) #[true, false, false, false, false, false, false, false, false, false, false] rfl rfl (by kernel_rfl) (fun _ _ _ h => h) (Or.inl ⟨by rfl, ?_⟩) ?_ ?_
 rotate_left
 ·intro w'
  go_simp
  try with_reducible rfl
 rotate_left
 ·simp only [Act.put, sq1, sq2, sq3, i64_w, i32_w]
  rfl
 refine pure_ (i := 1) (N := some 7) (v := ?_) (a' := ?_) #[true, true, false, false, false, false, false, false, false, false, false] rfl rfl (by kernel_rfl) (fun _ _ _ h => h) (Or.inl ⟨by rfl, ?_⟩) ?_ ?_
 rotate_left
 ·intro w'
  go_simp
  try with_reducible rfl
 rotate_left
 ·simp only [Act.put, sq1, sq2, sq3, i64_w, i32_w]
  rfl
 refine pure_ (i := 2) (N := some 8) (v := ?_) (a' := ?_) #[true, true, true, false, false, false, false, false, false, false, false] rfl rfl (by kernel_rfl) (fun _ _ _ h => h) (Or.inl ⟨by rfl, ?_⟩) ?_ ?_
 rotate_left
 ·intro w'
  go_simp
  try with_reducible rfl
 rotate_left
 ·simp only [Act.put, sq1, sq2, sq3, i64_w, i32_w]
  rfl
 refine pure_ (i := 3) (N := some 9) (v := ?_) (a' := ?_) #[true, true, true, true, false, false, false, false, false, false, false] rfl rfl (by kernel_rfl) (fun _ _ _ h => h) (Or.inl ⟨by rfl, ?_⟩) ?_ ?_
 rotate_left
 ·intro w'
  go_simp
  try with_reducible rfl
 rotate_left
 ·simp only [Act.put, sq1, sq2, sq3, i64_w, i32_w]
  rfl
 refine take_ (i := 4) (N := some 10) (v := ?_) (a' := ?_) #[true, true, true, true, true, false, false, false, false, false, false] rfl rfl (by kernel_rfl) (fun _ _ _ h => h) (Or.inl ⟨by rfl, ?_⟩) hHeld ?_ ?_
 rotate_left
 ·intro w' hS
  obtain ⟨x0, x1, x2⟩ := hS
  go_simp
  try with_reducible rfl
 rotate_left
 ·simp only [Act.put, sq1, sq2, sq3, i64_w, i32_w]
  rfl
 refine pure_ (i := 5) (N := some 11) (v := ?_) (a' := ?_) #[true, true, true, true, true, true, false, false, false, false, false] rfl rfl (by kernel_rfl) (fun _ _ _ h => h) (Or.inl ⟨by rfl, ?_⟩) ?_ ?_
 rotate_left
 ·intro w'
  go_simp
  try with_reducible rfl
 rotate_left
 ·simp only [Act.put, sq1, sq2, sq3, i64_w, i32_w]
  rfl
 refine take_ (i := 6) (N := some 12) (v := ?_) (a' := ?_) #[true, true, true, true, true, true, true, false, false, false, false] rfl rfl (by kernel_rfl) (fun _ _ _ h => h) (Or.inl ⟨by rfl, ?_⟩) hHeld ?_ ?_
 rotate_left
 ·intro w' hS
  obtain ⟨x0, x1, x2⟩ := hS
  go_simp
  try with_reducible rfl
 rotate_left
 ·simp only [Act.put, sq1, sq2, sq3, i64_w, i32_w]
  rfl
 refine pure_ (i := 7) (N := some 13) (v := ?_) (a' := ?_) #[true, true, true, true, true, true, true, true, false, false, false] rfl rfl (by kernel_rfl) (fun _ _ _ h => h) (Or.inl ⟨by rfl, ?_⟩) ?_ ?_
 rotate_left
 ·intro w'
  go_simp
  try with_reducible rfl
 rotate_left
 ·simp only [Act.put, sq1, sq2, sq3, i64_w, i32_w]
  rfl
 refine take_ (i := 8) (N := some 14) (v := ?_) (a' := ?_) #[true, true, true, true, true, true, true, true, true, false, false] rfl rfl (by kernel_rfl) (fun _ _ _ h => h) (Or.inl ⟨by rfl, ?_⟩) hHeld ?_ ?_
 rotate_left
 ·intro w' hS
  obtain ⟨x0, x1, x2⟩ := hS
  go_simp
  try with_reducible rfl
 rotate_left
 ·simp only [Act.put, sq1, sq2, sq3, i64_w, i32_w]
  rfl
 refine one_ (i := 9) (N := some 15) #[true, true, true, true, true, true, true, true, true, true, false] rfl rfl (by kernel_rfl) (by decide) (fun K hK => ?_)
 refine value_ (w1 := ?_) (v := ?_) (by rfl) rfl ?_ ?_
 rotate_left 2
 ·go_simp
  constructor <;> rfl
 have hba := (Below.refl _ u).alloc (Nat.le_refl _) (.cells #[.int .i64 m.f0, .int .i64 m.f1, .int .i64 m.f2] 2)
 have HXe := Lib.hid (show MsBox (u.alloc (.cells #[.int .i64 m.f0, .int .i64 m.f1, .int .i64 m.f2] 2)) b m A8 c8 A12 c12 A16 c16 from HXd.out.below hba); have He := Lib.hid (Hd.out.below hba); have HBe := Lib.hid (HBd.out.alloc HBd.out.size (.cells #[.int .i64 m.f0, .int .i64 m.f1, .int .i64 m.f2] 2)); have HKe := Lib.hid (HKd.out.alloc (.cells #[.int .i64 m.f0, .int .i64 m.f1, .int .i64 m.f2] 2))
 clear hba
 obtain ⟨d0, d1, d2, d3, d4, d5, d6, d7, d8, d9, d10, d11, d12, d13, d14, d15, d16⟩ := HXe.out.cell
 refine hK.out _ _ ⟨d0, d1, d2⟩ (fun hHeld => ?_)
 clear hK K
 clear d0 d1 d2 d3 d4 d5 d6 d7 d8 d9 d10 d11 d12 d13 d14 d15 d16
 refine norm_ (a' := ?_) ?_ ?_
 rotate_left
 ·show Act.put _ (some 15) _ = _
  simp only [Act.put, sq1, sq2, sq3, i64_w, i32_w]
  rfl
 refine one_ (i := 10) (N := some 16) #[true, true, true, true, true, true, true, true, true, true, true] rfl rfl (by kernel_rfl) (by decide) (fun K hK => ?_)
 go_simp
 refine (nums_is He.out HBe.out HP.out _ 3 [m.f0, m.f1, m.f2] (C_lit u [m.f0, m.f1, m.f2] (by simp)) HO.out.h (by have := HS.out; have := HL0.out; simp only [List.length_cons, List.length_nil]; omega)).mono ?_
 rintro e v1 ⟨rfl, h1, h2, h3⟩
 obtain ⟨la1, hla⟩ : ∃ la, la0 ++ numsB [m.f0, m.f1, m.f2] = la := ⟨_, rfl⟩
 have HL1 := Lib.hid (show la1.length ≤ l0.length + 27 by rw [← hla]; have h8 := HL0.out; have h9 : (numsB [m.f0, m.f1, m.f2]).length ≤ 27 := numsB_le HO.out.h _ (by simp); simp only [List.length_append] at h9 ⊢; omega)
 have HQ1 := Lib.hid hla
 have H1 := Lib.hid (show IsPen v1 w0.heap.size p la1 by rw [← hla]; simpa only [List.append_assoc] using h1); have HB1 := Lib.hid h2; have HK1 := Lib.hid (HKe.out.trans h3); have HX1 := Lib.hid (HXe.out.keep h3 HNE.out)
 clear h1 h2 h3 hla
 obtain ⟨d0, d1, d2, d3, d4, d5, d6, d7, d8, d9, d10, d11, d12, d13, d14, d15, d16⟩ := HX1.out.cell
 refine hK.out _ _ ⟨d0, d1, d2⟩ (fun hHeld => ?_)
 clear hK K
 clear d0 d1 d2 d3 d4 d5 d6 d7 d8 d9 d10 d11 d12 d13 d14 d15 d16
 refine done_ (by kernel_rfl) ?_
 obtain ⟨d0, d1, d2, d3, d4, d5, d6, d7, d8, d9, d10, d11, d12, d13, d14, d15, d16⟩ := HX1.out.cell
 clear d0 d1 d2 d3 d4 d5 d6 d7 d8 d9 d10 d11 d12 d13 d14 d15 d16
 obtain ⟨d0, d1, d2, d3, d4, d5, d6, d7, d8, d9, d10, d11, d12, d13, d14, d15, d16⟩ := HX1.out.cell
 go_wp2_with fail
 refine (penEntry_is H1.out HB1.out HP.out m.f9.f0 m.f9.f1 m.f9.f2 A12 c12 m.f9.f3 HM.out.g12 HO.out.e HME.out (by have := HS.out; have := HL1.out; omega)).mono ?_
 rintro e v2 ⟨rfl, h1, h2, h3⟩
 obtain ⟨la2, hla⟩ : ∃ la, la1 ++ entB m.f9.f0 m.f9.f1 m.f9.f2 m.f9.f3 = la := ⟨_, rfl⟩
 have HL2 := Lib.hid (show la2.length ≤ l0.length + 25027 by rw [← hla]; have h8 := HL1.out; have h9 : (entB m.f9.f0 m.f9.f1 m.f9.f2 m.f9.f3).length ≤ 25000 := entB_len HO.out.e HME.out; simp only [List.length_append] at h9 ⊢; omega)
 have HQ2 := Lib.hid hla
 have H2 := Lib.hid (show IsPen v2 w0.heap.size p la2 by rw [← hla]; simpa only [List.append_assoc] using h1); have HB2 := Lib.hid h2; have HK2 := Lib.hid (HK1.out.trans h3); have HX2 := Lib.hid (HX1.out.keep h3 HNE.out)
 clear h1 h2 h3 hla
 clear d0 d1 d2 d3 d4 d5 d6 d7 d8 d9 d10 d11 d12 d13 d14 d15 d16
 have HF := Lib.hid (show IsPen v2 w0.heap.size p (l0 ++ msgB m) by
  have h1 := H2.out
  rw [← HQ2.out, ← HQ1.out, ← HQ0.out] at h1
  rw [HTB.out]
  simpa only [List.append_assoc, numsB_one] using h1)
 go_wp2_with fail
 go_end0
 exact ⟨rfl, HF.out, HB2.out, HK2.out⟩
theorem penMsg_is {w0 w : World} {p : Nat} {l0 : List Int} (hI : IsPen w w0.heap.size p l0) (hB : Below w0.heap.size w0 w) (hp : w0.heap.size ≤ p) (m : MsgD) {A8 A12 A16 : Option Addr} {c8 c12 c16 : Nat} (hm : MsgC w0 m A8 c8 A12 c12 A16 c16) (ho : OkM m) (hy : mayMs m = true) (hs : l0.length + 200000000 < 140737488355328) :
  Calls Tryz.prog 50 #[.pointer (some ⟨p, 0, none⟩), .agg #[.int .i64 m.f0, .int .i64 m.f1, .int .i64 m.f2, .int .i64 m.f3, .int .i64 m.f4, .int .i64 m.f5, .int .i64 m.f6, .bool m.f7, .slice A8 m.f8.length c8, .int .i64 m.f9.f0, .int .i64 m.f9.f1, .int .i64 m.f9.f2, .slice A12 m.f9.f3.length c12, .int .i64 m.f10.f0, .int .i64 m.f10.f1, .int .i64 m.f10.f2, .slice A16 m.f10.f3.length c16]] w fun e w' => PenP w0 w p (l0 ++ msgB m) e w' := by
 unfold mayMs at hy
 simp only [Bool.and_eq_true] at hy
 obtain ⟨_, _, _, hk, _, h8, hl, h5, h6⟩ := hy
 have h : m.f0 = 1 ∨ m.f0 = 2 ∨ m.f0 = 3 ∨ m.f0 = 4 ∨ m.f0 = 5 ∨ m.f0 = 6 := by
  unfold isKind at hk
  simp only [Bool.and_eq_true, decide_eq_true_eq] at hk
  omega
 rcases h with h | h | h | h | h | h
 ·exact penMsg1 hI hB hp m hm ho h hs
 ·exact penMsg2 hI hB hp m hm ho h hs
 ·exact penMsg3 hI hB hp m hm ho h hl (by have := of_decide_eq_true h8; omega) hs
 ·exact penMsg4 hI hB hp m hm ho h hs
 ·rw [h] at h5
  have h7 : mayPt m.f10 = true := by simpa using h5
  unfold mayPt at h7
  simp only [Bool.and_eq_true, decide_eq_true_eq] at h7
  exact penMsg5 hI hB hp m hm ho h (by have := h7.2.2.2; omega) hs
 ·rw [h] at h6
  exact penMsg6 hI hB hp m hm ho h (by simpa using h6) hs
end Go.Proofs.YtgiefblcckikeaaGreat.M
end

section
-- Written by a program of this session's (wip/gprint.py over the kit's printer).
namespace Go.Proofs.YtgiefblcckikeaaGreat.G
open Go.RowKit Go.Proofs.YtgiefblcckikeaaGreatW.PrintWords Go.Proofs.YtgiefblcckikeaaGreatW.PrintLast Go.Proofs.YtgiefblcckikeaaGreatW.PrintMore
attribute [local go_sem] max2_int min2_int max_two min_two max_three min_three max_four min_four   -- for this text's walks alone
def trivetref04_EntryForm.l0 : Nat → List Int → Int → Int → Int → Int → List (S26) → Option (List Int)
 | 0, _, _, _, _, _, _ => none
 | k + 1, x3, x4, x377000, x377001, x377002, x377003 => if x4 < (x377003.length : Int) then (if 0 ≤ x4 then ((trivetref04_TxnForm.f k ((rd_T26 x377003 x4).f0) ((rd_T26 x377003 x4).f1) ((rd_T26 x377003 x4).f2) ((rd_T26 x377003 x4).f3) ((rd_T26 x377003 x4).f4) ((rd_T26 x377003 x4).f5)).bind fun t390 => (if x3.length + t390.length < 140737488355328 then (trivetref04_EntryForm.l0 k (x3 ++ t390) (wrap64 (x4 + 1)) x377000 x377001 x377002 x377003) else (none))) else (none)) else (some x3)
def trivetref04_EntryForm.f (k : Nat) (a0_0 : Int) (a0_1 : Int) (a0_2 : Int) (l0_3 : List (S26)) : Option (List Int) := (trivetref04_num.f k ([] : List Int) (([a0_0] : List Int))).bind fun t380 => (if a0_0 = 1 then ((trivetref04_num.f k t380 (([a0_1, a0_2, (l0_3.length : Int)] : List Int))).bind fun t386 => (trivetref04_EntryForm.l0 k t386 0 a0_0 a0_1 a0_2 l0_3)) else (some t380))
set_option maxHeartbeats 8000000 in
set_option maxRecDepth 100000 in
theorem trivetref04_EntryForm.calls (k : Nat) (a0_0 : Int) (a0_1 : Int) (a0_2 : Int) (A0_3 : Option Addr) (c0_3 : Nat) (l0_3 : List (S26)) (r : List Int) (w : World) (hr0_3 : Kd.C k26 w A0_3 l0_3.length l0_3) (hc0_3 : l0_3.length ≤ c0_3) (h : trivetref04_EntryForm.f k a0_0 a0_1 a0_2 l0_3 = some r) :
  Calls Tryz.prog 49 #[.agg #[.int .i64 a0_0, .int .i64 a0_1, .int .i64 a0_2, .slice A0_3 l0_3.length c0_3]] w fun e w' => ∃ v0_ : Value, e = .returned (v0_) ∧ Kd.R (Kd.int .u8) 5 w' w.heap.size (fun _ => True) v0_ r ∧ Below w.heap.size w w' := by
 have hu29 := Tryz.underlying29
 have hu26 := Tryz.underlying26
 have HR0_3 := Aside0.mk hr0_3
 have HC0_3 := Aside0.mk hc0_3
 clear hr0_3 hc0_3
 have HB := Aside0.mk (Below.refl w.heap.size w)
 have H : ((trivetref04_num.f k ([] : List Int) (([a0_0] : List Int))).bind fun t380 => (if a0_0 = 1 then ((trivetref04_num.f k t380 (([a0_1, a0_2, (l0_3.length : Int)] : List Int))).bind fun t386 => (trivetref04_EntryForm.l0 k t386 0 a0_0 a0_1 a0_2 l0_3)) else (some t380))) = some r := h
 clear h
 obtain ⟨y377, hy377⟩ : ∃ y_ : List Int, y_ = (([a0_0] : List Int)) := ⟨_, rfl⟩
 replace H : ((trivetref04_num.f k ([] : List Int) y377).bind fun t380 => (if a0_0 = 1 then ((trivetref04_num.f k t380 (([a0_1, a0_2, (l0_3.length : Int)] : List Int))).bind fun t386 => (trivetref04_EntryForm.l0 k t386 0 a0_0 a0_1 a0_2 l0_3)) else (some t380))) = some r := by first | (rw [hy377]; with_reducible exact H) | (have H2_ := (Option.bind_some _ _).symm.trans H; rw [hy377]; with_reducible exact H2_) | (have H2_ := (Option.bind_some _ _).symm.trans H; with_reducible exact H2_) | with_reducible exact H | (rw [hy377]; exact H) | exact H
 have Ny377 := Aside0.mk hy377
 clear hy377
 replace H := Option.bind_eq_some_iff.mp H
 obtain ⟨t380, A20, H⟩ := H
 replace H : (if a0_0 = 1 then ((trivetref04_num.f k t380 (([a0_1, a0_2, (l0_3.length : Int)] : List Int))).bind fun t386 => (trivetref04_EntryForm.l0 k t386 0 a0_0 a0_1 a0_2 l0_3)) else (some t380)) = some r := H
 have A2 := Aside0.mk A20
 clear A20
 by_cases c3 : a0_0 = 1
 ·rw [if_pos c3] at H
  have c3b0 : (a0_0 == 1) = true := beq_iff_eq.mpr c3
  have c3b1 : (a0_0 != 1) = false := bne_eq_false_iff_eq.mpr c3
  clear c3
  obtain ⟨y383, hy383⟩ : ∃ y_ : List Int, y_ = (([a0_1, a0_2, (l0_3.length : Int)] : List Int)) := ⟨_, rfl⟩
  replace H : ((trivetref04_num.f k t380 y383).bind fun t386 => (trivetref04_EntryForm.l0 k t386 0 a0_0 a0_1 a0_2 l0_3)) = some r := by first | (rw [hy383]; with_reducible exact H) | (have H2_ := (Option.bind_some _ _).symm.trans H; rw [hy383]; with_reducible exact H2_) | (have H2_ := (Option.bind_some _ _).symm.trans H; with_reducible exact H2_) | with_reducible exact H | (rw [hy383]; exact H) | exact H
  have Ny383 := Aside0.mk hy383
  clear hy383
  replace H := Option.bind_eq_some_iff.mp H
  obtain ⟨t386, A40, H⟩ := H
  replace H : (trivetref04_EntryForm.l0 k t386 0 a0_0 a0_1 a0_2 l0_3) = some r := H
  have A4 := Aside0.mk A40
  clear A40
  have H' := Aside0.mk H
  clear H
  go_enter Tryz.func49, Tryz.ntmps49
  go_wp2_with (first | ((with_reducible refine gate_dst (N := 1) rfl ?_); refine box_event ?hg (N := 1) ?hd (cs := #[.int .i64 a0_0, .int .i64 a0_1, .int .i64 a0_2, .slice A0_3 l0_3.length c0_3]) (t := 29) ?hr ?_; (case hd => rfl); (case hg => rfl); (case hr => first | (go_simp; done) | (go_simp; rfl)); intro gb376 hg w5 hbox hb; have n0_ := Aside0.mk (below_step (stB HB.out) hb); have n1_ := Aside0.mk (hbox); have n2_ := Aside0.mk ((by rw [hg]; exact (below_size (stB HB.out)) : w.heap.size ≤ gb376)); have n3_ := Aside0.mk ((by rw [hg]; exact (below_size (stB HB.out)) : w.heap.size ≤ gb376)); clear HB; have HB := n0_; have BK376 := n1_; have GW376 := n2_; have GE376 := n3_; clear n0_ n1_ n2_ n3_; clear hb hbox hg; obtain ⟨hcz6_0, hcz6_1, hcz6_2, hcz6_3⟩ := bc4 BK376.out; obtain ⟨hfz6_0, hfz6_1, hfz6_2, hfz6_3⟩ := bf4 BK376.out) | ((with_reducible refine gate_dst (N := 7) rfl ?_); refine Kd.R_lit (Kd.int .i64) _ 2 ?hg (N := 7) ?hd (xs := ([a0_0] : List Int)) (inner := [.int .i64 a0_0]) (ok := fun _ => True) (okp := fun _ => True) ?hr ?hp (fun _ hk => hk) trivial (Below.refl _ _) (Nat.le_refl _) (by simp) ?_; (case hd => rfl); (case hg => rfl); (case hr => first | (go_simp; done) | (go_simp; rfl)); (case hp => exact (Reps.one (show Kd.M (Kd.int .i64) _ _ _ a0_0 [.int .i64 a0_0] from rfl) (Reps.none _ _))); intro v378 w7 ho8 hb hg_ hnew_; clear hg_ hnew_; (first | rw [← Ny377.out] at ho8 | (simp only [Int.reduceToNat] at ho8; rw [← Ny377.out] at ho8)); have n0_ := Aside0.mk (Kd.R_lower ho8 (below_size (by repeat (first | (with_reducible first | exact HB.out | apply below_alloc | apply pw_below_drewN | apply below_drew1 | refine below_set ?_ GE376.out) | exact HB.out)))); have n1_ := Aside0.mk (blk_below (g := gb376) (o := .cells #[.int .i64 a0_0, .int .i64 a0_1, .int .i64 a0_2, .slice A0_3 l0_3.length c0_3] 29 (0, 0)) (stK BK376.out) hb); have n2_ := Aside0.mk (below_step (by repeat (first | (with_reducible first | exact HB.out | apply below_alloc | apply pw_below_drewN | apply below_drew1 | refine below_set ?_ GE376.out) | exact HB.out)) hb); clear BK376; clear HB; have HO379 := n0_; have BK376 := n1_; have HB := n2_; clear n0_ n1_ n2_; clear hb ho8; obtain ⟨Ao9, co9, eo9⟩ := Kd.R_slice HO379.out; subst eo9) | ((with_reducible refine gate_callee (f := 97) rfl ?_); refine goesL_ (some 8) rfl rfl Tryz.func97 (by kernel_rfl) rfl #[.slice none 0 0, .slice Ao9 y377.length co9] rfl (by (try simp only [List.map_toArray, List.map_cons, List.map_nil]); first | done | rfl | (simp only [List.length_drop, List.length_take]; rfl)) ?_; (refine (trivetref04_num.calls k _ _ ([] : List Int) _ _ y377 t380 _ ?side1 ?side2 ?side3 ?side4 A2.out).mono ?_); (case side1 => exact Kd.C_nil _ _); (case side2 => exact Nat.le_refl _); (case side3 => exact stC ((Kd.R_reads' HO379.out).2.2)); (case side4 => exact (Kd.R_reads' HO379.out).2.1); rintro e w10 ⟨v381, rfl, ho0, hb⟩; refine ⟨_, rfl, ?_⟩; have n0_ := Aside0.mk (Kd.R_below (stR HO379.out) hb); have n1_ := Aside0.mk (Kd.R_lower ho0 (below_size (by repeat (first | (with_reducible first | exact HB.out | apply below_alloc | apply pw_below_drewN | apply below_drew1 | refine below_set ?_ GE376.out) | exact HB.out)))); have n2_ := Aside0.mk (blk_below (g := gb376) (o := .cells #[.int .i64 a0_0, .int .i64 a0_1, .int .i64 a0_2, .slice A0_3 l0_3.length c0_3] 29 (0, 0)) (stK BK376.out) hb); have n3_ := Aside0.mk (below_step (by repeat (first | (with_reducible first | exact HB.out | apply below_alloc | apply pw_below_drewN | apply below_drew1 | refine below_set ?_ GE376.out) | exact HB.out)) hb); clear HO379; clear BK376; clear HB; have HO379 := n0_; have HO382 := n1_; have BK376 := n2_; have HB := n3_; clear n0_ n1_ n2_ n3_; (try clear hb); (try clear hb2); (try clear hk); (try clear hi); (try clear ho0); obtain ⟨hcz11_0, hcz11_1, hcz11_2, hcz11_3⟩ := bc4 BK376.out; obtain ⟨hfz11_0, hfz11_1, hfz11_2, hfz11_3⟩ := bf4 BK376.out) | ((with_reducible refine gate_dst (N := 21) rfl ?_); refine Kd.R_lit (Kd.int .i64) _ 2 ?hg (N := 21) ?hd (xs := ([a0_1, a0_2, (l0_3.length : Int)] : List Int)) (inner := [.int .i64 a0_1, .int .i64 a0_2, .int .i64 (l0_3.length : Int)]) (ok := fun _ => True) (okp := fun _ => True) ?hr ?hp (fun _ hk => hk) trivial (Below.refl _ _) (Nat.le_refl _) (by simp) ?_; (case hd => rfl); (case hg => rfl); (case hr => first | (go_simp; done) | (go_simp; rfl)); (case hp => exact (Reps.one (show Kd.M (Kd.int .i64) _ _ _ a0_1 [.int .i64 a0_1] from rfl) (Reps.one (show Kd.M (Kd.int .i64) _ _ _ a0_2 [.int .i64 a0_2] from rfl) (Reps.one (show Kd.M (Kd.int .i64) _ _ _ (l0_3.length : Int) [.int .i64 (l0_3.length : Int)] from rfl) (Reps.none _ _))))); intro v384 w12 ho13 hb hg_ hnew_; clear hg_ hnew_; (first | rw [← Ny383.out] at ho13 | (simp only [Int.reduceToNat] at ho13; rw [← Ny383.out] at ho13)); have n0_ := Aside0.mk (Kd.R_elder' (stR HO379.out) (Kd.R_base ho13) hb); have n1_ := Aside0.mk (Kd.R_below (stR HO382.out) hb); have n2_ := Aside0.mk (Kd.R_lower (Kd.R_new' ho13 (Kd.R_lt (stR HO379.out))) (below_size (by repeat (first | (with_reducible first | exact HB.out | apply below_alloc | apply pw_below_drewN | apply below_drew1 | refine below_set ?_ GE376.out) | exact HB.out)))); have n3_ := Aside0.mk (blk_below (g := gb376) (o := .cells #[.int .i64 a0_0, .int .i64 a0_1, .int .i64 a0_2, .slice A0_3 l0_3.length c0_3] 29 (0, 0)) (stK BK376.out) hb); have n4_ := Aside0.mk (below_step (by repeat (first | (with_reducible first | exact HB.out | apply below_alloc | apply pw_below_drewN | apply below_drew1 | refine below_set ?_ GE376.out) | exact HB.out)) hb); clear HO379; clear HO382; clear BK376; clear HB; have HO379 := n0_; have HO382 := n1_; have HO385 := n2_; have BK376 := n3_; have HB := n4_; clear n0_ n1_ n2_ n3_ n4_; clear hb ho13; obtain ⟨Ao14, co14, eo14⟩ := Kd.R_slice HO382.out; subst eo14; obtain ⟨Ao15, co15, eo15⟩ := Kd.R_slice HO385.out; subst eo15) | ((with_reducible refine gate_callee (f := 97) rfl ?_); refine goesL_ (some 22) rfl rfl Tryz.func97 (by kernel_rfl) rfl #[.slice Ao14 t380.length co14, .slice Ao15 y383.length co15] rfl (by (try simp only [List.map_toArray, List.map_cons, List.map_nil]); first | done | rfl | (simp only [List.length_drop, List.length_take]; rfl)) ?_; (with_reducible refine (trivetref04_num.calls k _ _ t380 _ _ y383 t386 _ ?side1 ?side2 ?side3 ?side4 A4.out).mono ?_); (case side1 => exact stC ((Kd.R_reads' HO382.out).2.2)); (case side2 => exact (Kd.R_reads' HO382.out).2.1); (case side3 => exact stC ((Kd.R_reads' HO385.out).2.2)); (case side4 => exact (Kd.R_reads' HO385.out).2.1); rintro e w16 ⟨v387, rfl, ho0, hb⟩; refine ⟨_, rfl, ?_⟩; have n0_ := Aside0.mk (Kd.R_below (stR HO379.out) hb); have n1_ := Aside0.mk (Kd.R_elder' (stR HO382.out) (Kd.R_base ho0) hb); have n2_ := Aside0.mk (Kd.R_below (stR HO385.out) hb); have n3_ := Aside0.mk (Kd.R_lower (Kd.R_new' ho0 (Kd.R_lt (stR HO382.out))) (below_size (by repeat (first | (with_reducible first | exact HB.out | apply below_alloc | apply pw_below_drewN | apply below_drew1 | refine below_set ?_ GE376.out) | exact HB.out)))); have n4_ := Aside0.mk (blk_below (g := gb376) (o := .cells #[.int .i64 a0_0, .int .i64 a0_1, .int .i64 a0_2, .slice A0_3 l0_3.length c0_3] 29 (0, 0)) (stK BK376.out) hb); have n5_ := Aside0.mk (below_step (by repeat (first | (with_reducible first | exact HB.out | apply below_alloc | apply pw_below_drewN | apply below_drew1 | refine below_set ?_ GE376.out) | exact HB.out)) hb); clear HO379; clear HO382; clear HO385; clear BK376; clear HB; have HO379 := n0_; have HO382 := n1_; have HO385 := n2_; have HO388 := n3_; have BK376 := n4_; have HB := n5_; clear n0_ n1_ n2_ n3_ n4_ n5_; (try clear hb); (try clear hb2); (try clear hk); (try clear hi); (try clear ho0)))
  go_loopg [3, 4] k (fun kq v3 v4 w' => ∃ (x3_1 : List Int) (x4_1 : Int), v4 = .int .i64 x4_1 ∧ Aside0 (trivetref04_EntryForm.l0 kq x3_1 x4_1 a0_0 a0_1 a0_2 l0_3 = some r) ∧ Aside0 (kq ≤ k) ∧ Aside0 (Kd.R (Kd.int .u8) 5 w' w.heap.size (fun _ => True) v3 x3_1) ∧ Aside0 (w'.heap[gb376]? = some (.cells #[.int .i64 a0_0, .int .i64 a0_1, .int .i64 a0_2, (.slice A0_3 l0_3.length c0_3)] 29 (0, 0))) ∧ Aside0 (Below w.heap.size w w'))
  case atStart => exact ⟨(t386), (0), (by first | rfl | (simp; done) | (simp [*]; done)), H', ⟨Nat.le_refl _⟩, ⟨by (with_reducible repeat (first|apply Kd.R_alloc | apply Kd.R_drewN | apply Kd.R_drew)); exact Kd.R_mono HO388.out (fun _ hk => trivial)⟩, ⟨stK BK376.out⟩, ⟨by repeat (first | (with_reducible first | exact HB.out | apply below_alloc | apply pw_below_drewN | apply below_drew1 | refine below_set ?_ GE376.out) | exact HB.out)⟩⟩
  case round =>
   clear H'
   try clear p2
   try clear c3
   try clear c3b0
   try clear c3b1
   try clear c4
   try clear c9
   try clear hcz11_0
   try clear hcz11_1
   try clear hcz11_2
   try clear hcz11_3
   try clear hcz6_0
   try clear hcz6_1
   try clear hcz6_2
   try clear hcz6_3
   try clear hfz11_0
   try clear hfz11_1
   try clear hfz11_2
   try clear hfz11_3
   try clear hfz6_0
   try clear hfz6_1
   try clear hfz6_2
   try clear hfz6_3
   obtain ⟨x3_1, x4_1, rfl, HA, HK1, HO_3, BK376, HB⟩ := hrel
   cases gk with
   | zero => exact absurd HA.out (by simp [trivetref04_EntryForm.l0])
   | succ k1 =>
    have H := HA.out
    clear HA
    simp only [trivetref04_EntryForm.l0] at H
    by_cases c17 : x4_1 < (l0_3.length : Int)
    ·rw [if_pos c17] at H
     have c17b0 : decide (x4_1 < (l0_3.length : Int)) = true := decide_eq_true c17
     clear c17
     by_cases c18 : 0 ≤ x4_1
     ·rw [if_pos c18] at H
      have c18b0 : decide (0 ≤ x4_1) = true := decide_eq_true c18
      clear c18
      replace H := Option.bind_eq_some_iff.mp H
      obtain ⟨t390, A190, H⟩ := H
      replace H : (if x3_1.length + t390.length < 140737488355328 then (trivetref04_EntryForm.l0 k1 (x3_1 ++ t390) (wrap64 (x4_1 + 1)) a0_0 a0_1 a0_2 l0_3) else (none)) = some r := H
      have A19 := Aside0.mk A190
      clear A190
      by_cases c20 : x3_1.length + t390.length < 140737488355328
      ·rw [if_pos c20] at H
       have LMc20 := Aside0.mk c20
       clear c20
       obtain ⟨y393, hy393⟩ : ∃ y_ : List Int, y_ = (x3_1 ++ t390) := ⟨_, rfl⟩
       replace H : (trivetref04_EntryForm.l0 k1 y393 (wrap64 (x4_1 + 1)) a0_0 a0_1 a0_2 l0_3) = some r := by first | (rw [hy393]; with_reducible exact H) | (have H2_ := (Option.bind_some _ _).symm.trans H; rw [hy393]; with_reducible exact H2_) | (have H2_ := (Option.bind_some _ _).symm.trans H; with_reducible exact H2_) | with_reducible exact H | (rw [hy393]; exact H) | exact H
       have Ny393 := Aside0.mk hy393
       clear hy393
       have H' := Aside0.mk H
       clear H
       obtain ⟨hcz21_0, hcz21_1, hcz21_2, hcz21_3⟩ := bc4 BK376.out
       obtain ⟨hfz21_0, hfz21_1, hfz21_2, hfz21_3⟩ := bf4 BK376.out
       have p389 : 0 ≤ (x4_1 : Int) := of_decide_eq_true (by first | (with_reducible assumption) | assumption)
       have q389 : x4_1 < (l0_3.length : Int) := of_decide_eq_true (by first | (with_reducible assumption) | assumption)
       obtain ⟨ad389, A389_2, c389_2, A389_3, c389_3, A389_4, c389_4, A389_5, c389_5, e389, hx389_0, hx389_1, hx389_2, hx389_3, hx389_4, hx389_5, hl389_2, hi389_2, hl389_3, hi389_3, hl389_4, hi389_4, hl389_5, hi389_5⟩ := at_T26 HR0_3.out x4_1 p389 q389
       cases e389
       replace hx389_0 := cu HB.out hx389_0
       replace hx389_1 := cu HB.out hx389_1
       replace hx389_2 := cu HB.out hx389_2
       replace hx389_3 := cu HB.out hx389_3
       replace hx389_4 := cu HB.out hx389_4
       replace hx389_5 := cu HB.out hx389_5
       have HR389_2 := Aside0.mk hi389_2
       have HC389_2 := Aside0.mk hl389_2
       clear hi389_2 hl389_2
       have HR389_3 := Aside0.mk hi389_3
       have HC389_3 := Aside0.mk hl389_3
       clear hi389_3 hl389_3
       have HR389_4 := Aside0.mk hi389_4
       have HC389_4 := Aside0.mk hl389_4
       clear hi389_4 hl389_4
       have HR389_5 := Aside0.mk hi389_5
       have HC389_5 := Aside0.mk hl389_5
       clear hi389_5 hl389_5
       replace p389 := eq_true p389
       replace q389 := eq_true q389
       go_wp2_with (first | ((with_reducible refine gate_callee (f := 98) rfl ?_); refine goesL_ (some 36) rfl rfl Tryz.func98 (by kernel_rfl) rfl #[.agg #[.int .i64 ((rd_T26 l0_3 x4_1).f0), .int .i64 ((rd_T26 l0_3 x4_1).f1), .slice A389_2 ((rd_T26 l0_3 x4_1).f2).length c389_2, .slice A389_3 ((rd_T26 l0_3 x4_1).f3).length c389_3, .slice A389_4 ((rd_T26 l0_3 x4_1).f4).length c389_4, .slice A389_5 ((rd_T26 l0_3 x4_1).f5).length c389_5]] rfl (by (try simp only [List.map_toArray, List.map_cons, List.map_nil]); first | done | rfl | (simp only [List.length_drop, List.length_take]; rfl)) ?_; (with_reducible refine (trivetref04_TxnForm.calls k1 ((rd_T26 l0_3 x4_1).f0) ((rd_T26 l0_3 x4_1).f1) _ _ ((rd_T26 l0_3 x4_1).f2) _ _ ((rd_T26 l0_3 x4_1).f3) _ _ ((rd_T26 l0_3 x4_1).f4) _ _ ((rd_T26 l0_3 x4_1).f5) t390 _ ?side1 ?side2 ?side3 ?side4 ?side5 ?side6 ?side7 ?side8 A19.out).mono ?_); (case side1 => exact stC (Kd.C_below HR389_2.out HB.out)); (case side2 => exact HC389_2.out); (case side3 => exact stC (Kd.C_below HR389_3.out HB.out)); (case side4 => exact HC389_3.out); (case side5 => exact stC (Kd.C_below HR389_4.out HB.out)); (case side6 => exact HC389_4.out); (case side7 => exact stC (Kd.C_below HR389_5.out HB.out)); (case side8 => exact HC389_5.out); rintro e w22 ⟨v391, rfl, ho0, hb⟩; refine ⟨_, rfl, ?_⟩; have n0_ := Aside0.mk (Kd.R_elder' (stR HO_3.out) (Kd.R_base ho0) hb); have n1_ := Aside0.mk (Kd.R_lower (Kd.R_new' ho0 (Kd.R_lt (stR HO_3.out))) (below_size (by repeat (first | (with_reducible first | exact HB.out | apply below_alloc | apply pw_below_drewN | apply below_drew1 | refine below_set ?_ GE376.out) | exact HB.out)))); have n2_ := Aside0.mk (blk_below (g := gb376) (o := .cells #[.int .i64 a0_0, .int .i64 a0_1, .int .i64 a0_2, .slice (some ad389) l0_3.length c0_3] 29 (0, 0)) (stK BK376.out) hb); have n3_ := Aside0.mk (below_step (by repeat (first | (with_reducible first | exact HB.out | apply below_alloc | apply pw_below_drewN | apply below_drew1 | refine below_set ?_ GE376.out) | exact HB.out)) hb); clear HO_3; clear BK376; clear HB; have HO_3 := n0_; have HO392 := n1_; have BK376 := n2_; have HB := n3_; clear n0_ n1_ n2_ n3_; (try clear hb); (try clear hb2); (try clear hk); (try clear hi); (try clear ho0); obtain ⟨Ao24, co24, eo24⟩ := Kd.R_slice HO392.out; subst eo24) | ((with_reducible refine gate_builtin (b := .append) (xs := #[.tmp 30, .tmp 36]) rfl ?_); at_builtin; refine Kd.R_append_rows (Kd.int .u8) (w0 := w) w.heap.size rfl (.tmp 30) (.tmp 36) 23 5 (.int .u8 0) 1 rfl Tryz.underlying23 info5 rfl (by decide) (by omega) u3 x3_1 t390 _ _ _ (fun k_ => some k_ ≠ (.slice Ao24 t390.length co24 : Value).ownBlock) (fun _ => False) rfl rfl ?aO ?aR (fun _ _ h => h) (fun _ h => h.elim) ?aF ?aB ?aS ?aL ?_; (case aR => exact stC ((Kd.R_reads' HO392.out).2.2)); (case aB => exact (by repeat (first | (with_reducible first | exact HB.out | apply below_alloc | apply pw_below_drewN | apply below_drew1 | refine below_set ?_ GE376.out) | exact HB.out))); (case aF => exact (fun k_ hk => Kd.fresh' (Kd.R_lt (stR HO392.out)) k_ hk)); (case aO => exact (by (with_reducible repeat (first|apply Kd.R_alloc | apply Kd.R_drewN | apply Kd.R_drew)); exact Kd.R_mono HO_3.out (fun _ hk => hk.2))); (case aS => exact (below_size (by repeat (first | (with_reducible first | exact HB.out | apply below_alloc | apply pw_below_drewN | apply below_drew1 | refine below_set ?_ GE376.out) | exact HB.out)))); (case aL => have := LMc20.out; omega); intro v394 w23 ho hb hg hat; rw [← Ny393.out] at ho; have n0_ := Aside0.mk (blk_grown (g := gb376) (o := .cells #[.int .i64 a0_0, .int .i64 a0_1, .int .i64 a0_2, .slice (some ad389) l0_3.length c0_3] 29 (0, 0)) (stK BK376.out) hg (Kd.R_ne HO_3.out BK376.out (by decide))); have n1_ := Aside0.mk (Kd.R_after (ok := (fun _ => True)) (stR HO392.out) hg hat); have n2_ := Aside0.mk (hb); have n3_ := Aside0.mk (ho); clear BK376; clear HO392; clear HB; clear HO_3; have BK376 := n0_; have HO392 := n1_; have HB := n2_; have HO395 := n3_; clear n0_ n1_ n2_ n3_; clear ho hb hg hat))
       go_roundg k1
       case measure => have := HK1.out; omega
       case rel => exact ⟨(y393), (wrap64 (x4_1 + 1)), (by first | rfl | (simp; done) | (simp [*]; done)), H', ⟨by have := HK1.out; omega⟩, ⟨by (with_reducible repeat (first|apply Kd.R_alloc | apply Kd.R_drewN | apply Kd.R_drew)); exact Kd.R_mono HO395.out (fun _ hk => trivial)⟩, ⟨stK BK376.out⟩, ⟨by repeat (first | (with_reducible first | exact HB.out | apply below_alloc | apply pw_below_drewN | apply below_drew1 | refine below_set ?_ GE376.out) | exact HB.out)⟩⟩
      ·rw [if_neg c20] at H
       exact absurd H (by simp)
     ·rw [if_neg c18] at H
      exact absurd H (by simp)
    ·rw [if_neg c17] at H
     have c17b0 : decide (x4_1 < (l0_3.length : Int)) = false := decide_eq_false c17
     clear c17
     obtain rfl := Option.some.inj H
     obtain ⟨hcz25_0, hcz25_1, hcz25_2, hcz25_3⟩ := bc4 BK376.out
     obtain ⟨hfz25_0, hfz25_1, hfz25_2, hfz25_3⟩ := bf4 BK376.out
     go_wp2
     go_ret
     exact ⟨_, by first | rfl | (simp [errW_none, errW_some] <;> rfl) | (simp [*, errW_none, errW_some] <;> rfl), stR HO_3.out, by repeat (first | (with_reducible first | exact HB.out | apply below_alloc | apply pw_below_drewN | apply below_drew1 | refine below_set ?_ GE376.out) | exact HB.out)⟩
 ·rw [if_neg c3] at H
  have c3b0 : (a0_0 == 1) = false := beq_eq_false_iff_ne.mpr c3
  have c3b1 : (a0_0 != 1) = true := bne_iff_ne.mpr c3
  obtain rfl := Option.some.inj H
  go_enter Tryz.func49, Tryz.ntmps49
  go_wp2_with (first | ((with_reducible refine gate_dst (N := 1) rfl ?_); refine box_event ?hg (N := 1) ?hd (cs := #[.int .i64 a0_0, .int .i64 a0_1, .int .i64 a0_2, .slice A0_3 l0_3.length c0_3]) (t := 29) ?hr ?_; (case hd => rfl); (case hg => rfl); (case hr => first | (go_simp; done) | (go_simp; rfl)); intro gb376 hg w26 hbox hb; have n0_ := Aside0.mk (below_step (stB HB.out) hb); have n1_ := Aside0.mk (hbox); have n2_ := Aside0.mk ((by rw [hg]; exact (below_size (stB HB.out)) : w.heap.size ≤ gb376)); have n3_ := Aside0.mk ((by rw [hg]; exact (below_size (stB HB.out)) : w.heap.size ≤ gb376)); clear HB; have HB := n0_; have BK376 := n1_; have GW376 := n2_; have GE376 := n3_; clear n0_ n1_ n2_ n3_; clear hb hbox hg; obtain ⟨hcz27_0, hcz27_1, hcz27_2, hcz27_3⟩ := bc4 BK376.out; obtain ⟨hfz27_0, hfz27_1, hfz27_2, hfz27_3⟩ := bf4 BK376.out) | ((with_reducible refine gate_dst (N := 7) rfl ?_); refine Kd.R_lit (Kd.int .i64) _ 2 ?hg (N := 7) ?hd (xs := ([a0_0] : List Int)) (inner := [.int .i64 a0_0]) (ok := fun _ => True) (okp := fun _ => True) ?hr ?hp (fun _ hk => hk) trivial (Below.refl _ _) (Nat.le_refl _) (by simp) ?_; (case hd => rfl); (case hg => rfl); (case hr => first | (go_simp; done) | (go_simp; rfl)); (case hp => exact (Reps.one (show Kd.M (Kd.int .i64) _ _ _ a0_0 [.int .i64 a0_0] from rfl) (Reps.none _ _))); intro v378 w28 ho29 hb hg_ hnew_; clear hg_ hnew_; (first | rw [← Ny377.out] at ho29 | (simp only [Int.reduceToNat] at ho29; rw [← Ny377.out] at ho29)); have n0_ := Aside0.mk (Kd.R_lower ho29 (below_size (by repeat (first | (with_reducible first | exact HB.out | apply below_alloc | apply pw_below_drewN | apply below_drew1 | refine below_set ?_ GE376.out) | exact HB.out)))); have n1_ := Aside0.mk (blk_below (g := gb376) (o := .cells #[.int .i64 a0_0, .int .i64 a0_1, .int .i64 a0_2, .slice A0_3 l0_3.length c0_3] 29 (0, 0)) (stK BK376.out) hb); have n2_ := Aside0.mk (below_step (by repeat (first | (with_reducible first | exact HB.out | apply below_alloc | apply pw_below_drewN | apply below_drew1 | refine below_set ?_ GE376.out) | exact HB.out)) hb); clear BK376; clear HB; have HO379 := n0_; have BK376 := n1_; have HB := n2_; clear n0_ n1_ n2_; clear hb ho29; obtain ⟨Ao30, co30, eo30⟩ := Kd.R_slice HO379.out; subst eo30) | ((with_reducible refine gate_callee (f := 97) rfl ?_); refine goesL_ (some 8) rfl rfl Tryz.func97 (by kernel_rfl) rfl #[.slice none 0 0, .slice Ao30 y377.length co30] rfl (by (try simp only [List.map_toArray, List.map_cons, List.map_nil]); first | done | rfl | (simp only [List.length_drop, List.length_take]; rfl)) ?_; (refine (trivetref04_num.calls k _ _ ([] : List Int) _ _ y377 t380 _ ?side1 ?side2 ?side3 ?side4 A2.out).mono ?_); (case side1 => exact Kd.C_nil _ _); (case side2 => exact Nat.le_refl _); (case side3 => exact stC ((Kd.R_reads' HO379.out).2.2)); (case side4 => exact (Kd.R_reads' HO379.out).2.1); rintro e w31 ⟨v381, rfl, ho0, hb⟩; refine ⟨_, rfl, ?_⟩; have n0_ := Aside0.mk (Kd.R_below (stR HO379.out) hb); have n1_ := Aside0.mk (Kd.R_lower ho0 (below_size (by repeat (first | (with_reducible first | exact HB.out | apply below_alloc | apply pw_below_drewN | apply below_drew1 | refine below_set ?_ GE376.out) | exact HB.out)))); have n2_ := Aside0.mk (blk_below (g := gb376) (o := .cells #[.int .i64 a0_0, .int .i64 a0_1, .int .i64 a0_2, .slice A0_3 l0_3.length c0_3] 29 (0, 0)) (stK BK376.out) hb); have n3_ := Aside0.mk (below_step (by repeat (first | (with_reducible first | exact HB.out | apply below_alloc | apply pw_below_drewN | apply below_drew1 | refine below_set ?_ GE376.out) | exact HB.out)) hb); clear HO379; clear BK376; clear HB; have HO379 := n0_; have HO382 := n1_; have BK376 := n2_; have HB := n3_; clear n0_ n1_ n2_ n3_; (try clear hb); (try clear hb2); (try clear hk); (try clear hi); (try clear ho0); obtain ⟨hcz32_0, hcz32_1, hcz32_2, hcz32_3⟩ := bc4 BK376.out; obtain ⟨hfz32_0, hfz32_1, hfz32_2, hfz32_3⟩ := bf4 BK376.out))
  go_ret
  exact ⟨_, by first | rfl | (simp [errW_none, errW_some] <;> rfl) | (simp [*, errW_none, errW_some] <;> rfl), stR HO382.out, by repeat (first | (with_reducible first | exact HB.out | apply below_alloc | apply pw_below_drewN | apply below_drew1 | refine below_set ?_ GE376.out) | exact HB.out)⟩
def trivetref04_Entry.f (k : Nat) (a0_0 : Int) (a0_1 : Int) (a0_2 : Int) (l0_3 : List (S26)) : Option (List Int × Int) := (trivetref04_MayEntry.f k a0_0 a0_1 a0_2 l0_3).bind fun t397 => (if t397 = true then ((trivetref04_EntryForm.f k a0_0 a0_1 a0_2 l0_3).bind fun t398 => (if (t398.length : Int) > 1048576 then (some (([] : List Int), 3)) else (some (t398, 0)))) else (some (([] : List Int), 40)))
set_option maxHeartbeats 8000000 in
set_option maxRecDepth 100000 in
theorem trivetref04_Entry.calls (k : Nat) (a0_0 : Int) (a0_1 : Int) (a0_2 : Int) (A0_3 : Option Addr) (c0_3 : Nat) (l0_3 : List (S26)) (r1 : List Int) (r2 : Int) (w : World) (hr0_3 : Kd.C k26 w A0_3 l0_3.length l0_3) (hc0_3 : l0_3.length ≤ c0_3) (h : trivetref04_Entry.f k a0_0 a0_1 a0_2 l0_3 = some (r1, r2)) :
  Calls Tryz.prog 19 #[.agg #[.int .i64 a0_0, .int .i64 a0_1, .int .i64 a0_2, .slice A0_3 l0_3.length c0_3]] w fun e w' => ∃ v0_ : Value, e = .returned (.tuple #[v0_, .int .i64 r2]) ∧ Kd.R (Kd.int .u8) 5 w' w.heap.size (fun _ => True) v0_ r1 ∧ Below w.heap.size w w' := by
 have hu29 := Tryz.underlying29
 have HR0_3 := Aside0.mk hr0_3
 have HC0_3 := Aside0.mk hc0_3
 clear hr0_3 hc0_3
 have HB := Aside0.mk (Below.refl w.heap.size w)
 have H : ((trivetref04_MayEntry.f k a0_0 a0_1 a0_2 l0_3).bind fun t397 => (if t397 = true then ((trivetref04_EntryForm.f k a0_0 a0_1 a0_2 l0_3).bind fun t398 => (if (t398.length : Int) > 1048576 then (some (([] : List Int), 3)) else (some (t398, 0)))) else (some (([] : List Int), 40)))) = some (r1, r2) := h
 clear h
 replace H := Option.bind_eq_some_iff.mp H
 obtain ⟨t397, A20, H⟩ := H
 replace H : (if t397 = true then ((trivetref04_EntryForm.f k a0_0 a0_1 a0_2 l0_3).bind fun t398 => (if (t398.length : Int) > 1048576 then (some (([] : List Int), 3)) else (some (t398, 0)))) else (some (([] : List Int), 40))) = some (r1, r2) := H
 have A2 := Aside0.mk A20
 clear A20
 by_cases c3 : t397 = true
 ·subst c3
  have H1 : ((trivetref04_EntryForm.f k a0_0 a0_1 a0_2 l0_3).bind fun t398 => (if (t398.length : Int) > 1048576 then (some (([] : List Int), 3)) else (some (t398, 0)))) = some (r1, r2) := by rw [if_pos rfl] at H; exact H
  clear H
  have H := H1
  clear H1
  replace H := Option.bind_eq_some_iff.mp H
  obtain ⟨t398, A40, H⟩ := H
  replace H : (if (t398.length : Int) > 1048576 then (some (([] : List Int), 3)) else (some (t398, 0))) = some (r1, r2) := H
  have A4 := Aside0.mk A40
  clear A40
  by_cases c5 : (t398.length : Int) > 1048576
  ·rw [if_pos c5] at H
   have c5b0 : decide (1048576 < (t398.length : Int)) = true := decide_eq_true c5
   have c5b1 : decide (1048576 < t398.length) = true := decide_eq_true (by omega)
   clear c5
   simp only [Option.some.injEq, Prod.mk.injEq] at H
   obtain ⟨rfl, rfl⟩ := H
   go_enter Tryz.func19, Tryz.ntmps19
   go_wp2_with (first | ((with_reducible refine gate_dst (N := 1) rfl ?_); refine box_event ?hg (N := 1) ?hd (cs := #[.int .i64 a0_0, .int .i64 a0_1, .int .i64 a0_2, .slice A0_3 l0_3.length c0_3]) (t := 29) ?hr ?_; (case hd => rfl); (case hg => rfl); (case hr => first | (go_simp; done) | (go_simp; rfl)); intro gb396 hg w6 hbox hb; have n0_ := Aside0.mk (below_step (stB HB.out) hb); have n1_ := Aside0.mk (hbox); have n2_ := Aside0.mk ((by rw [hg]; exact (below_size (stB HB.out)) : w.heap.size ≤ gb396)); have n3_ := Aside0.mk ((by rw [hg]; exact (below_size (stB HB.out)) : w.heap.size ≤ gb396)); clear HB; have HB := n0_; have BK396 := n1_; have GW396 := n2_; have GE396 := n3_; clear n0_ n1_ n2_ n3_; clear hb hbox hg; obtain ⟨hcz7_0, hcz7_1, hcz7_2, hcz7_3⟩ := bc4 BK396.out; obtain ⟨hfz7_0, hfz7_1, hfz7_2, hfz7_3⟩ := bf4 BK396.out) | ((with_reducible refine gate_callee (f := 29) rfl ?_); refine goesL_ (some 6) rfl rfl Tryz.func29 (by kernel_rfl) rfl #[.agg #[.int .i64 a0_0, .int .i64 a0_1, .int .i64 a0_2, .slice A0_3 l0_3.length c0_3]] rfl (by (try simp only [List.map_toArray, List.map_cons, List.map_nil]); first | done | rfl | (simp only [List.length_drop, List.length_take]; rfl)) ?_; (with_reducible refine (trivetref04_MayEntry.calls k a0_0 a0_1 a0_2 _ _ l0_3 true _ ?side1 ?side2 A2.out).mono ?_); (case side1 => exact stC (Kd.C_below HR0_3.out HB.out)); (case side2 => exact HC0_3.out); rintro e w8 ⟨rfl, hb⟩; refine ⟨_, rfl, ?_⟩; have n0_ := Aside0.mk (blk_below (g := gb396) (o := .cells #[.int .i64 a0_0, .int .i64 a0_1, .int .i64 a0_2, .slice A0_3 l0_3.length c0_3] 29 (0, 0)) (stK BK396.out) hb); have n1_ := Aside0.mk (below_step (by repeat (first | (with_reducible first | exact HB.out | apply below_alloc | apply pw_below_drewN | apply below_drew1 | refine below_set ?_ GE396.out) | exact HB.out)) hb); clear BK396; clear HB; have BK396 := n0_; have HB := n1_; clear n0_ n1_; (try clear hb); (try clear hb2); (try clear hk); (try clear hi); obtain ⟨hcz9_0, hcz9_1, hcz9_2, hcz9_3⟩ := bc4 BK396.out; obtain ⟨hfz9_0, hfz9_1, hfz9_2, hfz9_3⟩ := bf4 BK396.out) | ((with_reducible refine gate_callee (f := 49) rfl ?_); refine goesL_ (some 9) rfl rfl Tryz.func49 (by kernel_rfl) rfl #[.agg #[.int .i64 a0_0, .int .i64 a0_1, .int .i64 a0_2, .slice A0_3 l0_3.length c0_3]] rfl (by (try simp only [List.map_toArray, List.map_cons, List.map_nil]); first | done | rfl | (simp only [List.length_drop, List.length_take]; rfl)) ?_; (with_reducible refine (trivetref04_EntryForm.calls k a0_0 a0_1 a0_2 _ _ l0_3 t398 _ ?side1 ?side2 A4.out).mono ?_); (case side1 => exact stC (Kd.C_below HR0_3.out HB.out)); (case side2 => exact HC0_3.out); rintro e w10 ⟨v399, rfl, ho0, hb⟩; refine ⟨_, rfl, ?_⟩; have n0_ := Aside0.mk (Kd.R_lower ho0 (below_size (by repeat (first | (with_reducible first | exact HB.out | apply below_alloc | apply pw_below_drewN | apply below_drew1 | refine below_set ?_ GE396.out) | exact HB.out)))); have n1_ := Aside0.mk (blk_below (g := gb396) (o := .cells #[.int .i64 a0_0, .int .i64 a0_1, .int .i64 a0_2, .slice A0_3 l0_3.length c0_3] 29 (0, 0)) (stK BK396.out) hb); have n2_ := Aside0.mk (below_step (by repeat (first | (with_reducible first | exact HB.out | apply below_alloc | apply pw_below_drewN | apply below_drew1 | refine below_set ?_ GE396.out) | exact HB.out)) hb); clear BK396; clear HB; have HO400 := n0_; have BK396 := n1_; have HB := n2_; clear n0_ n1_ n2_; (try clear hb); (try clear hb2); (try clear hk); (try clear hi); (try clear ho0); obtain ⟨Ao11, co11, eo11⟩ := Kd.R_slice HO400.out; subst eo11))
   go_ret2
   exact ⟨_, by first | rfl | (simp [errW_none, errW_some] <;> rfl) | (simp [*, errW_none, errW_some] <;> rfl), by first | exact Kd.R_nil _ _ _ _ _ | exact Kd.N_nil _ _ _ _ _ | exact Kd.V_nil _ _ _ _ _ | exact Kd.Q_nil _ _ _ _ _ | exact Kd.S_nil _ _ _ _ _, by repeat (first | (with_reducible first | exact HB.out | apply below_alloc | apply pw_below_drewN | apply below_drew1 | refine below_set ?_ GE396.out) | exact HB.out)⟩
  ·rw [if_neg c5] at H
   have c5b0 : decide (1048576 < (t398.length : Int)) = false := decide_eq_false c5
   have c5b1 : decide (1048576 < t398.length) = false := decide_eq_false (by omega)
   clear c5
   simp only [Option.some.injEq, Prod.mk.injEq] at H
   obtain ⟨rfl, rfl⟩ := H
   go_enter Tryz.func19, Tryz.ntmps19
   go_wp2_with (first | ((with_reducible refine gate_dst (N := 1) rfl ?_); refine box_event ?hg (N := 1) ?hd (cs := #[.int .i64 a0_0, .int .i64 a0_1, .int .i64 a0_2, .slice A0_3 l0_3.length c0_3]) (t := 29) ?hr ?_; (case hd => rfl); (case hg => rfl); (case hr => first | (go_simp; done) | (go_simp; rfl)); intro gb396 hg w12 hbox hb; have n0_ := Aside0.mk (below_step (stB HB.out) hb); have n1_ := Aside0.mk (hbox); have n2_ := Aside0.mk ((by rw [hg]; exact (below_size (stB HB.out)) : w.heap.size ≤ gb396)); have n3_ := Aside0.mk ((by rw [hg]; exact (below_size (stB HB.out)) : w.heap.size ≤ gb396)); clear HB; have HB := n0_; have BK396 := n1_; have GW396 := n2_; have GE396 := n3_; clear n0_ n1_ n2_ n3_; clear hb hbox hg; obtain ⟨hcz13_0, hcz13_1, hcz13_2, hcz13_3⟩ := bc4 BK396.out; obtain ⟨hfz13_0, hfz13_1, hfz13_2, hfz13_3⟩ := bf4 BK396.out) | ((with_reducible refine gate_callee (f := 29) rfl ?_); refine goesL_ (some 6) rfl rfl Tryz.func29 (by kernel_rfl) rfl #[.agg #[.int .i64 a0_0, .int .i64 a0_1, .int .i64 a0_2, .slice A0_3 l0_3.length c0_3]] rfl (by (try simp only [List.map_toArray, List.map_cons, List.map_nil]); first | done | rfl | (simp only [List.length_drop, List.length_take]; rfl)) ?_; (with_reducible refine (trivetref04_MayEntry.calls k a0_0 a0_1 a0_2 _ _ l0_3 true _ ?side1 ?side2 A2.out).mono ?_); (case side1 => exact stC (Kd.C_below HR0_3.out HB.out)); (case side2 => exact HC0_3.out); rintro e w14 ⟨rfl, hb⟩; refine ⟨_, rfl, ?_⟩; have n0_ := Aside0.mk (blk_below (g := gb396) (o := .cells #[.int .i64 a0_0, .int .i64 a0_1, .int .i64 a0_2, .slice A0_3 l0_3.length c0_3] 29 (0, 0)) (stK BK396.out) hb); have n1_ := Aside0.mk (below_step (by repeat (first | (with_reducible first | exact HB.out | apply below_alloc | apply pw_below_drewN | apply below_drew1 | refine below_set ?_ GE396.out) | exact HB.out)) hb); clear BK396; clear HB; have BK396 := n0_; have HB := n1_; clear n0_ n1_; (try clear hb); (try clear hb2); (try clear hk); (try clear hi); obtain ⟨hcz15_0, hcz15_1, hcz15_2, hcz15_3⟩ := bc4 BK396.out; obtain ⟨hfz15_0, hfz15_1, hfz15_2, hfz15_3⟩ := bf4 BK396.out) | ((with_reducible refine gate_callee (f := 49) rfl ?_); refine goesL_ (some 9) rfl rfl Tryz.func49 (by kernel_rfl) rfl #[.agg #[.int .i64 a0_0, .int .i64 a0_1, .int .i64 a0_2, .slice A0_3 l0_3.length c0_3]] rfl (by (try simp only [List.map_toArray, List.map_cons, List.map_nil]); first | done | rfl | (simp only [List.length_drop, List.length_take]; rfl)) ?_; (with_reducible refine (trivetref04_EntryForm.calls k a0_0 a0_1 a0_2 _ _ l0_3 t398 _ ?side1 ?side2 A4.out).mono ?_); (case side1 => exact stC (Kd.C_below HR0_3.out HB.out)); (case side2 => exact HC0_3.out); rintro e w16 ⟨v399, rfl, ho0, hb⟩; refine ⟨_, rfl, ?_⟩; have n0_ := Aside0.mk (Kd.R_lower ho0 (below_size (by repeat (first | (with_reducible first | exact HB.out | apply below_alloc | apply pw_below_drewN | apply below_drew1 | refine below_set ?_ GE396.out) | exact HB.out)))); have n1_ := Aside0.mk (blk_below (g := gb396) (o := .cells #[.int .i64 a0_0, .int .i64 a0_1, .int .i64 a0_2, .slice A0_3 l0_3.length c0_3] 29 (0, 0)) (stK BK396.out) hb); have n2_ := Aside0.mk (below_step (by repeat (first | (with_reducible first | exact HB.out | apply below_alloc | apply pw_below_drewN | apply below_drew1 | refine below_set ?_ GE396.out) | exact HB.out)) hb); clear BK396; clear HB; have HO400 := n0_; have BK396 := n1_; have HB := n2_; clear n0_ n1_ n2_; (try clear hb); (try clear hb2); (try clear hk); (try clear hi); (try clear ho0); obtain ⟨Ao17, co17, eo17⟩ := Kd.R_slice HO400.out; subst eo17))
   go_ret2
   exact ⟨_, by first | rfl | (simp [errW_none, errW_some] <;> rfl) | (simp [*, errW_none, errW_some] <;> rfl), stR HO400.out, by repeat (first | (with_reducible first | exact HB.out | apply below_alloc | apply pw_below_drewN | apply below_drew1 | refine below_set ?_ GE396.out) | exact HB.out)⟩
 ·replace c3 := Bool.eq_false_iff.mpr c3
  subst c3
  have H1 : (some (([] : List Int), 40)) = some (r1, r2) := by rw [if_neg (show ¬ (false = true) by decide)] at H; exact H
  clear H
  have H := H1
  clear H1
  simp only [Option.some.injEq, Prod.mk.injEq] at H
  obtain ⟨rfl, rfl⟩ := H
  go_enter Tryz.func19, Tryz.ntmps19
  go_wp2_with (first | ((with_reducible refine gate_dst (N := 1) rfl ?_); refine box_event ?hg (N := 1) ?hd (cs := #[.int .i64 a0_0, .int .i64 a0_1, .int .i64 a0_2, .slice A0_3 l0_3.length c0_3]) (t := 29) ?hr ?_; (case hd => rfl); (case hg => rfl); (case hr => first | (go_simp; done) | (go_simp; rfl)); intro gb396 hg w18 hbox hb; have n0_ := Aside0.mk (below_step (stB HB.out) hb); have n1_ := Aside0.mk (hbox); have n2_ := Aside0.mk ((by rw [hg]; exact (below_size (stB HB.out)) : w.heap.size ≤ gb396)); have n3_ := Aside0.mk ((by rw [hg]; exact (below_size (stB HB.out)) : w.heap.size ≤ gb396)); clear HB; have HB := n0_; have BK396 := n1_; have GW396 := n2_; have GE396 := n3_; clear n0_ n1_ n2_ n3_; clear hb hbox hg; obtain ⟨hcz19_0, hcz19_1, hcz19_2, hcz19_3⟩ := bc4 BK396.out; obtain ⟨hfz19_0, hfz19_1, hfz19_2, hfz19_3⟩ := bf4 BK396.out) | ((with_reducible refine gate_callee (f := 29) rfl ?_); refine goesL_ (some 6) rfl rfl Tryz.func29 (by kernel_rfl) rfl #[.agg #[.int .i64 a0_0, .int .i64 a0_1, .int .i64 a0_2, .slice A0_3 l0_3.length c0_3]] rfl (by (try simp only [List.map_toArray, List.map_cons, List.map_nil]); first | done | rfl | (simp only [List.length_drop, List.length_take]; rfl)) ?_; (with_reducible refine (trivetref04_MayEntry.calls k a0_0 a0_1 a0_2 _ _ l0_3 false _ ?side1 ?side2 A2.out).mono ?_); (case side1 => exact stC (Kd.C_below HR0_3.out HB.out)); (case side2 => exact HC0_3.out); rintro e w20 ⟨rfl, hb⟩; refine ⟨_, rfl, ?_⟩; have n0_ := Aside0.mk (blk_below (g := gb396) (o := .cells #[.int .i64 a0_0, .int .i64 a0_1, .int .i64 a0_2, .slice A0_3 l0_3.length c0_3] 29 (0, 0)) (stK BK396.out) hb); have n1_ := Aside0.mk (below_step (by repeat (first | (with_reducible first | exact HB.out | apply below_alloc | apply pw_below_drewN | apply below_drew1 | refine below_set ?_ GE396.out) | exact HB.out)) hb); clear BK396; clear HB; have BK396 := n0_; have HB := n1_; clear n0_ n1_; (try clear hb); (try clear hb2); (try clear hk); (try clear hi)))
  go_ret2
  exact ⟨_, by first | rfl | (simp [errW_none, errW_some] <;> rfl) | (simp [*, errW_none, errW_some] <;> rfl), by first | exact Kd.R_nil _ _ _ _ _ | exact Kd.N_nil _ _ _ _ _ | exact Kd.V_nil _ _ _ _ _ | exact Kd.Q_nil _ _ _ _ _ | exact Kd.S_nil _ _ _ _ _, by repeat (first | (with_reducible first | exact HB.out | apply below_alloc | apply pw_below_drewN | apply below_drew1 | refine below_set ?_ GE396.out) | exact HB.out)⟩
end Go.Proofs.YtgiefblcckikeaaGreat.G
end

section
/- Contract of trivet/shape.eight: all eight bytes of a number (what append has not used is noughts). -/
namespace Go.Proofs.YtgiefblcckikeaaGreat.M
open Go.RowKit Go.Proofs.YtgiefblcckikeaaGreatW.PrintWords Go.Proofs.YtgiefblcckikeaaGreatW.PrintLast Go.Proofs.YtgiefblcckikeaaGreatW.PrintMore
def OwnZ (w : World) (base : Nat) (v : Value) (l : List Int) : Prop :=
 (v = .slice none 0 0 ∧ l = []) ∨ ∃ g cap cur, v = .slice (some ⟨g, 0, none⟩) l.length cap ∧ base ≤ g ∧ w.heap[g]? = some (.cells cur 5 (0, 0)) ∧ l.length ≤ cap ∧ cap ≤ maxLen ∧
  cur.toList = l.map (Value.int .u8) ++ List.replicate (cap - l.length) (.int .u8 0)
theorem OwnZ.own {w : World} {base : Nat} {v : Value} {l : List Int} (h : OwnZ w base v l) : w.ownsRow base 5 1 v l.length (l.map (Value.int .u8)) := by
 refine ⟨by simp, ?_⟩
 rcases h with ⟨rfl, rfl⟩ | ⟨g, cap, cur, rfl, h1, h2, h3, h4, h5⟩
 ·exact .inl ⟨rfl, rfl⟩
 ·refine .inr ⟨g, cap, cur, rfl, h1, h2, h3, h4, ?_, ?_⟩
  ·rw [← Array.length_toList, h5]; simp; omega
  ·rw [h5, Nat.mul_one, List.take_left' (by simp)]
theorem zeroCells_toList (n : Nat) : (Builtin.zeroCells #[Value.int .u8 0] n).toList = List.replicate n (.int .u8 0) := by
 refine List.ext_getElem (by simp [Builtin.zeroCells]) (fun i h1 h2 => ?_)
 simp [Builtin.zeroCells, Nat.mod_one]
theorem run_append_z (W : World) (base : Nat) (ty : TypeId) (v : Value) (l : List Int) (h : OwnZ W base v l) (hb : base ≤ W.heap.size) (a : Addr) (c : Nat) (x : Int) (hx : W.cell? a = some (.int .u8 x)) (hl : l.length + 1 ≤ 140737488355328) :
  ∃ v' w', (Builtin.append_ #[23, 23] ty #[v, .slice (some a) 1 c]).run Tryz.prog W = .ok v' w' ∧ OwnZ w' base v' (l ++ [x]) ∧ W.grownBy w' v.ownBlock := by
 obtain ⟨i0, hi, hz0, hz1, hz2⟩ := info_parts infoU8
 have hnews : ∀ j u, [Value.int .u8 x][j]? = some u → W.cell? (a.add j) = some u := by
  intro j u hu
  cases j with
  | zero => simp at hu; subst hu; rw [Addr.add_zero']; exact hx
  | succ j => simp at hu
 have hm : (Value.int .u8 0).cells = #[Value.int .u8 0] := rfl
 rcases h with ⟨rfl, rfl⟩ | ⟨g, cap, cur, rfl, h1, h2, h3, h4, h5⟩
 ·have hr := run_append_nil (P := Tryz.prog) W 23 ty 5 i0 (.int .u8 0) Tryz.underlying23 hi hz0 a 1 c [.int .u8 x] (by rw [hz1]; rfl) hnews (by omega) (by omega) (by rw [hz2]; decide)
  refine ⟨_, _, hr, .inr ⟨W.heap.size, _, _, rfl, hb, heap_alloc_new W.drew _, grownCap_ge W _ _ _, grownCap_le_maxLen W _ _ _ (by decide), ?_⟩, ⟨rfl, rfl, rfl, by simp, fun k hk _ => heap_alloc_old W.drew _ hk⟩⟩
  rw [hm, Array.toList_append, zeroCells_toList]
  rfl
 ·have hlen : cur.size = cap := by rw [← Array.length_toList, h5]; simp; omega
  by_cases hroom : l.length + 1 ≤ cap
  ·have hr := run_append_room (P := Tryz.prog) W 23 ty 5 i0 Tryz.underlying23 hi g l.length cap cur h2 a 1 c [.int .u8 x] (by rw [hz1]; rfl) hnews (by simp [Value.oneCell']) hroom (by rw [hz1, hlen]; simpa using hroom)
   refine ⟨_, _, hr, .inr ⟨g, cap, _, by simp, h1, setRow_heap W g cur _ 5 _ h2, by simpa using hroom, h4, ?_⟩, ⟨rfl, rfl, rfl, by simp, fun k hk hne => setRow_other W g k _ (fun e => hne (by simp [Value.ownBlock, e]))⟩⟩
   rw [hz1, h5, Nat.mul_one]
   rw [List.take_left' (by simp), List.drop_append, List.drop_eq_nil_of_le (by simp)]
   simp only [List.nil_append, List.map_append, List.map_cons, List.map_nil, List.length_append, List.length_map, List.length_cons, List.length_nil, List.drop_replicate]
   congr 2
   omega
  ·have holds : ∀ j u, (l.map (Value.int .u8))[j]? = some u → W.cell? ((⟨g, 0, none⟩ : Addr).add j) = some u := (OwnZ.own (.inr ⟨g, cap, cur, rfl, h1, h2, h3, h4, h5⟩)).cells (g := g) rfl
   have hr := run_append_grow (P := Tryz.prog) W 23 ty 5 i0 (.int .u8 0) Tryz.underlying23 hi hz0 ⟨g, 0, none⟩ l.length cap (l.map (Value.int .u8)) (by rw [hz1]; simp) holds a 1 c [.int .u8 x] (by rw [hz1]; rfl) hnews (by omega) (by omega) (by rw [hz2]; exact growslice_fits (by omega) (by omega))
   refine ⟨_, _, hr, .inr ⟨W.heap.size, grownCap W (l.length + 1) cap 5, _, by simp, hb, heap_alloc_new W.drew _, by simpa using grownCap_ge W (l.length + 1) cap 5, grownCap_le_maxLen W _ _ _ (by unfold maxLen; omega), ?_⟩, ⟨rfl, rfl, rfl, by simp, fun k hk _ => heap_alloc_old W.drew _ hk⟩⟩
   rw [hm]
   simp only [Array.toList_append, zeroCells_toList]
   simp
theorem OwnZ.alloc {W : World} {base : Nat} {v : Value} {l : List Int} (h : OwnZ W base v l) (o : Obj) : OwnZ (W.alloc o) base v l := by
 rcases h with h | ⟨g, cap, cur, h0, h1, h2, h3⟩
 ·exact .inl h
 ·exact .inr ⟨g, cap, cur, h0, h1, (heap_alloc_old W o (Array.getElem?_eq_some_iff.1 h2).1).trans h2, h3⟩
theorem wpList_append_z {ops : Array Oper} {rest : List Oper} {o : Oper} {a : Act} {Q : Exit → Act → World → Prop} {W : World} (base : Nat) (hgd : o.guard = none) (s x : Operand)
  (ho : o.op = .call { callee := .builtin .append, args := #[s, x], argTypes := #[23, 23] })
  (v : Value) (l : List Int) (y : Int) (hs : a.eval s = v) (hx : a.eval x = .slice (some ⟨W.heap.size, 0, none⟩) 1 1) (HO : OwnZ W base v l) (hb : base ≤ W.heap.size) (hl : l.length + 1 ≤ 140737488355328)
  (h : ∀ v' w', OwnZ w' base v' (l ++ [y]) → (W.alloc (.cells #[.int .u8 y] 5)).grownBy w' v.ownBlock → wpList Tryz.prog ops Q rest (a.put o.dst v') w') :
  wpList Tryz.prog ops Q (o :: rest) a (W.alloc (.cells #[.int .u8 y] 5)) := by
 refine wpList_plain hgd fun _ hK => ?_
 obtain ⟨v', w', hr, h2, h3⟩ := run_append_z (W.alloc (.cells #[.int .u8 y] 5)) base o.type v l (HO.alloc _) (by simp; omega) ⟨W.heap.size, 0, none⟩ 1 y (by simp) hl
 unfold Oper.wp execOp
 simp only [ho, resolve, invoke, builtin, Sem.run_bind, Sem.run_pure, Result.andThen_ok, List.map_toArray, List.map_cons, List.map_nil, hs, hx, hr]
 exact hK _ _ (h v' w' h2 h3)
theorem OwnZ.form {W : World} {base : Nat} {v : Value} {l : List Int} (h : OwnZ W base v l) : ∃ A n c, v = .slice A n c := by
 rcases h with ⟨rfl, _⟩ | ⟨g, cap, cur, rfl, _⟩
 ·exact ⟨_, _, _, rfl⟩
 ·exact ⟨_, _, _, rfl⟩
theorem OwnZ.lo {W : World} {base : Nat} {v : Value} {l : List Int} (h : OwnZ W base v l) (k : Nat) (hk : v.ownBlock = some k) : base ≤ k := by
 rcases h with ⟨rfl, _⟩ | ⟨g, cap, cur, rfl, h1, _⟩
 ·simp [Value.ownBlock] at hk
 ·simp [Value.ownBlock] at hk; omega
set_option maxHeartbeats 1000000 in
theorem low_z (n : Nat) (hn : n < 256 ^ 8) (w : World) :
  Calls Tryz.prog 152 #[.int .u64 (n : Int)] w fun e w' => ∃ v, e = .returned v ∧ OwnZ w' w.heap.size v (lowB n) ∧ Below w.heap.size w w' := by
 have HN := Aside0.mk (lowB_len n 8 hn)
 have HNN := Aside0.mk hn
 clear hn
 go_enter Tryz.func152, Tryz.ntmps152
 go_wp2
 go_loopw [0, 3] (fun u v wr => ∃ (m : Nat) (acc : List Int) (Av : Option Addr) (nv cv : Nat), u = .int .u64 (m : Int) ∧ v = .slice Av nv cv ∧ Aside0 (m < 256 ^ 8) ∧ Aside0 (Below w.heap.size w wr) ∧ Aside0 (acc ++ lowB m = lowB n) ∧ Aside0 (OwnZ wr w.heap.size (.slice Av nv cv) acc)) (fun u _ _ => (intOf u).toNat)
 case atStart => exact ⟨n, [], none, 0, 0, rfl, rfl, ⟨HNN.out⟩, ⟨Below.refl _ _⟩, ⟨rfl⟩, ⟨.inl ⟨rfl, rfl⟩⟩⟩
 case round =>
  obtain ⟨m, acc, Av, nv, cv, rfl, rfl, hm, HB, HA, HO⟩ := hrel
  by_cases h0 : 0 < m
  ·have hacc : acc.length + 1 ≤ 8 := by
    have h1 := HN.out
    rw [← HA.out, lowB_pos (by omega)] at h1
    simp at h1; omega
   have h0' : (0 : Int) < (m : Int) := by omega
   go_wp2_with ((with_reducible refine gate_builtin (b := .append) (xs := #[.tmp 8, .tmp 11]) rfl ?_); at_builtin; refine wpList_append_z w.heap.size rfl (.tmp 8) (.tmp 11) rfl _ acc ((m : Int) % 256) rfl rfl HO.out HB.out.size (by omega) ?_; intro v' w' ho hg)
   go_roundw
   case rel =>
    obtain ⟨A2, n2, c2, rfl⟩ := ho.form
    refine ⟨m / 256, acc ++ [(m : Int) % 256], A2, n2, c2, by go_num, rfl, ⟨by have := hm.out; omega⟩, ⟨(HB.out.alloc HB.out.size _).grown hg (by have := HB.out.size; simp; omega) (fun k hk => HO.out.lo k hk)⟩, ⟨?_⟩, ⟨ho⟩⟩
    rw [← HA.out, lowB_pos (n := m) (by omega)]
    simp
   case measure => simp [intOf]; omega
  ·obtain rfl : m = 0 := by omega
   have HZ := Aside0.mk (show acc = lowB n by have := HA.out; rw [lowB_zero, List.append_nil] at this; exact this)
   go_wp2
   go_ret
   exact ⟨_, rfl, by rw [← HZ.out]; exact HO.out, HB.out⟩
def pad8 (l : List Int) : List Int := l ++ List.replicate (8 - l.length) 0
theorem OwnZ.full {w : World} {base g n cap : Nat} {l : List Int} (h : OwnZ w base (.slice (some ⟨g, 0, none⟩) n cap) l) (m : Nat) (hm : l.length ≤ m) (hc : m ≤ cap) : Own w base (.slice (some ⟨g, 0, none⟩) m cap) (l ++ List.replicate (m - l.length) 0) := by
 rcases h with ⟨h, _⟩ | ⟨g', cap', cur, h0, h1, h2, h3, h4, h5⟩
 ·cases h
 ·simp only [Value.slice.injEq, Option.some.injEq, Addr.mk.injEq, and_true] at h0
  obtain ⟨rfl, _, rfl⟩ := h0
  refine Kd.R_of_own (enc := Value.int .u8) ?_ (fun _ _ => trivial)
  have hl : (l ++ List.replicate (m - l.length) (0 : Int)).length = m := by simp; omega
  refine ⟨by simp [encs], .inr ⟨g, cap, cur, by rw [hl], h1, h2, by omega, h4, ?_, ?_⟩⟩
  ·rw [← Array.length_toList, h5]; simp; omega
  ·rw [h5, hl, Nat.mul_one, List.take_append, List.length_map, List.take_of_length_le (by simp; omega), List.take_replicate]
   simp only [encs, List.map_append, List.map_replicate]
   congr 2
   omega
theorem own_form8 {w : World} {base : Nat} {v : Value} {l : List Int} (h : Own w base v l) (hl : l.length = 8) : ∃ g cap, v = .slice (some ⟨g, 0, none⟩) 8 cap ∧ 8 ≤ cap := by
 obtain ⟨A, c, e, hc, _⟩ := Kd.R_reads h
 obtain ⟨g, cap, e2, _⟩ := Kd.R_form h (by omega)
 rw [hl] at e2 hc e
 refine ⟨g, cap, e2, ?_⟩
 rw [e] at e2
 injection e2 with _ _ e3
 omega
theorem own_form8' {w : World} {base : Nat} {v : Value} {l : List Int} (h : Own w base v (l ++ List.replicate 8 0)) (hl : l.length ≤ 8) : ∃ g cap, v = .slice (some ⟨g, 0, none⟩) (l.length + 8) cap ∧ l.length + 8 ≤ cap ∧ Own w base (.slice (some ⟨g, 0, none⟩) 8 cap) (pad8 l) := by
 obtain ⟨A, c, e, hc, _⟩ := Kd.R_reads h
 obtain ⟨g, cap, e2, _⟩ := Kd.R_form h (by simp)
 have hlen : (l ++ List.replicate 8 (0 : Int)).length = l.length + 8 := by simp
 rw [hlen] at e2 hc e
 subst e2
 injection e with e1 _ e3
 refine ⟨g, cap, rfl, by omega, ?_⟩
 have ht := Kd.R_take (m := 8) h (by omega)
 have hp : (l ++ List.replicate 8 (0 : Int)).take 8 = pad8 l := by
  unfold pad8
  rw [List.take_append, List.take_of_length_le hl, List.take_replicate]
  congr 2; omega
 rw [hp] at ht
 exact ht
set_option maxHeartbeats 1000000 in
theorem grow8 (v : Value) (l : List Int) (base : Nat) (w : World) (h : OwnZ w base v l) (hl : l.length ≤ 8) (hb : base ≤ w.heap.size) :
  Calls Tryz.prog 151 #[v, .int .i64 8] w fun e w' => ∃ g cap, e = .returned (.slice (some ⟨g, 0, none⟩) l.length cap) ∧ 8 ≤ cap ∧ Own w' base (.slice (some ⟨g, 0, none⟩) 8 cap) (pad8 l) ∧ Below base w w' := by
 rcases h with ⟨rfl, rfl⟩ | ⟨g, cap, cur, rfl, h1, h2, h3, h4, h5⟩
 ·go_enter Tryz.func151, Tryz.ntmps151
  go_wp2_with ((with_reducible refine gate_builtin (b := .append) (xs := #[.tmp 20, .tmp 21]) rfl ?_); at_builtin; refine Kd.R_append_zeros (Kd.int .u8) (w0 := w) base rfl (.tmp 20) (.tmp 21) 23 3 5 (.int .u8 0) 1 rfl Tryz.underlying23 Tryz.underlying3 infoU8 rfl (by decide) (by decide) (.slice none 0 0) [] 0 8 (fun _ => True) rfl rfl rfl (fun _ _ => trivial) (Kd.R_nil _ _ _ _ _) (by decide) (Below.refl _ _) hb (by decide) ?_; intro v1 w1 ho hbl _ _; obtain ⟨g, cap, hv1, hc1⟩ := own_form8 ho (by simp); subst hv1)
  go_ret
  exact ⟨g, cap, rfl, hc1, ho, hbl⟩
 ·have HZ : OwnZ w base (.slice (some ⟨g, 0, none⟩) l.length cap) l := .inr ⟨g, cap, cur, rfl, h1, h2, h3, h4, h5⟩
  have hcm : (cap : Int) ≤ 9223372036854775807 := by unfold maxLen at h4; omega
  clear h1 h2 h4 h5
  by_cases hr : 8 ≤ cap - l.length
  ·have HO := Aside0.mk (HZ.full 8 (by omega) (by omega))
   have hr' : ¬ (0 : Int) < 8 - ((cap : Int) - (l.length : Int)) := by omega
   have hr2 : decide ((0 : Int) < 8 - ((cap : Int) - (l.length : Int))) = false := decide_eq_false hr'
   clear HZ
   go_enter Tryz.func151, Tryz.ntmps151
   go_wp2
   go_ret
   exact ⟨g, cap, rfl, by omega, HO.out, Below.refl _ _⟩
  ·have HO := Aside0.mk (HZ.full cap (by omega) (Nat.le_refl _))
   have hr' : (0 : Int) < 8 - ((cap : Int) - (l.length : Int)) := by omega
   have HE := Aside0.mk (show l ++ List.replicate (cap - l.length) (0 : Int) ++ List.replicate (8 - ((cap : Int) - (l.length : Int))).toNat 0 = l ++ List.replicate 8 0 by
    rw [List.append_assoc, List.replicate_append_replicate]; congr 2; omega)
   have hcl : (l ++ List.replicate (cap - l.length) (0 : Int)).length = cap := by simp; omega
   have HCL := Aside0.mk hcl
   clear HZ hcl
   go_enter Tryz.func151, Tryz.ntmps151
   go_wp2_with ((with_reducible refine gate_builtin (b := .append) (xs := #[.tmp 20, .tmp 21]) rfl ?_); at_builtin; refine Kd.R_append_zeros (Kd.int .u8) (w0 := w) base rfl (.tmp 20) (.tmp 21) 23 3 5 (.int .u8 0) 1 rfl Tryz.underlying23 Tryz.underlying3 infoU8 rfl (by decide) (by decide) _ _ 0 (8 - ((cap : Int) - (l.length : Int))) (fun _ => True) rfl rfl rfl (fun _ _ => trivial) HO.out (by omega) (Below.refl _ _) hb (by rw [HCL.out]; omega) ?_; intro v1 w1 ho hbl _ _; rw [HE.out] at ho; obtain ⟨g2, cap2, hv1, hc1, ho2⟩ := own_form8' ho hl; clear ho; subst hv1)
   go_ret
   exact ⟨g2, cap2, rfl, by omega, ho2, hbl⟩
def eightB (u : Nat) : List Int := pad8 (lowB u)
theorem eight_calls (u : Nat) (hu : u < 256 ^ 8) (w : World) :
  Calls Tryz.prog 102 #[.int .u64 (u : Int)] w fun e w' => ∃ v0_, e = .returned v0_ ∧ Own w' w.heap.size v0_ (eightB u) ∧ Below w.heap.size w w' := by
 have HL := Aside0.mk (lowB_len u 8 hu)
 have HU := Aside0.mk hu
 clear hu
 go_enter Tryz.func102, Tryz.ntmps102
 go_wp2_with fail
 refine (low_z u HU.out w).mono ?_
 rintro e w1 ⟨v, rfl, ho, hb⟩
 have HO := Aside0.mk ho
 have HB := Aside0.mk hb
 clear ho hb
 go_wp2_with fail
 refine (grow8 v (lowB u) w.heap.size w1 HO.out HL.out HB.out.size).mono ?_
 rintro e w2 ⟨g, cap, rfl, hc, ho2, hb2⟩
 have HO2 := Aside0.mk ho2
 have HB2 := Aside0.mk hb2
 have hc' : (8 : Int) ≤ (cap : Int) := by omega
 have hll := HL.out
 clear ho2 hb2
 go_wp2
 go_ret
 exact ⟨_, rfl, HO2.out, HB.out.trans HB2.out⟩
end Go.Proofs.YtgiefblcckikeaaGreat.M
namespace Go.Proofs.YtgiefblcckikeaaGreat.G
open Go.RowKit Go.Proofs.YtgiefblcckikeaaGreatW.PrintWords Go.Proofs.YtgiefblcckikeaaGreat.M
def shape_eight.f (a0 : Int) : Option (List Int) := if 0 ≤ a0 ∧ a0 ≤ 18446744073709551615 then some (eightB a0.toNat) else none
theorem shape_eight.calls (a0 : Int) (r : List Int) (w : World) (h : shape_eight.f a0 = some r) :
  Calls Tryz.prog 102 #[.int .u64 a0] w fun e w' => ∃ v0_ : Value, e = .returned (v0_) ∧ Kd.R (Kd.int .u8) 5 w' w.heap.size (fun _ => True) v0_ r ∧ Below w.heap.size w w' := by
 unfold shape_eight.f at h
 split at h
 ·rename_i hh
  obtain rfl := Option.some.inj h
  have := eight_calls a0.toNat (by omega) w
  rwa [show ((a0.toNat : Nat) : Int) = a0 from by omega] at this
 ·cases h
end Go.Proofs.YtgiefblcckikeaaGreat.G
end

section
-- Written by a program of this session's (wip/gprint.py over the kit's printer).
namespace Go.Proofs.YtgiefblcckikeaaGreat.G
open Go.RowKit Go.Proofs.YtgiefblcckikeaaGreatW.PrintWords Go.Proofs.YtgiefblcckikeaaGreatW.PrintLast Go.Proofs.YtgiefblcckikeaaGreatW.PrintMore
attribute [local go_sem] max2_int min2_int max_two min_two max_three min_three max_four min_four   -- for this text's walks alone
mutual
def shape_Check.l0 : Nat → Int → List (List Int) → Int → Int → Option (Int)
 | 0, _, _, _, _ => none
 | k + 1, x3, x8, x9, x10 => if x10 < x9 then (if 0 ≤ x10 then (if x10 < (x8.length : Int) then (shape_Check.l1 k x3 x8 x9 x10 (rd_L4 x8 x10) ((rd_L4 x8 x10).length : Int) 0) else (none)) else (none)) else (some x3)
def shape_Check.l1 : Nat → Int → List (List Int) → Int → Int → List Int → Int → Int → Option (Int)
 | 0, _, _, _, _, _, _, _ => none
 | k + 1, x3, x8, x9, x10, x14, x15, x16 => if x16 < x15 then (if 0 ≤ x16 then (if x16 < (x14.length : Int) then (shape_Check.l1 k (IntKind.u64.wrap ((Go.bits .xor .u64 x3 (IntKind.u64.wrap (rd x14 x16))) * 1099511628211)) x8 x9 x10 x14 x15 (wrap64 (x16 + 1))) else (none)) else (none)) else (shape_Check.l0 k x3 x8 x9 (wrap64 (x10 + 1)))
end
def shape_Check.f (k : Nat) (l0 : List (List Int)) : Option (Int) := shape_Check.l0 k 14695981039346656037 l0 (l0.length : Int) 0
set_option maxHeartbeats 8000000 in
set_option maxRecDepth 100000 in
theorem shape_Check.calls (k : Nat) (A0 : Option Addr) (c0 : Nat) (l0 : List (List Int)) (r : Int) (w : World) (hr0 : Kd.C (Kd.slice 5 (Kd.int .u8)) w A0 l0.length l0) (hc0 : l0.length ≤ c0) (h : shape_Check.f k l0 = some r) :
  Calls Tryz.prog 103 #[.slice A0 l0.length c0] w fun e w' => e = .returned (.int .u64 r) ∧ Drawn0 w w' := by
 have HR0 := Aside0.mk hr0
 have HC0 := Aside0.mk hc0
 clear hr0 hc0
 have H : (shape_Check.l0 k 14695981039346656037 l0 (l0.length : Int) 0) = some r := h
 clear h
 have H' := Aside0.mk H
 clear H
 go_enter Tryz.func103, Tryz.ntmps103
 go_wp2
 go_loopg [3, 10] k (fun kq v3 v10 w' => ∃ (x3_1 : Int) (x10_1 : Int), v3 = .int .u64 x3_1 ∧ v10 = .int .i64 x10_1 ∧ Aside0 (shape_Check.l0 kq x3_1 l0 (l0.length : Int) x10_1 = some r) ∧ Aside0 (kq ≤ k) ∧ Drawn0 w w')
 case atStart => exact ⟨(14695981039346656037), (0), (by first | rfl | (simp; done) | (simp [*]; done)), (by first | rfl | (simp; done) | (simp [*]; done)), H', ⟨Nat.le_refl _⟩, by repeat (first | exact Drawn0.refl _ | apply Drawn0.step)⟩
 case round =>
  clear H'
  try clear c1
  obtain ⟨x3_1, x10_1, rfl, rfl, HA, HK1, ⟨m1, rfl⟩⟩ := hrel
  cases gk with
  | zero => exact absurd HA.out (by simp [shape_Check.l0])
  | succ k1 =>
   have H := HA.out
   clear HA
   simp only [shape_Check.l0] at H
   by_cases c2 : x10_1 < (l0.length : Int)
   ·rw [if_pos c2] at H
    have c2b0 : decide (x10_1 < (l0.length : Int)) = true := decide_eq_true c2
    clear c2
    by_cases c3 : 0 ≤ x10_1
    ·rw [if_pos c3] at H
     have c3b0 : decide (0 ≤ x10_1) = true := decide_eq_true c3
     clear c3
     by_cases c4 : x10_1 < (l0.length : Int)
     ·rw [if_pos c4] at H
      have c4b0 : decide (x10_1 < (l0.length : Int)) = true := decide_eq_true c4
      clear c4
      have H' := Aside0.mk H
      clear H
      have p408 : 0 ≤ (x10_1 : Int) := of_decide_eq_true (by first | (with_reducible assumption) | assumption)
      have q408 : x10_1 < (l0.length : Int) := of_decide_eq_true (by first | (with_reducible assumption) | assumption)
      obtain ⟨ad408, A408_0, c408_0, e408, hx408_0, hl408_0, hi408_0⟩ := at_L4 HR0.out x10_1 p408 q408
      cases e408
      have HR408_0 := Aside0.mk hi408_0
      have HC408_0 := Aside0.mk hl408_0
      clear hi408_0 hl408_0
      replace p408 := eq_true p408
      replace q408 := eq_true q408
      go_wp2
      go_loopg [3, 16] k1 (fun kq v3 v16 w' => ∃ (x3_2 : Int) (x16_2 : Int), v3 = .int .u64 x3_2 ∧ v16 = .int .i64 x16_2 ∧ Aside0 (shape_Check.l1 kq x3_2 l0 (l0.length : Int) x10_1 (rd_L4 l0 x10_1) ((rd_L4 l0 x10_1).length : Int) x16_2 = some r) ∧ Aside0 (kq ≤ k1) ∧ Drawn0 w w')
      case atStart => exact ⟨(x3_1), (0), (by first | rfl | (simp; done) | (simp [*]; done)), (by first | rfl | (simp; done) | (simp [*]; done)), H', ⟨Nat.le_refl _⟩, by repeat (first | exact Drawn0.refl _ | apply Drawn0.step)⟩
      case round =>
       clear H'
       try clear c1
       try clear c2
       try clear c2b0
       try clear p2
       try clear c3
       try clear c3b0
       try clear c4
       try clear c4b0
       try clear p4
       try clear q4
       try clear hx4
       try clear hx408_0
       try clear p408
       try clear q408
       obtain ⟨x3_2, x16_2, rfl, rfl, HA, HK2, ⟨m2, rfl⟩⟩ := hrel
       cases gk with
       | zero => exact absurd HA.out (by simp [shape_Check.l1])
       | succ k2 =>
        have H := HA.out
        clear HA
        simp only [shape_Check.l1] at H
        by_cases c5 : x16_2 < ((rd_L4 l0 x10_1).length : Int)
        ·rw [if_pos c5] at H
         have c5b0 : decide (x16_2 < ((rd_L4 l0 x10_1).length : Int)) = true := decide_eq_true c5
         clear c5
         by_cases c6 : 0 ≤ x16_2
         ·rw [if_pos c6] at H
          have c6b0 : decide (0 ≤ x16_2) = true := decide_eq_true c6
          clear c6
          by_cases c7 : x16_2 < ((rd_L4 l0 x10_1).length : Int)
          ·rw [if_pos c7] at H
           have c7b0 : decide (x16_2 < ((rd_L4 l0 x10_1).length : Int)) = true := decide_eq_true c7
           clear c7
           have H' := Aside0.mk H
           clear H
           have p409 : 0 ≤ (x16_2 : Int) := of_decide_eq_true (by first | (with_reducible assumption) | assumption)
           have q409 : x16_2 < ((rd_L4 l0 x10_1).length : Int) := of_decide_eq_true (by first | (with_reducible assumption) | assumption)
           obtain ⟨ad409, e409, hx409_0⟩ := Kd.at_int HR408_0.out x16_2 p409 q409
           cases e409
           replace p409 := eq_true p409
           replace q409 := eq_true q409
           go_wp2
           go_roundg k2
           case measure => have := HK1.out; have := HK2.out; omega
           case rel => exact ⟨(IntKind.u64.wrap ((Go.bits .xor .u64 x3_2 (IntKind.u64.wrap (rd (rd_L4 l0 x10_1) x16_2))) * 1099511628211)), (wrap64 (x16_2 + 1)), (by first | rfl | (simp; done) | (simp [*]; done)), (by first | rfl | (simp; done) | (simp [*]; done)), H', ⟨by have := HK1.out; have := HK2.out; omega⟩, by repeat (first | exact Drawn0.refl _ | apply Drawn0.step)⟩
          ·rw [if_neg c7] at H
           exact absurd H (by simp)
         ·rw [if_neg c6] at H
          exact absurd H (by simp)
        ·rw [if_neg c5] at H
         have c5b0 : decide (x16_2 < ((rd_L4 l0 x10_1).length : Int)) = false := decide_eq_false c5
         clear c5
         have H' := Aside0.mk H
         clear H
         go_wp2
         go_roundg k2
         case measure => have := HK1.out; have := HK2.out; omega
         case rel => exact ⟨(x3_2), (wrap64 (x10_1 + 1)), (by first | rfl | (simp; done) | (simp [*]; done)), (by first | rfl | (simp; done) | (simp [*]; done)), H', ⟨by have := HK1.out; have := HK2.out; omega⟩, by repeat (first | exact Drawn0.refl _ | apply Drawn0.step)⟩
     ·rw [if_neg c4] at H
      exact absurd H (by simp)
    ·rw [if_neg c3] at H
     exact absurd H (by simp)
   ·rw [if_neg c2] at H
    have c2b0 : decide (x10_1 < (l0.length : Int)) = false := decide_eq_false c2
    clear c2
    obtain rfl := Option.some.inj H
    go_wp2
    go_ret
    exact ⟨by first | rfl | (simp; done) | (simp [*]; done), by repeat (first | exact Drawn0.refl _ | apply Drawn0.step)⟩
def shape_Seal.f (k : Nat) (l0 : List Int) : Option (List Int × Int) := if (l0.length : Int) > 1048576 then (some (([] : List Int), 3)) else ((shape_Blob.f ([] : List Int) l0).bind fun t410 => ((shape_Check.f k (([l0] : List (List Int)))).bind fun t416 => ((shape_eight.f t416).bind fun t417 => (if t410.length + t417.length < 140737488355328 then (some ((t410 ++ t417), 0)) else (none)))))
set_option maxHeartbeats 8000000 in
set_option maxRecDepth 100000 in
theorem shape_Seal.calls (k : Nat) (P0_ : Nat → Prop) (A0 : Option Addr) (c0 : Nat) (l0 : List Int) (r1 : List Int) (r2 : Int) (w : World) (hs0 : Kd.V (Kd.int .u8) 5 w w.heap.size (fun k_ => P0_ k_) (.slice A0 l0.length c0) l0) (h : shape_Seal.f k l0 = some (r1, r2)) :
  Calls Tryz.prog 51 #[.slice A0 l0.length c0] w fun e w' => ∃ v0_ : Value, e = .returned (.tuple #[v0_, .int .i64 r2]) ∧ Kd.R (Kd.int .u8) 5 w' w.heap.size (fun k_ => (w.heap.size ≤ k_)) v0_ r1 ∧ Below w.heap.size w w' := by
 have HO0 := Aside0.mk (show Kd.V (Kd.int .u8) 5 w w.heap.size (fun k_ => (P0_ k_ ∨ w.heap.size ≤ k_)) (.slice A0 l0.length c0) l0 from Kd.V_mono hs0 (fun k_ hk => .inl hk))
 have HB := Aside0.mk (Below.refl w.heap.size w)
 have H : (if (l0.length : Int) > 1048576 then (some (([] : List Int), 3)) else ((shape_Blob.f ([] : List Int) l0).bind fun t410 => ((shape_Check.f k (([l0] : List (List Int)))).bind fun t416 => ((shape_eight.f t416).bind fun t417 => (if t410.length + t417.length < 140737488355328 then (some ((t410 ++ t417), 0)) else (none)))))) = some (r1, r2) := h
 clear h
 by_cases c2 : (l0.length : Int) > 1048576
 ·rw [if_pos c2] at H
  have c2b0 : decide (1048576 < (l0.length : Int)) = true := decide_eq_true c2
  have c2b1 : decide (1048576 < l0.length) = true := decide_eq_true (by omega)
  clear c2
  simp only [Option.some.injEq, Prod.mk.injEq] at H
  obtain ⟨rfl, rfl⟩ := H
  go_enter Tryz.func51, Tryz.ntmps51
  go_wp2
  go_ret2
  exact ⟨_, by first | rfl | (simp [errW_none, errW_some] <;> rfl) | (simp [*, errW_none, errW_some] <;> rfl), by first | exact Kd.R_nil _ _ _ _ _ | exact Kd.N_nil _ _ _ _ _ | exact Kd.V_nil _ _ _ _ _ | exact Kd.Q_nil _ _ _ _ _ | exact Kd.S_nil _ _ _ _ _, stB HB.out⟩
 ·rw [if_neg c2] at H
  have c2b0 : decide (1048576 < (l0.length : Int)) = false := decide_eq_false c2
  have c2b1 : decide (1048576 < l0.length) = false := decide_eq_false (by omega)
  clear c2
  replace H := Option.bind_eq_some_iff.mp H
  obtain ⟨t410, A30, H⟩ := H
  replace H : ((shape_Check.f k (([l0] : List (List Int)))).bind fun t416 => ((shape_eight.f t416).bind fun t417 => (if t410.length + t417.length < 140737488355328 then (some ((t410 ++ t417), 0)) else (none)))) = some (r1, r2) := H
  have A3 := Aside0.mk A30
  clear A30
  obtain ⟨y413, hy413⟩ : ∃ y_ : List (List Int), y_ = (([l0] : List (List Int))) := ⟨_, rfl⟩
  replace H : ((shape_Check.f k y413).bind fun t416 => ((shape_eight.f t416).bind fun t417 => (if t410.length + t417.length < 140737488355328 then (some ((t410 ++ t417), 0)) else (none)))) = some (r1, r2) := by first | (rw [hy413]; with_reducible exact H) | (have H2_ := (Option.bind_some _ _).symm.trans H; rw [hy413]; with_reducible exact H2_) | (have H2_ := (Option.bind_some _ _).symm.trans H; with_reducible exact H2_) | with_reducible exact H | (rw [hy413]; exact H) | exact H
  have Ny413 := Aside0.mk hy413
  clear hy413
  replace H := Option.bind_eq_some_iff.mp H
  obtain ⟨t416, A40, H⟩ := H
  replace H : ((shape_eight.f t416).bind fun t417 => (if t410.length + t417.length < 140737488355328 then (some ((t410 ++ t417), 0)) else (none))) = some (r1, r2) := H
  have A4 := Aside0.mk A40
  clear A40
  replace H := Option.bind_eq_some_iff.mp H
  obtain ⟨t417, A50, H⟩ := H
  replace H : (if t410.length + t417.length < 140737488355328 then (some ((t410 ++ t417), 0)) else (none)) = some (r1, r2) := H
  have A5 := Aside0.mk A50
  clear A50
  by_cases c6 : t410.length + t417.length < 140737488355328
  ·rw [if_pos c6] at H
   have LMc6 := Aside0.mk c6
   clear c6
   obtain ⟨y420, hy420⟩ : ∃ y_ : List Int, y_ = (t410 ++ t417) := ⟨_, rfl⟩
   replace H : (some (y420, 0)) = some (r1, r2) := by first | (rw [hy420]; with_reducible exact H) | (have H2_ := (Option.bind_some _ _).symm.trans H; rw [hy420]; with_reducible exact H2_) | (have H2_ := (Option.bind_some _ _).symm.trans H; with_reducible exact H2_) | with_reducible exact H | (rw [hy420]; exact H) | exact H
   have Ny420 := Aside0.mk hy420
   clear hy420
   simp only [Option.some.injEq, Prod.mk.injEq] at H
   obtain ⟨rfl, rfl⟩ := H
   go_enter Tryz.func51, Tryz.ntmps51
   go_wp2_with (first | ((with_reducible refine gate_callee (f := 101) rfl ?_); refine goesL_ (some 8) rfl rfl Tryz.func101 (by kernel_rfl) rfl #[.slice none 0 0, .slice A0 l0.length c0] rfl (by (try simp only [List.map_toArray, List.map_cons, List.map_nil]); first | done | rfl | (simp only [List.length_drop, List.length_take]; rfl)) ?_; (refine (shape_Blob.calls _ _ ([] : List Int) _ _ l0 t410 _ ?side1 ?side2 ?side3 ?side4 A3.out).mono ?_); (case side1 => exact Kd.C_nil _ _); (case side2 => exact Nat.le_refl _); (case side3 => exact stC ((Kd.V_reads' HO0.out).2.2)); (case side4 => exact (Kd.V_reads' HO0.out).2.1); rintro e w7 ⟨v411, rfl, ho0, hb⟩; refine ⟨_, rfl, ?_⟩; have n0_ := Aside0.mk (Kd.V_elder' (stV HO0.out) (Kd.R_base ho0) hb); have n1_ := Aside0.mk (Kd.R_lower (Kd.R_newM (M := fun k_ => (w.heap.size ≤ k_)) ho0 (below_size (stB HB.out)) (fun k_ h_ => h_)) (below_size (stB HB.out))); have n2_ := Aside0.mk (below_step (stB HB.out) hb); clear HO0; clear HB; have HO0 := n0_; have HO412 := n1_; have HB := n2_; clear n0_ n1_ n2_; (try clear hb); (try clear hb2); (try clear hk); (try clear hi); (try clear ho0)) | ((with_reducible refine gate_dst (N := 10) rfl ?_); refine Kd.N_lit (Kd.slice 5 (Kd.int .u8)) _ 23 ?hg (N' := 10) ?hd (xs := ([l0] : List (List Int))) (inner := [.slice A0 l0.length c0]) (ok := (fun k_ => (P0_ k_ ∨ w.heap.size ≤ k_) ∧ some k_ ≠ (v411 : Value).ownBlock)) (okp := (fun k_ => (P0_ k_ ∨ w.heap.size ≤ k_) ∧ some k_ ≠ (v411 : Value).ownBlock)) ?hr ?hp (fun _ hk => hk) ((show ∀ k_, w7.heap.size ≤ k_ → (fun k_ => (P0_ k_ ∨ w.heap.size ≤ k_) ∧ some k_ ≠ (v411 : Value).ownBlock) k_ from fun k_ hk => ⟨(.inr (Nat.le_trans (below_size (stB HB.out)) hk)), Kd.fresh' (Kd.R_lt (stR HO412.out)) k_ hk⟩) _ (Nat.le_refl _)) (Below.refl _ _) (Nat.le_refl _) (by simp) ?_; (case hd => rfl); (case hg => rfl); (case hr => first | (go_simp; done) | (go_simp; rfl)); (case hp => exact (Reps.one (show Kd.FK (Kd.slice 5 (Kd.int .u8)) _ _ l0 [.slice A0 l0.length c0] from (Kd.FK_slice_mk (Kd.V_reads' (Kd.V_mono (ok' := (fun k_ => (P0_ k_ ∨ w.heap.size ≤ k_) ∧ some k_ ≠ (v411 : Value).ownBlock)) (HO0.out) (fun k_ hk => ⟨hk.1, hk.2⟩))).2.1 (Kd.V_F (Kd.V_mono (ok' := (fun k_ => (P0_ k_ ∨ w.heap.size ≤ k_) ∧ some k_ ≠ (v411 : Value).ownBlock)) (HO0.out) (fun k_ hk => ⟨hk.1, hk.2⟩))))) (Reps.none _ _))); intro v414 w8 ho9 hb hg_ hnew_; clear hg_ hnew_; (first | rw [← Ny413.out] at ho9 | (simp only [Int.reduceToNat] at ho9; rw [← Ny413.out] at ho9)); have n0_ := Aside0.mk (Kd.V_elder' (stV HO0.out) (Kd.N_base ho9) hb); have n1_ := Aside0.mk (Kd.R_below (stR HO412.out) hb); have n2_ := Aside0.mk (Kd.N_lower ho9 (below_size (stB HB.out))); have n3_ := Aside0.mk (below_step (stB HB.out) hb); clear HO0; clear HO412; clear HB; have HO0 := n0_; have HO412 := n1_; have HO415 := n2_; have HB := n3_; clear n0_ n1_ n2_ n3_; clear hb ho9; obtain ⟨Ao10, co10, eo10⟩ := Kd.N_slice HO415.out; subst eo10) | ((with_reducible refine gate_callee (f := 103) rfl ?_); refine goesL_ (some 11) rfl rfl Tryz.func103 (by kernel_rfl) rfl #[.slice Ao10 y413.length co10] rfl (by (try simp only [List.map_toArray, List.map_cons, List.map_nil]); first | done | rfl | (simp only [List.length_drop, List.length_take]; rfl)) ?_; (with_reducible refine (shape_Check.calls k _ _ y413 t416 _ ?side1 ?side2 A4.out).mono ?_); (case side1 => exact stC ((Kd.N_reads' HO415.out).2.2)); (case side2 => exact (Kd.N_reads' HO415.out).2.1); rintro e w' ⟨rfl, ⟨nd, rfl⟩⟩; refine ⟨_, rfl, ?_⟩) | ((with_reducible refine gate_callee (f := 102) rfl ?_); refine goesL_ (some 12) rfl rfl Tryz.func102 (by kernel_rfl) rfl #[.int .u64 t416] rfl (by (try simp only [List.map_toArray, List.map_cons, List.map_nil]); first | done | rfl | (simp only [List.length_drop, List.length_take]; rfl)) ?_; (with_reducible refine (shape_eight.calls t416 t417 _ A5.out).mono ?_); rintro e w11 ⟨v418, rfl, ho0, hb⟩; refine ⟨_, rfl, ?_⟩; have n0_ := Aside0.mk (Kd.V_elder' (stV HO0.out) (Kd.R_base ho0) hb); have n1_ := Aside0.mk (Kd.R_elder' (stR HO412.out) (Kd.R_base ho0) hb); have n2_ := Aside0.mk (Kd.N_elder' (stN HO415.out) (Kd.R_base ho0) hb); have n3_ := Aside0.mk (Kd.R_lower (Kd.R_new' (Kd.R_newM (M := fun k_ => (w.heap.size ≤ k_)) ho0 (below_size (stB HB.out)) (fun k_ h_ => h_)) (Kd.R_lt (stR HO412.out))) (below_size (stB HB.out))); have n4_ := Aside0.mk (below_step (stB HB.out) hb); clear HO0; clear HO412; clear HO415; clear HB; have HO0 := n0_; have HO412 := n1_; have HO415 := n2_; have HO419 := n3_; have HB := n4_; clear n0_ n1_ n2_ n3_ n4_; (try clear hb); (try clear hb2); (try clear hk); (try clear hi); (try clear ho0); obtain ⟨Ao13, co13, eo13⟩ := Kd.R_slice HO419.out; subst eo13) | ((with_reducible refine gate_builtin (b := .append) (xs := #[.tmp 8, .tmp 12]) rfl ?_); at_builtin; refine Kd.R_append_rows (Kd.int .u8) (w0 := w) w.heap.size rfl (.tmp 8) (.tmp 12) 23 5 (.int .u8 0) 1 rfl Tryz.underlying23 info5 rfl (by decide) (by omega) v411 t410 t417 _ _ _ (fun k_ => (w.heap.size ≤ k_) ∧ some k_ ≠ (.slice Ao13 t417.length co13 : Value).ownBlock) (fun _ => False) rfl rfl ?aO ?aR (fun _ _ h => h) (fun _ h => h.elim) ?aF ?aB ?aS ?aL ?_; (case aR => exact stC ((Kd.R_reads' HO419.out).2.2)); (case aB => exact (stB HB.out)); (case aF => exact (fun k_ hk => ⟨(Nat.le_trans (below_size (stB HB.out)) hk), Kd.fresh' (Kd.R_lt (stR HO419.out)) k_ hk⟩)); (case aO => exact (by (with_reducible repeat (first|apply Kd.R_alloc | apply Kd.R_drewN | apply Kd.R_drew)); exact Kd.R_mono HO412.out (fun _ hk => ⟨hk.1.1, hk.2⟩))); (case aS => exact (below_size (stB HB.out))); (case aL => have := LMc6.out; omega); intro v421 w12 ho hb hg hat; rw [← Ny420.out] at ho; have n0_ := Aside0.mk (Kd.V_afterv (ok := (fun k_ => (P0_ k_ ∨ w.heap.size ≤ k_) ∧ some k_ ≠ (.slice Ao10 y413.length co10 : Value).ownBlock ∧ some k_ ≠ (.slice Ao13 t417.length co13 : Value).ownBlock)) (by (with_reducible repeat (first|apply Kd.V_alloc | apply Kd.V_drewN | apply Kd.V_drew)); exact Kd.V_mono HO0.out (fun _ hk => ⟨⟨hk.1.1.1, ⟨hk.1.2, hk.2⟩⟩, hk.1.1.2⟩)) hg hat); have n1_ := Aside0.mk (Kd.N_afterv (ok := (fun k_ => (P0_ k_ ∨ w.heap.size ≤ k_) ∧ some k_ ≠ (.slice Ao13 t417.length co13 : Value).ownBlock)) (by (with_reducible repeat (first|apply Kd.N_alloc | apply Kd.N_drewN | apply Kd.N_drew)); exact Kd.N_mono HO415.out (fun _ hk => ⟨⟨hk.1.1, hk.2⟩, hk.1.2⟩)) hg hat); have n2_ := Aside0.mk (Kd.R_after (ok := (fun k_ => (w.heap.size ≤ k_))) (by (with_reducible repeat (first|apply Kd.R_alloc | apply Kd.R_drewN | apply Kd.R_drew)); exact Kd.R_mono HO419.out (fun _ hk => ⟨hk.1.1, hk.2⟩)) hg hat); have n3_ := Aside0.mk (hb); have n4_ := Aside0.mk (ho); clear HO0; clear HO415; clear HO419; clear HB; clear HO412; have HO0 := n0_; have HO415 := n1_; have HO419 := n2_; have HB := n3_; have HO422 := n4_; clear n0_ n1_ n2_ n3_ n4_; clear ho hb hg hat))
   go_ret2
   exact ⟨_, by first | rfl | (simp [errW_none, errW_some] <;> rfl) | (simp [*, errW_none, errW_some] <;> rfl), by (with_reducible repeat (first|apply Kd.R_alloc | apply Kd.R_drewN | apply Kd.R_drew)); exact Kd.R_mono HO422.out (fun _ hk => hk.1), stB HB.out⟩
  ·rw [if_neg c6] at H
   exact absurd H (by simp)
def trivetref04_yes.f (k : Nat) (l0 : List Int) (a1 : Bool) : Option (List Int) := if a1 = true then ((trivetref04_num.f k l0 (([1] : List Int))).bind fun t427 => (some t427)) else ((trivetref04_num.f k l0 (([0] : List Int))).bind fun t433 => (some t433))
set_option maxHeartbeats 8000000 in
set_option maxRecDepth 100000 in
theorem trivetref04_yes.calls (k : Nat) (A0 : Option Addr) (c0 : Nat) (l0 : List Int) (a1 : Bool) (r : List Int) (w : World) (hr0 : Kd.C (Kd.int .u8) w A0 l0.length l0) (hc0 : l0.length ≤ c0) (h : trivetref04_yes.f k l0 a1 = some r) :
  Calls Tryz.prog 104 #[.slice A0 l0.length c0, .bool a1] w fun e w' => ∃ v0_ : Value, e = .returned (v0_) ∧ Kd.R (Kd.int .u8) 5 w' w.heap.size (fun _ => True) v0_ r ∧ Below w.heap.size w w' := by
 have HR0 := Aside0.mk hr0
 have HC0 := Aside0.mk hc0
 clear hr0 hc0
 have HB := Aside0.mk (Below.refl w.heap.size w)
 have H : (if a1 = true then ((trivetref04_num.f k l0 (([1] : List Int))).bind fun t427 => (some t427)) else ((trivetref04_num.f k l0 (([0] : List Int))).bind fun t433 => (some t433))) = some r := h
 clear h
 by_cases c3 : a1 = true
 ·subst c3
  have H1 : ((trivetref04_num.f k l0 (([1] : List Int))).bind fun t427 => (some t427)) = some r := by rw [if_pos rfl] at H; exact H
  clear H
  have H := H1
  clear H1
  obtain ⟨y424, hy424⟩ : ∃ y_ : List Int, y_ = (([1] : List Int)) := ⟨_, rfl⟩
  replace H : ((trivetref04_num.f k l0 y424).bind fun t427 => (some t427)) = some r := by first | (rw [hy424]; with_reducible exact H) | (have H2_ := (Option.bind_some _ _).symm.trans H; rw [hy424]; with_reducible exact H2_) | (have H2_ := (Option.bind_some _ _).symm.trans H; with_reducible exact H2_) | with_reducible exact H | (rw [hy424]; exact H) | exact H
  have Ny424 := Aside0.mk hy424
  clear hy424
  replace H := Option.bind_eq_some_iff.mp H
  obtain ⟨t427, A40, H⟩ := H
  replace H : (some t427) = some r := H
  have A4 := Aside0.mk A40
  clear A40
  obtain rfl := Option.some.inj H
  go_enter Tryz.func104, Tryz.ntmps104
  go_wp2_with (first | ((with_reducible refine gate_dst (N := 7) rfl ?_); refine Kd.R_lit (Kd.int .i64) _ 2 ?hg (N := 7) ?hd (xs := ([1] : List Int)) (inner := [.int .i64 1]) (ok := fun _ => True) (okp := fun _ => True) ?hr ?hp (fun _ hk => hk) trivial (Below.refl _ _) (Nat.le_refl _) (by simp) ?_; (case hd => rfl); (case hg => rfl); (case hr => first | (go_simp; done) | (go_simp; rfl)); (case hp => exact (Reps.one (show Kd.M (Kd.int .i64) _ _ _ 1 [.int .i64 1] from rfl) (Reps.none _ _))); intro v425 w5 ho6 hb hg_ hnew_; clear hg_ hnew_; (first | rw [← Ny424.out] at ho6 | (simp only [Int.reduceToNat] at ho6; rw [← Ny424.out] at ho6)); have n0_ := Aside0.mk (Kd.R_lower ho6 (below_size (stB HB.out))); have n1_ := Aside0.mk (below_step (stB HB.out) hb); clear HB; have HO426 := n0_; have HB := n1_; clear n0_ n1_; clear hb ho6; obtain ⟨Ao7, co7, eo7⟩ := Kd.R_slice HO426.out; subst eo7) | ((with_reducible refine gate_callee (f := 97) rfl ?_); refine goesL_ (some 8) rfl rfl Tryz.func97 (by kernel_rfl) rfl #[.slice A0 l0.length c0, .slice Ao7 y424.length co7] rfl (by (try simp only [List.map_toArray, List.map_cons, List.map_nil]); first | done | rfl | (simp only [List.length_drop, List.length_take]; rfl)) ?_; (with_reducible refine (trivetref04_num.calls k _ _ l0 _ _ y424 t427 _ ?side1 ?side2 ?side3 ?side4 A4.out).mono ?_); (case side1 => exact stC (Kd.C_below HR0.out HB.out)); (case side2 => exact HC0.out); (case side3 => exact stC ((Kd.R_reads' HO426.out).2.2)); (case side4 => exact (Kd.R_reads' HO426.out).2.1); rintro e w8 ⟨v428, rfl, ho0, hb⟩; refine ⟨_, rfl, ?_⟩; have n0_ := Aside0.mk (Kd.R_below (stR HO426.out) hb); have n1_ := Aside0.mk (Kd.R_lower ho0 (below_size (stB HB.out))); have n2_ := Aside0.mk (below_step (stB HB.out) hb); clear HO426; clear HB; have HO426 := n0_; have HO429 := n1_; have HB := n2_; clear n0_ n1_ n2_; (try clear hb); (try clear hb2); (try clear hk); (try clear hi); (try clear ho0)))
  go_ret
  exact ⟨_, by first | rfl | (simp [errW_none, errW_some] <;> rfl) | (simp [*, errW_none, errW_some] <;> rfl), stR HO429.out, stB HB.out⟩
 ·replace c3 := Bool.eq_false_iff.mpr c3
  subst c3
  have H1 : ((trivetref04_num.f k l0 (([0] : List Int))).bind fun t433 => (some t433)) = some r := by rw [if_neg (show ¬ (false = true) by decide)] at H; exact H
  clear H
  have H := H1
  clear H1
  obtain ⟨y430, hy430⟩ : ∃ y_ : List Int, y_ = (([0] : List Int)) := ⟨_, rfl⟩
  replace H : ((trivetref04_num.f k l0 y430).bind fun t433 => (some t433)) = some r := by first | (rw [hy430]; with_reducible exact H) | (have H2_ := (Option.bind_some _ _).symm.trans H; rw [hy430]; with_reducible exact H2_) | (have H2_ := (Option.bind_some _ _).symm.trans H; with_reducible exact H2_) | with_reducible exact H | (rw [hy430]; exact H) | exact H
  have Ny430 := Aside0.mk hy430
  clear hy430
  replace H := Option.bind_eq_some_iff.mp H
  obtain ⟨t433, A90, H⟩ := H
  replace H : (some t433) = some r := H
  have A9 := Aside0.mk A90
  clear A90
  obtain rfl := Option.some.inj H
  go_enter Tryz.func104, Tryz.ntmps104
  go_wp2_with (first | ((with_reducible refine gate_dst (N := 10) rfl ?_); refine Kd.R_lit (Kd.int .i64) _ 2 ?hg (N := 10) ?hd (xs := ([0] : List Int)) (inner := [.int .i64 0]) (ok := fun _ => True) (okp := fun _ => True) ?hr ?hp (fun _ hk => hk) trivial (Below.refl _ _) (Nat.le_refl _) (by simp) ?_; (case hd => rfl); (case hg => rfl); (case hr => first | (go_simp; done) | (go_simp; rfl)); (case hp => exact (Reps.one (show Kd.M (Kd.int .i64) _ _ _ 0 [.int .i64 0] from rfl) (Reps.none _ _))); intro v431 w10 ho11 hb hg_ hnew_; clear hg_ hnew_; (first | rw [← Ny430.out] at ho11 | (simp only [Int.reduceToNat] at ho11; rw [← Ny430.out] at ho11)); have n0_ := Aside0.mk (Kd.R_lower ho11 (below_size (stB HB.out))); have n1_ := Aside0.mk (below_step (stB HB.out) hb); clear HB; have HO432 := n0_; have HB := n1_; clear n0_ n1_; clear hb ho11; obtain ⟨Ao12, co12, eo12⟩ := Kd.R_slice HO432.out; subst eo12) | ((with_reducible refine gate_callee (f := 97) rfl ?_); refine goesL_ (some 11) rfl rfl Tryz.func97 (by kernel_rfl) rfl #[.slice A0 l0.length c0, .slice Ao12 y430.length co12] rfl (by (try simp only [List.map_toArray, List.map_cons, List.map_nil]); first | done | rfl | (simp only [List.length_drop, List.length_take]; rfl)) ?_; (with_reducible refine (trivetref04_num.calls k _ _ l0 _ _ y430 t433 _ ?side1 ?side2 ?side3 ?side4 A9.out).mono ?_); (case side1 => exact stC (Kd.C_below HR0.out HB.out)); (case side2 => exact HC0.out); (case side3 => exact stC ((Kd.R_reads' HO432.out).2.2)); (case side4 => exact (Kd.R_reads' HO432.out).2.1); rintro e w13 ⟨v434, rfl, ho0, hb⟩; refine ⟨_, rfl, ?_⟩; have n0_ := Aside0.mk (Kd.R_below (stR HO432.out) hb); have n1_ := Aside0.mk (Kd.R_lower ho0 (below_size (stB HB.out))); have n2_ := Aside0.mk (below_step (stB HB.out) hb); clear HO432; clear HB; have HO432 := n0_; have HO435 := n1_; have HB := n2_; clear n0_ n1_ n2_; (try clear hb); (try clear hb2); (try clear hk); (try clear hi); (try clear ho0)))
  go_ret
  exact ⟨_, by first | rfl | (simp [errW_none, errW_some] <;> rfl) | (simp [*, errW_none, errW_some] <;> rfl), stR HO435.out, stB HB.out⟩
end Go.Proofs.YtgiefblcckikeaaGreat.G
end
