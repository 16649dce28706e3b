/- RecordOwnUptoSaid: contracts of the functions that the law goes through, put together in build order (part 6 of 7). -/
import Derived.Test.YtgiefblcckikeaaGreatPart4
import Derived.Laws.Tables
set_option linter.unusedVariables false
set_option linter.unusedSimpArgs false
set_option maxRecDepth 100000
section
/- The pen writes a message (printed by genpenm04.py). -/
attribute [local irreducible] Go.wpStill
namespace Go.Proofs.YtgiefblcckikeaaGreat.M
open Go.RowKit Go.Proofs.YtgiefblcckikeaaGreatW.PrintWords Go.Proofs.YtgiefblcckikeaaGreatW.PrintLast Go.Proofs.YtgiefblcckikeaaGreatW.PrintMore Go.Proofs.YtgiefblcckikeaaGreat.G
def yesB (b : Bool) : List Int := numB (if b = true then 1 else 0)
def trB (x : TrD) : List Int := numB x.f0 ++ entB x.f1.f0 x.f1.f1 x.f1.f2 x.f1.f3
def tailB (m : MsgD) : List Int := if m.f0 = 1 then numsB [m.f3, m.f4, m.f5] else if m.f0 = 2 then numB m.f3 ++ yesB m.f7 else if m.f0 = 3 then numsB [m.f3, m.f4, m.f5, m.f6] ++ numB m.f8.length ++ m.f8.flatMap trB else if m.f0 = 4 then numB m.f3 ++ yesB m.f7 ++ numB m.f4 else if m.f0 = 5 then numsB [m.f3, m.f4, m.f5, m.f10.f0, m.f10.f1, m.f10.f2] ++ numB m.f10.f3.length ++ m.f10.f3 else entB m.f9.f0 m.f9.f1 m.f9.f2 m.f9.f3
def msgB (m : MsgD) : List Int := numsB [m.f0, m.f1, m.f2] ++ tailB m
structure OkM (m : MsgD) : Prop where
 h : okI [m.f0, m.f1, m.f2] = true
 t : okI [m.f3, m.f4, m.f5, m.f6] = true
 p : okI [m.f10.f0, m.f10.f1, m.f10.f2] = true
 e : okE m.f9.f0 m.f9.f1 m.f9.f2 m.f9.f3 = true
 l : ∀ x ∈ m.f8, isI64 x.f0 ∧ okE x.f1.f0 x.f1.f1 x.f1.f2 x.f1.f3 = true
theorem okI_cons {x : Int} {l : List Int} : okI (x :: l) = true ↔ isI64 x ∧ okI l = true := by simp [okI]
theorem numsB_one (n : Int) : numsB [n] = numB n := by simp [numsB]
theorem numsB_le {l : List Int} (h : okI l = true) (k : Nat) (hk : 9 * l.length ≤ k) : (numsB l).length ≤ k := Nat.le_trans (numsB_len h) hk
theorem yesB_len (b : Bool) : (yesB b).length ≤ 9 := by cases b <;> exact (numB_len (by decide)).2
theorem MsBox.keep {W W' : World} {b p : Nat} {m : MsgD} {A8 A12 A16 : Option Addr} {c8 c12 c16 : Nat} (h : MsBox W b m A8 c8 A12 c12 A16 c16) (hk : KeepS (fun i => i = p) W W') (hb : b ≠ p) : MsBox W' b m A8 c8 A12 c12 A16 c16 := (hk.block b (Array.getElem?_eq_some_iff.1 h).1 hb).trans h
theorem mayTr_e {x : TrD} (h : mayTr x = true) : mayE x.f1.f0 x.f1.f1 x.f1.f2 x.f1.f3 = true := by unfold mayTr at h; exact (Bool.and_eq_true _ _ ▸ h).2
theorem trB_len {x : TrD} (ho : isI64 x.f0 ∧ okE x.f1.f0 x.f1.f1 x.f1.f2 x.f1.f3 = true) (hm : mayE x.f1.f0 x.f1.f1 x.f1.f2 x.f1.f3 = true) : (trB x).length ≤ 25009 := by
 have h1 := (numB_len ho.1).2
 have h2 := entB_len ho.2 hm
 unfold trB
 rw [List.length_append]
 omega
def TrL (w0 w : World) (p : Nat) (l0 : List Int) (l : List TrD) (i : Value) (wr : World) : Prop := ∃ j : Nat, i = .int .i64 j ∧ j ≤ l.length ∧ IsPen wr w0.heap.size p (l0 ++ (l.take j).flatMap trB) ∧ Below w0.heap.size w0 wr ∧ KeepS (fun i => i = p) w wr
set_option maxHeartbeats 1000000 in
theorem penYes_is {w0 w : World} {p : Nat} {l0 : List Int} (hI : IsPen w w0.heap.size p l0) (hB : Below w0.heap.size w0 w) (hp : w0.heap.size ≤ p) (q : Bool) (hs : l0.length + 9 < 140737488355328) :
  Calls Tryz.prog 99 #[.pointer (some ⟨p, 0, none⟩), .bool q] w fun e w' => PenP w0 w p (l0 ++ yesB q) e w' := by
 have HN := Lib.hid (fun n (hn : isI64 n) => nums_is (hI.below ((Below.refl _ w).alloc (Nat.le_refl _) (.cells #[.int .i64 n] 2))) (hB.alloc hB.size _) hp _ 1 [n] (C_lit w [n] (by simp)) (by simp [okI, hn]) (by simpa using hs))
 have HKK := Lib.hid (fun n : Int => (KeepS.refl (fun i => i = p) w).alloc (.cells #[.int .i64 n] 2))
 clear hI hB hp hs
 cases q with
 | true =>
  go_enter Tryz.func99, Tryz.ntmps99
  go_wp2_with fail
  refine (HN.out 1 (by decide)).mono ?_
  rintro e w1 ⟨rfl, h1, h2, h3⟩
  have HF := Lib.hid (show PenP w0 w p (l0 ++ yesB true) (.returned (.tuple #[])) w1 from ⟨rfl, by rw [numsB_one] at h1; exact h1, h2, (HKK.out 1).trans h3⟩)
  clear h1 h2 h3
  go_wp2_with fail
  go_end0
  exact HF.out
 | false =>
  go_enter Tryz.func99, Tryz.ntmps99
  go_wp2_with fail
  refine (HN.out 0 (by decide)).mono ?_
  rintro e w1 ⟨rfl, h1, h2, h3⟩
  have HF := Lib.hid (show PenP w0 w p (l0 ++ yesB false) (.returned (.tuple #[])) w1 from ⟨rfl, by rw [numsB_one] at h1; exact h1, h2, (HKK.out 0).trans h3⟩)
  clear h1 h2 h3
  go_wp2_with fail
  go_end0
  exact HF.out
set_option maxHeartbeats 4000000 in
theorem penMsg1 {w0 w : World} {p : Nat} {l0 : List Int} (hI : IsPen w w0.heap.size p l0) (hB : Below w0.heap.size w0 w) (hp : w0.heap.size ≤ p) (m : MsgD) {A8 A12 A16 : Option Addr} {c8 c12 c16 : Nat} (hm : MsgC w0 m A8 c8 A12 c12 A16 c16) (ho : OkM m) (hk : m.f0 = 1) (hs : l0.length + 200000000 < 140737488355328) :
  Calls Tryz.prog 50 #[.pointer (some ⟨p, 0, none⟩), .agg #[.int .i64 m.f0, .int .i64 m.f1, .int .i64 m.f2, .int .i64 m.f3, .int .i64 m.f4, .int .i64 m.f5, .int .i64 m.f6, .bool m.f7, .slice A8 m.f8.length c8, .int .i64 m.f9.f0, .int .i64 m.f9.f1, .int .i64 m.f9.f2, .slice A12 m.f9.f3.length c12, .int .i64 m.f10.f0, .int .i64 m.f10.f1, .int .i64 m.f10.f2, .slice A16 m.f10.f3.length c16]] w fun e w' => PenP w0 w p (l0 ++ msgB m) e w' := by
 have HO := Lib.hid ho; have HM := Lib.hid hm; have HP := Lib.hid hp; have HS := Lib.hid hs; have HL0 := Lib.hid (show l0.length ≤ l0.length + 0 from Nat.le_refl _)
 have HNE := Lib.hid (show w.heap.size ≠ p by have := hI.lt; omega)
 have H0 := Lib.hid (hI.below ((Below.refl _ w).alloc (Nat.le_refl _) (.cells #[.int .i64 m.f0, .int .i64 m.f1, .int .i64 m.f2, .int .i64 m.f3, .int .i64 m.f4, .int .i64 m.f5, .int .i64 m.f6, .bool m.f7, .slice A8 m.f8.length c8, .int .i64 m.f9.f0, .int .i64 m.f9.f1, .int .i64 m.f9.f2, .slice A12 m.f9.f3.length c12, .int .i64 m.f10.f0, .int .i64 m.f10.f1, .int .i64 m.f10.f2, .slice A16 m.f10.f3.length c16] 34))); have HB0 := Lib.hid (hB.alloc hB.size (.cells #[.int .i64 m.f0, .int .i64 m.f1, .int .i64 m.f2, .int .i64 m.f3, .int .i64 m.f4, .int .i64 m.f5, .int .i64 m.f6, .bool m.f7, .slice A8 m.f8.length c8, .int .i64 m.f9.f0, .int .i64 m.f9.f1, .int .i64 m.f9.f2, .slice A12 m.f9.f3.length c12, .int .i64 m.f10.f0, .int .i64 m.f10.f1, .int .i64 m.f10.f2, .slice A16 m.f10.f3.length c16] 34)); have HK0 := Lib.hid ((KeepS.refl (fun i => i = p) w).alloc (.cells #[.int .i64 m.f0, .int .i64 m.f1, .int .i64 m.f2, .int .i64 m.f3, .int .i64 m.f4, .int .i64 m.f5, .int .i64 m.f6, .bool m.f7, .slice A8 m.f8.length c8, .int .i64 m.f9.f0, .int .i64 m.f9.f1, .int .i64 m.f9.f2, .slice A12 m.f9.f3.length c12, .int .i64 m.f10.f0, .int .i64 m.f10.f1, .int .i64 m.f10.f2, .slice A16 m.f10.f3.length c16] 34))
 have HX0 := Lib.hid (show MsBox (w.alloc (.cells #[.int .i64 m.f0, .int .i64 m.f1, .int .i64 m.f2, .int .i64 m.f3, .int .i64 m.f4, .int .i64 m.f5, .int .i64 m.f6, .bool m.f7, .slice A8 m.f8.length c8, .int .i64 m.f9.f0, .int .i64 m.f9.f1, .int .i64 m.f9.f2, .slice A12 m.f9.f3.length c12, .int .i64 m.f10.f0, .int .i64 m.f10.f1, .int .i64 m.f10.f2, .slice A16 m.f10.f3.length c16] 34)) w.heap.size m A8 c8 A12 c12 A16 c16 from heap_alloc_new w _)
 have HT3 := Lib.hid (show okI [m.f3, m.f4, m.f5] = true by have := ho.t; simp only [okI_cons] at this ⊢; exact ⟨this.1, this.2.1, this.2.2.1, rfl⟩)
 have q1 : (m.f0 == 1) = true := by rw [hk]; rfl
 have HTB := Lib.hid (show msgB m = numsB [m.f0, m.f1, m.f2] ++ (numsB [m.f3, m.f4, m.f5]) by unfold msgB tailB; simp only [hk]; rfl)
 clear hI hB hp hs ho hm hk
 go_enter Tryz.func50, Tryz.ntmps50
 go_upto_region 1 with fail
 obtain ⟨v0, hv⟩ : ∃ v, w.alloc (.cells #[.int .i64 m.f0, .int .i64 m.f1, .int .i64 m.f2, .int .i64 m.f3, .int .i64 m.f4, .int .i64 m.f5, .int .i64 m.f6, .bool m.f7, .slice A8 m.f8.length c8, .int .i64 m.f9.f0, .int .i64 m.f9.f1, .int .i64 m.f9.f2, .slice A12 m.f9.f3.length c12, .int .i64 m.f10.f0, .int .i64 m.f10.f1, .int .i64 m.f10.f2, .slice A16 m.f10.f3.length c16] 34) = v := ⟨_, rfl⟩
 obtain ⟨b, hb⟩ : ∃ b, w.heap.size = b := ⟨_, rfl⟩
 rw [hv] at H0 HB0 HK0 HX0 ⊢
 rw [hb] at HNE HX0 ⊢
 clear hv hb
 obtain ⟨la0, hl0⟩ : ∃ la, l0 = la := ⟨_, rfl⟩
 have HQ0 := Lib.hid hl0
 have HLZ := Lib.hid (show la0.length ≤ l0.length + 0 by rw [← hl0]; exact Nat.le_refl _)
 rw [hl0] at H0
 clear hl0 HL0
 have HL0 := HLZ
 have HD := Lib.hid (show Below v0.heap.size v0 v0.drew from (Below.refl _ _).drew)
 have Hd := Lib.hid (H0.out.below HD.out); have HBd := Lib.hid HB0.out.drew; have HKd := Lib.hid HK0.out.drew; have HXd := Lib.hid (show MsBox v0.drew b m A8 c8 A12 c12 A16 c16 from HX0.out)
 clear HD
 obtain ⟨d0, d1, d2, d3, d4, d5, d6, d7, d8, d9, d10, d11, d12, d13, d14, d15, d16⟩ := HXd.out.cell
 refine start_ (n := 11) (S := fun w' => w'.cell? ⟨b, 0, none⟩ = some (.int .i64 m.f0) ∧ w'.cell? ⟨b, 1, none⟩ = some (.int .i64 m.f1) ∧ w'.cell? ⟨b, 2, none⟩ = some (.int .i64 m.f2)) (ds := []) #[false, false, false, false, false, false, false, false, false, false, false] (by kernel_rfl) rfl rfl ⟨d0, d1, d2⟩ (fun hHeld => ?_)
 obtain ⟨u, hu⟩ : ∃ u, v0.drew = u := ⟨_, rfl⟩
 rw [hu] at Hd HBd HKd HXd hHeld ⊢
 clear hu d0 d1 d2 d3 d4 d5 d6 d7 d8 d9 d10 d11 d12 d13 d14 d15 d16
 refine pure_ (i := 0) (N := some 6) (v := ?_) (a' := ?_) #[true, false, false, false, false, false, false, false, false, false, false] rfl rfl (by kernel_rfl) (fun _ _ _ h => h) (Or.inl ⟨by rfl, ?_⟩) ?_ ?_
 rotate_left
 ·intro w'
  go_simp
  try with_reducible rfl
 rotate_left
 ·simp only [Act.put, sq1, sq2, sq3, i64_w, i32_w]
  rfl
 refine pure_ (i := 1) (N := some 7) (v := ?_) (a' := ?_) #[true, true, false, false, false, false, false, false, false, false, false] rfl rfl (by kernel_rfl) (fun _ _ _ h => h) (Or.inl ⟨by rfl, ?_⟩) ?_ ?_
 rotate_left
 ·intro w'
  go_simp
  try with_reducible rfl
 rotate_left
 ·simp only [Act.put, sq1, sq2, sq3, i64_w, i32_w]
  rfl
 refine pure_ (i := 2) (N := some 8) (v := ?_) (a' := ?_) #[true, true, true, false, false, false, false, false, false, false, false] rfl rfl (by kernel_rfl) (fun _ _ _ h => h) (Or.inl ⟨by rfl, ?_⟩) ?_ ?_
 rotate_left
 ·intro w'
  go_simp
  try with_reducible rfl
 rotate_left
 ·simp only [Act.put, sq1, sq2, sq3, i64_w, i32_w]
  rfl
 refine pure_ (i := 3) (N := some 9) (v := ?_) (a' := ?_) #[true, true, true, true, false, false, false, false, false, false, false] rfl rfl (by kernel_rfl) (fun _ _ _ h => h) (Or.inl ⟨by rfl, ?_⟩) ?_ ?_
 rotate_left
 ·intro w'
  go_simp
  try with_reducible rfl
 rotate_left
 ·simp only [Act.put, sq1, sq2, sq3, i64_w, i32_w]
  rfl
 refine take_ (i := 4) (N := some 10) (v := ?_) (a' := ?_) #[true, true, true, true, true, false, false, false, false, false, false] rfl rfl (by kernel_rfl) (fun _ _ _ h => h) (Or.inl ⟨by rfl, ?_⟩) hHeld ?_ ?_
 rotate_left
 ·intro w' hS
  obtain ⟨x0, x1, x2⟩ := hS
  go_simp
  try with_reducible rfl
 rotate_left
 ·simp only [Act.put, sq1, sq2, sq3, i64_w, i32_w]
  rfl
 refine pure_ (i := 5) (N := some 11) (v := ?_) (a' := ?_) #[true, true, true, true, true, true, false, false, false, false, false] rfl rfl (by kernel_rfl) (fun _ _ _ h => h) (Or.inl ⟨by rfl, ?_⟩) ?_ ?_
 rotate_left
 ·intro w'
  go_simp
  try with_reducible rfl
 rotate_left
 ·simp only [Act.put, sq1, sq2, sq3, i64_w, i32_w]
  rfl
 refine take_ (i := 6) (N := some 12) (v := ?_) (a' := ?_) #[true, true, true, true, true, true, true, false, false, false, false] rfl rfl (by kernel_rfl) (fun _ _ _ h => h) (Or.inl ⟨by rfl, ?_⟩) hHeld ?_ ?_
 rotate_left
 ·intro w' hS
  obtain ⟨x0, x1, x2⟩ := hS
  go_simp
  try with_reducible rfl
 rotate_left
 ·simp only [Act.put, sq1, sq2, sq3, i64_w, i32_w]
  rfl
 refine pure_ (i := 7) (N := some 13) (v := ?_) (a' := ?_) #[true, true, true, true, true, true, true, true, false, false, false] rfl rfl (by kernel_rfl) (fun _ _ _ h => h) (Or.inl ⟨by rfl, ?_⟩) ?_ ?_
 rotate_left
 ·intro w'
  go_simp
  try with_reducible rfl
 rotate_left
 ·simp only [Act.put, sq1, sq2, sq3, i64_w, i32_w]
  rfl
 refine take_ (i := 8) (N := some 14) (v := ?_) (a' := ?_) #[true, true, true, true, true, true, true, true, true, false, false] rfl rfl (by kernel_rfl) (fun _ _ _ h => h) (Or.inl ⟨by rfl, ?_⟩) hHeld ?_ ?_
 rotate_left
 ·intro w' hS
  obtain ⟨x0, x1, x2⟩ := hS
  go_simp
  try with_reducible rfl
 rotate_left
 ·simp only [Act.put, sq1, sq2, sq3, i64_w, i32_w]
  rfl
 refine one_ (i := 9) (N := some 15) #[true, true, true, true, true, true, true, true, true, true, false] rfl rfl (by kernel_rfl) (by decide) (fun K hK => ?_)
 refine value_ (w1 := ?_) (v := ?_) (by rfl) rfl ?_ ?_
 rotate_left 2
 ·go_simp
  constructor <;> rfl
 have hba := (Below.refl _ u).alloc (Nat.le_refl _) (.cells #[.int .i64 m.f0, .int .i64 m.f1, .int .i64 m.f2] 2)
 have HXe := Lib.hid (show MsBox (u.alloc (.cells #[.int .i64 m.f0, .int .i64 m.f1, .int .i64 m.f2] 2)) b m A8 c8 A12 c12 A16 c16 from HXd.out.below hba); have He := Lib.hid (Hd.out.below hba); have HBe := Lib.hid (HBd.out.alloc HBd.out.size (.cells #[.int .i64 m.f0, .int .i64 m.f1, .int .i64 m.f2] 2)); have HKe := Lib.hid (HKd.out.alloc (.cells #[.int .i64 m.f0, .int .i64 m.f1, .int .i64 m.f2] 2))
 clear hba
 obtain ⟨d0, d1, d2, d3, d4, d5, d6, d7, d8, d9, d10, d11, d12, d13, d14, d15, d16⟩ := HXe.out.cell
 refine hK.out _ _ ⟨d0, d1, d2⟩ (fun hHeld => ?_)
 clear hK K
 clear d0 d1 d2 d3 d4 d5 d6 d7 d8 d9 d10 d11 d12 d13 d14 d15 d16
 refine norm_ (a' := ?_) ?_ ?_
 rotate_left
 ·show Act.put _ (some 15) _ = _
  simp only [Act.put, sq1, sq2, sq3, i64_w, i32_w]
  rfl
 refine one_ (i := 10) (N := some 16) #[true, true, true, true, true, true, true, true, true, true, true] rfl rfl (by kernel_rfl) (by decide) (fun K hK => ?_)
 go_simp
 refine (nums_is He.out HBe.out HP.out _ 3 [m.f0, m.f1, m.f2] (C_lit u [m.f0, m.f1, m.f2] (by simp)) HO.out.h (by have := HS.out; have := HL0.out; simp only [List.length_cons, List.length_nil]; omega)).mono ?_
 rintro e v1 ⟨rfl, h1, h2, h3⟩
 obtain ⟨la1, hla⟩ : ∃ la, la0 ++ numsB [m.f0, m.f1, m.f2] = la := ⟨_, rfl⟩
 have HL1 := Lib.hid (show la1.length ≤ l0.length + 27 by rw [← hla]; have h8 := HL0.out; have h9 : (numsB [m.f0, m.f1, m.f2]).length ≤ 27 := numsB_le HO.out.h _ (by simp); simp only [List.length_append] at h9 ⊢; omega)
 have HQ1 := Lib.hid hla
 have H1 := Lib.hid (show IsPen v1 w0.heap.size p la1 by rw [← hla]; simpa only [List.append_assoc] using h1); have HB1 := Lib.hid h2; have HK1 := Lib.hid (HKe.out.trans h3); have HX1 := Lib.hid (HXe.out.keep h3 HNE.out)
 clear h1 h2 h3 hla
 obtain ⟨d0, d1, d2, d3, d4, d5, d6, d7, d8, d9, d10, d11, d12, d13, d14, d15, d16⟩ := HX1.out.cell
 refine hK.out _ _ ⟨d0, d1, d2⟩ (fun hHeld => ?_)
 clear hK K
 clear d0 d1 d2 d3 d4 d5 d6 d7 d8 d9 d10 d11 d12 d13 d14 d15 d16
 refine done_ (by kernel_rfl) ?_
 obtain ⟨d0, d1, d2, d3, d4, d5, d6, d7, d8, d9, d10, d11, d12, d13, d14, d15, d16⟩ := HX1.out.cell
 go_upto_region 4 with fail
 clear d0 d1 d2 d3 d4 d5 d6 d7 d8 d9 d10 d11 d12 d13 d14 d15 d16
 have HD := Lib.hid (show Below v1.heap.size v1 v1.drew from (Below.refl _ _).drew)
 have Hd := Lib.hid (H1.out.below HD.out); have HBd := Lib.hid HB1.out.drew; have HKd := Lib.hid HK1.out.drew; have HXd := Lib.hid (show MsBox v1.drew b m A8 c8 A12 c12 A16 c16 from HX1.out)
 clear HD
 obtain ⟨d0, d1, d2, d3, d4, d5, d6, d7, d8, d9, d10, d11, d12, d13, d14, d15, d16⟩ := HXd.out.cell
 refine start_ (n := 11) (S := fun w' => w'.cell? ⟨b, 3, none⟩ = some (.int .i64 m.f3) ∧ w'.cell? ⟨b, 4, none⟩ = some (.int .i64 m.f4) ∧ w'.cell? ⟨b, 5, none⟩ = some (.int .i64 m.f5)) (ds := []) #[false, false, false, false, false, false, false, false, false, false, false] (by kernel_rfl) rfl rfl ⟨d3, d4, d5⟩ (fun hHeld => ?_)
 obtain ⟨u, hu⟩ : ∃ u, v1.drew = u := ⟨_, rfl⟩
 rw [hu] at Hd HBd HKd HXd hHeld ⊢
 clear hu d0 d1 d2 d3 d4 d5 d6 d7 d8 d9 d10 d11 d12 d13 d14 d15 d16
 refine pure_ (i := 0) (N := some 21) (v := ?_) (a' := ?_) #[true, false, false, false, false, false, false, false, false, false, false] rfl rfl (by kernel_rfl) (fun _ _ _ h => h) (Or.inl ⟨by rfl, ?_⟩) ?_ ?_
 rotate_left
 ·intro w'
  go_simp
  try with_reducible rfl
 rotate_left
 ·simp only [Act.put, sq1, sq2, sq3, i64_w, i32_w]
  rfl
 refine pure_ (i := 1) (N := some 22) (v := ?_) (a' := ?_) #[true, true, false, false, false, false, false, false, false, false, false] rfl rfl (by kernel_rfl) (fun _ _ _ h => h) (Or.inl ⟨by rfl, ?_⟩) ?_ ?_
 rotate_left
 ·intro w'
  go_simp
  try with_reducible rfl
 rotate_left
 ·simp only [Act.put, sq1, sq2, sq3, i64_w, i32_w]
  rfl
 refine pure_ (i := 2) (N := some 23) (v := ?_) (a' := ?_) #[true, true, true, false, false, false, false, false, false, false, false] rfl rfl (by kernel_rfl) (fun _ _ _ h => h) (Or.inl ⟨by rfl, ?_⟩) ?_ ?_
 rotate_left
 ·intro w'
  go_simp
  try with_reducible rfl
 rotate_left
 ·simp only [Act.put, sq1, sq2, sq3, i64_w, i32_w]
  rfl
 refine pure_ (i := 3) (N := some 24) (v := ?_) (a' := ?_) #[true, true, true, true, false, false, false, false, false, false, false] rfl rfl (by kernel_rfl) (fun _ _ _ h => h) (Or.inl ⟨by rfl, ?_⟩) ?_ ?_
 rotate_left
 ·intro w'
  go_simp
  try with_reducible rfl
 rotate_left
 ·simp only [Act.put, sq1, sq2, sq3, i64_w, i32_w]
  rfl
 refine take_ (i := 4) (N := some 25) (v := ?_) (a' := ?_) #[true, true, true, true, true, false, false, false, false, false, false] rfl rfl (by kernel_rfl) (fun _ _ _ h => h) (Or.inl ⟨by rfl, ?_⟩) hHeld ?_ ?_
 rotate_left
 ·intro w' hS
  obtain ⟨x3, x4, x5⟩ := hS
  go_simp
  try with_reducible rfl
 rotate_left
 ·simp only [Act.put, sq1, sq2, sq3, i64_w, i32_w]
  rfl
 refine pure_ (i := 5) (N := some 26) (v := ?_) (a' := ?_) #[true, true, true, true, true, true, false, false, false, false, false] rfl rfl (by kernel_rfl) (fun _ _ _ h => h) (Or.inl ⟨by rfl, ?_⟩) ?_ ?_
 rotate_left
 ·intro w'
  go_simp
  try with_reducible rfl
 rotate_left
 ·simp only [Act.put, sq1, sq2, sq3, i64_w, i32_w]
  rfl
 refine take_ (i := 6) (N := some 27) (v := ?_) (a' := ?_) #[true, true, true, true, true, true, true, false, false, false, false] rfl rfl (by kernel_rfl) (fun _ _ _ h => h) (Or.inl ⟨by rfl, ?_⟩) hHeld ?_ ?_
 rotate_left
 ·intro w' hS
  obtain ⟨x3, x4, x5⟩ := hS
  go_simp
  try with_reducible rfl
 rotate_left
 ·simp only [Act.put, sq1, sq2, sq3, i64_w, i32_w]
  rfl
 refine pure_ (i := 7) (N := some 28) (v := ?_) (a' := ?_) #[true, true, true, true, true, true, true, true, false, false, false] rfl rfl (by kernel_rfl) (fun _ _ _ h => h) (Or.inl ⟨by rfl, ?_⟩) ?_ ?_
 rotate_left
 ·intro w'
  go_simp
  try with_reducible rfl
 rotate_left
 ·simp only [Act.put, sq1, sq2, sq3, i64_w, i32_w]
  rfl
 refine take_ (i := 8) (N := some 29) (v := ?_) (a' := ?_) #[true, true, true, true, true, true, true, true, true, false, false] rfl rfl (by kernel_rfl) (fun _ _ _ h => h) (Or.inl ⟨by rfl, ?_⟩) hHeld ?_ ?_
 rotate_left
 ·intro w' hS
  obtain ⟨x3, x4, x5⟩ := hS
  go_simp
  try with_reducible rfl
 rotate_left
 ·simp only [Act.put, sq1, sq2, sq3, i64_w, i32_w]
  rfl
 refine one_ (i := 9) (N := some 30) #[true, true, true, true, true, true, true, true, true, true, false] rfl rfl (by kernel_rfl) (by decide) (fun K hK => ?_)
 refine value_ (w1 := ?_) (v := ?_) (by rfl) rfl ?_ ?_
 rotate_left 2
 ·go_simp
  constructor <;> rfl
 have hba := (Below.refl _ u).alloc (Nat.le_refl _) (.cells #[.int .i64 m.f3, .int .i64 m.f4, .int .i64 m.f5] 2)
 have HXe := Lib.hid (show MsBox (u.alloc (.cells #[.int .i64 m.f3, .int .i64 m.f4, .int .i64 m.f5] 2)) b m A8 c8 A12 c12 A16 c16 from HXd.out.below hba); have He := Lib.hid (Hd.out.below hba); have HBe := Lib.hid (HBd.out.alloc HBd.out.size (.cells #[.int .i64 m.f3, .int .i64 m.f4, .int .i64 m.f5] 2)); have HKe := Lib.hid (HKd.out.alloc (.cells #[.int .i64 m.f3, .int .i64 m.f4, .int .i64 m.f5] 2))
 clear hba
 obtain ⟨d0, d1, d2, d3, d4, d5, d6, d7, d8, d9, d10, d11, d12, d13, d14, d15, d16⟩ := HXe.out.cell
 refine hK.out _ _ ⟨d3, d4, d5⟩ (fun hHeld => ?_)
 clear hK K
 clear d0 d1 d2 d3 d4 d5 d6 d7 d8 d9 d10 d11 d12 d13 d14 d15 d16
 refine norm_ (a' := ?_) ?_ ?_
 rotate_left
 ·show Act.put _ (some 30) _ = _
  simp only [Act.put, sq1, sq2, sq3, i64_w, i32_w]
  rfl
 refine one_ (i := 10) (N := some 31) #[true, true, true, true, true, true, true, true, true, true, true] rfl rfl (by kernel_rfl) (by decide) (fun K hK => ?_)
 go_simp
 refine (nums_is He.out HBe.out HP.out _ 3 [m.f3, m.f4, m.f5] (C_lit u [m.f3, m.f4, m.f5] (by simp)) HT3.out (by have := HS.out; have := HL1.out; simp only [List.length_cons, List.length_nil]; omega)).mono ?_
 rintro e v2 ⟨rfl, h1, h2, h3⟩
 obtain ⟨la2, hla⟩ : ∃ la, la1 ++ numsB [m.f3, m.f4, m.f5] = la := ⟨_, rfl⟩
 have HL2 := Lib.hid (show la2.length ≤ l0.length + 54 by rw [← hla]; have h8 := HL1.out; have h9 : (numsB [m.f3, m.f4, m.f5]).length ≤ 27 := numsB_le HT3.out _ (by simp); simp only [List.length_append] at h9 ⊢; omega)
 have HQ2 := Lib.hid hla
 have H2 := Lib.hid (show IsPen v2 w0.heap.size p la2 by rw [← hla]; simpa only [List.append_assoc] using h1); have HB2 := Lib.hid h2; have HK2 := Lib.hid (HKe.out.trans h3); have HX2 := Lib.hid (HXe.out.keep h3 HNE.out)
 clear h1 h2 h3 hla
 obtain ⟨d0, d1, d2, d3, d4, d5, d6, d7, d8, d9, d10, d11, d12, d13, d14, d15, d16⟩ := HX2.out.cell
 refine hK.out _ _ ⟨d3, d4, d5⟩ (fun hHeld => ?_)
 clear hK K
 clear d0 d1 d2 d3 d4 d5 d6 d7 d8 d9 d10 d11 d12 d13 d14 d15 d16
 refine done_ (by kernel_rfl) ?_
 have HF := Lib.hid (show IsPen v2 w0.heap.size p (l0 ++ msgB m) by
  have h1 := H2.out
  rw [← HQ2.out, ← HQ1.out, ← HQ0.out] at h1
  rw [HTB.out]
  simpa only [List.append_assoc, numsB_one] using h1)
 go_wp2_with fail
 go_end0
 exact ⟨rfl, HF.out, HB2.out, HK2.out⟩
set_option maxHeartbeats 4000000 in
theorem penMsg2 {w0 w : World} {p : Nat} {l0 : List Int} (hI : IsPen w w0.heap.size p l0) (hB : Below w0.heap.size w0 w) (hp : w0.heap.size ≤ p) (m : MsgD) {A8 A12 A16 : Option Addr} {c8 c12 c16 : Nat} (hm : MsgC w0 m A8 c8 A12 c12 A16 c16) (ho : OkM m) (hk : m.f0 = 2) (hs : l0.length + 200000000 < 140737488355328) :
  Calls Tryz.prog 50 #[.pointer (some ⟨p, 0, none⟩), .agg #[.int .i64 m.f0, .int .i64 m.f1, .int .i64 m.f2, .int .i64 m.f3, .int .i64 m.f4, .int .i64 m.f5, .int .i64 m.f6, .bool m.f7, .slice A8 m.f8.length c8, .int .i64 m.f9.f0, .int .i64 m.f9.f1, .int .i64 m.f9.f2, .slice A12 m.f9.f3.length c12, .int .i64 m.f10.f0, .int .i64 m.f10.f1, .int .i64 m.f10.f2, .slice A16 m.f10.f3.length c16]] w fun e w' => PenP w0 w p (l0 ++ msgB m) e w' := by
 have HO := Lib.hid ho; have HM := Lib.hid hm; have HP := Lib.hid hp; have HS := Lib.hid hs; have HL0 := Lib.hid (show l0.length ≤ l0.length + 0 from Nat.le_refl _)
 have HNE := Lib.hid (show w.heap.size ≠ p by have := hI.lt; omega)
 have H0 := Lib.hid (hI.below ((Below.refl _ w).alloc (Nat.le_refl _) (.cells #[.int .i64 m.f0, .int .i64 m.f1, .int .i64 m.f2, .int .i64 m.f3, .int .i64 m.f4, .int .i64 m.f5, .int .i64 m.f6, .bool m.f7, .slice A8 m.f8.length c8, .int .i64 m.f9.f0, .int .i64 m.f9.f1, .int .i64 m.f9.f2, .slice A12 m.f9.f3.length c12, .int .i64 m.f10.f0, .int .i64 m.f10.f1, .int .i64 m.f10.f2, .slice A16 m.f10.f3.length c16] 34))); have HB0 := Lib.hid (hB.alloc hB.size (.cells #[.int .i64 m.f0, .int .i64 m.f1, .int .i64 m.f2, .int .i64 m.f3, .int .i64 m.f4, .int .i64 m.f5, .int .i64 m.f6, .bool m.f7, .slice A8 m.f8.length c8, .int .i64 m.f9.f0, .int .i64 m.f9.f1, .int .i64 m.f9.f2, .slice A12 m.f9.f3.length c12, .int .i64 m.f10.f0, .int .i64 m.f10.f1, .int .i64 m.f10.f2, .slice A16 m.f10.f3.length c16] 34)); have HK0 := Lib.hid ((KeepS.refl (fun i => i = p) w).alloc (.cells #[.int .i64 m.f0, .int .i64 m.f1, .int .i64 m.f2, .int .i64 m.f3, .int .i64 m.f4, .int .i64 m.f5, .int .i64 m.f6, .bool m.f7, .slice A8 m.f8.length c8, .int .i64 m.f9.f0, .int .i64 m.f9.f1, .int .i64 m.f9.f2, .slice A12 m.f9.f3.length c12, .int .i64 m.f10.f0, .int .i64 m.f10.f1, .int .i64 m.f10.f2, .slice A16 m.f10.f3.length c16] 34))
 have HX0 := Lib.hid (show MsBox (w.alloc (.cells #[.int .i64 m.f0, .int .i64 m.f1, .int .i64 m.f2, .int .i64 m.f3, .int .i64 m.f4, .int .i64 m.f5, .int .i64 m.f6, .bool m.f7, .slice A8 m.f8.length c8, .int .i64 m.f9.f0, .int .i64 m.f9.f1, .int .i64 m.f9.f2, .slice A12 m.f9.f3.length c12, .int .i64 m.f10.f0, .int .i64 m.f10.f1, .int .i64 m.f10.f2, .slice A16 m.f10.f3.length c16] 34)) w.heap.size m A8 c8 A12 c12 A16 c16 from heap_alloc_new w _)
 have HT1 := Lib.hid (show okI [m.f3] = true by have := ho.t; simp only [okI_cons] at this ⊢; exact ⟨this.1, rfl⟩)
 have q1 : (m.f0 == 1) = false := by rw [hk]; rfl
 have q2 : (m.f0 == 2) = true := by rw [hk]; rfl
 have HTB := Lib.hid (show msgB m = numsB [m.f0, m.f1, m.f2] ++ (numB m.f3 ++ yesB m.f7) by unfold msgB tailB; simp only [hk]; rfl)
 clear hI hB hp hs ho hm hk
 go_enter Tryz.func50, Tryz.ntmps50
 go_upto_region 1 with fail
 obtain ⟨v0, hv⟩ : ∃ v, w.alloc (.cells #[.int .i64 m.f0, .int .i64 m.f1, .int .i64 m.f2, .int .i64 m.f3, .int .i64 m.f4, .int .i64 m.f5, .int .i64 m.f6, .bool m.f7, .slice A8 m.f8.length c8, .int .i64 m.f9.f0, .int .i64 m.f9.f1, .int .i64 m.f9.f2, .slice A12 m.f9.f3.length c12, .int .i64 m.f10.f0, .int .i64 m.f10.f1, .int .i64 m.f10.f2, .slice A16 m.f10.f3.length c16] 34) = v := ⟨_, rfl⟩
 obtain ⟨b, hb⟩ : ∃ b, w.heap.size = b := ⟨_, rfl⟩
 rw [hv] at H0 HB0 HK0 HX0 ⊢
 rw [hb] at HNE HX0 ⊢
 clear hv hb
 obtain ⟨la0, hl0⟩ : ∃ la, l0 = la := ⟨_, rfl⟩
 have HQ0 := Lib.hid hl0
 have HLZ := Lib.hid (show la0.length ≤ l0.length + 0 by rw [← hl0]; exact Nat.le_refl _)
 rw [hl0] at H0
 clear hl0 HL0
 have HL0 := HLZ
 have HD := Lib.hid (show Below v0.heap.size v0 v0.drew from (Below.refl _ _).drew)
 have Hd := Lib.hid (H0.out.below HD.out); have HBd := Lib.hid HB0.out.drew; have HKd := Lib.hid HK0.out.drew; have HXd := Lib.hid (show MsBox v0.drew b m A8 c8 A12 c12 A16 c16 from HX0.out)
 clear HD
 obtain ⟨d0, d1, d2, d3, d4, d5, d6, d7, d8, d9, d10, d11, d12, d13, d14, d15, d16⟩ := HXd.out.cell
 refine start_ (n := 11) (S := fun w' => w'.cell? ⟨b, 0, none⟩ = some (.int .i64 m.f0) ∧ w'.cell? ⟨b, 1, none⟩ = some (.int .i64 m.f1) ∧ w'.cell? ⟨b, 2, none⟩ = some (.int .i64 m.f2)) (ds := []) #[false, false, false, false, false, false, false, false, false, false, false] (by kernel_rfl) rfl rfl ⟨d0, d1, d2⟩ (fun hHeld => ?_)
 obtain ⟨u, hu⟩ : ∃ u, v0.drew = u := ⟨_, rfl⟩
 rw [hu] at Hd HBd HKd HXd hHeld ⊢
 clear hu d0 d1 d2 d3 d4 d5 d6 d7 d8 d9 d10 d11 d12 d13 d14 d15 d16
 refine pure_ (i := 0) (N := some 6) (v := ?_) (a' := ?_) #[true, false, false, false, false, false, false, false, false, false, false] rfl rfl (by kernel_rfl) (fun _ _ _ h => h) (Or.inl ⟨by rfl, ?_⟩) ?_ ?_
 rotate_left
 ·intro w'
  go_simp
  try with_reducible rfl
 rotate_left
 ·simp only [Act.put, sq1, sq2, sq3, i64_w, i32_w]
  rfl
 refine pure_ (i := 1) (N := some 7) (v := ?_) (a' := ?_) #[true, true, false, false, false, false, false, false, false, false, false] rfl rfl (by kernel_rfl) (fun _ _ _ h => h) (Or.inl ⟨by rfl, ?_⟩) ?_ ?_
 rotate_left
 ·intro w'
  go_simp
  try with_reducible rfl
 rotate_left
 ·simp only [Act.put, sq1, sq2, sq3, i64_w, i32_w]
  rfl
 refine pure_ (i := 2) (N := some 8) (v := ?_) (a' := ?_) #[true, true, true, false, false, false, false, false, false, false, false] rfl rfl (by kernel_rfl) (fun _ _ _ h => h) (Or.inl ⟨by rfl, ?_⟩) ?_ ?_
 rotate_left
 ·intro w'
  go_simp
  try with_reducible rfl
 rotate_left
 ·simp only [Act.put, sq1, sq2, sq3, i64_w, i32_w]
  rfl
 refine pure_ (i := 3) (N := some 9) (v := ?_) (a' := ?_) #[true, true, true, true, false, false, false, false, false, false, false] rfl rfl (by kernel_rfl) (fun _ _ _ h => h) (Or.inl ⟨by rfl, ?_⟩) ?_ ?_
 rotate_left
 ·intro w'
  go_simp
  try with_reducible rfl
 rotate_left
 ·simp only [Act.put, sq1, sq2, sq3, i64_w, i32_w]
  rfl
 refine take_ (i := 4) (N := some 10) (v := ?_) (a' := ?_) #[true, true, true, true, true, false, false, false, false, false, false] rfl rfl (by kernel_rfl) (fun _ _ _ h => h) (Or.inl ⟨by rfl, ?_⟩) hHeld ?_ ?_
 rotate_left
 ·intro w' hS
  obtain ⟨x0, x1, x2⟩ := hS
  go_simp
  try with_reducible rfl
 rotate_left
 ·simp only [Act.put, sq1, sq2, sq3, i64_w, i32_w]
  rfl
 refine pure_ (i := 5) (N := some 11) (v := ?_) (a' := ?_) #[true, true, true, true, true, true, false, false, false, false, false] rfl rfl (by kernel_rfl) (fun _ _ _ h => h) (Or.inl ⟨by rfl, ?_⟩) ?_ ?_
 rotate_left
 ·intro w'
  go_simp
  try with_reducible rfl
 rotate_left
 ·simp only [Act.put, sq1, sq2, sq3, i64_w, i32_w]
  rfl
 refine take_ (i := 6) (N := some 12) (v := ?_) (a' := ?_) #[true, true, true, true, true, true, true, false, false, false, false] rfl rfl (by kernel_rfl) (fun _ _ _ h => h) (Or.inl ⟨by rfl, ?_⟩) hHeld ?_ ?_
 rotate_left
 ·intro w' hS
  obtain ⟨x0, x1, x2⟩ := hS
  go_simp
  try with_reducible rfl
 rotate_left
 ·simp only [Act.put, sq1, sq2, sq3, i64_w, i32_w]
  rfl
 refine pure_ (i := 7) (N := some 13) (v := ?_) (a' := ?_) #[true, true, true, true, true, true, true, true, false, false, false] rfl rfl (by kernel_rfl) (fun _ _ _ h => h) (Or.inl ⟨by rfl, ?_⟩) ?_ ?_
 rotate_left
 ·intro w'
  go_simp
  try with_reducible rfl
 rotate_left
 ·simp only [Act.put, sq1, sq2, sq3, i64_w, i32_w]
  rfl
 refine take_ (i := 8) (N := some 14) (v := ?_) (a' := ?_) #[true, true, true, true, true, true, true, true, true, false, false] rfl rfl (by kernel_rfl) (fun _ _ _ h => h) (Or.inl ⟨by rfl, ?_⟩) hHeld ?_ ?_
 rotate_left
 ·intro w' hS
  obtain ⟨x0, x1, x2⟩ := hS
  go_simp
  try with_reducible rfl
 rotate_left
 ·simp only [Act.put, sq1, sq2, sq3, i64_w, i32_w]
  rfl
 refine one_ (i := 9) (N := some 15) #[true, true, true, true, true, true, true, true, true, true, false] rfl rfl (by kernel_rfl) (by decide) (fun K hK => ?_)
 refine value_ (w1 := ?_) (v := ?_) (by rfl) rfl ?_ ?_
 rotate_left 2
 ·go_simp
  constructor <;> rfl
 have hba := (Below.refl _ u).alloc (Nat.le_refl _) (.cells #[.int .i64 m.f0, .int .i64 m.f1, .int .i64 m.f2] 2)
 have HXe := Lib.hid (show MsBox (u.alloc (.cells #[.int .i64 m.f0, .int .i64 m.f1, .int .i64 m.f2] 2)) b m A8 c8 A12 c12 A16 c16 from HXd.out.below hba); have He := Lib.hid (Hd.out.below hba); have HBe := Lib.hid (HBd.out.alloc HBd.out.size (.cells #[.int .i64 m.f0, .int .i64 m.f1, .int .i64 m.f2] 2)); have HKe := Lib.hid (HKd.out.alloc (.cells #[.int .i64 m.f0, .int .i64 m.f1, .int .i64 m.f2] 2))
 clear hba
 obtain ⟨d0, d1, d2, d3, d4, d5, d6, d7, d8, d9, d10, d11, d12, d13, d14, d15, d16⟩ := HXe.out.cell
 refine hK.out _ _ ⟨d0, d1, d2⟩ (fun hHeld => ?_)
 clear hK K
 clear d0 d1 d2 d3 d4 d5 d6 d7 d8 d9 d10 d11 d12 d13 d14 d15 d16
 refine norm_ (a' := ?_) ?_ ?_
 rotate_left
 ·show Act.put _ (some 15) _ = _
  simp only [Act.put, sq1, sq2, sq3, i64_w, i32_w]
  rfl
 refine one_ (i := 10) (N := some 16) #[true, true, true, true, true, true, true, true, true, true, true] rfl rfl (by kernel_rfl) (by decide) (fun K hK => ?_)
 go_simp
 refine (nums_is He.out HBe.out HP.out _ 3 [m.f0, m.f1, m.f2] (C_lit u [m.f0, m.f1, m.f2] (by simp)) HO.out.h (by have := HS.out; have := HL0.out; simp only [List.length_cons, List.length_nil]; omega)).mono ?_
 rintro e v1 ⟨rfl, h1, h2, h3⟩
 obtain ⟨la1, hla⟩ : ∃ la, la0 ++ numsB [m.f0, m.f1, m.f2] = la := ⟨_, rfl⟩
 have HL1 := Lib.hid (show la1.length ≤ l0.length + 27 by rw [← hla]; have h8 := HL0.out; have h9 : (numsB [m.f0, m.f1, m.f2]).length ≤ 27 := numsB_le HO.out.h _ (by simp); simp only [List.length_append] at h9 ⊢; omega)
 have HQ1 := Lib.hid hla
 have H1 := Lib.hid (show IsPen v1 w0.heap.size p la1 by rw [← hla]; simpa only [List.append_assoc] using h1); have HB1 := Lib.hid h2; have HK1 := Lib.hid (HKe.out.trans h3); have HX1 := Lib.hid (HXe.out.keep h3 HNE.out)
 clear h1 h2 h3 hla
 obtain ⟨d0, d1, d2, d3, d4, d5, d6, d7, d8, d9, d10, d11, d12, d13, d14, d15, d16⟩ := HX1.out.cell
 refine hK.out _ _ ⟨d0, d1, d2⟩ (fun hHeld => ?_)
 clear hK K
 clear d0 d1 d2 d3 d4 d5 d6 d7 d8 d9 d10 d11 d12 d13 d14 d15 d16
 refine done_ (by kernel_rfl) ?_
 obtain ⟨d0, d1, d2, d3, d4, d5, d6, d7, d8, d9, d10, d11, d12, d13, d14, d15, d16⟩ := HX1.out.cell
 go_upto_region 6 with fail
 clear d0 d1 d2 d3 d4 d5 d6 d7 d8 d9 d10 d11 d12 d13 d14 d15 d16
 have HD := Lib.hid (show Below v1.heap.size v1 v1.drew from (Below.refl _ _).drew)
 have Hd := Lib.hid (H1.out.below HD.out); have HBd := Lib.hid HB1.out.drew; have HKd := Lib.hid HK1.out.drew; have HXd := Lib.hid (show MsBox v1.drew b m A8 c8 A12 c12 A16 c16 from HX1.out)
 clear HD
 obtain ⟨d0, d1, d2, d3, d4, d5, d6, d7, d8, d9, d10, d11, d12, d13, d14, d15, d16⟩ := HXd.out.cell
 refine start_ (n := 7) (S := fun w' => w'.cell? ⟨b, 3, none⟩ = some (.int .i64 m.f3)) (ds := []) #[false, false, false, false, false, false, false] (by kernel_rfl) rfl rfl d3 (fun hHeld => ?_)
 obtain ⟨u, hu⟩ : ∃ u, v1.drew = u := ⟨_, rfl⟩
 rw [hu] at Hd HBd HKd HXd hHeld ⊢
 clear hu d0 d1 d2 d3 d4 d5 d6 d7 d8 d9 d10 d11 d12 d13 d14 d15 d16
 refine pure_ (i := 0) (N := some 34) (v := ?_) (a' := ?_) #[true, false, false, false, false, false, false] rfl rfl (by kernel_rfl) (fun _ _ _ h => h) (Or.inl ⟨by rfl, ?_⟩) ?_ ?_
 rotate_left
 ·intro w'
  go_simp
  try with_reducible rfl
 rotate_left
 ·simp only [Act.put, sq1, sq2, sq3, i64_w, i32_w]
  rfl
 refine pure_ (i := 1) (N := some 35) (v := ?_) (a' := ?_) #[true, true, false, false, false, false, false] rfl rfl (by kernel_rfl) (fun _ _ _ h => h) (Or.inl ⟨by rfl, ?_⟩) ?_ ?_
 rotate_left
 ·intro w'
  go_simp
  try with_reducible rfl
 rotate_left
 ·simp only [Act.put, sq1, sq2, sq3, i64_w, i32_w]
  rfl
 refine pure_ (i := 2) (N := some 36) (v := ?_) (a' := ?_) #[true, true, true, false, false, false, false] rfl rfl (by kernel_rfl) (fun _ _ _ h => h) (Or.inl ⟨by rfl, ?_⟩) ?_ ?_
 rotate_left
 ·intro w'
  go_simp
  try with_reducible rfl
 rotate_left
 ·simp only [Act.put, sq1, sq2, sq3, i64_w, i32_w]
  rfl
 refine pure_ (i := 3) (N := some 37) (v := ?_) (a' := ?_) #[true, true, true, true, false, false, false] rfl rfl (by kernel_rfl) (fun _ _ _ h => h) (Or.inl ⟨by rfl, ?_⟩) ?_ ?_
 rotate_left
 ·intro w'
  go_simp
  try with_reducible rfl
 rotate_left
 ·simp only [Act.put, sq1, sq2, sq3, i64_w, i32_w]
  rfl
 refine take_ (i := 4) (N := some 38) (v := ?_) (a' := ?_) #[true, true, true, true, true, false, false] rfl rfl (by kernel_rfl) (fun _ _ _ h => h) (Or.inl ⟨by rfl, ?_⟩) hHeld ?_ ?_
 rotate_left
 ·intro w' hS
  have x0 := hS
  go_simp
  try with_reducible rfl
 rotate_left
 ·simp only [Act.put, sq1, sq2, sq3, i64_w, i32_w]
  rfl
 refine one_ (i := 5) (N := some 39) #[true, true, true, true, true, true, false] rfl rfl (by kernel_rfl) (by decide) (fun K hK => ?_)
 refine value_ (w1 := ?_) (v := ?_) (by rfl) rfl ?_ ?_
 rotate_left 2
 ·go_simp
  constructor <;> rfl
 have hba := (Below.refl _ u).alloc (Nat.le_refl _) (.cells #[.int .i64 m.f3] 2)
 have HXe := Lib.hid (show MsBox (u.alloc (.cells #[.int .i64 m.f3] 2)) b m A8 c8 A12 c12 A16 c16 from HXd.out.below hba); have He := Lib.hid (Hd.out.below hba); have HBe := Lib.hid (HBd.out.alloc HBd.out.size (.cells #[.int .i64 m.f3] 2)); have HKe := Lib.hid (HKd.out.alloc (.cells #[.int .i64 m.f3] 2))
 clear hba
 obtain ⟨d0, d1, d2, d3, d4, d5, d6, d7, d8, d9, d10, d11, d12, d13, d14, d15, d16⟩ := HXe.out.cell
 refine hK.out _ _ d3 (fun hHeld => ?_)
 clear hK K
 clear d0 d1 d2 d3 d4 d5 d6 d7 d8 d9 d10 d11 d12 d13 d14 d15 d16
 refine norm_ (a' := ?_) ?_ ?_
 rotate_left
 ·show Act.put _ (some 39) _ = _
  simp only [Act.put, sq1, sq2, sq3, i64_w, i32_w]
  rfl
 refine one_ (i := 6) (N := some 40) #[true, true, true, true, true, true, true] rfl rfl (by kernel_rfl) (by decide) (fun K hK => ?_)
 go_simp
 refine (nums_is He.out HBe.out HP.out _ 1 [m.f3] (C_lit u [m.f3] (by simp)) HT1.out (by have := HS.out; have := HL1.out; simp only [List.length_cons, List.length_nil]; omega)).mono ?_
 rintro e v2 ⟨rfl, h1, h2, h3⟩
 obtain ⟨la2, hla⟩ : ∃ la, la1 ++ numsB [m.f3] = la := ⟨_, rfl⟩
 have HL2 := Lib.hid (show la2.length ≤ l0.length + 36 by rw [← hla]; have h8 := HL1.out; have h9 : (numsB [m.f3]).length ≤ 9 := numsB_le HT1.out _ (by simp); simp only [List.length_append] at h9 ⊢; omega)
 have HQ2 := Lib.hid hla
 have H2 := Lib.hid (show IsPen v2 w0.heap.size p la2 by rw [← hla]; simpa only [List.append_assoc] using h1); have HB2 := Lib.hid h2; have HK2 := Lib.hid (HKe.out.trans h3); have HX2 := Lib.hid (HXe.out.keep h3 HNE.out)
 clear h1 h2 h3 hla
 obtain ⟨d0, d1, d2, d3, d4, d5, d6, d7, d8, d9, d10, d11, d12, d13, d14, d15, d16⟩ := HX2.out.cell
 refine hK.out _ _ d3 (fun hHeld => ?_)
 clear hK K
 clear d0 d1 d2 d3 d4 d5 d6 d7 d8 d9 d10 d11 d12 d13 d14 d15 d16
 refine done_ (by kernel_rfl) ?_
 obtain ⟨d0, d1, d2, d3, d4, d5, d6, d7, d8, d9, d10, d11, d12, d13, d14, d15, d16⟩ := HX2.out.cell
 go_wp2_with fail
 refine (penYes_is H2.out HB2.out HP.out m.f7 (by have := HS.out; have := HL2.out; omega)).mono ?_
 rintro e v3 ⟨rfl, h1, h2, h3⟩
 obtain ⟨la3, hla⟩ : ∃ la, la2 ++ yesB m.f7 = la := ⟨_, rfl⟩
 have HL3 := Lib.hid (show la3.length ≤ l0.length + 45 by rw [← hla]; have h8 := HL2.out; have h9 : (yesB m.f7).length ≤ 9 := yesB_len _; simp only [List.length_append] at h9 ⊢; omega)
 have HQ3 := Lib.hid hla
 have H3 := Lib.hid (show IsPen v3 w0.heap.size p la3 by rw [← hla]; simpa only [List.append_assoc] using h1); have HB3 := Lib.hid h2; have HK3 := Lib.hid (HK2.out.trans h3); have HX3 := Lib.hid (HX2.out.keep h3 HNE.out)
 clear h1 h2 h3 hla
 clear d0 d1 d2 d3 d4 d5 d6 d7 d8 d9 d10 d11 d12 d13 d14 d15 d16
 have HF := Lib.hid (show IsPen v3 w0.heap.size p (l0 ++ msgB m) by
  have h1 := H3.out
  rw [← HQ3.out, ← HQ2.out, ← HQ1.out, ← HQ0.out] at h1
  rw [HTB.out]
  simpa only [List.append_assoc, numsB_one] using h1)
 go_wp2_with fail
 go_end0
 exact ⟨rfl, HF.out, HB3.out, HK3.out⟩
set_option maxHeartbeats 4000000 in
theorem penMsg3 {w0 w : World} {p : Nat} {l0 : List Int} (hI : IsPen w w0.heap.size p l0) (hB : Below w0.heap.size w0 w) (hp : w0.heap.size ≤ p) (m : MsgD) {A8 A12 A16 : Option Addr} {c8 c12 c16 : Nat} (hm : MsgC w0 m A8 c8 A12 c12 A16 c16) (ho : OkM m) (hk : m.f0 = 3) (hml : m.f8.all mayTr = true) (hl8 : m.f8.length ≤ 4096) (hs : l0.length + 200000000 < 140737488355328) :
  Calls Tryz.prog 50 #[.pointer (some ⟨p, 0, none⟩), .agg #[.int .i64 m.f0, .int .i64 m.f1, .int .i64 m.f2, .int .i64 m.f3, .int .i64 m.f4, .int .i64 m.f5, .int .i64 m.f6, .bool m.f7, .slice A8 m.f8.length c8, .int .i64 m.f9.f0, .int .i64 m.f9.f1, .int .i64 m.f9.f2, .slice A12 m.f9.f3.length c12, .int .i64 m.f10.f0, .int .i64 m.f10.f1, .int .i64 m.f10.f2, .slice A16 m.f10.f3.length c16]] w fun e w' => PenP w0 w p (l0 ++ msgB m) e w' := by
 have HO := Lib.hid ho; have HM := Lib.hid hm; have HP := Lib.hid hp; have HS := Lib.hid hs; have HL0 := Lib.hid (show l0.length ≤ l0.length + 0 from Nat.le_refl _)
 have HNE := Lib.hid (show w.heap.size ≠ p by have := hI.lt; omega)
 have H0 := Lib.hid (hI.below ((Below.refl _ w).alloc (Nat.le_refl _) (.cells #[.int .i64 m.f0, .int .i64 m.f1, .int .i64 m.f2, .int .i64 m.f3, .int .i64 m.f4, .int .i64 m.f5, .int .i64 m.f6, .bool m.f7, .slice A8 m.f8.length c8, .int .i64 m.f9.f0, .int .i64 m.f9.f1, .int .i64 m.f9.f2, .slice A12 m.f9.f3.length c12, .int .i64 m.f10.f0, .int .i64 m.f10.f1, .int .i64 m.f10.f2, .slice A16 m.f10.f3.length c16] 34))); have HB0 := Lib.hid (hB.alloc hB.size (.cells #[.int .i64 m.f0, .int .i64 m.f1, .int .i64 m.f2, .int .i64 m.f3, .int .i64 m.f4, .int .i64 m.f5, .int .i64 m.f6, .bool m.f7, .slice A8 m.f8.length c8, .int .i64 m.f9.f0, .int .i64 m.f9.f1, .int .i64 m.f9.f2, .slice A12 m.f9.f3.length c12, .int .i64 m.f10.f0, .int .i64 m.f10.f1, .int .i64 m.f10.f2, .slice A16 m.f10.f3.length c16] 34)); have HK0 := Lib.hid ((KeepS.refl (fun i => i = p) w).alloc (.cells #[.int .i64 m.f0, .int .i64 m.f1, .int .i64 m.f2, .int .i64 m.f3, .int .i64 m.f4, .int .i64 m.f5, .int .i64 m.f6, .bool m.f7, .slice A8 m.f8.length c8, .int .i64 m.f9.f0, .int .i64 m.f9.f1, .int .i64 m.f9.f2, .slice A12 m.f9.f3.length c12, .int .i64 m.f10.f0, .int .i64 m.f10.f1, .int .i64 m.f10.f2, .slice A16 m.f10.f3.length c16] 34))
 have HX0 := Lib.hid (show MsBox (w.alloc (.cells #[.int .i64 m.f0, .int .i64 m.f1, .int .i64 m.f2, .int .i64 m.f3, .int .i64 m.f4, .int .i64 m.f5, .int .i64 m.f6, .bool m.f7, .slice A8 m.f8.length c8, .int .i64 m.f9.f0, .int .i64 m.f9.f1, .int .i64 m.f9.f2, .slice A12 m.f9.f3.length c12, .int .i64 m.f10.f0, .int .i64 m.f10.f1, .int .i64 m.f10.f2, .slice A16 m.f10.f3.length c16] 34)) w.heap.size m A8 c8 A12 c12 A16 c16 from heap_alloc_new w _)
 have HML := Lib.hid hml; have HL8 := Lib.hid hl8; have hlm : m.f8.length ≤ 9223372036854775807 := hm.g8.2.1
 have HI8 := Lib.hid (show isI64 (m.f8.length : Int) by unfold isI64; omega)
 have q1 : (m.f0 == 1) = false := by rw [hk]; rfl
 have q2 : (m.f0 == 2) = false := by rw [hk]; rfl
 have q3 : (m.f0 == 3) = true := by rw [hk]; rfl
 have HTB := Lib.hid (show msgB m = numsB [m.f0, m.f1, m.f2] ++ (numsB [m.f3, m.f4, m.f5, m.f6] ++ numB m.f8.length ++ m.f8.flatMap trB) by unfold msgB tailB; simp only [hk]; rfl)
 clear hI hB hp hs ho hm hk hml hl8
 go_enter Tryz.func50, Tryz.ntmps50
 go_upto_region 1 with fail
 obtain ⟨v0, hv⟩ : ∃ v, w.alloc (.cells #[.int .i64 m.f0, .int .i64 m.f1, .int .i64 m.f2, .int .i64 m.f3, .int .i64 m.f4, .int .i64 m.f5, .int .i64 m.f6, .bool m.f7, .slice A8 m.f8.length c8, .int .i64 m.f9.f0, .int .i64 m.f9.f1, .int .i64 m.f9.f2, .slice A12 m.f9.f3.length c12, .int .i64 m.f10.f0, .int .i64 m.f10.f1, .int .i64 m.f10.f2, .slice A16 m.f10.f3.length c16] 34) = v := ⟨_, rfl⟩
 obtain ⟨b, hb⟩ : ∃ b, w.heap.size = b := ⟨_, rfl⟩
 rw [hv] at H0 HB0 HK0 HX0 ⊢
 rw [hb] at HNE HX0 ⊢
 clear hv hb
 obtain ⟨la0, hl0⟩ : ∃ la, l0 = la := ⟨_, rfl⟩
 have HQ0 := Lib.hid hl0
 have HLZ := Lib.hid (show la0.length ≤ l0.length + 0 by rw [← hl0]; exact Nat.le_refl _)
 rw [hl0] at H0
 clear hl0 HL0
 have HL0 := HLZ
 have HD := Lib.hid (show Below v0.heap.size v0 v0.drew from (Below.refl _ _).drew)
 have Hd := Lib.hid (H0.out.below HD.out); have HBd := Lib.hid HB0.out.drew; have HKd := Lib.hid HK0.out.drew; have HXd := Lib.hid (show MsBox v0.drew b m A8 c8 A12 c12 A16 c16 from HX0.out)
 clear HD
 obtain ⟨d0, d1, d2, d3, d4, d5, d6, d7, d8, d9, d10, d11, d12, d13, d14, d15, d16⟩ := HXd.out.cell
 refine start_ (n := 11) (S := fun w' => w'.cell? ⟨b, 0, none⟩ = some (.int .i64 m.f0) ∧ w'.cell? ⟨b, 1, none⟩ = some (.int .i64 m.f1) ∧ w'.cell? ⟨b, 2, none⟩ = some (.int .i64 m.f2)) (ds := []) #[false, false, false, false, false, false, false, false, false, false, false] (by kernel_rfl) rfl rfl ⟨d0, d1, d2⟩ (fun hHeld => ?_)
 obtain ⟨u, hu⟩ : ∃ u, v0.drew = u := ⟨_, rfl⟩
 rw [hu] at Hd HBd HKd HXd hHeld ⊢
 clear hu d0 d1 d2 d3 d4 d5 d6 d7 d8 d9 d10 d11 d12 d13 d14 d15 d16
 refine pure_ (i := 0) (N := some 6) (v := ?_) (a' := ?_) #[true, false, false, false, false, false, false, false, false, false, false] rfl rfl (by kernel_rfl) (fun _ _ _ h => h) (Or.inl ⟨by rfl, ?_⟩) ?_ ?_
 rotate_left
 ·intro w'
  go_simp
  try with_reducible rfl
 rotate_left
 ·simp only [Act.put, sq1, sq2, sq3, i64_w, i32_w]
  rfl
 refine pure_ (i := 1) (N := some 7) (v := ?_) (a' := ?_) #[true, true, false, false, false, false, false, false, false, false, false] rfl rfl (by kernel_rfl) (fun _ _ _ h => h) (Or.inl ⟨by rfl, ?_⟩) ?_ ?_
 rotate_left
 ·intro w'
  go_simp
  try with_reducible rfl
 rotate_left
 ·simp only [Act.put, sq1, sq2, sq3, i64_w, i32_w]
  rfl
 refine pure_ (i := 2) (N := some 8) (v := ?_) (a' := ?_) #[true, true, true, false, false, false, false, false, false, false, false] rfl rfl (by kernel_rfl) (fun _ _ _ h => h) (Or.inl ⟨by rfl, ?_⟩) ?_ ?_
 rotate_left
 ·intro w'
  go_simp
  try with_reducible rfl
 rotate_left
 ·simp only [Act.put, sq1, sq2, sq3, i64_w, i32_w]
  rfl
 refine pure_ (i := 3) (N := some 9) (v := ?_) (a' := ?_) #[true, true, true, true, false, false, false, false, false, false, false] rfl rfl (by kernel_rfl) (fun _ _ _ h => h) (Or.inl ⟨by rfl, ?_⟩) ?_ ?_
 rotate_left
 ·intro w'
  go_simp
  try with_reducible rfl
 rotate_left
 ·simp only [Act.put, sq1, sq2, sq3, i64_w, i32_w]
  rfl
 refine take_ (i := 4) (N := some 10) (v := ?_) (a' := ?_) #[true, true, true, true, true, false, false, false, false, false, false] rfl rfl (by kernel_rfl) (fun _ _ _ h => h) (Or.inl ⟨by rfl, ?_⟩) hHeld ?_ ?_
 rotate_left
 ·intro w' hS
  obtain ⟨x0, x1, x2⟩ := hS
  go_simp
  try with_reducible rfl
 rotate_left
 ·simp only [Act.put, sq1, sq2, sq3, i64_w, i32_w]
  rfl
 refine pure_ (i := 5) (N := some 11) (v := ?_) (a' := ?_) #[true, true, true, true, true, true, false, false, false, false, false] rfl rfl (by kernel_rfl) (fun _ _ _ h => h) (Or.inl ⟨by rfl, ?_⟩) ?_ ?_
 rotate_left
 ·intro w'
  go_simp
  try with_reducible rfl
 rotate_left
 ·simp only [Act.put, sq1, sq2, sq3, i64_w, i32_w]
  rfl
 refine take_ (i := 6) (N := some 12) (v := ?_) (a' := ?_) #[true, true, true, true, true, true, true, false, false, false, false] rfl rfl (by kernel_rfl) (fun _ _ _ h => h) (Or.inl ⟨by rfl, ?_⟩) hHeld ?_ ?_
 rotate_left
 ·intro w' hS
  obtain ⟨x0, x1, x2⟩ := hS
  go_simp
  try with_reducible rfl
 rotate_left
 ·simp only [Act.put, sq1, sq2, sq3, i64_w, i32_w]
  rfl
 refine pure_ (i := 7) (N := some 13) (v := ?_) (a' := ?_) #[true, true, true, true, true, true, true, true, false, false, false] rfl rfl (by kernel_rfl) (fun _ _ _ h => h) (Or.inl ⟨by rfl, ?_⟩) ?_ ?_
 rotate_left
 ·intro w'
  go_simp
  try with_reducible rfl
 rotate_left
 ·simp only [Act.put, sq1, sq2, sq3, i64_w, i32_w]
  rfl
 refine take_ (i := 8) (N := some 14) (v := ?_) (a' := ?_) #[true, true, true, true, true, true, true, true, true, false, false] rfl rfl (by kernel_rfl) (fun _ _ _ h => h) (Or.inl ⟨by rfl, ?_⟩) hHeld ?_ ?_
 rotate_left
 ·intro w' hS
  obtain ⟨x0, x1, x2⟩ := hS
  go_simp
  try with_reducible rfl
 rotate_left
 ·simp only [Act.put, sq1, sq2, sq3, i64_w, i32_w]
  rfl
 refine one_ (i := 9) (N := some 15) #[true, true, true, true, true, true, true, true, true, true, false] rfl rfl (by kernel_rfl) (by decide) (fun K hK => ?_)
 refine value_ (w1 := ?_) (v := ?_) (by rfl) rfl ?_ ?_
 rotate_left 2
 ·go_simp
  constructor <;> rfl
 have hba := (Below.refl _ u).alloc (Nat.le_refl _) (.cells #[.int .i64 m.f0, .int .i64 m.f1, .int .i64 m.f2] 2)
 have HXe := Lib.hid (show MsBox (u.alloc (.cells #[.int .i64 m.f0, .int .i64 m.f1, .int .i64 m.f2] 2)) b m A8 c8 A12 c12 A16 c16 from HXd.out.below hba); have He := Lib.hid (Hd.out.below hba); have HBe := Lib.hid (HBd.out.alloc HBd.out.size (.cells #[.int .i64 m.f0, .int .i64 m.f1, .int .i64 m.f2] 2)); have HKe := Lib.hid (HKd.out.alloc (.cells #[.int .i64 m.f0, .int .i64 m.f1, .int .i64 m.f2] 2))
 clear hba
 obtain ⟨d0, d1, d2, d3, d4, d5, d6, d7, d8, d9, d10, d11, d12, d13, d14, d15, d16⟩ := HXe.out.cell
 refine hK.out _ _ ⟨d0, d1, d2⟩ (fun hHeld => ?_)
 clear hK K
 clear d0 d1 d2 d3 d4 d5 d6 d7 d8 d9 d10 d11 d12 d13 d14 d15 d16
 refine norm_ (a' := ?_) ?_ ?_
 rotate_left
 ·show Act.put _ (some 15) _ = _
  simp only [Act.put, sq1, sq2, sq3, i64_w, i32_w]
  rfl
 refine one_ (i := 10) (N := some 16) #[true, true, true, true, true, true, true, true, true, true, true] rfl rfl (by kernel_rfl) (by decide) (fun K hK => ?_)
 go_simp
 refine (nums_is He.out HBe.out HP.out _ 3 [m.f0, m.f1, m.f2] (C_lit u [m.f0, m.f1, m.f2] (by simp)) HO.out.h (by have := HS.out; have := HL0.out; simp only [List.length_cons, List.length_nil]; omega)).mono ?_
 rintro e v1 ⟨rfl, h1, h2, h3⟩
 obtain ⟨la1, hla⟩ : ∃ la, la0 ++ numsB [m.f0, m.f1, m.f2] = la := ⟨_, rfl⟩
 have HL1 := Lib.hid (show la1.length ≤ l0.length + 27 by rw [← hla]; have h8 := HL0.out; have h9 : (numsB [m.f0, m.f1, m.f2]).length ≤ 27 := numsB_le HO.out.h _ (by simp); simp only [List.length_append] at h9 ⊢; omega)
 have HQ1 := Lib.hid hla
 have H1 := Lib.hid (show IsPen v1 w0.heap.size p la1 by rw [← hla]; simpa only [List.append_assoc] using h1); have HB1 := Lib.hid h2; have HK1 := Lib.hid (HKe.out.trans h3); have HX1 := Lib.hid (HXe.out.keep h3 HNE.out)
 clear h1 h2 h3 hla
 obtain ⟨d0, d1, d2, d3, d4, d5, d6, d7, d8, d9, d10, d11, d12, d13, d14, d15, d16⟩ := HX1.out.cell
 refine hK.out _ _ ⟨d0, d1, d2⟩ (fun hHeld => ?_)
 clear hK K
 clear d0 d1 d2 d3 d4 d5 d6 d7 d8 d9 d10 d11 d12 d13 d14 d15 d16
 refine done_ (by kernel_rfl) ?_
 obtain ⟨d0, d1, d2, d3, d4, d5, d6, d7, d8, d9, d10, d11, d12, d13, d14, d15, d16⟩ := HX1.out.cell
 go_upto_region 9 with fail
 clear d0 d1 d2 d3 d4 d5 d6 d7 d8 d9 d10 d11 d12 d13 d14 d15 d16
 have HD := Lib.hid (show Below v1.heap.size v1 v1.drew from (Below.refl _ _).drew)
 have Hd := Lib.hid (H1.out.below HD.out); have HBd := Lib.hid HB1.out.drew; have HKd := Lib.hid HK1.out.drew; have HXd := Lib.hid (show MsBox v1.drew b m A8 c8 A12 c12 A16 c16 from HX1.out)
 clear HD
 obtain ⟨d0, d1, d2, d3, d4, d5, d6, d7, d8, d9, d10, d11, d12, d13, d14, d15, d16⟩ := HXd.out.cell
 refine start_ (n := 13) (S := fun w' => w'.cell? ⟨b, 3, none⟩ = some (.int .i64 m.f3) ∧ w'.cell? ⟨b, 4, none⟩ = some (.int .i64 m.f4) ∧ w'.cell? ⟨b, 5, none⟩ = some (.int .i64 m.f5) ∧ w'.cell? ⟨b, 6, none⟩ = some (.int .i64 m.f6)) (ds := []) #[false, false, false, false, false, false, false, false, false, false, false, false, false] (by kernel_rfl) rfl rfl ⟨d3, d4, d5, d6⟩ (fun hHeld => ?_)
 obtain ⟨u, hu⟩ : ∃ u, v1.drew = u := ⟨_, rfl⟩
 rw [hu] at Hd HBd HKd HXd hHeld ⊢
 clear hu d0 d1 d2 d3 d4 d5 d6 d7 d8 d9 d10 d11 d12 d13 d14 d15 d16
 refine pure_ (i := 0) (N := some 47) (v := ?_) (a' := ?_) #[true, false, false, false, false, false, false, false, false, false, false, false, false] rfl rfl (by kernel_rfl) (fun _ _ _ h => h) (Or.inl ⟨by rfl, ?_⟩) ?_ ?_
 rotate_left
 ·intro w'
  go_simp
  try with_reducible rfl
 rotate_left
 ·simp only [Act.put, sq1, sq2, sq3, i64_w, i32_w]
  rfl
 refine pure_ (i := 1) (N := some 48) (v := ?_) (a' := ?_) #[true, true, false, false, false, false, false, false, false, false, false, false, false] rfl rfl (by kernel_rfl) (fun _ _ _ h => h) (Or.inl ⟨by rfl, ?_⟩) ?_ ?_
 rotate_left
 ·intro w'
  go_simp
  try with_reducible rfl
 rotate_left
 ·simp only [Act.put, sq1, sq2, sq3, i64_w, i32_w]
  rfl
 refine pure_ (i := 2) (N := some 49) (v := ?_) (a' := ?_) #[true, true, true, false, false, false, false, false, false, false, false, false, false] rfl rfl (by kernel_rfl) (fun _ _ _ h => h) (Or.inl ⟨by rfl, ?_⟩) ?_ ?_
 rotate_left
 ·intro w'
  go_simp
  try with_reducible rfl
 rotate_left
 ·simp only [Act.put, sq1, sq2, sq3, i64_w, i32_w]
  rfl
 refine pure_ (i := 3) (N := some 50) (v := ?_) (a' := ?_) #[true, true, true, true, false, false, false, false, false, false, false, false, false] rfl rfl (by kernel_rfl) (fun _ _ _ h => h) (Or.inl ⟨by rfl, ?_⟩) ?_ ?_
 rotate_left
 ·intro w'
  go_simp
  try with_reducible rfl
 rotate_left
 ·simp only [Act.put, sq1, sq2, sq3, i64_w, i32_w]
  rfl
 refine take_ (i := 4) (N := some 51) (v := ?_) (a' := ?_) #[true, true, true, true, true, false, false, false, false, false, false, false, false] rfl rfl (by kernel_rfl) (fun _ _ _ h => h) (Or.inl ⟨by rfl, ?_⟩) hHeld ?_ ?_
 rotate_left
 ·intro w' hS
  obtain ⟨x3, x4, x5, x6⟩ := hS
  go_simp
  try with_reducible rfl
 rotate_left
 ·simp only [Act.put, sq1, sq2, sq3, i64_w, i32_w]
  rfl
 refine pure_ (i := 5) (N := some 52) (v := ?_) (a' := ?_) #[true, true, true, true, true, true, false, false, false, false, false, false, false] rfl rfl (by kernel_rfl) (fun _ _ _ h => h) (Or.inl ⟨by rfl, ?_⟩) ?_ ?_
 rotate_left
 ·intro w'
  go_simp
  try with_reducible rfl
 rotate_left
 ·simp only [Act.put, sq1, sq2, sq3, i64_w, i32_w]
  rfl
 refine take_ (i := 6) (N := some 53) (v := ?_) (a' := ?_) #[true, true, true, true, true, true, true, false, false, false, false, false, false] rfl rfl (by kernel_rfl) (fun _ _ _ h => h) (Or.inl ⟨by rfl, ?_⟩) hHeld ?_ ?_
 rotate_left
 ·intro w' hS
  obtain ⟨x3, x4, x5, x6⟩ := hS
  go_simp
  try with_reducible rfl
 rotate_left
 ·simp only [Act.put, sq1, sq2, sq3, i64_w, i32_w]
  rfl
 refine pure_ (i := 7) (N := some 54) (v := ?_) (a' := ?_) #[true, true, true, true, true, true, true, true, false, false, false, false, false] rfl rfl (by kernel_rfl) (fun _ _ _ h => h) (Or.inl ⟨by rfl, ?_⟩) ?_ ?_
 rotate_left
 ·intro w'
  go_simp
  try with_reducible rfl
 rotate_left
 ·simp only [Act.put, sq1, sq2, sq3, i64_w, i32_w]
  rfl
 refine take_ (i := 8) (N := some 55) (v := ?_) (a' := ?_) #[true, true, true, true, true, true, true, true, true, false, false, false, false] rfl rfl (by kernel_rfl) (fun _ _ _ h => h) (Or.inl ⟨by rfl, ?_⟩) hHeld ?_ ?_
 rotate_left
 ·intro w' hS
  obtain ⟨x3, x4, x5, x6⟩ := hS
  go_simp
  try with_reducible rfl
 rotate_left
 ·simp only [Act.put, sq1, sq2, sq3, i64_w, i32_w]
  rfl
 refine pure_ (i := 9) (N := some 56) (v := ?_) (a' := ?_) #[true, true, true, true, true, true, true, true, true, true, false, false, false] rfl rfl (by kernel_rfl) (fun _ _ _ h => h) (Or.inl ⟨by rfl, ?_⟩) ?_ ?_
 rotate_left
 ·intro w'
  go_simp
  try with_reducible rfl
 rotate_left
 ·simp only [Act.put, sq1, sq2, sq3, i64_w, i32_w]
  rfl
 refine take_ (i := 10) (N := some 57) (v := ?_) (a' := ?_) #[true, true, true, true, true, true, true, true, true, true, true, false, false] rfl rfl (by kernel_rfl) (fun _ _ _ h => h) (Or.inl ⟨by rfl, ?_⟩) hHeld ?_ ?_
 rotate_left
 ·intro w' hS
  obtain ⟨x3, x4, x5, x6⟩ := hS
  go_simp
  try with_reducible rfl
 rotate_left
 ·simp only [Act.put, sq1, sq2, sq3, i64_w, i32_w]
  rfl
 refine one_ (i := 11) (N := some 58) #[true, true, true, true, true, true, true, true, true, true, true, true, false] rfl rfl (by kernel_rfl) (by decide) (fun K hK => ?_)
 refine value_ (w1 := ?_) (v := ?_) (by rfl) rfl ?_ ?_
 rotate_left 2
 ·go_simp
  constructor <;> rfl
 have hba := (Below.refl _ u).alloc (Nat.le_refl _) (.cells #[.int .i64 m.f3, .int .i64 m.f4, .int .i64 m.f5, .int .i64 m.f6] 2)
 have HXe := Lib.hid (show MsBox (u.alloc (.cells #[.int .i64 m.f3, .int .i64 m.f4, .int .i64 m.f5, .int .i64 m.f6] 2)) b m A8 c8 A12 c12 A16 c16 from HXd.out.below hba); have He := Lib.hid (Hd.out.below hba); have HBe := Lib.hid (HBd.out.alloc HBd.out.size (.cells #[.int .i64 m.f3, .int .i64 m.f4, .int .i64 m.f5, .int .i64 m.f6] 2)); have HKe := Lib.hid (HKd.out.alloc (.cells #[.int .i64 m.f3, .int .i64 m.f4, .int .i64 m.f5, .int .i64 m.f6] 2))
 clear hba
 obtain ⟨d0, d1, d2, d3, d4, d5, d6, d7, d8, d9, d10, d11, d12, d13, d14, d15, d16⟩ := HXe.out.cell
 refine hK.out _ _ ⟨d3, d4, d5, d6⟩ (fun hHeld => ?_)
 clear hK K
 clear d0 d1 d2 d3 d4 d5 d6 d7 d8 d9 d10 d11 d12 d13 d14 d15 d16
 refine norm_ (a' := ?_) ?_ ?_
 rotate_left
 ·show Act.put _ (some 58) _ = _
  simp only [Act.put, sq1, sq2, sq3, i64_w, i32_w]
  rfl
 refine one_ (i := 12) (N := some 59) #[true, true, true, true, true, true, true, true, true, true, true, true, true] rfl rfl (by kernel_rfl) (by decide) (fun K hK => ?_)
 go_simp
 refine (nums_is He.out HBe.out HP.out _ 4 [m.f3, m.f4, m.f5, m.f6] (C_lit u [m.f3, m.f4, m.f5, m.f6] (by simp)) HO.out.t (by have := HS.out; have := HL1.out; simp only [List.length_cons, List.length_nil]; omega)).mono ?_
 rintro e v2 ⟨rfl, h1, h2, h3⟩
 obtain ⟨la2, hla⟩ : ∃ la, la1 ++ numsB [m.f3, m.f4, m.f5, m.f6] = la := ⟨_, rfl⟩
 have HL2 := Lib.hid (show la2.length ≤ l0.length + 63 by rw [← hla]; have h8 := HL1.out; have h9 : (numsB [m.f3, m.f4, m.f5, m.f6]).length ≤ 36 := numsB_le HO.out.t _ (by simp); simp only [List.length_append] at h9 ⊢; omega)
 have HQ2 := Lib.hid hla
 have H2 := Lib.hid (show IsPen v2 w0.heap.size p la2 by rw [← hla]; simpa only [List.append_assoc] using h1); have HB2 := Lib.hid h2; have HK2 := Lib.hid (HKe.out.trans h3); have HX2 := Lib.hid (HXe.out.keep h3 HNE.out)
 clear h1 h2 h3 hla
 obtain ⟨d0, d1, d2, d3, d4, d5, d6, d7, d8, d9, d10, d11, d12, d13, d14, d15, d16⟩ := HX2.out.cell
 refine hK.out _ _ ⟨d3, d4, d5, d6⟩ (fun hHeld => ?_)
 clear hK K
 clear d0 d1 d2 d3 d4 d5 d6 d7 d8 d9 d10 d11 d12 d13 d14 d15 d16
 refine done_ (by kernel_rfl) ?_
 obtain ⟨d0, d1, d2, d3, d4, d5, d6, d7, d8, d9, d10, d11, d12, d13, d14, d15, d16⟩ := HX2.out.cell
 go_upto_region 10 with fail
 clear d0 d1 d2 d3 d4 d5 d6 d7 d8 d9 d10 d11 d12 d13 d14 d15 d16
 have HD := Lib.hid (show Below v2.heap.size v2 v2.drew from (Below.refl _ _).drew)
 have Hd := Lib.hid (H2.out.below HD.out); have HBd := Lib.hid HB2.out.drew; have HKd := Lib.hid HK2.out.drew; have HXd := Lib.hid (show MsBox v2.drew b m A8 c8 A12 c12 A16 c16 from HX2.out)
 clear HD
 obtain ⟨d0, d1, d2, d3, d4, d5, d6, d7, d8, d9, d10, d11, d12, d13, d14, d15, d16⟩ := HXd.out.cell
 refine start_ (n := 7) (S := fun w' => w'.cell? ⟨b, 8, none⟩ = some (.slice A8 m.f8.length c8)) (ds := []) #[false, false, false, false, false, false, false] (by kernel_rfl) rfl rfl d8 (fun hHeld => ?_)
 obtain ⟨u, hu⟩ : ∃ u, v2.drew = u := ⟨_, rfl⟩
 rw [hu] at Hd HBd HKd HXd hHeld ⊢
 clear hu d0 d1 d2 d3 d4 d5 d6 d7 d8 d9 d10 d11 d12 d13 d14 d15 d16
 refine pure_ (i := 0) (N := some 60) (v := ?_) (a' := ?_) #[true, false, false, false, false, false, false] rfl rfl (by kernel_rfl) (fun _ _ _ h => h) (Or.inl ⟨by rfl, ?_⟩) ?_ ?_
 rotate_left
 ·intro w'
  go_simp
  try with_reducible rfl
 rotate_left
 ·simp only [Act.put, sq1, sq2, sq3, i64_w, i32_w]
  rfl
 refine pure_ (i := 1) (N := some 61) (v := ?_) (a' := ?_) #[true, true, false, false, false, false, false] rfl rfl (by kernel_rfl) (fun _ _ _ h => h) (Or.inl ⟨by rfl, ?_⟩) ?_ ?_
 rotate_left
 ·intro w'
  go_simp
  try with_reducible rfl
 rotate_left
 ·simp only [Act.put, sq1, sq2, sq3, i64_w, i32_w]
  rfl
 refine pure_ (i := 2) (N := some 62) (v := ?_) (a' := ?_) #[true, true, true, false, false, false, false] rfl rfl (by kernel_rfl) (fun _ _ _ h => h) (Or.inl ⟨by rfl, ?_⟩) ?_ ?_
 rotate_left
 ·intro w'
  go_simp
  try with_reducible rfl
 rotate_left
 ·simp only [Act.put, sq1, sq2, sq3, i64_w, i32_w]
  rfl
 refine pure_ (i := 3) (N := some 63) (v := ?_) (a' := ?_) #[true, true, true, true, false, false, false] rfl rfl (by kernel_rfl) (fun _ _ _ h => h) (Or.inl ⟨by rfl, ?_⟩) ?_ ?_
 rotate_left
 ·intro w'
  go_simp
  try with_reducible rfl
 rotate_left
 ·simp only [Act.put, sq1, sq2, sq3, i64_w, i32_w]
  rfl
 refine take_ (i := 4) (N := some 64) (v := ?_) (a' := ?_) #[true, true, true, true, true, false, false] rfl rfl (by kernel_rfl) (fun _ _ _ h => h) (Or.inl ⟨by rfl, ?_⟩) hHeld ?_ ?_
 rotate_left
 ·intro w' hS
  have x0 := hS
  go_simp
  try with_reducible rfl
 rotate_left
 ·simp only [Act.put, sq1, sq2, sq3, i64_w, i32_w]
  rfl
 refine pure_ (i := 5) (N := some 65) (v := ?_) (a' := ?_) #[true, true, true, true, true, true, false] rfl rfl (by kernel_rfl) (fun _ _ _ h => h) (Or.inl ⟨by rfl, ?_⟩) ?_ ?_
 rotate_left
 ·intro w'
  go_simp
  try with_reducible rfl
 rotate_left
 ·simp only [Act.put, sq1, sq2, sq3, i64_w, i32_w]
  rfl
 refine one_ (i := 6) (N := some 66) #[true, true, true, true, true, true, true] rfl rfl (by kernel_rfl) (by decide) (fun K hK => ?_)
 go_simp
 refine (many_is Hd.out HBd.out HP.out m.f8.length HI8.out (by have := HS.out; have := HL2.out; omega)).mono ?_
 rintro e v3 ⟨rfl, h1, h2, h3⟩
 obtain ⟨la3, hla⟩ : ∃ la, la2 ++ numB m.f8.length = la := ⟨_, rfl⟩
 have HL3 := Lib.hid (show la3.length ≤ l0.length + 72 by rw [← hla]; have h8 := HL2.out; have h9 : (numB m.f8.length).length ≤ 9 := (numB_len HI8.out).2; simp only [List.length_append] at h9 ⊢; omega)
 have HQ3 := Lib.hid hla
 have H3 := Lib.hid (show IsPen v3 w0.heap.size p la3 by rw [← hla]; simpa only [List.append_assoc] using h1); have HB3 := Lib.hid h2; have HK3 := Lib.hid (HKd.out.trans h3); have HX3 := Lib.hid (HXd.out.keep h3 HNE.out)
 clear h1 h2 h3 hla
 obtain ⟨d0, d1, d2, d3, d4, d5, d6, d7, d8, d9, d10, d11, d12, d13, d14, d15, d16⟩ := HX3.out.cell
 refine hK.out _ _ d8 (fun hHeld => ?_)
 clear hK K
 clear d0 d1 d2 d3 d4 d5 d6 d7 d8 d9 d10 d11 d12 d13 d14 d15 d16
 refine done_ (by kernel_rfl) ?_
 obtain ⟨d0, d1, d2, d3, d4, d5, d6, d7, d8, d9, d10, d11, d12, d13, d14, d15, d16⟩ := HX3.out.cell
 go_wp2_with fail
 go_loopw [70] (fun i wr => TrL w0 w p la3 m.f8 i wr) (fun i _ => m.f8.length - (intOf i).toNat)
 case atStart => exact ⟨0, rfl, Nat.zero_le _, by simpa using H3.out, HB3.out, HK3.out⟩
 case round =>
  clear d0 d1 d2 d3 d4 d5 d6 d7 d8 d9 d10 d11 d12 d13 d14 d15 d16
  obtain ⟨j, rfl, hj, hI, hB, hK⟩ := hrel
  have HI := Lib.hid hI; have HB := Lib.hid hB; have HKj := Lib.hid hK
  clear hI hB hK
  by_cases hlt : j < m.f8.length
  ·obtain ⟨x, hx⟩ : ∃ x, m.f8[j]? = some x := ⟨_, List.getElem?_eq_getElem hlt⟩
   obtain ⟨ad, A4, c4, rfl, z0, z1, z2, z3, z4, hl, hX⟩ := tr_get HM.out.g8 hx
   have x0 := (HB.out.cell (World.block_lt_of_cell? _ _ z0)).trans z0
   have x1 := (HB.out.cell (World.block_lt_of_cell? _ _ z1)).trans z1
   have x2 := (HB.out.cell (World.block_lt_of_cell? _ _ z2)).trans z2
   have x3 := (HB.out.cell (World.block_lt_of_cell? _ _ z3)).trans z3
   have x4 := (HB.out.cell (World.block_lt_of_cell? _ _ z4)).trans z4
   clear z0 z1 z2 z3 z4
   have HXC := Lib.hid (show Kd.C G.k26 w0 A4 x.f1.f3.length x.f1.f3 from hX)
   have HX := Lib.hid (show m.f8.take (j + 1) = m.f8.take j ++ [x] by rw [List.take_add_one, hx]; rfl)
   have HOX := Lib.hid (HO.out.l x (List.mem_of_getElem? hx))
   have HMX := Lib.hid (mayTr_e (List.all_eq_true.1 HML.out x (List.mem_of_getElem? hx)))
   have HLJ := Lib.hid (show (la3 ++ (m.f8.take j).flatMap trB).length + 60000 < 140737488355328 by
    have h1 := flat_len trB 25009 (m.f8.take j) (fun y hy => trB_len (HO.out.l y (List.mem_of_mem_take hy)) (mayTr_e (List.all_eq_true.1 HML.out y (List.mem_of_mem_take hy))))
    have h2 := HL8.out; have h3 := HL3.out; have h4 := HS.out
    rw [List.length_take] at h1
    rw [List.length_append]
    omega)
   obtain ⟨lj, hlj⟩ : ∃ lj, la3 ++ (m.f8.take j).flatMap trB = lj := ⟨_, rfl⟩
   rw [hlj] at HI HLJ
   have HQJ := Lib.hid hlj
   have HI5 := Lib.hid (HI.out.below ((Below.refl _ wr).alloc (Nat.le_refl _) (.cells #[.int .i64 x.f0, .int .i64 x.f1.f0, .int .i64 x.f1.f1, .int .i64 x.f1.f2, .slice A4 x.f1.f3.length c4] 63))); have HB5 := Lib.hid (HB.out.alloc HB.out.size (.cells #[.int .i64 x.f0, .int .i64 x.f1.f0, .int .i64 x.f1.f1, .int .i64 x.f1.f2, .slice A4 x.f1.f3.length c4] 63)); have HK5 := Lib.hid (HKj.out.alloc (.cells #[.int .i64 x.f0, .int .i64 x.f1.f0, .int .i64 x.f1.f1, .int .i64 x.f1.f2, .slice A4 x.f1.f3.length c4] 63))
   have HY5 := Lib.hid (show (wr.alloc (.cells #[.int .i64 x.f0, .int .i64 x.f1.f0, .int .i64 x.f1.f1, .int .i64 x.f1.f2, .slice A4 x.f1.f3.length c4] 63)).heap[wr.heap.size]? = some (.cells #[.int .i64 x.f0, .int .i64 x.f1.f0, .int .i64 x.f1.f1, .int .i64 x.f1.f2, .slice A4 x.f1.f3.length c4] 63) from heap_alloc_new wr _)
   have HN5 := Lib.hid (show wr.heap.size ≠ p by have := HI.out.lt; omega)
   clear hx hl hX hlj
   go_upto_region 14 with fail
   clear x0 x1 x2 x3 x4
   obtain ⟨v, hv⟩ : ∃ v, wr.alloc (.cells #[.int .i64 x.f0, .int .i64 x.f1.f0, .int .i64 x.f1.f1, .int .i64 x.f1.f2, .slice A4 x.f1.f3.length c4] 63) = v := ⟨_, rfl⟩
   obtain ⟨g, hg⟩ : ∃ g, wr.heap.size = g := ⟨_, rfl⟩
   rw [hv] at HI5 HB5 HK5 HY5 ⊢
   rw [hg] at HY5 HN5 ⊢
   clear hv hg
   have HD := Lib.hid (show Below v.heap.size v v.drew from (Below.refl _ _).drew)
   have Hd := Lib.hid (HI5.out.below HD.out); have HBd := Lib.hid HB5.out.drew; have HKd := Lib.hid HK5.out.drew; have HYd := Lib.hid (show v.drew.heap[g]? = some (.cells #[.int .i64 x.f0, .int .i64 x.f1.f0, .int .i64 x.f1.f1, .int .i64 x.f1.f2, .slice A4 x.f1.f3.length c4] 63) from HY5.out)
   have y0 : v.drew.cell? ⟨g, 0, none⟩ = some (.int .i64 x.f0) := by simp [World.cell?, HYd.out]
   refine start_ (n := 7) (S := fun w' => w'.cell? ⟨g, 0, none⟩ = some (.int .i64 x.f0)) (ds := []) #[false, false, false, false, false, false, false] (by kernel_rfl) rfl rfl y0 (fun hHeld => ?_)
   obtain ⟨u, hu⟩ : ∃ u, v.drew = u := ⟨_, rfl⟩
   rw [hu] at Hd HBd HKd HYd hHeld ⊢
   clear hu y0 HD
   refine pure_ (i := 0) (N := some 74) (v := ?_) (a' := ?_) #[true, false, false, false, false, false, false] rfl rfl (by kernel_rfl) (fun _ _ _ h => h) (Or.inl ⟨by rfl, ?_⟩) ?_ ?_
   rotate_left
   ·intro w'
    go_simp
    try with_reducible rfl
   rotate_left
   ·simp only [Act.put, sq1, sq2, sq3, i64_w, i32_w]
    rfl
   refine pure_ (i := 1) (N := some 75) (v := ?_) (a' := ?_) #[true, true, false, false, false, false, false] rfl rfl (by kernel_rfl) (fun _ _ _ h => h) (Or.inl ⟨by rfl, ?_⟩) ?_ ?_
   rotate_left
   ·intro w'
    go_simp
    try with_reducible rfl
   rotate_left
   ·simp only [Act.put, sq1, sq2, sq3, i64_w, i32_w]
    rfl
   refine pure_ (i := 2) (N := some 76) (v := ?_) (a' := ?_) #[true, true, true, false, false, false, false] rfl rfl (by kernel_rfl) (fun _ _ _ h => h) (Or.inl ⟨by rfl, ?_⟩) ?_ ?_
   rotate_left
   ·intro w'
    go_simp
    try with_reducible rfl
   rotate_left
   ·simp only [Act.put, sq1, sq2, sq3, i64_w, i32_w]
    rfl
   refine pure_ (i := 3) (N := some 77) (v := ?_) (a' := ?_) #[true, true, true, true, false, false, false] rfl rfl (by kernel_rfl) (fun _ _ _ h => h) (Or.inl ⟨by rfl, ?_⟩) ?_ ?_
   rotate_left
   ·intro w'
    go_simp
    try with_reducible rfl
   rotate_left
   ·simp only [Act.put, sq1, sq2, sq3, i64_w, i32_w]
    rfl
   refine take_ (i := 4) (N := some 78) (v := ?_) (a' := ?_) #[true, true, true, true, true, false, false] rfl rfl (by kernel_rfl) (fun _ _ _ h => h) (Or.inl ⟨by rfl, ?_⟩) hHeld ?_ ?_
   rotate_left
   ·intro w' hS
    go_simp
    try with_reducible rfl
   rotate_left
   ·simp only [Act.put, sq1, sq2, sq3, i64_w, i32_w]
    rfl
   refine one_ (i := 5) (N := some 79) #[true, true, true, true, true, true, false] rfl rfl (by kernel_rfl) (by decide) (fun K hK => ?_)
   refine value_ (w1 := ?_) (v := ?_) (by rfl) rfl ?_ ?_
   rotate_left 2
   ·go_simp
    constructor <;> rfl
   have hba := (Below.refl _ u).alloc (Nat.le_refl _) (.cells #[.int .i64 x.f0] 2)
   have HYe := Lib.hid (show (u.alloc (.cells #[.int .i64 x.f0] 2)).heap[g]? = some (.cells #[.int .i64 x.f0, .int .i64 x.f1.f0, .int .i64 x.f1.f1, .int .i64 x.f1.f2, .slice A4 x.f1.f3.length c4] 63) from (hba.block g (Array.getElem?_eq_some_iff.1 HYd.out).1).trans HYd.out); have He := Lib.hid (Hd.out.below hba); have HBe := Lib.hid (HBd.out.alloc HBd.out.size (.cells #[.int .i64 x.f0] 2)); have HKe := Lib.hid (HKd.out.alloc (.cells #[.int .i64 x.f0] 2))
   clear hba
   refine hK.out _ _ (by simp [World.cell?, HYe.out]) (fun hHeld => ?_)
   clear hK K
   refine norm_ (a' := ?_) ?_ ?_
   rotate_left
   ·show Act.put _ (some 79) _ = _
    simp only [Act.put, sq1, sq2, sq3, i64_w, i32_w]
    rfl
   refine one_ (i := 6) (N := some 80) #[true, true, true, true, true, true, true] rfl rfl (by kernel_rfl) (by decide) (fun K hK => ?_)
   go_simp
   refine (nums_is He.out HBe.out HP.out _ 1 [x.f0] (C_lit u [x.f0] (by simp)) (by simp [okI, HOX.out.1]) (by have := HLJ.out; simp only [List.length_cons, List.length_nil]; omega)).mono ?_
   rintro e v1 ⟨rfl, h1, h2, h3⟩
   have HI6 := Lib.hid (show IsPen v1 w0.heap.size p (lj ++ numB x.f0) by rw [numsB_one] at h1; exact h1); have HB6 := Lib.hid h2; have HK6 := Lib.hid (HKe.out.trans h3)
   have HY6 := Lib.hid (show v1.heap[g]? = some (.cells #[.int .i64 x.f0, .int .i64 x.f1.f0, .int .i64 x.f1.f1, .int .i64 x.f1.f2, .slice A4 x.f1.f3.length c4] 63) from (h3.block g (Array.getElem?_eq_some_iff.1 HYe.out).1 HN5.out).trans HYe.out)
   clear h1 h2 h3
   refine hK.out _ _ (by simp [World.cell?, HY6.out]) (fun hHeld => ?_)
   clear hK K
   refine done_ (by kernel_rfl) ?_
   have HLL6 := Lib.hid (show (lj ++ numB x.f0).length + 30000 < 140737488355328 by have h1 := HLJ.out; have h2 := (numB_len HOX.out.1).2; rw [List.length_append]; omega)
   have y0 : v1.cell? ⟨g, 0, none⟩ = some (.int .i64 x.f0) := by simp [World.cell?, HY6.out]
   have y1 : v1.cell? ⟨g, 1, none⟩ = some (.int .i64 x.f1.f0) := by simp [World.cell?, HY6.out]
   have y2 : v1.cell? ⟨g, 2, none⟩ = some (.int .i64 x.f1.f1) := by simp [World.cell?, HY6.out]
   have y3 : v1.cell? ⟨g, 3, none⟩ = some (.int .i64 x.f1.f2) := by simp [World.cell?, HY6.out]
   have y4 : v1.cell? ⟨g, 4, none⟩ = some (.slice A4 x.f1.f3.length c4) := by simp [World.cell?, HY6.out]
   go_wp2_with fail
   refine (penEntry_is HI6.out HB6.out HP.out x.f1.f0 x.f1.f1 x.f1.f2 A4 c4 x.f1.f3 HXC.out HOX.out.2 HMX.out HLL6.out).mono ?_
   rintro e v2 ⟨rfl, h1, h2, h3⟩
   have HI7 := Lib.hid h1; have HB7 := Lib.hid h2; have HK7 := Lib.hid (HK6.out.trans h3)
   clear h1 h2 h3 y0 y1 y2 y3 y4
   go_wp2_with fail
   go_roundw
   case rel =>
    refine ⟨j + 1, by go_num, hlt, ?_, HB7.out, HK7.out⟩
    have h1 := HI7.out
    rw [HX.out, List.flatMap_append, List.flatMap_cons, List.flatMap_nil, List.append_nil, ← List.append_assoc, HQJ.out]
    unfold trB
    rw [← List.append_assoc]
    exact h1
   case measure => simp [intOf]; omega
  ·have hjn : j = m.f8.length := by omega
   have HF := Lib.hid (show IsPen wr w0.heap.size p (l0 ++ msgB m) by
    have h1 := HI.out
    rw [hjn, List.take_length, ← HQ3.out, ← HQ2.out, ← HQ1.out, ← HQ0.out] at h1
    rw [HTB.out]
    simpa only [List.append_assoc, numsB_one] using h1)
   clear hjn
   go_wp2_with fail
   go_end0
   exact ⟨rfl, HF.out, HB.out, HKj.out⟩
set_option maxHeartbeats 4000000 in
theorem penMsg4 {w0 w : World} {p : Nat} {l0 : List Int} (hI : IsPen w w0.heap.size p l0) (hB : Below w0.heap.size w0 w) (hp : w0.heap.size ≤ p) (m : MsgD) {A8 A12 A16 : Option Addr} {c8 c12 c16 : Nat} (hm : MsgC w0 m A8 c8 A12 c12 A16 c16) (ho : OkM m) (hk : m.f0 = 4) (hs : l0.length + 200000000 < 140737488355328) :
  Calls Tryz.prog 50 #[.pointer (some ⟨p, 0, none⟩), .agg #[.int .i64 m.f0, .int .i64 m.f1, .int .i64 m.f2, .int .i64 m.f3, .int .i64 m.f4, .int .i64 m.f5, .int .i64 m.f6, .bool m.f7, .slice A8 m.f8.length c8, .int .i64 m.f9.f0, .int .i64 m.f9.f1, .int .i64 m.f9.f2, .slice A12 m.f9.f3.length c12, .int .i64 m.f10.f0, .int .i64 m.f10.f1, .int .i64 m.f10.f2, .slice A16 m.f10.f3.length c16]] w fun e w' => PenP w0 w p (l0 ++ msgB m) e w' := by
 have HO := Lib.hid ho; have HM := Lib.hid hm; have HP := Lib.hid hp; have HS := Lib.hid hs; have HL0 := Lib.hid (show l0.length ≤ l0.length + 0 from Nat.le_refl _)
 have HNE := Lib.hid (show w.heap.size ≠ p by have := hI.lt; omega)
 have H0 := Lib.hid (hI.below ((Below.refl _ w).alloc (Nat.le_refl _) (.cells #[.int .i64 m.f0, .int .i64 m.f1, .int .i64 m.f2, .int .i64 m.f3, .int .i64 m.f4, .int .i64 m.f5, .int .i64 m.f6, .bool m.f7, .slice A8 m.f8.length c8, .int .i64 m.f9.f0, .int .i64 m.f9.f1, .int .i64 m.f9.f2, .slice A12 m.f9.f3.length c12, .int .i64 m.f10.f0, .int .i64 m.f10.f1, .int .i64 m.f10.f2, .slice A16 m.f10.f3.length c16] 34))); have HB0 := Lib.hid (hB.alloc hB.size (.cells #[.int .i64 m.f0, .int .i64 m.f1, .int .i64 m.f2, .int .i64 m.f3, .int .i64 m.f4, .int .i64 m.f5, .int .i64 m.f6, .bool m.f7, .slice A8 m.f8.length c8, .int .i64 m.f9.f0, .int .i64 m.f9.f1, .int .i64 m.f9.f2, .slice A12 m.f9.f3.length c12, .int .i64 m.f10.f0, .int .i64 m.f10.f1, .int .i64 m.f10.f2, .slice A16 m.f10.f3.length c16] 34)); have HK0 := Lib.hid ((KeepS.refl (fun i => i = p) w).alloc (.cells #[.int .i64 m.f0, .int .i64 m.f1, .int .i64 m.f2, .int .i64 m.f3, .int .i64 m.f4, .int .i64 m.f5, .int .i64 m.f6, .bool m.f7, .slice A8 m.f8.length c8, .int .i64 m.f9.f0, .int .i64 m.f9.f1, .int .i64 m.f9.f2, .slice A12 m.f9.f3.length c12, .int .i64 m.f10.f0, .int .i64 m.f10.f1, .int .i64 m.f10.f2, .slice A16 m.f10.f3.length c16] 34))
 have HX0 := Lib.hid (show MsBox (w.alloc (.cells #[.int .i64 m.f0, .int .i64 m.f1, .int .i64 m.f2, .int .i64 m.f3, .int .i64 m.f4, .int .i64 m.f5, .int .i64 m.f6, .bool m.f7, .slice A8 m.f8.length c8, .int .i64 m.f9.f0, .int .i64 m.f9.f1, .int .i64 m.f9.f2, .slice A12 m.f9.f3.length c12, .int .i64 m.f10.f0, .int .i64 m.f10.f1, .int .i64 m.f10.f2, .slice A16 m.f10.f3.length c16] 34)) w.heap.size m A8 c8 A12 c12 A16 c16 from heap_alloc_new w _)
 have HT1 := Lib.hid (show okI [m.f3] = true by have := ho.t; simp only [okI_cons] at this ⊢; exact ⟨this.1, rfl⟩)
 have HT4 := Lib.hid (show okI [m.f4] = true by have := ho.t; simp only [okI_cons] at this ⊢; exact ⟨this.2.1, rfl⟩)
 have q1 : (m.f0 == 1) = false := by rw [hk]; rfl
 have q2 : (m.f0 == 2) = false := by rw [hk]; rfl
 have q3 : (m.f0 == 3) = false := by rw [hk]; rfl
 have q4 : (m.f0 == 4) = true := by rw [hk]; rfl
 have HTB := Lib.hid (show msgB m = numsB [m.f0, m.f1, m.f2] ++ (numB m.f3 ++ yesB m.f7 ++ numB m.f4) by unfold msgB tailB; simp only [hk]; rfl)
 clear hI hB hp hs ho hm hk
 go_enter Tryz.func50, Tryz.ntmps50
 go_upto_region 1 with fail
 obtain ⟨v0, hv⟩ : ∃ v, w.alloc (.cells #[.int .i64 m.f0, .int .i64 m.f1, .int .i64 m.f2, .int .i64 m.f3, .int .i64 m.f4, .int .i64 m.f5, .int .i64 m.f6, .bool m.f7, .slice A8 m.f8.length c8, .int .i64 m.f9.f0, .int .i64 m.f9.f1, .int .i64 m.f9.f2, .slice A12 m.f9.f3.length c12, .int .i64 m.f10.f0, .int .i64 m.f10.f1, .int .i64 m.f10.f2, .slice A16 m.f10.f3.length c16] 34) = v := ⟨_, rfl⟩
 obtain ⟨b, hb⟩ : ∃ b, w.heap.size = b := ⟨_, rfl⟩
 rw [hv] at H0 HB0 HK0 HX0 ⊢
 rw [hb] at HNE HX0 ⊢
 clear hv hb
 obtain ⟨la0, hl0⟩ : ∃ la, l0 = la := ⟨_, rfl⟩
 have HQ0 := Lib.hid hl0
 have HLZ := Lib.hid (show la0.length ≤ l0.length + 0 by rw [← hl0]; exact Nat.le_refl _)
 rw [hl0] at H0
 clear hl0 HL0
 have HL0 := HLZ
 have HD := Lib.hid (show Below v0.heap.size v0 v0.drew from (Below.refl _ _).drew)
 have Hd := Lib.hid (H0.out.below HD.out); have HBd := Lib.hid HB0.out.drew; have HKd := Lib.hid HK0.out.drew; have HXd := Lib.hid (show MsBox v0.drew b m A8 c8 A12 c12 A16 c16 from HX0.out)
 clear HD
 obtain ⟨d0, d1, d2, d3, d4, d5, d6, d7, d8, d9, d10, d11, d12, d13, d14, d15, d16⟩ := HXd.out.cell
 refine start_ (n := 11) (S := fun w' => w'.cell? ⟨b, 0, none⟩ = some (.int .i64 m.f0) ∧ w'.cell? ⟨b, 1, none⟩ = some (.int .i64 m.f1) ∧ w'.cell? ⟨b, 2, none⟩ = some (.int .i64 m.f2)) (ds := []) #[false, false, false, false, false, false, false, false, false, false, false] (by kernel_rfl) rfl rfl ⟨d0, d1, d2⟩ (fun hHeld => ?_)
 obtain ⟨u, hu⟩ : ∃ u, v0.drew = u := ⟨_, rfl⟩
 rw [hu] at Hd HBd HKd HXd hHeld ⊢
 clear hu d0 d1 d2 d3 d4 d5 d6 d7 d8 d9 d10 d11 d12 d13 d14 d15 d16
 refine pure_ (i := 0) (N := some 6) (v := ?_) (a' := ?_) #[true, false, false, false, false, false, false, false, false, false, false] rfl rfl (by kernel_rfl) (fun _ _ _ h => h) (Or.inl ⟨by rfl, ?_⟩) ?_ ?_
 rotate_left
 ·intro w'
  go_simp
  try with_reducible rfl
 rotate_left
 ·simp only [Act.put, sq1, sq2, sq3, i64_w, i32_w]
  rfl
 refine pure_ (i := 1) (N := some 7) (v := ?_) (a' := ?_) #[true, true, false, false, false, false, false, false, false, false, false] rfl rfl (by kernel_rfl) (fun _ _ _ h => h) (Or.inl ⟨by rfl, ?_⟩) ?_ ?_
 rotate_left
 ·intro w'
  go_simp
  try with_reducible rfl
 rotate_left
 ·simp only [Act.put, sq1, sq2, sq3, i64_w, i32_w]
  rfl
 refine pure_ (i := 2) (N := some 8) (v := ?_) (a' := ?_) #[true, true, true, false, false, false, false, false, false, false, false] rfl rfl (by kernel_rfl) (fun _ _ _ h => h) (Or.inl ⟨by rfl, ?_⟩) ?_ ?_
 rotate_left
 ·intro w'
  go_simp
  try with_reducible rfl
 rotate_left
 ·simp only [Act.put, sq1, sq2, sq3, i64_w, i32_w]
  rfl
 refine pure_ (i := 3) (N := some 9) (v := ?_) (a' := ?_) #[true, true, true, true, false, false, false, false, false, false, false] rfl rfl (by kernel_rfl) (fun _ _ _ h => h) (Or.inl ⟨by rfl, ?_⟩) ?_ ?_
 rotate_left
 ·intro w'
  go_simp
  try with_reducible rfl
 rotate_left
 ·simp only [Act.put, sq1, sq2, sq3, i64_w, i32_w]
  rfl
 refine take_ (i := 4) (N := some 10) (v := ?_) (a' := ?_) #[true, true, true, true, true, false, false, false, false, false, false] rfl rfl (by kernel_rfl) (fun _ _ _ h => h) (Or.inl ⟨by rfl, ?_⟩) hHeld ?_ ?_
 rotate_left
 ·intro w' hS
  obtain ⟨x0, x1, x2⟩ := hS
  go_simp
  try with_reducible rfl
 rotate_left
 ·simp only [Act.put, sq1, sq2, sq3, i64_w, i32_w]
  rfl
 refine pure_ (i := 5) (N := some 11) (v := ?_) (a' := ?_) #[true, true, true, true, true, true, false, false, false, false, false] rfl rfl (by kernel_rfl) (fun _ _ _ h => h) (Or.inl ⟨by rfl, ?_⟩) ?_ ?_
 rotate_left
 ·intro w'
  go_simp
  try with_reducible rfl
 rotate_left
 ·simp only [Act.put, sq1, sq2, sq3, i64_w, i32_w]
  rfl
 refine take_ (i := 6) (N := some 12) (v := ?_) (a' := ?_) #[true, true, true, true, true, true, true, false, false, false, false] rfl rfl (by kernel_rfl) (fun _ _ _ h => h) (Or.inl ⟨by rfl, ?_⟩) hHeld ?_ ?_
 rotate_left
 ·intro w' hS
  obtain ⟨x0, x1, x2⟩ := hS
  go_simp
  try with_reducible rfl
 rotate_left
 ·simp only [Act.put, sq1, sq2, sq3, i64_w, i32_w]
  rfl
 refine pure_ (i := 7) (N := some 13) (v := ?_) (a' := ?_) #[true, true, true, true, true, true, true, true, false, false, false] rfl rfl (by kernel_rfl) (fun _ _ _ h => h) (Or.inl ⟨by rfl, ?_⟩) ?_ ?_
 rotate_left
 ·intro w'
  go_simp
  try with_reducible rfl
 rotate_left
 ·simp only [Act.put, sq1, sq2, sq3, i64_w, i32_w]
  rfl
 refine take_ (i := 8) (N := some 14) (v := ?_) (a' := ?_) #[true, true, true, true, true, true, true, true, true, false, false] rfl rfl (by kernel_rfl) (fun _ _ _ h => h) (Or.inl ⟨by rfl, ?_⟩) hHeld ?_ ?_
 rotate_left
 ·intro w' hS
  obtain ⟨x0, x1, x2⟩ := hS
  go_simp
  try with_reducible rfl
 rotate_left
 ·simp only [Act.put, sq1, sq2, sq3, i64_w, i32_w]
  rfl
 refine one_ (i := 9) (N := some 15) #[true, true, true, true, true, true, true, true, true, true, false] rfl rfl (by kernel_rfl) (by decide) (fun K hK => ?_)
 refine value_ (w1 := ?_) (v := ?_) (by rfl) rfl ?_ ?_
 rotate_left 2
 ·go_simp
  constructor <;> rfl
 have hba := (Below.refl _ u).alloc (Nat.le_refl _) (.cells #[.int .i64 m.f0, .int .i64 m.f1, .int .i64 m.f2] 2)
 have HXe := Lib.hid (show MsBox (u.alloc (.cells #[.int .i64 m.f0, .int .i64 m.f1, .int .i64 m.f2] 2)) b m A8 c8 A12 c12 A16 c16 from HXd.out.below hba); have He := Lib.hid (Hd.out.below hba); have HBe := Lib.hid (HBd.out.alloc HBd.out.size (.cells #[.int .i64 m.f0, .int .i64 m.f1, .int .i64 m.f2] 2)); have HKe := Lib.hid (HKd.out.alloc (.cells #[.int .i64 m.f0, .int .i64 m.f1, .int .i64 m.f2] 2))
 clear hba
 obtain ⟨d0, d1, d2, d3, d4, d5, d6, d7, d8, d9, d10, d11, d12, d13, d14, d15, d16⟩ := HXe.out.cell
 refine hK.out _ _ ⟨d0, d1, d2⟩ (fun hHeld => ?_)
 clear hK K
 clear d0 d1 d2 d3 d4 d5 d6 d7 d8 d9 d10 d11 d12 d13 d14 d15 d16
 refine norm_ (a' := ?_) ?_ ?_
 rotate_left
 ·show Act.put _ (some 15) _ = _
  simp only [Act.put, sq1, sq2, sq3, i64_w, i32_w]
  rfl
 refine one_ (i := 10) (N := some 16) #[true, true, true, true, true, true, true, true, true, true, true] rfl rfl (by kernel_rfl) (by decide) (fun K hK => ?_)
 go_simp
 refine (nums_is He.out HBe.out HP.out _ 3 [m.f0, m.f1, m.f2] (C_lit u [m.f0, m.f1, m.f2] (by simp)) HO.out.h (by have := HS.out; have := HL0.out; simp only [List.length_cons, List.length_nil]; omega)).mono ?_
 rintro e v1 ⟨rfl, h1, h2, h3⟩
 obtain ⟨la1, hla⟩ : ∃ la, la0 ++ numsB [m.f0, m.f1, m.f2] = la := ⟨_, rfl⟩
 have HL1 := Lib.hid (show la1.length ≤ l0.length + 27 by rw [← hla]; have h8 := HL0.out; have h9 : (numsB [m.f0, m.f1, m.f2]).length ≤ 27 := numsB_le HO.out.h _ (by simp); simp only [List.length_append] at h9 ⊢; omega)
 have HQ1 := Lib.hid hla
 have H1 := Lib.hid (show IsPen v1 w0.heap.size p la1 by rw [← hla]; simpa only [List.append_assoc] using h1); have HB1 := Lib.hid h2; have HK1 := Lib.hid (HKe.out.trans h3); have HX1 := Lib.hid (HXe.out.keep h3 HNE.out)
 clear h1 h2 h3 hla
 obtain ⟨d0, d1, d2, d3, d4, d5, d6, d7, d8, d9, d10, d11, d12, d13, d14, d15, d16⟩ := HX1.out.cell
 refine hK.out _ _ ⟨d0, d1, d2⟩ (fun hHeld => ?_)
 clear hK K
 clear d0 d1 d2 d3 d4 d5 d6 d7 d8 d9 d10 d11 d12 d13 d14 d15 d16
 refine done_ (by kernel_rfl) ?_
 obtain ⟨d0, d1, d2, d3, d4, d5, d6, d7, d8, d9, d10, d11, d12, d13, d14, d15, d16⟩ := HX1.out.cell
 go_upto_region 18 with fail
 clear d0 d1 d2 d3 d4 d5 d6 d7 d8 d9 d10 d11 d12 d13 d14 d15 d16
 have HD := Lib.hid (show Below v1.heap.size v1 v1.drew from (Below.refl _ _).drew)
 have Hd := Lib.hid (H1.out.below HD.out); have HBd := Lib.hid HB1.out.drew; have HKd := Lib.hid HK1.out.drew; have HXd := Lib.hid (show MsBox v1.drew b m A8 c8 A12 c12 A16 c16 from HX1.out)
 clear HD
 obtain ⟨d0, d1, d2, d3, d4, d5, d6, d7, d8, d9, d10, d11, d12, d13, d14, d15, d16⟩ := HXd.out.cell
 refine start_ (n := 7) (S := fun w' => w'.cell? ⟨b, 3, none⟩ = some (.int .i64 m.f3)) (ds := []) #[false, false, false, false, false, false, false] (by kernel_rfl) rfl rfl d3 (fun hHeld => ?_)
 obtain ⟨u, hu⟩ : ∃ u, v1.drew = u := ⟨_, rfl⟩
 rw [hu] at Hd HBd HKd HXd hHeld ⊢
 clear hu d0 d1 d2 d3 d4 d5 d6 d7 d8 d9 d10 d11 d12 d13 d14 d15 d16
 refine pure_ (i := 0) (N := some 88) (v := ?_) (a' := ?_) #[true, false, false, false, false, false, false] rfl rfl (by kernel_rfl) (fun _ _ _ h => h) (Or.inl ⟨by rfl, ?_⟩) ?_ ?_
 rotate_left
 ·intro w'
  go_simp
  try with_reducible rfl
 rotate_left
 ·simp only [Act.put, sq1, sq2, sq3, i64_w, i32_w]
  rfl
 refine pure_ (i := 1) (N := some 89) (v := ?_) (a' := ?_) #[true, true, false, false, false, false, false] rfl rfl (by kernel_rfl) (fun _ _ _ h => h) (Or.inl ⟨by rfl, ?_⟩) ?_ ?_
 rotate_left
 ·intro w'
  go_simp
  try with_reducible rfl
 rotate_left
 ·simp only [Act.put, sq1, sq2, sq3, i64_w, i32_w]
  rfl
 refine pure_ (i := 2) (N := some 90) (v := ?_) (a' := ?_) #[true, true, true, false, false, false, false] rfl rfl (by kernel_rfl) (fun _ _ _ h => h) (Or.inl ⟨by rfl, ?_⟩) ?_ ?_
 rotate_left
 ·intro w'
  go_simp
  try with_reducible rfl
 rotate_left
 ·simp only [Act.put, sq1, sq2, sq3, i64_w, i32_w]
  rfl
 refine pure_ (i := 3) (N := some 91) (v := ?_) (a' := ?_) #[true, true, true, true, false, false, false] rfl rfl (by kernel_rfl) (fun _ _ _ h => h) (Or.inl ⟨by rfl, ?_⟩) ?_ ?_
 rotate_left
 ·intro w'
  go_simp
  try with_reducible rfl
 rotate_left
 ·simp only [Act.put, sq1, sq2, sq3, i64_w, i32_w]
  rfl
 refine take_ (i := 4) (N := some 92) (v := ?_) (a' := ?_) #[true, true, true, true, true, false, false] rfl rfl (by kernel_rfl) (fun _ _ _ h => h) (Or.inl ⟨by rfl, ?_⟩) hHeld ?_ ?_
 rotate_left
 ·intro w' hS
  have x0 := hS
  go_simp
  try with_reducible rfl
 rotate_left
 ·simp only [Act.put, sq1, sq2, sq3, i64_w, i32_w]
  rfl
 refine one_ (i := 5) (N := some 93) #[true, true, true, true, true, true, false] rfl rfl (by kernel_rfl) (by decide) (fun K hK => ?_)
 refine value_ (w1 := ?_) (v := ?_) (by rfl) rfl ?_ ?_
 rotate_left 2
 ·go_simp
  constructor <;> rfl
 have hba := (Below.refl _ u).alloc (Nat.le_refl _) (.cells #[.int .i64 m.f3] 2)
 have HXe := Lib.hid (show MsBox (u.alloc (.cells #[.int .i64 m.f3] 2)) b m A8 c8 A12 c12 A16 c16 from HXd.out.below hba); have He := Lib.hid (Hd.out.below hba); have HBe := Lib.hid (HBd.out.alloc HBd.out.size (.cells #[.int .i64 m.f3] 2)); have HKe := Lib.hid (HKd.out.alloc (.cells #[.int .i64 m.f3] 2))
 clear hba
 obtain ⟨d0, d1, d2, d3, d4, d5, d6, d7, d8, d9, d10, d11, d12, d13, d14, d15, d16⟩ := HXe.out.cell
 refine hK.out _ _ d3 (fun hHeld => ?_)
 clear hK K
 clear d0 d1 d2 d3 d4 d5 d6 d7 d8 d9 d10 d11 d12 d13 d14 d15 d16
 refine norm_ (a' := ?_) ?_ ?_
 rotate_left
 ·show Act.put _ (some 93) _ = _
  simp only [Act.put, sq1, sq2, sq3, i64_w, i32_w]
  rfl
 refine one_ (i := 6) (N := some 94) #[true, true, true, true, true, true, true] rfl rfl (by kernel_rfl) (by decide) (fun K hK => ?_)
 go_simp
 refine (nums_is He.out HBe.out HP.out _ 1 [m.f3] (C_lit u [m.f3] (by simp)) HT1.out (by have := HS.out; have := HL1.out; simp only [List.length_cons, List.length_nil]; omega)).mono ?_
 rintro e v2 ⟨rfl, h1, h2, h3⟩
 obtain ⟨la2, hla⟩ : ∃ la, la1 ++ numsB [m.f3] = la := ⟨_, rfl⟩
 have HL2 := Lib.hid (show la2.length ≤ l0.length + 36 by rw [← hla]; have h8 := HL1.out; have h9 : (numsB [m.f3]).length ≤ 9 := numsB_le HT1.out _ (by simp); simp only [List.length_append] at h9 ⊢; omega)
 have HQ2 := Lib.hid hla
 have H2 := Lib.hid (show IsPen v2 w0.heap.size p la2 by rw [← hla]; simpa only [List.append_assoc] using h1); have HB2 := Lib.hid h2; have HK2 := Lib.hid (HKe.out.trans h3); have HX2 := Lib.hid (HXe.out.keep h3 HNE.out)
 clear h1 h2 h3 hla
 obtain ⟨d0, d1, d2, d3, d4, d5, d6, d7, d8, d9, d10, d11, d12, d13, d14, d15, d16⟩ := HX2.out.cell
 refine hK.out _ _ d3 (fun hHeld => ?_)
 clear hK K
 clear d0 d1 d2 d3 d4 d5 d6 d7 d8 d9 d10 d11 d12 d13 d14 d15 d16
 refine done_ (by kernel_rfl) ?_
 obtain ⟨d0, d1, d2, d3, d4, d5, d6, d7, d8, d9, d10, d11, d12, d13, d14, d15, d16⟩ := HX2.out.cell
 go_wp2_with fail
 refine (penYes_is H2.out HB2.out HP.out m.f7 (by have := HS.out; have := HL2.out; omega)).mono ?_
 rintro e v3 ⟨rfl, h1, h2, h3⟩
 obtain ⟨la3, hla⟩ : ∃ la, la2 ++ yesB m.f7 = la := ⟨_, rfl⟩
 have HL3 := Lib.hid (show la3.length ≤ l0.length + 45 by rw [← hla]; have h8 := HL2.out; have h9 : (yesB m.f7).length ≤ 9 := yesB_len _; simp only [List.length_append] at h9 ⊢; omega)
 have HQ3 := Lib.hid hla
 have H3 := Lib.hid (show IsPen v3 w0.heap.size p la3 by rw [← hla]; simpa only [List.append_assoc] using h1); have HB3 := Lib.hid h2; have HK3 := Lib.hid (HK2.out.trans h3); have HX3 := Lib.hid (HX2.out.keep h3 HNE.out)
 clear h1 h2 h3 hla
 clear d0 d1 d2 d3 d4 d5 d6 d7 d8 d9 d10 d11 d12 d13 d14 d15 d16
 obtain ⟨d0, d1, d2, d3, d4, d5, d6, d7, d8, d9, d10, d11, d12, d13, d14, d15, d16⟩ := HX3.out.cell
 go_upto_region 20 with fail
 clear d0 d1 d2 d3 d4 d5 d6 d7 d8 d9 d10 d11 d12 d13 d14 d15 d16
 have HD := Lib.hid (show Below v3.heap.size v3 v3.drew from (Below.refl _ _).drew)
 have Hd := Lib.hid (H3.out.below HD.out); have HBd := Lib.hid HB3.out.drew; have HKd := Lib.hid HK3.out.drew; have HXd := Lib.hid (show MsBox v3.drew b m A8 c8 A12 c12 A16 c16 from HX3.out)
 clear HD
 obtain ⟨d0, d1, d2, d3, d4, d5, d6, d7, d8, d9, d10, d11, d12, d13, d14, d15, d16⟩ := HXd.out.cell
 refine start_ (n := 7) (S := fun w' => w'.cell? ⟨b, 4, none⟩ = some (.int .i64 m.f4)) (ds := []) #[false, false, false, false, false, false, false] (by kernel_rfl) rfl rfl d4 (fun hHeld => ?_)
 obtain ⟨u, hu⟩ : ∃ u, v3.drew = u := ⟨_, rfl⟩
 rw [hu] at Hd HBd HKd HXd hHeld ⊢
 clear hu d0 d1 d2 d3 d4 d5 d6 d7 d8 d9 d10 d11 d12 d13 d14 d15 d16
 refine pure_ (i := 0) (N := some 99) (v := ?_) (a' := ?_) #[true, false, false, false, false, false, false] rfl rfl (by kernel_rfl) (fun _ _ _ h => h) (Or.inl ⟨by rfl, ?_⟩) ?_ ?_
 rotate_left
 ·intro w'
  go_simp
  try with_reducible rfl
 rotate_left
 ·simp only [Act.put, sq1, sq2, sq3, i64_w, i32_w]
  rfl
 refine pure_ (i := 1) (N := some 100) (v := ?_) (a' := ?_) #[true, true, false, false, false, false, false] rfl rfl (by kernel_rfl) (fun _ _ _ h => h) (Or.inl ⟨by rfl, ?_⟩) ?_ ?_
 rotate_left
 ·intro w'
  go_simp
  try with_reducible rfl
 rotate_left
 ·simp only [Act.put, sq1, sq2, sq3, i64_w, i32_w]
  rfl
 refine pure_ (i := 2) (N := some 101) (v := ?_) (a' := ?_) #[true, true, true, false, false, false, false] rfl rfl (by kernel_rfl) (fun _ _ _ h => h) (Or.inl ⟨by rfl, ?_⟩) ?_ ?_
 rotate_left
 ·intro w'
  go_simp
  try with_reducible rfl
 rotate_left
 ·simp only [Act.put, sq1, sq2, sq3, i64_w, i32_w]
  rfl
 refine pure_ (i := 3) (N := some 102) (v := ?_) (a' := ?_) #[true, true, true, true, false, false, false] rfl rfl (by kernel_rfl) (fun _ _ _ h => h) (Or.inl ⟨by rfl, ?_⟩) ?_ ?_
 rotate_left
 ·intro w'
  go_simp
  try with_reducible rfl
 rotate_left
 ·simp only [Act.put, sq1, sq2, sq3, i64_w, i32_w]
  rfl
 refine take_ (i := 4) (N := some 103) (v := ?_) (a' := ?_) #[true, true, true, true, true, false, false] rfl rfl (by kernel_rfl) (fun _ _ _ h => h) (Or.inl ⟨by rfl, ?_⟩) hHeld ?_ ?_
 rotate_left
 ·intro w' hS
  have x0 := hS
  go_simp
  try with_reducible rfl
 rotate_left
 ·simp only [Act.put, sq1, sq2, sq3, i64_w, i32_w]
  rfl
 refine one_ (i := 5) (N := some 104) #[true, true, true, true, true, true, false] rfl rfl (by kernel_rfl) (by decide) (fun K hK => ?_)
 refine value_ (w1 := ?_) (v := ?_) (by rfl) rfl ?_ ?_
 rotate_left 2
 ·go_simp
  constructor <;> rfl
 have hba := (Below.refl _ u).alloc (Nat.le_refl _) (.cells #[.int .i64 m.f4] 2)
 have HXe := Lib.hid (show MsBox (u.alloc (.cells #[.int .i64 m.f4] 2)) b m A8 c8 A12 c12 A16 c16 from HXd.out.below hba); have He := Lib.hid (Hd.out.below hba); have HBe := Lib.hid (HBd.out.alloc HBd.out.size (.cells #[.int .i64 m.f4] 2)); have HKe := Lib.hid (HKd.out.alloc (.cells #[.int .i64 m.f4] 2))
 clear hba
 obtain ⟨d0, d1, d2, d3, d4, d5, d6, d7, d8, d9, d10, d11, d12, d13, d14, d15, d16⟩ := HXe.out.cell
 refine hK.out _ _ d4 (fun hHeld => ?_)
 clear hK K
 clear d0 d1 d2 d3 d4 d5 d6 d7 d8 d9 d10 d11 d12 d13 d14 d15 d16
 refine norm_ (a' := ?_) ?_ ?_
 rotate_left
 ·show Act.put _ (some 104) _ = _
  simp only [Act.put, sq1, sq2, sq3, i64_w, i32_w]
  rfl
 refine one_ (i := 6) (N := some 105) #[true, true, true, true, true, true, true] rfl rfl (by kernel_rfl) (by decide) (fun K hK => ?_)
 go_simp
 refine (nums_is He.out HBe.out HP.out _ 1 [m.f4] (C_lit u [m.f4] (by simp)) HT4.out (by have := HS.out; have := HL3.out; simp only [List.length_cons, List.length_nil]; omega)).mono ?_
 rintro e v4 ⟨rfl, h1, h2, h3⟩
 obtain ⟨la4, hla⟩ : ∃ la, la3 ++ numsB [m.f4] = la := ⟨_, rfl⟩
 have HL4 := Lib.hid (show la4.length ≤ l0.length + 54 by rw [← hla]; have h8 := HL3.out; have h9 : (numsB [m.f4]).length ≤ 9 := numsB_le HT4.out _ (by simp); simp only [List.length_append] at h9 ⊢; omega)
 have HQ4 := Lib.hid hla
 have H4 := Lib.hid (show IsPen v4 w0.heap.size p la4 by rw [← hla]; simpa only [List.append_assoc] using h1); have HB4 := Lib.hid h2; have HK4 := Lib.hid (HKe.out.trans h3); have HX4 := Lib.hid (HXe.out.keep h3 HNE.out)
 clear h1 h2 h3 hla
 obtain ⟨d0, d1, d2, d3, d4, d5, d6, d7, d8, d9, d10, d11, d12, d13, d14, d15, d16⟩ := HX4.out.cell
 refine hK.out _ _ d4 (fun hHeld => ?_)
 clear hK K
 clear d0 d1 d2 d3 d4 d5 d6 d7 d8 d9 d10 d11 d12 d13 d14 d15 d16
 refine done_ (by kernel_rfl) ?_
 have HF := Lib.hid (show IsPen v4 w0.heap.size p (l0 ++ msgB m) by
  have h1 := H4.out
  rw [← HQ4.out, ← HQ3.out, ← HQ2.out, ← HQ1.out, ← HQ0.out] at h1
  rw [HTB.out]
  simpa only [List.append_assoc, numsB_one] using h1)
 go_wp2_with fail
 go_end0
 exact ⟨rfl, HF.out, HB4.out, HK4.out⟩
set_option maxHeartbeats 4000000 in
theorem penMsg5 {w0 w : World} {p : Nat} {l0 : List Int} (hI : IsPen w w0.heap.size p l0) (hB : Below w0.heap.size w0 w) (hp : w0.heap.size ≤ p) (m : MsgD) {A8 A12 A16 : Option Addr} {c8 c12 c16 : Nat} (hm : MsgC w0 m A8 c8 A12 c12 A16 c16) (ho : OkM m) (hk : m.f0 = 5) (hpl : m.f10.f3.length ≤ 16384) (hs : l0.length + 200000000 < 140737488355328) :
  Calls Tryz.prog 50 #[.pointer (some ⟨p, 0, none⟩), .agg #[.int .i64 m.f0, .int .i64 m.f1, .int .i64 m.f2, .int .i64 m.f3, .int .i64 m.f4, .int .i64 m.f5, .int .i64 m.f6, .bool m.f7, .slice A8 m.f8.length c8, .int .i64 m.f9.f0, .int .i64 m.f9.f1, .int .i64 m.f9.f2, .slice A12 m.f9.f3.length c12, .int .i64 m.f10.f0, .int .i64 m.f10.f1, .int .i64 m.f10.f2, .slice A16 m.f10.f3.length c16]] w fun e w' => PenP w0 w p (l0 ++ msgB m) e w' := by
 have HO := Lib.hid ho; have HM := Lib.hid hm; have HP := Lib.hid hp; have HS := Lib.hid hs; have HL0 := Lib.hid (show l0.length ≤ l0.length + 0 from Nat.le_refl _)
 have HNE := Lib.hid (show w.heap.size ≠ p by have := hI.lt; omega)
 have H0 := Lib.hid (hI.below ((Below.refl _ w).alloc (Nat.le_refl _) (.cells #[.int .i64 m.f0, .int .i64 m.f1, .int .i64 m.f2, .int .i64 m.f3, .int .i64 m.f4, .int .i64 m.f5, .int .i64 m.f6, .bool m.f7, .slice A8 m.f8.length c8, .int .i64 m.f9.f0, .int .i64 m.f9.f1, .int .i64 m.f9.f2, .slice A12 m.f9.f3.length c12, .int .i64 m.f10.f0, .int .i64 m.f10.f1, .int .i64 m.f10.f2, .slice A16 m.f10.f3.length c16] 34))); have HB0 := Lib.hid (hB.alloc hB.size (.cells #[.int .i64 m.f0, .int .i64 m.f1, .int .i64 m.f2, .int .i64 m.f3, .int .i64 m.f4, .int .i64 m.f5, .int .i64 m.f6, .bool m.f7, .slice A8 m.f8.length c8, .int .i64 m.f9.f0, .int .i64 m.f9.f1, .int .i64 m.f9.f2, .slice A12 m.f9.f3.length c12, .int .i64 m.f10.f0, .int .i64 m.f10.f1, .int .i64 m.f10.f2, .slice A16 m.f10.f3.length c16] 34)); have HK0 := Lib.hid ((KeepS.refl (fun i => i = p) w).alloc (.cells #[.int .i64 m.f0, .int .i64 m.f1, .int .i64 m.f2, .int .i64 m.f3, .int .i64 m.f4, .int .i64 m.f5, .int .i64 m.f6, .bool m.f7, .slice A8 m.f8.length c8, .int .i64 m.f9.f0, .int .i64 m.f9.f1, .int .i64 m.f9.f2, .slice A12 m.f9.f3.length c12, .int .i64 m.f10.f0, .int .i64 m.f10.f1, .int .i64 m.f10.f2, .slice A16 m.f10.f3.length c16] 34))
 have HX0 := Lib.hid (show MsBox (w.alloc (.cells #[.int .i64 m.f0, .int .i64 m.f1, .int .i64 m.f2, .int .i64 m.f3, .int .i64 m.f4, .int .i64 m.f5, .int .i64 m.f6, .bool m.f7, .slice A8 m.f8.length c8, .int .i64 m.f9.f0, .int .i64 m.f9.f1, .int .i64 m.f9.f2, .slice A12 m.f9.f3.length c12, .int .i64 m.f10.f0, .int .i64 m.f10.f1, .int .i64 m.f10.f2, .slice A16 m.f10.f3.length c16] 34)) w.heap.size m A8 c8 A12 c12 A16 c16 from heap_alloc_new w _)
 have HT6 := Lib.hid (show okI [m.f3, m.f4, m.f5, m.f10.f0, m.f10.f1, m.f10.f2] = true by have h1 := ho.t; have h2 := ho.p; simp only [okI_cons] at h1 h2 ⊢; exact ⟨h1.1, h1.2.1, h1.2.2.1, h2.1, h2.2.1, h2.2.2.1, rfl⟩)
 have HPL := Lib.hid hpl
 have q1 : (m.f0 == 1) = false := by rw [hk]; rfl
 have q2 : (m.f0 == 2) = false := by rw [hk]; rfl
 have q3 : (m.f0 == 3) = false := by rw [hk]; rfl
 have q4 : (m.f0 == 4) = false := by rw [hk]; rfl
 have q5 : (m.f0 == 5) = true := by rw [hk]; rfl
 have HTB := Lib.hid (show msgB m = numsB [m.f0, m.f1, m.f2] ++ (numsB [m.f3, m.f4, m.f5, m.f10.f0, m.f10.f1, m.f10.f2] ++ numB m.f10.f3.length ++ m.f10.f3) by unfold msgB tailB; simp only [hk]; rfl)
 clear hI hB hp hs ho hm hk hpl
 go_enter Tryz.func50, Tryz.ntmps50
 go_upto_region 1 with fail
 obtain ⟨v0, hv⟩ : ∃ v, w.alloc (.cells #[.int .i64 m.f0, .int .i64 m.f1, .int .i64 m.f2, .int .i64 m.f3, .int .i64 m.f4, .int .i64 m.f5, .int .i64 m.f6, .bool m.f7, .slice A8 m.f8.length c8, .int .i64 m.f9.f0, .int .i64 m.f9.f1, .int .i64 m.f9.f2, .slice A12 m.f9.f3.length c12, .int .i64 m.f10.f0, .int .i64 m.f10.f1, .int .i64 m.f10.f2, .slice A16 m.f10.f3.length c16] 34) = v := ⟨_, rfl⟩
 obtain ⟨b, hb⟩ : ∃ b, w.heap.size = b := ⟨_, rfl⟩
 rw [hv] at H0 HB0 HK0 HX0 ⊢
 rw [hb] at HNE HX0 ⊢
 clear hv hb
 obtain ⟨la0, hl0⟩ : ∃ la, l0 = la := ⟨_, rfl⟩
 have HQ0 := Lib.hid hl0
 have HLZ := Lib.hid (show la0.length ≤ l0.length + 0 by rw [← hl0]; exact Nat.le_refl _)
 rw [hl0] at H0
 clear hl0 HL0
 have HL0 := HLZ
 have HD := Lib.hid (show Below v0.heap.size v0 v0.drew from (Below.refl _ _).drew)
 have Hd := Lib.hid (H0.out.below HD.out); have HBd := Lib.hid HB0.out.drew; have HKd := Lib.hid HK0.out.drew; have HXd := Lib.hid (show MsBox v0.drew b m A8 c8 A12 c12 A16 c16 from HX0.out)
 clear HD
 obtain ⟨d0, d1, d2, d3, d4, d5, d6, d7, d8, d9, d10, d11, d12, d13, d14, d15, d16⟩ := HXd.out.cell
 refine start_ (n := 11) (S := fun w' => w'.cell? ⟨b, 0, none⟩ = some (.int .i64 m.f0) ∧ w'.cell? ⟨b, 1, none⟩ = some (.int .i64 m.f1) ∧ w'.cell? ⟨b, 2, none⟩ = some (.int .i64 m.f2)) (ds := []) #[false, false, false, false, false, false, false, false, false, false, false] (by kernel_rfl) rfl rfl ⟨d0, d1, d2⟩ (fun hHeld => ?_)
 obtain ⟨u, hu⟩ : ∃ u, v0.drew = u := ⟨_, rfl⟩
 rw [hu] at Hd HBd HKd HXd hHeld ⊢
 clear hu d0 d1 d2 d3 d4 d5 d6 d7 d8 d9 d10 d11 d12 d13 d14 d15 d16
 refine pure_ (i := 0) (N := some 6) (v := ?_) (a' := ?_) #[true, false, false, false, false, false, false, false, false, false, false] rfl rfl (by kernel_rfl) (fun _ _ _ h => h) (Or.inl ⟨by rfl, ?_⟩) ?_ ?_
 rotate_left
 ·intro w'
  go_simp
  try with_reducible rfl
 rotate_left
 ·simp only [Act.put, sq1, sq2, sq3, i64_w, i32_w]
  rfl
 refine pure_ (i := 1) (N := some 7) (v := ?_) (a' := ?_) #[true, true, false, false, false, false, false, false, false, false, false] rfl rfl (by kernel_rfl) (fun _ _ _ h => h) (Or.inl ⟨by rfl, ?_⟩) ?_ ?_
 rotate_left
 ·intro w'
  go_simp
  try with_reducible rfl
 rotate_left
 ·simp only [Act.put, sq1, sq2, sq3, i64_w, i32_w]
  rfl
 refine pure_ (i := 2) (N := some 8) (v := ?_) (a' := ?_) #[true, true, true, false, false, false, false, false, false, false, false] rfl rfl (by kernel_rfl) (fun _ _ _ h => h) (Or.inl ⟨by rfl, ?_⟩) ?_ ?_
 rotate_left
 ·intro w'
  go_simp
  try with_reducible rfl
 rotate_left
 ·simp only [Act.put, sq1, sq2, sq3, i64_w, i32_w]
  rfl
 refine pure_ (i := 3) (N := some 9) (v := ?_) (a' := ?_) #[true, true, true, true, false, false, false, false, false, false, false] rfl rfl (by kernel_rfl) (fun _ _ _ h => h) (Or.inl ⟨by rfl, ?_⟩) ?_ ?_
 rotate_left
 ·intro w'
  go_simp
  try with_reducible rfl
 rotate_left
 ·simp only [Act.put, sq1, sq2, sq3, i64_w, i32_w]
  rfl
 refine take_ (i := 4) (N := some 10) (v := ?_) (a' := ?_) #[true, true, true, true, true, false, false, false, false, false, false] rfl rfl (by kernel_rfl) (fun _ _ _ h => h) (Or.inl ⟨by rfl, ?_⟩) hHeld ?_ ?_
 rotate_left
 ·intro w' hS
  obtain ⟨x0, x1, x2⟩ := hS
  go_simp
  try with_reducible rfl
 rotate_left
 ·simp only [Act.put, sq1, sq2, sq3, i64_w, i32_w]
  rfl
 refine pure_ (i := 5) (N := some 11) (v := ?_) (a' := ?_) #[true, true, true, true, true, true, false, false, false, false, false] rfl rfl (by kernel_rfl) (fun _ _ _ h => h) (Or.inl ⟨by rfl, ?_⟩) ?_ ?_
 rotate_left
 ·intro w'
  go_simp
  try with_reducible rfl
 rotate_left
 ·simp only [Act.put, sq1, sq2, sq3, i64_w, i32_w]
  rfl
 refine take_ (i := 6) (N := some 12) (v := ?_) (a' := ?_) #[true, true, true, true, true, true, true, false, false, false, false] rfl rfl (by kernel_rfl) (fun _ _ _ h => h) (Or.inl ⟨by rfl, ?_⟩) hHeld ?_ ?_
 rotate_left
 ·intro w' hS
  obtain ⟨x0, x1, x2⟩ := hS
  go_simp
  try with_reducible rfl
 rotate_left
 ·simp only [Act.put, sq1, sq2, sq3, i64_w, i32_w]
  rfl
 refine pure_ (i := 7) (N := some 13) (v := ?_) (a' := ?_) #[true, true, true, true, true, true, true, true, false, false, false] rfl rfl (by kernel_rfl) (fun _ _ _ h => h) (Or.inl ⟨by rfl, ?_⟩) ?_ ?_
 rotate_left
 ·intro w'
  go_simp
  try with_reducible rfl
 rotate_left
 ·simp only [Act.put, sq1, sq2, sq3, i64_w, i32_w]
  rfl
 refine take_ (i := 8) (N := some 14) (v := ?_) (a' := ?_) #[true, true, true, true, true, true, true, true, true, false, false] rfl rfl (by kernel_rfl) (fun _ _ _ h => h) (Or.inl ⟨by rfl, ?_⟩) hHeld ?_ ?_
 rotate_left
 ·intro w' hS
  obtain ⟨x0, x1, x2⟩ := hS
  go_simp
  try with_reducible rfl
 rotate_left
 ·simp only [Act.put, sq1, sq2, sq3, i64_w, i32_w]
  rfl
 refine one_ (i := 9) (N := some 15) #[true, true, true, true, true, true, true, true, true, true, false] rfl rfl (by kernel_rfl) (by decide) (fun K hK => ?_)
 refine value_ (w1 := ?_) (v := ?_) (by rfl) rfl ?_ ?_
 rotate_left 2
 ·go_simp
  constructor <;> rfl
 have hba := (Below.refl _ u).alloc (Nat.le_refl _) (.cells #[.int .i64 m.f0, .int .i64 m.f1, .int .i64 m.f2] 2)
 have HXe := Lib.hid (show MsBox (u.alloc (.cells #[.int .i64 m.f0, .int .i64 m.f1, .int .i64 m.f2] 2)) b m A8 c8 A12 c12 A16 c16 from HXd.out.below hba); have He := Lib.hid (Hd.out.below hba); have HBe := Lib.hid (HBd.out.alloc HBd.out.size (.cells #[.int .i64 m.f0, .int .i64 m.f1, .int .i64 m.f2] 2)); have HKe := Lib.hid (HKd.out.alloc (.cells #[.int .i64 m.f0, .int .i64 m.f1, .int .i64 m.f2] 2))
 clear hba
 obtain ⟨d0, d1, d2, d3, d4, d5, d6, d7, d8, d9, d10, d11, d12, d13, d14, d15, d16⟩ := HXe.out.cell
 refine hK.out _ _ ⟨d0, d1, d2⟩ (fun hHeld => ?_)
 clear hK K
 clear d0 d1 d2 d3 d4 d5 d6 d7 d8 d9 d10 d11 d12 d13 d14 d15 d16
 refine norm_ (a' := ?_) ?_ ?_
 rotate_left
 ·show Act.put _ (some 15) _ = _
  simp only [Act.put, sq1, sq2, sq3, i64_w, i32_w]
  rfl
 refine one_ (i := 10) (N := some 16) #[true, true, true, true, true, true, true, true, true, true, true] rfl rfl (by kernel_rfl) (by decide) (fun K hK => ?_)
 go_simp
 refine (nums_is He.out HBe.out HP.out _ 3 [m.f0, m.f1, m.f2] (C_lit u [m.f0, m.f1, m.f2] (by simp)) HO.out.h (by have := HS.out; have := HL0.out; simp only [List.length_cons, List.length_nil]; omega)).mono ?_
 rintro e v1 ⟨rfl, h1, h2, h3⟩
 obtain ⟨la1, hla⟩ : ∃ la, la0 ++ numsB [m.f0, m.f1, m.f2] = la := ⟨_, rfl⟩
 have HL1 := Lib.hid (show la1.length ≤ l0.length + 27 by rw [← hla]; have h8 := HL0.out; have h9 : (numsB [m.f0, m.f1, m.f2]).length ≤ 27 := numsB_le HO.out.h _ (by simp); simp only [List.length_append] at h9 ⊢; omega)
 have HQ1 := Lib.hid hla
 have H1 := Lib.hid (show IsPen v1 w0.heap.size p la1 by rw [← hla]; simpa only [List.append_assoc] using h1); have HB1 := Lib.hid h2; have HK1 := Lib.hid (HKe.out.trans h3); have HX1 := Lib.hid (HXe.out.keep h3 HNE.out)
 clear h1 h2 h3 hla
 obtain ⟨d0, d1, d2, d3, d4, d5, d6, d7, d8, d9, d10, d11, d12, d13, d14, d15, d16⟩ := HX1.out.cell
 refine hK.out _ _ ⟨d0, d1, d2⟩ (fun hHeld => ?_)
 clear hK K
 clear d0 d1 d2 d3 d4 d5 d6 d7 d8 d9 d10 d11 d12 d13 d14 d15 d16
 refine done_ (by kernel_rfl) ?_
 obtain ⟨d0, d1, d2, d3, d4, d5, d6, d7, d8, d9, d10, d11, d12, d13, d14, d15, d16⟩ := HX1.out.cell
 go_upto_region 22 with fail
 clear d0 d1 d2 d3 d4 d5 d6 d7 d8 d9 d10 d11 d12 d13 d14 d15 d16
 have HD := Lib.hid (show Below v1.heap.size v1 v1.drew from (Below.refl _ _).drew)
 have Hd := Lib.hid (H1.out.below HD.out); have HBd := Lib.hid HB1.out.drew; have HKd := Lib.hid HK1.out.drew; have HXd := Lib.hid (show MsBox v1.drew b m A8 c8 A12 c12 A16 c16 from HX1.out)
 clear HD
 obtain ⟨d0, d1, d2, d3, d4, d5, d6, d7, d8, d9, d10, d11, d12, d13, d14, d15, d16⟩ := HXd.out.cell
 refine start_ (n := 20) (S := fun w' => w'.cell? ⟨b, 3, none⟩ = some (.int .i64 m.f3) ∧ w'.cell? ⟨b, 4, none⟩ = some (.int .i64 m.f4) ∧ w'.cell? ⟨b, 5, none⟩ = some (.int .i64 m.f5) ∧ w'.cell? ⟨b, 13, none⟩ = some (.int .i64 m.f10.f0) ∧ w'.cell? ⟨b, 14, none⟩ = some (.int .i64 m.f10.f1) ∧ w'.cell? ⟨b, 15, none⟩ = some (.int .i64 m.f10.f2)) (ds := []) #[false, false, false, false, false, false, false, false, false, false, false, false, false, false, false, false, false, false, false, false] (by kernel_rfl) rfl rfl ⟨d3, d4, d5, d13, d14, d15⟩ (fun hHeld => ?_)
 obtain ⟨u, hu⟩ : ∃ u, v1.drew = u := ⟨_, rfl⟩
 rw [hu] at Hd HBd HKd HXd hHeld ⊢
 clear hu d0 d1 d2 d3 d4 d5 d6 d7 d8 d9 d10 d11 d12 d13 d14 d15 d16
 refine pure_ (i := 0) (N := some 108) (v := ?_) (a' := ?_) #[true, false, false, false, false, false, false, false, false, false, false, false, false, false, false, false, false, false, false, false] rfl rfl (by kernel_rfl) (fun _ _ _ h => h) (Or.inl ⟨by rfl, ?_⟩) ?_ ?_
 rotate_left
 ·intro w'
  go_simp
  try with_reducible rfl
 rotate_left
 ·simp only [Act.put, sq1, sq2, sq3, i64_w, i32_w]
  rfl
 refine pure_ (i := 1) (N := some 109) (v := ?_) (a' := ?_) #[true, true, false, false, false, false, false, false, false, false, false, false, false, false, false, false, false, false, false, false] rfl rfl (by kernel_rfl) (fun _ _ _ h => h) (Or.inl ⟨by rfl, ?_⟩) ?_ ?_
 rotate_left
 ·intro w'
  go_simp
  try with_reducible rfl
 rotate_left
 ·simp only [Act.put, sq1, sq2, sq3, i64_w, i32_w]
  rfl
 refine pure_ (i := 2) (N := some 110) (v := ?_) (a' := ?_) #[true, true, true, false, false, false, false, false, false, false, false, false, false, false, false, false, false, false, false, false] rfl rfl (by kernel_rfl) (fun _ _ _ h => h) (Or.inl ⟨by rfl, ?_⟩) ?_ ?_
 rotate_left
 ·intro w'
  go_simp
  try with_reducible rfl
 rotate_left
 ·simp only [Act.put, sq1, sq2, sq3, i64_w, i32_w]
  rfl
 refine pure_ (i := 3) (N := some 111) (v := ?_) (a' := ?_) #[true, true, true, true, false, false, false, false, false, false, false, false, false, false, false, false, false, false, false, false] rfl rfl (by kernel_rfl) (fun _ _ _ h => h) (Or.inl ⟨by rfl, ?_⟩) ?_ ?_
 rotate_left
 ·intro w'
  go_simp
  try with_reducible rfl
 rotate_left
 ·simp only [Act.put, sq1, sq2, sq3, i64_w, i32_w]
  rfl
 refine take_ (i := 4) (N := some 112) (v := ?_) (a' := ?_) #[true, true, true, true, true, false, false, false, false, false, false, false, false, false, false, false, false, false, false, false] rfl rfl (by kernel_rfl) (fun _ _ _ h => h) (Or.inl ⟨by rfl, ?_⟩) hHeld ?_ ?_
 rotate_left
 ·intro w' hS
  obtain ⟨x3, x4, x5, x13, x14, x15⟩ := hS
  go_simp
  try with_reducible rfl
 rotate_left
 ·simp only [Act.put, sq1, sq2, sq3, i64_w, i32_w]
  rfl
 refine pure_ (i := 5) (N := some 113) (v := ?_) (a' := ?_) #[true, true, true, true, true, true, false, false, false, false, false, false, false, false, false, false, false, false, false, false] rfl rfl (by kernel_rfl) (fun _ _ _ h => h) (Or.inl ⟨by rfl, ?_⟩) ?_ ?_
 rotate_left
 ·intro w'
  go_simp
  try with_reducible rfl
 rotate_left
 ·simp only [Act.put, sq1, sq2, sq3, i64_w, i32_w]
  rfl
 refine take_ (i := 6) (N := some 114) (v := ?_) (a' := ?_) #[true, true, true, true, true, true, true, false, false, false, false, false, false, false, false, false, false, false, false, false] rfl rfl (by kernel_rfl) (fun _ _ _ h => h) (Or.inl ⟨by rfl, ?_⟩) hHeld ?_ ?_
 rotate_left
 ·intro w' hS
  obtain ⟨x3, x4, x5, x13, x14, x15⟩ := hS
  go_simp
  try with_reducible rfl
 rotate_left
 ·simp only [Act.put, sq1, sq2, sq3, i64_w, i32_w]
  rfl
 refine pure_ (i := 7) (N := some 115) (v := ?_) (a' := ?_) #[true, true, true, true, true, true, true, true, false, false, false, false, false, false, false, false, false, false, false, false] rfl rfl (by kernel_rfl) (fun _ _ _ h => h) (Or.inl ⟨by rfl, ?_⟩) ?_ ?_
 rotate_left
 ·intro w'
  go_simp
  try with_reducible rfl
 rotate_left
 ·simp only [Act.put, sq1, sq2, sq3, i64_w, i32_w]
  rfl
 refine take_ (i := 8) (N := some 116) (v := ?_) (a' := ?_) #[true, true, true, true, true, true, true, true, true, false, false, false, false, false, false, false, false, false, false, false] rfl rfl (by kernel_rfl) (fun _ _ _ h => h) (Or.inl ⟨by rfl, ?_⟩) hHeld ?_ ?_
 rotate_left
 ·intro w' hS
  obtain ⟨x3, x4, x5, x13, x14, x15⟩ := hS
  go_simp
  try with_reducible rfl
 rotate_left
 ·simp only [Act.put, sq1, sq2, sq3, i64_w, i32_w]
  rfl
 refine pure_ (i := 9) (N := some 117) (v := ?_) (a' := ?_) #[true, true, true, true, true, true, true, true, true, true, false, false, false, false, false, false, false, false, false, false] rfl rfl (by kernel_rfl) (fun _ _ _ h => h) (Or.inl ⟨by rfl, ?_⟩) ?_ ?_
 rotate_left
 ·intro w'
  go_simp
  try with_reducible rfl
 rotate_left
 ·simp only [Act.put, sq1, sq2, sq3, i64_w, i32_w]
  rfl
 refine pure_ (i := 10) (N := some 118) (v := ?_) (a' := ?_) #[true, true, true, true, true, true, true, true, true, true, true, false, false, false, false, false, false, false, false, false] rfl rfl (by kernel_rfl) (fun _ _ _ h => h) (Or.inl ⟨by rfl, ?_⟩) ?_ ?_
 rotate_left
 ·intro w'
  go_simp
  try with_reducible rfl
 rotate_left
 ·simp only [Act.put, sq1, sq2, sq3, i64_w, i32_w]
  rfl
 refine take_ (i := 11) (N := some 119) (v := ?_) (a' := ?_) #[true, true, true, true, true, true, true, true, true, true, true, true, false, false, false, false, false, false, false, false] rfl rfl (by kernel_rfl) (fun _ _ _ h => h) (Or.inl ⟨by rfl, ?_⟩) hHeld ?_ ?_
 rotate_left
 ·intro w' hS
  obtain ⟨x3, x4, x5, x13, x14, x15⟩ := hS
  go_simp
  try with_reducible rfl
 rotate_left
 ·simp only [Act.put, sq1, sq2, sq3, i64_w, i32_w]
  rfl
 refine pure_ (i := 12) (N := some 120) (v := ?_) (a' := ?_) #[true, true, true, true, true, true, true, true, true, true, true, true, true, false, false, false, false, false, false, false] rfl rfl (by kernel_rfl) (fun _ _ _ h => h) (Or.inl ⟨by rfl, ?_⟩) ?_ ?_
 rotate_left
 ·intro w'
  go_simp
  try with_reducible rfl
 rotate_left
 ·simp only [Act.put, sq1, sq2, sq3, i64_w, i32_w]
  rfl
 refine pure_ (i := 13) (N := some 121) (v := ?_) (a' := ?_) #[true, true, true, true, true, true, true, true, true, true, true, true, true, true, false, false, false, false, false, false] rfl rfl (by kernel_rfl) (fun _ _ _ h => h) (Or.inl ⟨by rfl, ?_⟩) ?_ ?_
 rotate_left
 ·intro w'
  go_simp
  try with_reducible rfl
 rotate_left
 ·simp only [Act.put, sq1, sq2, sq3, i64_w, i32_w]
  rfl
 refine take_ (i := 14) (N := some 122) (v := ?_) (a' := ?_) #[true, true, true, true, true, true, true, true, true, true, true, true, true, true, true, false, false, false, false, false] rfl rfl (by kernel_rfl) (fun _ _ _ h => h) (Or.inl ⟨by rfl, ?_⟩) hHeld ?_ ?_
 rotate_left
 ·intro w' hS
  obtain ⟨x3, x4, x5, x13, x14, x15⟩ := hS
  go_simp
  try with_reducible rfl
 rotate_left
 ·simp only [Act.put, sq1, sq2, sq3, i64_w, i32_w]
  rfl
 refine pure_ (i := 15) (N := some 123) (v := ?_) (a' := ?_) #[true, true, true, true, true, true, true, true, true, true, true, true, true, true, true, true, false, false, false, false] rfl rfl (by kernel_rfl) (fun _ _ _ h => h) (Or.inl ⟨by rfl, ?_⟩) ?_ ?_
 rotate_left
 ·intro w'
  go_simp
  try with_reducible rfl
 rotate_left
 ·simp only [Act.put, sq1, sq2, sq3, i64_w, i32_w]
  rfl
 refine pure_ (i := 16) (N := some 124) (v := ?_) (a' := ?_) #[true, true, true, true, true, true, true, true, true, true, true, true, true, true, true, true, true, false, false, false] rfl rfl (by kernel_rfl) (fun _ _ _ h => h) (Or.inl ⟨by rfl, ?_⟩) ?_ ?_
 rotate_left
 ·intro w'
  go_simp
  try with_reducible rfl
 rotate_left
 ·simp only [Act.put, sq1, sq2, sq3, i64_w, i32_w]
  rfl
 refine take_ (i := 17) (N := some 125) (v := ?_) (a' := ?_) #[true, true, true, true, true, true, true, true, true, true, true, true, true, true, true, true, true, true, false, false] rfl rfl (by kernel_rfl) (fun _ _ _ h => h) (Or.inl ⟨by rfl, ?_⟩) hHeld ?_ ?_
 rotate_left
 ·intro w' hS
  obtain ⟨x3, x4, x5, x13, x14, x15⟩ := hS
  go_simp
  try with_reducible rfl
 rotate_left
 ·simp only [Act.put, sq1, sq2, sq3, i64_w, i32_w]
  rfl
 refine one_ (i := 18) (N := some 126) #[true, true, true, true, true, true, true, true, true, true, true, true, true, true, true, true, true, true, true, false] rfl rfl (by kernel_rfl) (by decide) (fun K hK => ?_)
 refine value_ (w1 := ?_) (v := ?_) (by rfl) rfl ?_ ?_
 rotate_left 2
 ·go_simp
  constructor <;> rfl
 have hba := (Below.refl _ u).alloc (Nat.le_refl _) (.cells #[.int .i64 m.f3, .int .i64 m.f4, .int .i64 m.f5, .int .i64 m.f10.f0, .int .i64 m.f10.f1, .int .i64 m.f10.f2] 2)
 have HXe := Lib.hid (show MsBox (u.alloc (.cells #[.int .i64 m.f3, .int .i64 m.f4, .int .i64 m.f5, .int .i64 m.f10.f0, .int .i64 m.f10.f1, .int .i64 m.f10.f2] 2)) b m A8 c8 A12 c12 A16 c16 from HXd.out.below hba); have He := Lib.hid (Hd.out.below hba); have HBe := Lib.hid (HBd.out.alloc HBd.out.size (.cells #[.int .i64 m.f3, .int .i64 m.f4, .int .i64 m.f5, .int .i64 m.f10.f0, .int .i64 m.f10.f1, .int .i64 m.f10.f2] 2)); have HKe := Lib.hid (HKd.out.alloc (.cells #[.int .i64 m.f3, .int .i64 m.f4, .int .i64 m.f5, .int .i64 m.f10.f0, .int .i64 m.f10.f1, .int .i64 m.f10.f2] 2))
 clear hba
 obtain ⟨d0, d1, d2, d3, d4, d5, d6, d7, d8, d9, d10, d11, d12, d13, d14, d15, d16⟩ := HXe.out.cell
 refine hK.out _ _ ⟨d3, d4, d5, d13, d14, d15⟩ (fun hHeld => ?_)
 clear hK K
 clear d0 d1 d2 d3 d4 d5 d6 d7 d8 d9 d10 d11 d12 d13 d14 d15 d16
 refine norm_ (a' := ?_) ?_ ?_
 rotate_left
 ·show Act.put _ (some 126) _ = _
  simp only [Act.put, sq1, sq2, sq3, i64_w, i32_w]
  rfl
 refine one_ (i := 19) (N := some 127) #[true, true, true, true, true, true, true, true, true, true, true, true, true, true, true, true, true, true, true, true] rfl rfl (by kernel_rfl) (by decide) (fun K hK => ?_)
 go_simp
 refine (nums_is He.out HBe.out HP.out _ 6 [m.f3, m.f4, m.f5, m.f10.f0, m.f10.f1, m.f10.f2] (C_lit u [m.f3, m.f4, m.f5, m.f10.f0, m.f10.f1, m.f10.f2] (by simp)) HT6.out (by have := HS.out; have := HL1.out; simp only [List.length_cons, List.length_nil]; omega)).mono ?_
 rintro e v2 ⟨rfl, h1, h2, h3⟩
 obtain ⟨la2, hla⟩ : ∃ la, la1 ++ numsB [m.f3, m.f4, m.f5, m.f10.f0, m.f10.f1, m.f10.f2] = la := ⟨_, rfl⟩
 have HL2 := Lib.hid (show la2.length ≤ l0.length + 81 by rw [← hla]; have h8 := HL1.out; have h9 : (numsB [m.f3, m.f4, m.f5, m.f10.f0, m.f10.f1, m.f10.f2]).length ≤ 54 := numsB_le HT6.out _ (by simp); simp only [List.length_append] at h9 ⊢; omega)
 have HQ2 := Lib.hid hla
 have H2 := Lib.hid (show IsPen v2 w0.heap.size p la2 by rw [← hla]; simpa only [List.append_assoc] using h1); have HB2 := Lib.hid h2; have HK2 := Lib.hid (HKe.out.trans h3); have HX2 := Lib.hid (HXe.out.keep h3 HNE.out)
 clear h1 h2 h3 hla
 obtain ⟨d0, d1, d2, d3, d4, d5, d6, d7, d8, d9, d10, d11, d12, d13, d14, d15, d16⟩ := HX2.out.cell
 refine hK.out _ _ ⟨d3, d4, d5, d13, d14, d15⟩ (fun hHeld => ?_)
 clear hK K
 clear d0 d1 d2 d3 d4 d5 d6 d7 d8 d9 d10 d11 d12 d13 d14 d15 d16
 refine done_ (by kernel_rfl) ?_
 obtain ⟨d0, d1, d2, d3, d4, d5, d6, d7, d8, d9, d10, d11, d12, d13, d14, d15, d16⟩ := HX2.out.cell
 go_upto_region 23 with fail
 clear d0 d1 d2 d3 d4 d5 d6 d7 d8 d9 d10 d11 d12 d13 d14 d15 d16
 have HD := Lib.hid (show Below v2.heap.size v2 v2.drew from (Below.refl _ _).drew)
 have Hd := Lib.hid (H2.out.below HD.out); have HBd := Lib.hid HB2.out.drew; have HKd := Lib.hid HK2.out.drew; have HXd := Lib.hid (show MsBox v2.drew b m A8 c8 A12 c12 A16 c16 from HX2.out)
 clear HD
 obtain ⟨d0, d1, d2, d3, d4, d5, d6, d7, d8, d9, d10, d11, d12, d13, d14, d15, d16⟩ := HXd.out.cell
 refine start_ (n := 7) (S := fun w' => w'.cell? ⟨b, 16, none⟩ = some (.slice A16 m.f10.f3.length c16)) (ds := []) #[false, false, false, false, false, false, false] (by kernel_rfl) rfl rfl d16 (fun hHeld => ?_)
 obtain ⟨u, hu⟩ : ∃ u, v2.drew = u := ⟨_, rfl⟩
 rw [hu] at Hd HBd HKd HXd hHeld ⊢
 clear hu d0 d1 d2 d3 d4 d5 d6 d7 d8 d9 d10 d11 d12 d13 d14 d15 d16
 refine pure_ (i := 0) (N := some 128) (v := ?_) (a' := ?_) #[true, false, false, false, false, false, false] rfl rfl (by kernel_rfl) (fun _ _ _ h => h) (Or.inl ⟨by rfl, ?_⟩) ?_ ?_
 rotate_left
 ·intro w'
  go_simp
  try with_reducible rfl
 rotate_left
 ·simp only [Act.put, sq1, sq2, sq3, i64_w, i32_w]
  rfl
 refine pure_ (i := 1) (N := some 129) (v := ?_) (a' := ?_) #[true, true, false, false, false, false, false] rfl rfl (by kernel_rfl) (fun _ _ _ h => h) (Or.inl ⟨by rfl, ?_⟩) ?_ ?_
 rotate_left
 ·intro w'
  go_simp
  try with_reducible rfl
 rotate_left
 ·simp only [Act.put, sq1, sq2, sq3, i64_w, i32_w]
  rfl
 refine pure_ (i := 2) (N := some 130) (v := ?_) (a' := ?_) #[true, true, true, false, false, false, false] rfl rfl (by kernel_rfl) (fun _ _ _ h => h) (Or.inl ⟨by rfl, ?_⟩) ?_ ?_
 rotate_left
 ·intro w'
  go_simp
  try with_reducible rfl
 rotate_left
 ·simp only [Act.put, sq1, sq2, sq3, i64_w, i32_w]
  rfl
 refine pure_ (i := 3) (N := some 131) (v := ?_) (a' := ?_) #[true, true, true, true, false, false, false] rfl rfl (by kernel_rfl) (fun _ _ _ h => h) (Or.inl ⟨by rfl, ?_⟩) ?_ ?_
 rotate_left
 ·intro w'
  go_simp
  try with_reducible rfl
 rotate_left
 ·simp only [Act.put, sq1, sq2, sq3, i64_w, i32_w]
  rfl
 refine pure_ (i := 4) (N := some 132) (v := ?_) (a' := ?_) #[true, true, true, true, true, false, false] rfl rfl (by kernel_rfl) (fun _ _ _ h => h) (Or.inl ⟨by rfl, ?_⟩) ?_ ?_
 rotate_left
 ·intro w'
  go_simp
  try with_reducible rfl
 rotate_left
 ·simp only [Act.put, sq1, sq2, sq3, i64_w, i32_w]
  rfl
 refine take_ (i := 5) (N := some 133) (v := ?_) (a' := ?_) #[true, true, true, true, true, true, false] rfl rfl (by kernel_rfl) (fun _ _ _ h => h) (Or.inl ⟨by rfl, ?_⟩) hHeld ?_ ?_
 rotate_left
 ·intro w' hS
  have x0 := hS
  go_simp
  try with_reducible rfl
 rotate_left
 ·simp only [Act.put, sq1, sq2, sq3, i64_w, i32_w]
  rfl
 refine one_ (i := 6) (N := some 134) #[true, true, true, true, true, true, true] rfl rfl (by kernel_rfl) (by decide) (fun K hK => ?_)
 go_simp
 refine (data_is Hd.out HBd.out HP.out A16 c16 m.f10.f3 (Kd.C_below HM.out.g16 HBd.out) HM.out.l16 (by have := HS.out; have := HL2.out; have := HPL.out; omega)).mono ?_
 rintro e v3 ⟨rfl, h1, h2, h3⟩
 obtain ⟨la3, hla⟩ : ∃ la, la2 ++ (numB m.f10.f3.length ++ m.f10.f3) = la := ⟨_, rfl⟩
 have HL3 := Lib.hid (show la3.length ≤ l0.length + 16481 by rw [← hla]; have h8 := HL2.out; have h9 : ((numB m.f10.f3.length ++ m.f10.f3)).length ≤ 16400 := (by have h7 := HPL.out; have h6 := (numB_len (n := (m.f10.f3.length : Int)) (by unfold isI64; omega)).2; simp only [List.length_append]; omega); simp only [List.length_append] at h9 ⊢; omega)
 have HQ3 := Lib.hid hla
 have H3 := Lib.hid (show IsPen v3 w0.heap.size p la3 by rw [← hla]; simpa only [List.append_assoc] using h1); have HB3 := Lib.hid h2; have HK3 := Lib.hid (HKd.out.trans h3); have HX3 := Lib.hid (HXd.out.keep h3 HNE.out)
 clear h1 h2 h3 hla
 obtain ⟨d0, d1, d2, d3, d4, d5, d6, d7, d8, d9, d10, d11, d12, d13, d14, d15, d16⟩ := HX3.out.cell
 refine hK.out _ _ d16 (fun hHeld => ?_)
 clear hK K
 clear d0 d1 d2 d3 d4 d5 d6 d7 d8 d9 d10 d11 d12 d13 d14 d15 d16
 refine done_ (by kernel_rfl) ?_
 have HF := Lib.hid (show IsPen v3 w0.heap.size p (l0 ++ msgB m) by
  have h1 := H3.out
  rw [← HQ3.out, ← HQ2.out, ← HQ1.out, ← HQ0.out] at h1
  rw [HTB.out]
  simpa only [List.append_assoc, numsB_one] using h1)
 go_wp2_with fail
 go_end0
 exact ⟨rfl, HF.out, HB3.out, HK3.out⟩
set_option maxHeartbeats 4000000 in
theorem penMsg6 {w0 w : World} {p : Nat} {l0 : List Int} (hI : IsPen w w0.heap.size p l0) (hB : Below w0.heap.size w0 w) (hp : w0.heap.size ≤ p) (m : MsgD) {A8 A12 A16 : Option Addr} {c8 c12 c16 : Nat} (hm : MsgC w0 m A8 c8 A12 c12 A16 c16) (ho : OkM m) (hk : m.f0 = 6) (hme : mayE m.f9.f0 m.f9.f1 m.f9.f2 m.f9.f3 = true) (hs : l0.length + 200000000 < 140737488355328) :
  Calls Tryz.prog 50 #[.pointer (some ⟨p, 0, none⟩), .agg #[.int .i64 m.f0, .int .i64 m.f1, .int .i64 m.f2, .int .i64 m.f3, .int .i64 m.f4, .int .i64 m.f5, .int .i64 m.f6, .bool m.f7, .slice A8 m.f8.length c8, .int .i64 m.f9.f0, .int .i64 m.f9.f1, .int .i64 m.f9.f2, .slice A12 m.f9.f3.length c12, .int .i64 m.f10.f0, .int .i64 m.f10.f1, .int .i64 m.f10.f2, .slice A16 m.f10.f3.length c16]] w fun e w' => PenP w0 w p (l0 ++ msgB m) e w' := by
 have HO := Lib.hid ho; have HM := Lib.hid hm; have HP := Lib.hid hp; have HS := Lib.hid hs; have HL0 := Lib.hid (show l0.length ≤ l0.length + 0 from Nat.le_refl _)
 have HNE := Lib.hid (show w.heap.size ≠ p by have := hI.lt; omega)
 have H0 := Lib.hid (hI.below ((Below.refl _ w).alloc (Nat.le_refl _) (.cells #[.int .i64 m.f0, .int .i64 m.f1, .int .i64 m.f2, .int .i64 m.f3, .int .i64 m.f4, .int .i64 m.f5, .int .i64 m.f6, .bool m.f7, .slice A8 m.f8.length c8, .int .i64 m.f9.f0, .int .i64 m.f9.f1, .int .i64 m.f9.f2, .slice A12 m.f9.f3.length c12, .int .i64 m.f10.f0, .int .i64 m.f10.f1, .int .i64 m.f10.f2, .slice A16 m.f10.f3.length c16] 34))); have HB0 := Lib.hid (hB.alloc hB.size (.cells #[.int .i64 m.f0, .int .i64 m.f1, .int .i64 m.f2, .int .i64 m.f3, .int .i64 m.f4, .int .i64 m.f5, .int .i64 m.f6, .bool m.f7, .slice A8 m.f8.length c8, .int .i64 m.f9.f0, .int .i64 m.f9.f1, .int .i64 m.f9.f2, .slice A12 m.f9.f3.length c12, .int .i64 m.f10.f0, .int .i64 m.f10.f1, .int .i64 m.f10.f2, .slice A16 m.f10.f3.length c16] 34)); have HK0 := Lib.hid ((KeepS.refl (fun i => i = p) w).alloc (.cells #[.int .i64 m.f0, .int .i64 m.f1, .int .i64 m.f2, .int .i64 m.f3, .int .i64 m.f4, .int .i64 m.f5, .int .i64 m.f6, .bool m.f7, .slice A8 m.f8.length c8, .int .i64 m.f9.f0, .int .i64 m.f9.f1, .int .i64 m.f9.f2, .slice A12 m.f9.f3.length c12, .int .i64 m.f10.f0, .int .i64 m.f10.f1, .int .i64 m.f10.f2, .slice A16 m.f10.f3.length c16] 34))
 have HX0 := Lib.hid (show MsBox (w.alloc (.cells #[.int .i64 m.f0, .int .i64 m.f1, .int .i64 m.f2, .int .i64 m.f3, .int .i64 m.f4, .int .i64 m.f5, .int .i64 m.f6, .bool m.f7, .slice A8 m.f8.length c8, .int .i64 m.f9.f0, .int .i64 m.f9.f1, .int .i64 m.f9.f2, .slice A12 m.f9.f3.length c12, .int .i64 m.f10.f0, .int .i64 m.f10.f1, .int .i64 m.f10.f2, .slice A16 m.f10.f3.length c16] 34)) w.heap.size m A8 c8 A12 c12 A16 c16 from heap_alloc_new w _)
 have HME := Lib.hid hme
 have q1 : (m.f0 == 1) = false := by rw [hk]; rfl
 have q2 : (m.f0 == 2) = false := by rw [hk]; rfl
 have q3 : (m.f0 == 3) = false := by rw [hk]; rfl
 have q4 : (m.f0 == 4) = false := by rw [hk]; rfl
 have q5 : (m.f0 == 5) = false := by rw [hk]; rfl
 have q6 : (m.f0 == 6) = true := by rw [hk]; rfl
 have HTB := Lib.hid (show msgB m = numsB [m.f0, m.f1, m.f2] ++ (entB m.f9.f0 m.f9.f1 m.f9.f2 m.f9.f3) by unfold msgB tailB; simp only [hk]; rfl)
 clear hI hB hp hs ho hm hk hme
 go_enter Tryz.func50, Tryz.ntmps50
 go_upto_region 1 with fail
 obtain ⟨v0, hv⟩ : ∃ v, w.alloc (.cells #[.int .i64 m.f0, .int .i64 m.f1, .int .i64 m.f2, .int .i64 m.f3, .int .i64 m.f4, .int .i64 m.f5, .int .i64 m.f6, .bool m.f7, .slice A8 m.f8.length c8, .int .i64 m.f9.f0, .int .i64 m.f9.f1, .int .i64 m.f9.f2, .slice A12 m.f9.f3.length c12, .int .i64 m.f10.f0, .int .i64 m.f10.f1, .int .i64 m.f10.f2, .slice A16 m.f10.f3.length c16] 34) = v := ⟨_, rfl⟩
 obtain ⟨b, hb⟩ : ∃ b, w.heap.size = b := ⟨_, rfl⟩
 rw [hv] at H0 HB0 HK0 HX0 ⊢
 rw [hb] at HNE HX0 ⊢
 clear hv hb
 obtain ⟨la0, hl0⟩ : ∃ la, l0 = la := ⟨_, rfl⟩
 have HQ0 := Lib.hid hl0
 have HLZ := Lib.hid (show la0.length ≤ l0.length + 0 by rw [← hl0]; exact Nat.le_refl _)
 rw [hl0] at H0
 clear hl0 HL0
 have HL0 := HLZ
 have HD := Lib.hid (show Below v0.heap.size v0 v0.drew from (Below.refl _ _).drew)
 have Hd := Lib.hid (H0.out.below HD.out); have HBd := Lib.hid HB0.out.drew; have HKd := Lib.hid HK0.out.drew; have HXd := Lib.hid (show MsBox v0.drew b m A8 c8 A12 c12 A16 c16 from HX0.out)
 clear HD
 obtain ⟨d0, d1, d2, d3, d4, d5, d6, d7, d8, d9, d10, d11, d12, d13, d14, d15, d16⟩ := HXd.out.cell
 refine start_ (n := 11) (S := fun w' => w'.cell? ⟨b, 0, none⟩ = some (.int .i64 m.f0) ∧ w'.cell? ⟨b, 1, none⟩ = some (.int .i64 m.f1) ∧ w'.cell? ⟨b, 2, none⟩ = some (.int .i64 m.f2)) (ds := []) #[false, false, false, false, false, false, false, false, false, false, false] (by kernel_rfl) rfl rfl ⟨d0, d1, d2⟩ (fun hHeld => ?_)
 obtain ⟨u, hu⟩ : ∃ u, v0.drew = u := ⟨_, rfl⟩
 rw [hu] at Hd HBd HKd HXd hHeld ⊢
 clear hu d0 d1 d2 d3 d4 d5 d6 d7 d8 d9 d10 d11 d12 d13 d14 d15 d16
 refine pure_ (i := 0) (N := some 6) (v := ?_) (a' := ?_) #[true, false, false, false, false, false, false, false, false, false, false] rfl rfl (by kernel_rfl) (fun _ _ _ h => h) (Or.inl ⟨by rfl, ?_⟩) ?_ ?_
 rotate_left
 ·intro w'
  go_simp
  try with_reducible rfl
 rotate_left
 ·simp only [Act.put, sq1, sq2, sq3, i64_w, i32_w]
  rfl
 refine pure_ (i := 1) (N := some 7) (v := ?_) (a' := ?_) #[true, true, false, false, false, false, false, false, false, false, false] rfl rfl (by kernel_rfl) (fun _ _ _ h => h) (Or.inl ⟨by rfl, ?_⟩) ?_ ?_
 rotate_left
 ·intro w'
  go_simp
  try with_reducible rfl
 rotate_left
 ·simp only [Act.put, sq1, sq2, sq3, i64_w, i32_w]
  rfl
 refine pure_ (i := 2) (N := some 8) (v := ?_) (a' := ?_) #[true, true, true, false, false, false, false, false, false, false, false] rfl rfl (by kernel_rfl) (fun _ _ _ h => h) (Or.inl ⟨by rfl, ?_⟩) ?_ ?_
 rotate_left
 ·intro w'
  go_simp
  try with_reducible rfl
 rotate_left
 ·simp only [Act.put, sq1, sq2, sq3, i64_w, i32_w]
  rfl
 refine pure_ (i := 3) (N := some 9) (v := ?_) (a' := ?_) #[true, true, true, true, false, false, false, false, false, false, false] rfl rfl (by kernel_rfl) (fun _ _ _ h => h) (Or.inl ⟨by rfl, ?_⟩) ?_ ?_
 rotate_left
 ·intro w'
  go_simp
  try with_reducible rfl
 rotate_left
 ·simp only [Act.put, sq1, sq2, sq3, i64_w, i32_w]
  rfl
 refine take_ (i := 4) (N := some 10) (v := ?_) (a' := ?_) #[true, true, true, true, true, false, false, false, false, false, false] rfl rfl (by kernel_rfl) (fun _ _ _ h => h) (Or.inl ⟨by rfl, ?_⟩) hHeld ?_ ?_
 rotate_left
 ·intro w' hS
  obtain ⟨x0, x1, x2⟩ := hS
  go_simp
  try with_reducible rfl
 rotate_left
 ·simp only [Act.put, sq1, sq2, sq3, i64_w, i32_w]
  rfl
 refine pure_ (i := 5) (N := some 11) (v := ?_) (a' := ?_) #[true, true, true, true, true, true, false, false, false, false, false] rfl rfl (by kernel_rfl) (fun _ _ _ h => h) (Or.inl ⟨by rfl, ?_⟩) ?_ ?_
 rotate_left
 ·intro w'
  go_simp
  try with_reducible rfl
 rotate_left
 ·simp only [Act.put, sq1, sq2, sq3, i64_w, i32_w]
  rfl
 refine take_ (i := 6) (N := some 12) (v := ?_) (a' := ?_) #[true, true, true, true, true, true, true, false, false, false, false] rfl rfl (by kernel_rfl) (fun _ _ _ h => h) (Or.inl ⟨by rfl, ?_⟩) hHeld ?_ ?_
 rotate_left
 ·intro w' hS
  obtain ⟨x0, x1, x2⟩ := hS
  go_simp
  try with_reducible rfl
 rotate_left
 ·simp only [Act.put, sq1, sq2, sq3, i64_w, i32_w]
  rfl
 refine pure_ (i := 7) (N := some 13) (v := ?_) (a' := ?_) #[true, true, true, true, true, true, true, true, false, false, false] rfl rfl (by kernel_rfl) (fun _ _ _ h => h) (Or.inl ⟨by rfl, ?_⟩) ?_ ?_
 rotate_left
 ·intro w'
  go_simp
  try with_reducible rfl
 rotate_left
 ·simp only [Act.put, sq1, sq2, sq3, i64_w, i32_w]
  rfl
 refine take_ (i := 8) (N := some 14) (v := ?_) (a' := ?_) #[true, true, true, true, true, true, true, true, true, false, false] rfl rfl (by kernel_rfl) (fun _ _ _ h => h) (Or.inl ⟨by rfl, ?_⟩) hHeld ?_ ?_
 rotate_left
 ·intro w' hS
  obtain ⟨x0, x1, x2⟩ := hS
  go_simp
  try with_reducible rfl
 rotate_left
 ·simp only [Act.put, sq1, sq2, sq3, i64_w, i32_w]
  rfl
 refine one_ (i := 9) (N := some 15) #[true, true, true, true, true, true, true, true, true, true, false] rfl rfl (by kernel_rfl) (by decide) (fun K hK => ?_)
 refine value_ (w1 := ?_) (v := ?_) (by rfl) rfl ?_ ?_
 rotate_left 2
 ·go_simp
  constructor <;> rfl
 have hba := (Below.refl _ u).alloc (Nat.le_refl _) (.cells #[.int .i64 m.f0, .int .i64 m.f1, .int .i64 m.f2] 2)
 have HXe := Lib.hid (show MsBox (u.alloc (.cells #[.int .i64 m.f0, .int .i64 m.f1, .int .i64 m.f2] 2)) b m A8 c8 A12 c12 A16 c16 from HXd.out.below hba); have He := Lib.hid (Hd.out.below hba); have HBe := Lib.hid (HBd.out.alloc HBd.out.size (.cells #[.int .i64 m.f0, .int .i64 m.f1, .int .i64 m.f2] 2)); have HKe := Lib.hid (HKd.out.alloc (.cells #[.int .i64 m.f0, .int .i64 m.f1, .int .i64 m.f2] 2))
 clear hba
 obtain ⟨d0, d1, d2, d3, d4, d5, d6, d7, d8, d9, d10, d11, d12, d13, d14, d15, d16⟩ := HXe.out.cell
 refine hK.out _ _ ⟨d0, d1, d2⟩ (fun hHeld => ?_)
 clear hK K
 clear d0 d1 d2 d3 d4 d5 d6 d7 d8 d9 d10 d11 d12 d13 d14 d15 d16
 refine norm_ (a' := ?_) ?_ ?_
 rotate_left
 ·show Act.put _ (some 15) _ = _
  simp only [Act.put, sq1, sq2, sq3, i64_w, i32_w]
  rfl
 refine one_ (i := 10) (N := some 16) #[true, true, true, true, true, true, true, true, true, true, true] rfl rfl (by kernel_rfl) (by decide) (fun K hK => ?_)
 go_simp
 refine (nums_is He.out HBe.out HP.out _ 3 [m.f0, m.f1, m.f2] (C_lit u [m.f0, m.f1, m.f2] (by simp)) HO.out.h (by have := HS.out; have := HL0.out; simp only [List.length_cons, List.length_nil]; omega)).mono ?_
 rintro e v1 ⟨rfl, h1, h2, h3⟩
 obtain ⟨la1, hla⟩ : ∃ la, la0 ++ numsB [m.f0, m.f1, m.f2] = la := ⟨_, rfl⟩
 have HL1 := Lib.hid (show la1.length ≤ l0.length + 27 by rw [← hla]; have h8 := HL0.out; have h9 : (numsB [m.f0, m.f1, m.f2]).length ≤ 27 := numsB_le HO.out.h _ (by simp); simp only [List.length_append] at h9 ⊢; omega)
 have HQ1 := Lib.hid hla
 have H1 := Lib.hid (show IsPen v1 w0.heap.size p la1 by rw [← hla]; simpa only [List.append_assoc] using h1); have HB1 := Lib.hid h2; have HK1 := Lib.hid (HKe.out.trans h3); have HX1 := Lib.hid (HXe.out.keep h3 HNE.out)
 clear h1 h2 h3 hla
 obtain ⟨d0, d1, d2, d3, d4, d5, d6, d7, d8, d9, d10, d11, d12, d13, d14, d15, d16⟩ := HX1.out.cell
 refine hK.out _ _ ⟨d0, d1, d2⟩ (fun hHeld => ?_)
 clear hK K
 clear d0 d1 d2 d3 d4 d5 d6 d7 d8 d9 d10 d11 d12 d13 d14 d15 d16
 refine done_ (by kernel_rfl) ?_
 obtain ⟨d0, d1, d2, d3, d4, d5, d6, d7, d8, d9, d10, d11, d12, d13, d14, d15, d16⟩ := HX1.out.cell
 clear d0 d1 d2 d3 d4 d5 d6 d7 d8 d9 d10 d11 d12 d13 d14 d15 d16
 obtain ⟨d0, d1, d2, d3, d4, d5, d6, d7, d8, d9, d10, d11, d12, d13, d14, d15, d16⟩ := HX1.out.cell
 go_wp2_with fail
 refine (penEntry_is H1.out HB1.out HP.out m.f9.f0 m.f9.f1 m.f9.f2 A12 c12 m.f9.f3 HM.out.g12 HO.out.e HME.out (by have := HS.out; have := HL1.out; omega)).mono ?_
 rintro e v2 ⟨rfl, h1, h2, h3⟩
 obtain ⟨la2, hla⟩ : ∃ la, la1 ++ entB m.f9.f0 m.f9.f1 m.f9.f2 m.f9.f3 = la := ⟨_, rfl⟩
 have HL2 := Lib.hid (show la2.length ≤ l0.length + 25027 by rw [← hla]; have h8 := HL1.out; have h9 : (entB m.f9.f0 m.f9.f1 m.f9.f2 m.f9.f3).length ≤ 25000 := entB_len HO.out.e HME.out; simp only [List.length_append] at h9 ⊢; omega)
 have HQ2 := Lib.hid hla
 have H2 := Lib.hid (show IsPen v2 w0.heap.size p la2 by rw [← hla]; simpa only [List.append_assoc] using h1); have HB2 := Lib.hid h2; have HK2 := Lib.hid (HK1.out.trans h3); have HX2 := Lib.hid (HX1.out.keep h3 HNE.out)
 clear h1 h2 h3 hla
 clear d0 d1 d2 d3 d4 d5 d6 d7 d8 d9 d10 d11 d12 d13 d14 d15 d16
 have HF := Lib.hid (show IsPen v2 w0.heap.size p (l0 ++ msgB m) by
  have h1 := H2.out
  rw [← HQ2.out, ← HQ1.out, ← HQ0.out] at h1
  rw [HTB.out]
  simpa only [List.append_assoc, numsB_one] using h1)
 go_wp2_with fail
 go_end0
 exact ⟨rfl, HF.out, HB2.out, HK2.out⟩
theorem penMsg_is {w0 w : World} {p : Nat} {l0 : List Int} (hI : IsPen w w0.heap.size p l0) (hB : Below w0.heap.size w0 w) (hp : w0.heap.size ≤ p) (m : MsgD) {A8 A12 A16 : Option Addr} {c8 c12 c16 : Nat} (hm : MsgC w0 m A8 c8 A12 c12 A16 c16) (ho : OkM m) (hy : mayMs m = true) (hs : l0.length + 200000000 < 140737488355328) :
  Calls Tryz.prog 50 #[.pointer (some ⟨p, 0, none⟩), .agg #[.int .i64 m.f0, .int .i64 m.f1, .int .i64 m.f2, .int .i64 m.f3, .int .i64 m.f4, .int .i64 m.f5, .int .i64 m.f6, .bool m.f7, .slice A8 m.f8.length c8, .int .i64 m.f9.f0, .int .i64 m.f9.f1, .int .i64 m.f9.f2, .slice A12 m.f9.f3.length c12, .int .i64 m.f10.f0, .int .i64 m.f10.f1, .int .i64 m.f10.f2, .slice A16 m.f10.f3.length c16]] w fun e w' => PenP w0 w p (l0 ++ msgB m) e w' := by
 unfold mayMs at hy
 simp only [Bool.and_eq_true] at hy
 obtain ⟨_, _, _, hk, _, h8, hl, h5, h6⟩ := hy
 have h : m.f0 = 1 ∨ m.f0 = 2 ∨ m.f0 = 3 ∨ m.f0 = 4 ∨ m.f0 = 5 ∨ m.f0 = 6 := by
  unfold isKind at hk
  simp only [Bool.and_eq_true, decide_eq_true_eq] at hk
  omega
 rcases h with h | h | h | h | h | h
 ·exact penMsg1 hI hB hp m hm ho h hs
 ·exact penMsg2 hI hB hp m hm ho h hs
 ·exact penMsg3 hI hB hp m hm ho h hl (by have := of_decide_eq_true h8; omega) hs
 ·exact penMsg4 hI hB hp m hm ho h hs
 ·rw [h] at h5
  have h7 : mayPt m.f10 = true := by simpa using h5
  unfold mayPt at h7
  simp only [Bool.and_eq_true, decide_eq_true_eq] at h7
  exact penMsg5 hI hB hp m hm ho h (by have := h7.2.2.2; omega) hs
 ·rw [h] at h6
  exact penMsg6 hI hB hp m hm ho h (by simpa using h6) hs
end Go.Proofs.YtgiefblcckikeaaGreat.M
end

section
/- A function that reads with a state at x, before its struct variable is laid; and the end of a frame. -/
namespace Go.Proofs.YtgiefblcckikeaaGreat.M
open Go.RowKit Go.Proofs.YtgiefblcckikeaaGreatW.PrintWords Go.Proofs.YtgiefblcckikeaaGreatW.PrintLast Go.Proofs.YtgiefblcckikeaaGreatW.PrintMore Go.Proofs.YtgiefblcckikeaaGreat.G
structure Fo (I : World → EyeS → Prop) (w0 w : World) (x T : Nat) (zs : Array Value) (s : EyeS) (W : World) : Prop where
 g0 : W.heap[w.heap.size]? = some (.cells zs T)
 i : I W s
 d : Below w0.heap.size w0 W
 q : KeepS (fun i => i = x) w W
 hz : w.heap.size < W.heap.size
 hx : x < w.heap.size
 hw : w0.heap.size ≤ x
 at_ : ∀ (W W' : World) (s : EyeS), W'.heap[x]? = W.heap[x]? → I W s → I W' s
section
variable {I : World → EyeS → Prop} {w0 w W W' : World} {x g T : Nat} {zs cs : Array Value} {s s' : EyeS} {P Q : World → Prop}
theorem Fo.start (hI : I w s) (hB : Below w0.heap.size w0 w) (hlt : x < w.heap.size) (hge : w0.heap.size ≤ x) (at_ : ∀ (W W' : World) (s : EyeS), W'.heap[x]? = W.heap[x]? → I W s → I W' s) : Fo I w0 w x T zs s (w.alloc (.cells zs T)) := by
 have hb := (Below.refl _ w).alloc (Nat.le_refl _) (.cells zs T)
 exact ⟨heap_alloc_new w _, at_ _ _ _ (hb.block x hlt) hI, hB.alloc hB.size _, KeepS.of_below _ hb, by simp, hlt, hge, at_⟩
theorem Fo.call (h : Fo I w0 w x T zs s W) (i : I W' s') (d : Below w0.heap.size w0 W') (k : KeepS (fun i => i = x) W W') : Fo I w0 w x T zs s' W' :=
 ⟨(k.block _ h.hz (by have := h.hx; omega)).trans h.g0, i, d, h.q.trans k, Nat.lt_of_lt_of_le h.hz k.size, h.hx, h.hw, h.at_⟩
theorem Fo.lay (h : Fo I w0 w x T zs s W) (cs : Array Value) : Fr I w0 w x W.heap.size T zs cs s (fun _ => True) (W.alloc (.cells cs T)) := by
 have hb := (Below.refl _ W).alloc (Nat.le_refl _) (.cells cs T)
 have hx := h.hx; have hz := h.hz; have hd := h.d.size
 exact ⟨(hb.block _ h.hz).trans h.g0, heap_alloc_new W _, h.at_ _ _ _ (hb.block x (by omega)) h.i, h.d.alloc hd _, h.q.then_base (hb.mono (by omega)), h.hz, by simp, h.hx, h.hw, Held.true _ _, h.at_⟩
theorem Fo.put (h : Fo I w0 w x T zs s W) (j : Nat) (v : Value) : Fo I w0 w x T (zs.setIfInBounds j v) s (W.setCell ⟨w.heap.size, j, none⟩ v) := by
 have hx := h.hx; have hz := h.hz; have hd := h.d.size; have hw := h.hw
 exact ⟨blk_put h.g0 j v rfl, h.at_ _ _ _ (Below.heap_setCell W ⟨w.heap.size, j, none⟩ v x (by show x ≠ w.heap.size; omega)) h.i, h.d.setCell (p := ⟨w.heap.size, j, none⟩) (by show w0.heap.size ≤ w.heap.size; omega) v, h.q.set (p := ⟨w.heap.size, j, none⟩) (.inr (Nat.le_refl _)) v, by rw [World.size_setCell]; exact hz, h.hx, h.hw, h.at_⟩
theorem Fo.done (h : Fo I w0 w x T zs s W) (hk : KeepS (fun k => k = w.heap.size) W W') : I W' s ∧ Below w0.heap.size w0 W' ∧ KeepS (fun i => i = x) w W' := by
 have hx := h.hx; have hz := h.hz; have hd := h.d.size; have hw := h.hw
 exact ⟨h.at_ _ _ _ (hk.block x (by omega) (by show ¬ x = w.heap.size; omega)) h.i, h.d.trans (hk.below hd (by rintro i rfl; omega)), h.q.then_base (hk.below (B := w.heap.size) (by omega) (by rintro i rfl; omega))⟩
theorem Fr.fin (h : Fr I w0 w x g T zs cs s P W) {cs' : Array Value} : (W.setRow w.heap.size cs').heap[w.heap.size]? = some (.cells cs' T) ∧ P (W.setRow w.heap.size cs') ∧ I (W.setRow w.heap.size cs') s ∧ Below w0.heap.size w0 (W.setRow w.heap.size cs') ∧ KeepS (fun i => i = x) w (W.setRow w.heap.size cs') := by
 have hk : KeepS (fun k => k = w.heap.size ∨ k = g) W (W.setRow w.heap.size cs') := ⟨rfl, rfl, rfl, by simp, fun i _ hi => setRow_other W w.heap.size i cs' (fun e => hi (.inl e))⟩
 exact ⟨setRow_heap W w.heap.size zs cs' T (0, 0) h.g0, h.done hk⟩
theorem Fo.fin (h : Fo I w0 w x T zs s W) {cs' : Array Value} : (W.setRow w.heap.size cs').heap[w.heap.size]? = some (.cells cs' T) ∧ I (W.setRow w.heap.size cs') s ∧ Below w0.heap.size w0 (W.setRow w.heap.size cs') ∧ KeepS (fun i => i = x) w (W.setRow w.heap.size cs') := by
 have hk : KeepS (fun k => k = w.heap.size) W (W.setRow w.heap.size cs') := ⟨rfl, rfl, rfl, by simp, fun i _ hi => setRow_other W w.heap.size i cs' (fun e => hi e)⟩
 exact ⟨setRow_heap W w.heap.size zs cs' T (0, 0) h.g0, h.done hk⟩
end
def MsP (I : World → EyeS → Prop) (w0 w : World) (x : Nat) (y : MsgD) (s' : EyeS) (e : Ending) (w' : World) : Prop := ∃ v8 v12 v16 : Value, e = .returned (.agg #[.int .i64 y.f0, .int .i64 y.f1, .int .i64 y.f2, .int .i64 y.f3, .int .i64 y.f4, .int .i64 y.f5, .int .i64 y.f6, .bool y.f7, v8, .int .i64 y.f9.f0, .int .i64 y.f9.f1, .int .i64 y.f9.f2, v12, .int .i64 y.f10.f0, .int .i64 y.f10.f1, .int .i64 y.f10.f2, v16]) ∧ Kd.R G.k63 63 w' w.heap.size (fun _ => True) v8 y.f8 ∧ Kd.R G.k26 26 w' w.heap.size (fun _ => True) v12 y.f9.f3 ∧ Kd.R (Kd.int .u8) 5 w' w.heap.size (fun _ => True) v16 y.f10.f3 ∧ I w' s' ∧ Below w0.heap.size w0 w' ∧ KeepS (fun i => i = x) w w'
end Go.Proofs.YtgiefblcckikeaaGreat.M
end

section
/- The eye's lists: yes, termed, a list of termed (printed by geneyey04.py). -/
attribute [local irreducible] Go.wpStill
namespace Go.Proofs.YtgiefblcckikeaaGreat.M
open Go.RowKit Go.Proofs.YtgiefblcckikeaaGreatW.PrintWords Go.Proofs.YtgiefblcckikeaaGreatW.PrintLast Go.Proofs.YtgiefblcckikeaaGreatW.PrintMore Go.Proofs.YtgiefblcckikeaaGreat.G
theorem eYes_is {w0 w : World} {x : Nat} {s : EyeS} (hI : IsEye w0 w x s) (hB : Below w0.heap.size w0 w) (hok : okS s) :
  Calls Tryz.prog 125 #[.pointer (some ⟨x, 0, none⟩)] w fun e w' => EyP w0 w x (.bool (eYes s).1) (eYes s).2 e w' := by
 have HN := Lib.hid (eNum_is hI hB hok)
 obtain ⟨k, hk⟩ : ∃ k, (eNum s).1 = k := ⟨_, rfl⟩
 obtain ⟨s1, hs1⟩ : ∃ s1, (eNum s).2 = s1 := ⟨_, rfl⟩
 have HF := Lib.hid (show eYes s = (decide (k = 1), eWrong (decide (k ≠ 0) && decide (k ≠ 1)) s1) by unfold eYes eKind; rw [hk, hs1])
 rw [hk, hs1] at HN
 clear hk hs1 hI hB hok
 by_cases ha : k = 0
 ·have q0 : (k != 0) = false := by rw [ha]; rfl
  have q2 : (k == 1) = false := by rw [ha]; rfl
  have HR := Lib.hid (show eYes s = (false, eWrong false s1) by rw [HF.out]; simp [ha])
  clear ha HF
  go_enter Tryz.func125, Tryz.ntmps125
  go_wp2_with fail
  refine HN.out.mono ?_
  rintro e w1 ⟨rfl, h1, h2, h3⟩
  have HW := Lib.hid (eWrong_is h1 h2 false); have H3 := Lib.hid h3
  clear h1 h2 h3 HN
  go_wp2_with fail
  refine HW.out.mono ?_
  rintro e w2 ⟨rfl, h1, h2, h3⟩
  have G1 := Lib.hid h1; have G2 := Lib.hid h2; have G3 := Lib.hid (H3.out.trans h3)
  clear h1 h2 h3 HW H3
  go_wp2_with fail
  go_ret
  exact ⟨by rw [HR.out]; rfl, by rw [HR.out]; exact G1.out, G2.out, G3.out⟩
 ·by_cases hb : k = 1
  ·have q0 : (k != 0) = true := bne_iff_ne.2 ha
   have q1 : (k != 1) = false := by rw [hb]; rfl
   have q2 : (k == 1) = true := by rw [hb]; rfl
   have HR := Lib.hid (show eYes s = (true, eWrong false s1) by rw [HF.out]; simp [ha, hb])
   clear ha hb HF
   go_enter Tryz.func125, Tryz.ntmps125
   go_wp2_with fail
   refine HN.out.mono ?_
   rintro e w1 ⟨rfl, h1, h2, h3⟩
   have HW := Lib.hid (eWrong_is h1 h2 false); have H3 := Lib.hid h3
   clear h1 h2 h3 HN
   go_wp2_with fail
   refine HW.out.mono ?_
   rintro e w2 ⟨rfl, h1, h2, h3⟩
   have G1 := Lib.hid h1; have G2 := Lib.hid h2; have G3 := Lib.hid (H3.out.trans h3)
   clear h1 h2 h3 HW H3
   go_wp2_with fail
   go_ret
   exact ⟨by rw [HR.out]; rfl, by rw [HR.out]; exact G1.out, G2.out, G3.out⟩
  ·have q0 : (k != 0) = true := bne_iff_ne.2 ha
   have q1 : (k != 1) = true := bne_iff_ne.2 hb
   have q2 : (k == 1) = false := beq_eq_false_iff_ne.2 hb
   have HR := Lib.hid (show eYes s = (false, eWrong true s1) by rw [HF.out]; simp [ha, hb])
   clear ha hb HF
   go_enter Tryz.func125, Tryz.ntmps125
   go_wp2_with fail
   refine HN.out.mono ?_
   rintro e w1 ⟨rfl, h1, h2, h3⟩
   have HW := Lib.hid (eWrong_is h1 h2 true); have H3 := Lib.hid h3
   clear h1 h2 h3 HN
   go_wp2_with fail
   refine HW.out.mono ?_
   rintro e w2 ⟨rfl, h1, h2, h3⟩
   have G1 := Lib.hid h1; have G2 := Lib.hid h2; have G3 := Lib.hid (H3.out.trans h3)
   clear h1 h2 h3 HW H3
   go_wp2_with fail
   go_ret
   exact ⟨by rw [HR.out]; rfl, by rw [HR.out]; exact G1.out, G2.out, G3.out⟩
def TrP (w0 w : World) (x : Nat) (y : TrD) (s' : EyeS) (e : Ending) (w' : World) : Prop := ∃ v : Value, e = .returned (.agg #[.int .i64 y.f0, .int .i64 y.f1.f0, .int .i64 y.f1.f1, .int .i64 y.f1.f2, v]) ∧ Kd.S G.k26 26 w' w.heap.size (fun _ => True) v y.f1.f3 ∧ IsEye w0 w' x s' ∧ Below w0.heap.size w0 w' ∧ KeepS (fun i => i = x) w w'
set_option maxHeartbeats 1000000 in
theorem eTermed_is {w0 w : World} {x : Nat} {s : EyeS} (hI : IsEye w0 w x s) (hB : Below w0.heap.size w0 w) (hok : okS s) :
  Calls Tryz.prog 127 #[.pointer (some ⟨x, 0, none⟩)] w fun e w' => TrP w0 w x (eTr s).1 (eTr s).2 e w' := by
 have HT1 := Lib.hid (Fo.start (I := fun W s => IsEye w0 W x s) (T := 63) (zs := #[.int .i64 0, .int .i64 0, .int .i64 0, .int .i64 0, .slice none 0 0]) hI hB hI.lt hI.ge (fun _ _ _ e h => h.at e))
 obtain ⟨a, ha⟩ : ∃ a, (eNum s).1 = a := ⟨_, rfl⟩
 obtain ⟨s1, hs1⟩ : ∃ s1, (eNum s).2 = s1 := ⟨_, rfl⟩
 have ho1 := okS_num hok
 rw [hs1] at ho1
 obtain ⟨y, hy⟩ : ∃ y, (eEntry s1).1 = y := ⟨_, rfl⟩
 obtain ⟨s2, hs2⟩ : ∃ s2, (eEntry s1).2 = s2 := ⟨_, rfl⟩
 have HF := Lib.hid (show eTr s = (⟨a, enOf y⟩, s2) by unfold eTr trOf FM PR; rw [ha, hs1, hy, hs2])
 obtain ⟨y0, y1, y2, yl⟩ := y
 have HO0 := Lib.hid hok; have HO1 := Lib.hid ho1; have HE1 := Lib.hid (And.intro ha hs1); have HE2 := Lib.hid (And.intro hy hs2)
 clear hI hB hok ho1 ha hs1 hy hs2
 go_enter Tryz.func127, Tryz.ntmps127
 go_wp2_with fail
 obtain ⟨w1, hw1⟩ : ∃ w1, w.alloc (.cells #[.int .i64 0, .int .i64 0, .int .i64 0, .int .i64 0, .slice none 0 0] 63) = w1 := ⟨_, rfl⟩
 rw [hw1] at HT1 ⊢
 clear hw1
 have h4 := eNum_is HT1.out.i HT1.out.d HO0.out
 rw [HE1.out.1, HE1.out.2] at h4
 refine h4.mono ?_
 rintro e w2 ⟨rfl, h1, h2, h3⟩
 have HT2 := Lib.hid (HT1.out.call h1 h2 h3)
 clear h1 h2 h3 h4 HT1
 go_wp2_with fail
 have h4 := eEntry_is HT2.out.i HT2.out.d HO1.out
 rw [HE2.out.1, HE2.out.2] at h4
 refine h4.mono ?_
 rintro e w3 ⟨v_, rfl, hv, h1, h2, h3⟩
 have hv : Kd.S G.k26 26 w3 w2.heap.size (fun _ => True) v_ yl := hv
 obtain ⟨A, c, rfl⟩ := Kd.S_slice hv
 have HV := Lib.hid hv
 have HT3 := Lib.hid (HT2.out.call h1 h2 h3)
 have HZ := Lib.hid HT2.out.hz
 clear h1 h2 h3 h4 hv HT2
 have d0 : w3.cell? ⟨w.heap.size, 0, none⟩ = some (.int .i64 0) := (blk_cell HT3.out.g0 0).trans rfl
 have z0 : w3.frozen? ⟨w.heap.size, 0, none⟩ = false := blk_frozen HT3.out.g0 0
 have d1 : w3.cell? ⟨w.heap.size, 1, none⟩ = some (.int .i64 0) := (blk_cell HT3.out.g0 1).trans rfl
 have z1 : w3.frozen? ⟨w.heap.size, 1, none⟩ = false := blk_frozen HT3.out.g0 1
 have d2 : w3.cell? ⟨w.heap.size, 2, none⟩ = some (.int .i64 0) := (blk_cell HT3.out.g0 2).trans rfl
 have z2 : w3.frozen? ⟨w.heap.size, 2, none⟩ = false := blk_frozen HT3.out.g0 2
 have d3 : w3.cell? ⟨w.heap.size, 3, none⟩ = some (.int .i64 0) := (blk_cell HT3.out.g0 3).trans rfl
 have z3 : w3.frozen? ⟨w.heap.size, 3, none⟩ = false := blk_frozen HT3.out.g0 3
 have d4 : w3.cell? ⟨w.heap.size, 4, none⟩ = some (.slice none 0 0) := (blk_cell HT3.out.g0 4).trans rfl
 have z4 : w3.frozen? ⟨w.heap.size, 4, none⟩ = false := blk_frozen HT3.out.g0 4
 go_wp2_with fail
 have HEB := Lib.hid (blk_put (cs := #[.int .i64 a, .int .i64 y0, .int .i64 y1, .int .i64 y2, .slice none 0 0]) (blk_put (cs := #[.int .i64 a, .int .i64 y0, .int .i64 y1, .int .i64 0, .slice none 0 0]) (blk_put (cs := #[.int .i64 a, .int .i64 y0, .int .i64 0, .int .i64 0, .slice none 0 0]) (blk_put (cs := #[.int .i64 a, .int .i64 0, .int .i64 0, .int .i64 0, .slice none 0 0]) (blk_put (cs := #[.int .i64 0, .int .i64 0, .int .i64 0, .int .i64 0, .slice none 0 0]) HT3.out.g0 0 (.int .i64 a) rfl) 1 (.int .i64 y0) rfl) 2 (.int .i64 y1) rfl) 3 (.int .i64 y2) rfl) 4 (.slice A yl.length c) rfl)
 have HKS := Lib.hid ((((((KeepS.refl (fun k => k = w.heap.size) w3).set (p := ⟨w.heap.size, 0, none⟩) (.inl rfl) (.int .i64 a)).set (p := ⟨w.heap.size, 1, none⟩) (.inl rfl) (.int .i64 y0)).set (p := ⟨w.heap.size, 2, none⟩) (.inl rfl) (.int .i64 y1)).set (p := ⟨w.heap.size, 3, none⟩) (.inl rfl) (.int .i64 y2)).set (p := ⟨w.heap.size, 4, none⟩) (.inl rfl) (.slice A yl.length c))
 obtain ⟨W, hW⟩ : ∃ W, (((((w3.setCell ⟨w.heap.size, 0, none⟩ (.int .i64 a)).setCell ⟨w.heap.size, 1, none⟩ (.int .i64 y0)).setCell ⟨w.heap.size, 2, none⟩ (.int .i64 y1)).setCell ⟨w.heap.size, 3, none⟩ (.int .i64 y2)).setCell ⟨w.heap.size, 4, none⟩ (.slice A yl.length c)) = W := ⟨_, rfl⟩
 rw [hW] at HEB HKS ⊢
 clear hW
 refine bodyPost_ret (results_cell_row rfl _ _ w.heap.size 63 #[.int .i64 a, .int .i64 y0, .int .i64 y1, .int .i64 y2, .slice A yl.length c] (0, 0) _ rfl HEB.out Tryz.underlying63 rfl (by kernel_rfl)) rfl ?_
 rw [HF.out]
 obtain ⟨i, d, q⟩ := HT3.out.done HKS.out
 have hz := HZ.out
 exact ⟨_, rfl, Kd.S_mono (Kd.S_step (Kd.S_lower (Kd.S_bound HV.out) (Nat.le_of_lt hz)) (fun k hk hlt => HKS.out.block k hlt (fun (e : k = w.heap.size) => by have := hk.2.1; omega))) (fun _ _ => trivial), i, d, q⟩
theorem okS_tr {s : EyeS} (h : okS s) : okS (eTr s).2 := okS_entry (okS_num h)
def LiI_trs (g : EyeS → TrD × EyeS) (n : Int) (s0 : EyeS) (w0 w : World) (x : Nat) (v i : Value) (W : World) : Prop := ∃ (U : List TrD) (s : EyeS), i = .int .i64 (U.length : Int) ∧ U.length ≤ 4096 ∧ U.length ≤ n.toNat ∧ (s.e = 0 → n ≤ 4096) ∧ Kd.S G.k63 63 W w.heap.size (fun _ => True) v U ∧ IsEye w0 W x s ∧ Below w0.heap.size w0 W ∧ KeepS (fun i => i = x) w W ∧ okS s ∧ eList g s0 = (U ++ (eMany g (n.toNat - U.length) s).1, (eMany g (n.toNat - U.length) s).2)
set_option maxHeartbeats 2000000 in
theorem eList_trs {w0 w : World} {x : Nat} {s : EyeS} (hI : IsEye w0 w x s) (hB : Below w0.heap.size w0 w) (hok : okS s) :
  Calls Tryz.prog 126 #[.pointer (some ⟨x, 0, none⟩), .func (.func 127) #[.pointer (some ⟨x, 0, none⟩)] #[]] w fun e w' => LiP G.k63 63 w0 w x (eList eTr s).1 (eList eTr s).2 e w' := by
 have HN := Lib.hid (eNum_is hI hB hok)
 have HOK := Lib.hid (okS_num hok)
 have HLT := Lib.hid hI.lt
 have HGEW := Lib.hid (show w0.heap.size ≤ w.heap.size from hB.size)
 obtain ⟨n, hn⟩ : ∃ n, (eNum s).1 = n := ⟨_, rfl⟩
 obtain ⟨s1, hs1⟩ : ∃ s1, (eNum s).2 = s1 := ⟨_, rfl⟩
 have HCT := Lib.hid (show eCount s = eWrong (decide (n < 0) || decide (4096 < n)) s1 by unfold eCount; rw [hn, hs1])
 have Hapi.Termed := Lib.hid (show eList eTr s = eMany eTr n.toNat (eCount s) by unfold eList; rw [hn])
 rw [hn, hs1] at HN
 rw [hs1] at HOK
 clear hI hB hok hn hs1
 go_enter Tryz.func126, Tryz.ntmps126
 go_wp2_with fail
 refine HN.out.mono ?_
 rintro e w1 ⟨rfl, h1, h2, h3⟩
 have H1 := Lib.hid h1; have H2 := Lib.hid h2; have H3 := Lib.hid h3
 clear h1 h2 h3 HN
 go_upto_region 2 with fail
 go_cut [] (fun wx => IsEye w0 wx x (eCount s) ∧ Below w0.heap.size w0 wx ∧ KeepS (fun i => i = x) w wx)
 case first =>
  by_cases ha : n < 0
  ·have hq : decide (n < 0) = true := decide_eq_true ha
   have HW := Lib.hid (eWrong_is H1.out H2.out true)
   have HC2 := Lib.hid (show eCount s = eWrong true s1 by rw [HCT.out, hq, Bool.true_or])
   clear ha
   go_wp2_with fail
   refine HW.out.mono ?_
   rintro e w2 ⟨rfl, h1, h2, h3⟩
   have G1 := Lib.hid h1; have G2 := Lib.hid h2; have G3 := Lib.hid (H3.out.trans h3)
   clear h1 h2 h3
   go_wp2_with fail
   go_meet
   exact ⟨by rw [HC2.out]; exact G1.out, G2.out, G3.out⟩
  ·have hq : decide (n < 0) = false := decide_eq_false ha
   obtain ⟨b, hb⟩ : ∃ b, decide ((4096 : Int) < n) = b := ⟨_, rfl⟩
   have HW := Lib.hid (eWrong_is H1.out H2.out b)
   have HC2 := Lib.hid (show eCount s = eWrong b s1 by rw [HCT.out, hq, hb, Bool.false_or])
   clear ha
   go_wp2_with fail
   refine HW.out.mono ?_
   rintro e w2 ⟨rfl, h1, h2, h3⟩
   have G1 := Lib.hid h1; have G2 := Lib.hid h2; have G3 := Lib.hid (H3.out.trans h3)
   clear h1 h2 h3
   go_wp2_with fail
   go_meet
   exact ⟨by rw [HC2.out]; exact G1.out, G2.out, G3.out⟩
 case rest =>
  obtain ⟨h1, h2, h3⟩ := hcut
  have G1 := Lib.hid h1; have G2 := Lib.hid h2; have G3 := Lib.hid h3
  have HE0 := Lib.hid (show (eCount s).e = 0 → n ≤ 4096 by
   intro h
   rw [HCT.out] at h
   by_cases h5 : (4096 : Int) < n
   ·rw [decide_eq_true h5, Bool.or_true] at h
    unfold eWrong at h
    split at h
    ·cases h
    ·next h6 => exact absurd ⟨h, rfl⟩ h6
   ·omega)
  have HOC := Lib.hid (show okS (eCount s) by rw [HCT.out]; exact okS_wrong _ HOK.out)
  clear h1 h2 h3
  go_wp2_with fail
  go_loopw [6, 7] (fun v i wr => LiI_trs eTr n s w0 w x v i wr) (fun _ i _ => n.toNat - (intOf i).toNat)
  case atStart => exact ⟨[], eCount s, rfl, by simp, by simp, HE0.out, Kd.S_nil _ _ _ _ _, G1.out, G2.out, G3.out, HOC.out, by simpa using Hapi.Termed.out⟩
  case round =>
   obtain ⟨U, s2, rfl, hU, hUn, hE, hS, hI, hB, hK, hO, hF⟩ := hrel
   have HI := Lib.hid hI; have HB := Lib.hid hB; have HK := Lib.hid hK; have HO := Lib.hid hO; have HF := Lib.hid hF; have HS := Lib.hid hS; have HUN := Lib.hid hUn; have HE := Lib.hid hE
   obtain ⟨Av, cv, rfl⟩ := Kd.S_slice hS
   obtain ⟨A, c, g1, g2, g3, g4⟩ := hI
   have c1 : wr.cell? ⟨x, 1, none⟩ = some (.int .i64 s2.e) := by simp [World.cell?, g1]
   clear hB hK hO hF hS hUn hE g1 g2 g3 g4
   by_cases hlt : (U.length : Int) < n
   ·by_cases he : s2.e = 0
    ·have hq1 : decide ((U.length : Int) < n) = true := decide_eq_true hlt
     have hq2 : (s2.e == 0) = true := by rw [he]; rfl
     have HN4 := Lib.hid (HE.out he)
     have HG := Lib.hid (eTermed_is HI.out HB.out HO.out)
     have HGO := Lib.hid (okS_tr HO.out)
     obtain ⟨y, hy⟩ : ∃ y, (eTr s2).1 = y := ⟨_, rfl⟩
     obtain ⟨s3, hs3⟩ : ∃ s3, (eTr s2).2 = s3 := ⟨_, rfl⟩
     have HF2 := Lib.hid (show eList eTr s = ((U ++ [y]) ++ (eMany eTr (n.toNat - (U ++ [y]).length) s3).1, (eMany eTr (n.toNat - (U ++ [y]).length) s3).2) by
      rw [HF.out]
      have e1 : n.toNat - U.length = (n.toNat - (U ++ [y]).length) + 1 := by simp; omega
      rw [e1]
      simp only [eMany, he, if_true, hy, hs3, List.append_assoc, List.singleton_append])
     have HLT2 := Lib.hid hlt
     rw [hy, hs3] at HG
     rw [hs3] at HGO
     clear hlt he hy hs3
     go_wp2_with fail
     refine HG.out.mono ?_
     rintro e w3 ⟨v_, rfl, r4, h1, h2, h3⟩
     obtain ⟨A4, c4, rfl⟩ := Kd.S_slice r4
     have HBW := Lib.hid (show w.heap.size ≤ wr.heap.size from HK.out.size)
     have R4 := Lib.hid (show Kd.R G.k26 26 w3 w.heap.size (fun k => wr.heap.size ≤ k) _ y.f1.f3 from Kd.R_mono (Kd.R_lower (Kd.R_bound (Kd.S_R r4)) HBW.out) (fun k hk => hk.2.1))
     have HS3 := Lib.hid (show Kd.S G.k63 63 w3 w.heap.size (fun k => True ∧ ¬ wr.heap.size ≤ k) (.slice Av U.length cv) U from Kd.S_mono (Kd.S_step (Kd.S_bound HS.out) (fun k hk2 hlt => h3.block k hlt (fun e => by have := hk2.2.1; have := HLT.out; omega))) (fun k hk => ⟨trivial, by have := hk.2.2.1; omega⟩))
     have HOWN := Lib.hid (Kd.S_lt HS.out)
     have HZ3 := Lib.hid (Nat.le_trans HK.out.size h3.size)
     have K1 := Lib.hid h1; have K2 := Lib.hid h2; have K3 := Lib.hid (HK.out.trans h3)
     clear h1 h2 h3 r4
     go_wp2_with ((with_reducible refine gate_builtin (b := .append) (xs := #[.tmp 30, .tmp 33]) rfl ?_); at_builtin; refine Kd.S_append G.k63 (w0 := w3) w.heap.size rfl (.tmp 30) (.tmp 33) 30 63 (.agg #[.int .i64 0, .int .i64 0, .int .i64 0, .int .i64 0, .slice none 0 0]) 56 rfl Tryz.underlying30 G.info63 rfl (by decide) (by omega) _ U y [.int .i64 y.f0, .int .i64 y.f1.f0, .int .i64 y.f1.f1, .int .i64 y.f1.f2, .slice A4 y.f1.f3.length c4] (fun _ => True) (fun k => wr.heap.size ≤ k) rfl rfl (G.k63_mkM _ _ _ y R4.out) (fun k hk => ⟨trivial, fun e => by have := HOWN.out k e.symm; omega⟩) (fun _ _ => trivial) HS3.out (Below.refl _ _) HZ3.out (by omega) ?_; intro v1 w5 ho hb5 hg5 hat; obtain ⟨A9, c9, rfl⟩ := Kd.S_slice ho; have HS5 := Lib.hid ho; have HK5 := Lib.hid (K3.out.then_base hb5); have HI5 := Lib.hid (K1.out.at (hb5.block x HLT.out)); have HB5 := Lib.hid (K2.out.trans (hb5.mono HGEW.out)); clear ho hb5 hg5 hat)
     go_roundw
     case rel =>
      refine ⟨U ++ [y], s3, by rw [List.length_append]; go_num, ?_, ?_, fun _ => HN4.out, (by have h9 := HS5.out; rw [List.length_append] at h9; exact h9), HI5.out, HB5.out, HK5.out, HGO.out, HF2.out⟩
      ·have h1 := HN4.out; have h2 := HLT2.out
       rw [List.length_append, List.length_singleton]
       omega
      ·have h2 := HLT2.out
       rw [List.length_append, List.length_singleton]
       omega
     case measure => simp [intOf]; have h2 := HLT2.out; omega
    ·have hq1 : decide ((U.length : Int) < n) = true := decide_eq_true hlt
     have hq2 : (s2.e == 0) = false := beq_eq_false_iff_ne.2 he
     have HF2 := Lib.hid (show eList eTr s = (U, s2) by rw [HF.out, eMany_stop he, List.append_nil])
     clear hlt he
     go_wp2_with fail
     go_ret
     exact ⟨_, rfl, by rw [HF2.out]; exact HS.out, by rw [HF2.out]; exact HI.out, HB.out, HK.out⟩
   ·have hq1 : decide ((U.length : Int) < n) = false := decide_eq_false hlt
    have HF2 := Lib.hid (show eList eTr s = (U, s2) by
     have e1 : n.toNat - U.length = 0 := by omega
     rw [HF.out, e1]
     simp only [eMany, List.append_nil])
    clear hlt
    go_wp2_with fail
    go_ret
    exact ⟨_, rfl, by rw [HF2.out]; exact HS.out, by rw [HF2.out]; exact HI.out, HB.out, HK.out⟩
end Go.Proofs.YtgiefblcckikeaaGreat.M
end

section
/- The eye: a message, kinds 1, 2, 4 (printed by geneym04.py). -/
attribute [local irreducible] Go.wpStill
namespace Go.Proofs.YtgiefblcckikeaaGreat.M
open Go.RowKit Go.Proofs.YtgiefblcckikeaaGreatW.PrintWords Go.Proofs.YtgiefblcckikeaaGreatW.PrintLast Go.Proofs.YtgiefblcckikeaaGreatW.PrintMore Go.Proofs.YtgiefblcckikeaaGreat.G
theorem okS_yes {s : EyeS} (h : okS s) : okS (eYes s).2 := okS_kind h
theorem okS_trs {s : EyeS} (h : okS s) : okS (eList eTr s).2 := okS_list (fun _ => okS_tr) h
set_option maxHeartbeats 4000000 in
theorem eMsg1 {w0 w : World} {x : Nat} {s : EyeS} (hI : IsEye w0 w x s) (hB : Below w0.heap.size w0 w) (hok : okS s) (hk : (eNum s).1 = 1) (he : (eNum s).2.e = 0) :
  Calls Tryz.prog 60 #[.pointer (some ⟨x, 0, none⟩)] w fun e w' => MsP (fun W s => IsEye w0 W x s) w0 w x (eMsg s).1 (eMsg s).2 e w' := by
 have HT1 := Lib.hid (Fo.start (I := fun W s => IsEye w0 W x s) (T := 34) (zs := #[.int .i64 0, .int .i64 0, .int .i64 0, .int .i64 0, .int .i64 0, .int .i64 0, .int .i64 0, .bool false, .slice none 0 0, .int .i64 0, .int .i64 0, .int .i64 0, .slice none 0 0, .int .i64 0, .int .i64 0, .int .i64 0, .slice none 0 0]) hI hB hI.lt hI.ge (fun _ _ _ e h => h.at e))
 obtain ⟨s1, hs1⟩ : ∃ s1, (eNum s).2 = s1 := ⟨_, rfl⟩
 have HN := Lib.hid (And.intro hk hs1)
 have HO0 := Lib.hid hok
 have ho1 := okS_num hok
 rw [hs1] at ho1 he
 have HF0 := Lib.hid (show eMsg s = mBody eSmall eEntry (eList eTr) 1 s1 by
  have hm : eMk s = s1 := by unfold eMk; rw [hk, hs1]; exact eWrong_false _
  unfold eMsg
  rw [hm, if_neg (fun q => q he), hk])
 clear hI hB hok hk hs1
 obtain ⟨v1, hv1⟩ : ∃ v, (eSmall s1).1 = v := ⟨_, rfl⟩
 obtain ⟨s2, hs2⟩ : ∃ t, (eSmall s1).2 = t := ⟨_, rfl⟩
 have ho2 := okS_small ho1
 rw [hs2] at ho2
 have HO1 := Lib.hid ho1; have HE1 := Lib.hid (And.intro hv1 hs2)
 obtain ⟨v2, hv2⟩ : ∃ v, (eSmall s2).1 = v := ⟨_, rfl⟩
 obtain ⟨s3, hs3⟩ : ∃ t, (eSmall s2).2 = t := ⟨_, rfl⟩
 have ho3 := okS_small ho2
 rw [hs3] at ho3
 have HO2 := Lib.hid ho2; have HE2 := Lib.hid (And.intro hv2 hs3)
 obtain ⟨v3, hv3⟩ : ∃ v, (eNum s3).1 = v := ⟨_, rfl⟩
 obtain ⟨s4, hs4⟩ : ∃ t, (eNum s3).2 = t := ⟨_, rfl⟩
 have ho4 := okS_num ho3
 rw [hs4] at ho4
 have HO3 := Lib.hid ho3; have HE3 := Lib.hid (And.intro hv3 hs4)
 obtain ⟨v4, hv4⟩ : ∃ v, (eNum s4).1 = v := ⟨_, rfl⟩
 obtain ⟨s5, hs5⟩ : ∃ t, (eNum s4).2 = t := ⟨_, rfl⟩
 have ho5 := okS_num ho4
 rw [hs5] at ho5
 have HO4 := Lib.hid ho4; have HE4 := Lib.hid (And.intro hv4 hs5)
 obtain ⟨v5, hv5⟩ : ∃ v, (eNum s5).1 = v := ⟨_, rfl⟩
 obtain ⟨s6, hs6⟩ : ∃ t, (eNum s5).2 = t := ⟨_, rfl⟩
 have ho6 := okS_num ho5
 rw [hs6] at ho6
 have HO5 := Lib.hid ho5; have HE5 := Lib.hid (And.intro hv5 hs6)
 have HF := Lib.hid (show eMsg s = (⟨1, v1, v2, v3, v4, v5, 0, false, [], zE, zP⟩, s6) by
  rw [HF0.out]
  unfold mBody
  rw [if_pos rfl]
  simp only [FM, PR, enOf, hv1, hs2, hv2, hs3, hv3, hs4, hv4, hs5, hv5, hs6])
 clear HF0 hv1 hs2 ho1 hv2 hs3 ho2 hv3 hs4 ho3 hv4 hs5 ho4 hv5 hs6 ho5 ho6
 have HQ := Lib.hid (show (s1.e != 0) = false by rw [he]; rfl)
 clear he
 go_enter Tryz.func60, Tryz.ntmps60
 go_upto_region 1 with fail
 obtain ⟨w1, hw1⟩ : ∃ w1, w.alloc (.cells #[.int .i64 0, .int .i64 0, .int .i64 0, .int .i64 0, .int .i64 0, .int .i64 0, .int .i64 0, .bool false, .slice none 0 0, .int .i64 0, .int .i64 0, .int .i64 0, .slice none 0 0, .int .i64 0, .int .i64 0, .int .i64 0, .slice none 0 0] 34) = w1 := ⟨_, rfl⟩
 rw [hw1] at HT1 ⊢
 clear hw1
 go_wp2_with fail
 have h4 := eNum_is HT1.out.i HT1.out.d HO0.out
 rw [HN.out.1, HN.out.2] at h4
 refine h4.mono ?_
 rintro e w2 ⟨rfl, h1, h2, h3⟩
 have HT2 := Lib.hid (HT1.out.call h1 h2 h3)
 clear h1 h2 h3 h4 HT1 HN
 go_wp2_with fail
 have h4 := eWrong_is HT2.out.i HT2.out.d false
 rw [eWrong_false] at h4
 refine h4.mono ?_
 rintro e w3 ⟨rfl, h1, h2, h3⟩
 have HT3 := Lib.hid (HT2.out.call h1 h2 h3)
 clear h1 h2 h3 h4 HT2
 have c1 : w3.cell? ⟨x, 1, none⟩ = some (.int .i64 s1.e) := by
  obtain ⟨A, c, g1, _⟩ := HT3.out.i
  simp [World.cell?, g1]
 have hq := HQ.out
 go_wp2_with fail
 clear c1 hq
 have h4 := eSmall_is HT3.out.i HT3.out.d HO1.out
 rw [HE1.out.1, HE1.out.2] at h4
 refine h4.mono ?_
 rintro e w4 ⟨rfl, h1, h2, h3⟩
 have HT4 := Lib.hid (HT3.out.call h1 h2 h3)
 clear h1 h2 h3 h4 HT3
 go_wp2_with fail
 have h4 := eSmall_is HT4.out.i HT4.out.d HO2.out
 rw [HE2.out.1, HE2.out.2] at h4
 refine h4.mono ?_
 rintro e w5 ⟨rfl, h1, h2, h3⟩
 have HT5 := Lib.hid (HT4.out.call h1 h2 h3)
 clear h1 h2 h3 h4 HT4
 go_upto_region 6 with fail
 have HT6 := Lib.hid (HT5.out.lay #[.int .i64 1, .int .i64 v1, .int .i64 v2, .int .i64 0, .int .i64 0, .int .i64 0, .int .i64 0, .bool false, .slice none 0 0, .int .i64 0, .int .i64 0, .int .i64 0, .slice none 0 0, .int .i64 0, .int .i64 0, .int .i64 0, .slice none 0 0])
 obtain ⟨g, hg⟩ : ∃ g, w5.heap.size = g := ⟨_, rfl⟩
 obtain ⟨w6, hw6⟩ : ∃ w6, w5.alloc (.cells #[.int .i64 1, .int .i64 v1, .int .i64 v2, .int .i64 0, .int .i64 0, .int .i64 0, .int .i64 0, .bool false, .slice none 0 0, .int .i64 0, .int .i64 0, .int .i64 0, .slice none 0 0, .int .i64 0, .int .i64 0, .int .i64 0, .slice none 0 0] 34) = w6 := ⟨_, rfl⟩
 rw [hg, hw6] at HT6
 rw [hw6, hg]
 clear hg hw6 HT5
 have b0 : w6.cell? ⟨g, 0, none⟩ = some (.int .i64 1) := (blk_cell HT6.out.y 0).trans rfl
 go_wp2_with fail
 have h4 := eNum_is HT6.out.i HT6.out.d HO3.out
 rw [HE3.out.1, HE3.out.2] at h4
 refine h4.mono ?_
 rintro e w7 ⟨rfl, h1, h2, h3⟩
 have HT7 := Lib.hid (HT6.out.call h1 h2 h3)
 clear h1 h2 h3 h4 HT6
 clear b0
 have d3 : w7.cell? ⟨g, 3, none⟩ = some (.int .i64 0) := (blk_cell HT7.out.y 3).trans rfl
 have z3 : w7.frozen? ⟨g, 3, none⟩ = false := blk_frozen HT7.out.y 3
 have d0 : w7.cell? ⟨g, 0, none⟩ = some (.int .i64 1) := (blk_cell HT7.out.y 0).trans rfl
 have z0 : w7.frozen? ⟨g, 0, none⟩ = false := blk_frozen HT7.out.y 0
 go_wp2_with fail
 have HT8 := Lib.hid (HT7.out.put 3 (.int .i64 v3))
 obtain ⟨w8, hw⟩ : ∃ W, (w7.setCell ⟨g, 3, none⟩ (.int .i64 v3)) = W := ⟨_, rfl⟩
 rw [hw] at HT8 ⊢
 clear hw HT7 d3 z3 d0 z0
 have h4 := eNum_is HT8.out.i HT8.out.d HO4.out
 rw [HE4.out.1, HE4.out.2] at h4
 refine h4.mono ?_
 rintro e w9 ⟨rfl, h1, h2, h3⟩
 have HT9 := Lib.hid (HT8.out.call h1 h2 h3)
 clear h1 h2 h3 h4 HT8
 have d4 : w9.cell? ⟨g, 4, none⟩ = some (.int .i64 0) := (blk_cell HT9.out.y 4).trans rfl
 have z4 : w9.frozen? ⟨g, 4, none⟩ = false := blk_frozen HT9.out.y 4
 have d0 : w9.cell? ⟨g, 0, none⟩ = some (.int .i64 1) := (blk_cell HT9.out.y 0).trans rfl
 have z0 : w9.frozen? ⟨g, 0, none⟩ = false := blk_frozen HT9.out.y 0
 go_wp2_with fail
 have HT10 := Lib.hid (HT9.out.put 4 (.int .i64 v4))
 obtain ⟨w10, hw⟩ : ∃ W, (w9.setCell ⟨g, 4, none⟩ (.int .i64 v4)) = W := ⟨_, rfl⟩
 rw [hw] at HT10 ⊢
 clear hw HT9 d4 z4 d0 z0
 have h4 := eNum_is HT10.out.i HT10.out.d HO5.out
 rw [HE5.out.1, HE5.out.2] at h4
 refine h4.mono ?_
 rintro e w11 ⟨rfl, h1, h2, h3⟩
 have HT11 := Lib.hid (HT10.out.call h1 h2 h3)
 clear h1 h2 h3 h4 HT10
 have d5 : w11.cell? ⟨g, 5, none⟩ = some (.int .i64 0) := (blk_cell HT11.out.y 5).trans rfl
 have z5 : w11.frozen? ⟨g, 5, none⟩ = false := blk_frozen HT11.out.y 5
 have d0 : w11.cell? ⟨g, 0, none⟩ = some (.int .i64 1) := (blk_cell HT11.out.y 0).trans rfl
 have z0 : w11.frozen? ⟨g, 0, none⟩ = false := blk_frozen HT11.out.y 0
 go_upto_region 28 with fail
 have HT12 := Lib.hid (HT11.out.put 5 (.int .i64 v5))
 obtain ⟨w12, hw⟩ : ∃ W, (w11.setCell ⟨g, 5, none⟩ (.int .i64 v5)) = W := ⟨_, rfl⟩
 rw [hw] at HT12 ⊢
 clear hw HT11 d5 z5 d0 z0
 have hT : Fr _ w0 w x g 34 _ #[.int .i64 1, .int .i64 v1, .int .i64 v2, .int .i64 v3, .int .i64 v4, .int .i64 v5, .int .i64 0, .bool false, .slice none 0 0, .int .i64 0, .int .i64 0, .int .i64 0, .slice none 0 0, .int .i64 0, .int .i64 0, .int .i64 0, .slice none 0 0] _ _ _ := HT12.out
 refine wp_region_list ?_
 refine wpList_load_row rfl 34 (.tmp 4) rfl g rfl 34 _ (0, 0) _ hT.y Tryz.underlying34 rfl (by kernel_rfl) ?_
 refine wpList_store_row rfl 34 (.tmp 2) (.tmp 94) rfl w.heap.size _ rfl rfl 34 _ hT.g0 (by kernel_rfl) rfl (by simp [Value.oneCell']) ?_
 go_wp2_with fail
 refine bodyPost_ret (results_cell_row rfl _ _ w.heap.size 34 _ (0, 0) _ rfl hT.fin.1 Tryz.underlying34 rfl (by kernel_rfl)) rfl ?_
 rw [HF.out]
 exact ⟨_, _, _, rfl, Kd.R_nil _ _ _ _ _, Kd.R_nil _ _ _ _ _, Kd.R_nil _ _ _ _ _, hT.fin.2.2.1, hT.fin.2.2.2.1, hT.fin.2.2.2.2⟩
set_option maxHeartbeats 4000000 in
theorem eMsg2 {w0 w : World} {x : Nat} {s : EyeS} (hI : IsEye w0 w x s) (hB : Below w0.heap.size w0 w) (hok : okS s) (hk : (eNum s).1 = 2) (he : (eNum s).2.e = 0) :
  Calls Tryz.prog 60 #[.pointer (some ⟨x, 0, none⟩)] w fun e w' => MsP (fun W s => IsEye w0 W x s) w0 w x (eMsg s).1 (eMsg s).2 e w' := by
 have HT1 := Lib.hid (Fo.start (I := fun W s => IsEye w0 W x s) (T := 34) (zs := #[.int .i64 0, .int .i64 0, .int .i64 0, .int .i64 0, .int .i64 0, .int .i64 0, .int .i64 0, .bool false, .slice none 0 0, .int .i64 0, .int .i64 0, .int .i64 0, .slice none 0 0, .int .i64 0, .int .i64 0, .int .i64 0, .slice none 0 0]) hI hB hI.lt hI.ge (fun _ _ _ e h => h.at e))
 obtain ⟨s1, hs1⟩ : ∃ s1, (eNum s).2 = s1 := ⟨_, rfl⟩
 have HN := Lib.hid (And.intro hk hs1)
 have HO0 := Lib.hid hok
 have ho1 := okS_num hok
 rw [hs1] at ho1 he
 have HF0 := Lib.hid (show eMsg s = mBody eSmall eEntry (eList eTr) 2 s1 by
  have hm : eMk s = s1 := by unfold eMk; rw [hk, hs1]; exact eWrong_false _
  unfold eMsg
  rw [hm, if_neg (fun q => q he), hk])
 clear hI hB hok hk hs1
 obtain ⟨v1, hv1⟩ : ∃ v, (eSmall s1).1 = v := ⟨_, rfl⟩
 obtain ⟨s2, hs2⟩ : ∃ t, (eSmall s1).2 = t := ⟨_, rfl⟩
 have ho2 := okS_small ho1
 rw [hs2] at ho2
 have HO1 := Lib.hid ho1; have HE1 := Lib.hid (And.intro hv1 hs2)
 obtain ⟨v2, hv2⟩ : ∃ v, (eSmall s2).1 = v := ⟨_, rfl⟩
 obtain ⟨s3, hs3⟩ : ∃ t, (eSmall s2).2 = t := ⟨_, rfl⟩
 have ho3 := okS_small ho2
 rw [hs3] at ho3
 have HO2 := Lib.hid ho2; have HE2 := Lib.hid (And.intro hv2 hs3)
 obtain ⟨v3, hv3⟩ : ∃ v, (eNum s3).1 = v := ⟨_, rfl⟩
 obtain ⟨s4, hs4⟩ : ∃ t, (eNum s3).2 = t := ⟨_, rfl⟩
 have ho4 := okS_num ho3
 rw [hs4] at ho4
 have HO3 := Lib.hid ho3; have HE3 := Lib.hid (And.intro hv3 hs4)
 obtain ⟨v4, hv4⟩ : ∃ v, (eYes s4).1 = v := ⟨_, rfl⟩
 obtain ⟨s5, hs5⟩ : ∃ t, (eYes s4).2 = t := ⟨_, rfl⟩
 have ho5 := okS_yes ho4
 rw [hs5] at ho5
 have HO4 := Lib.hid ho4; have HE4 := Lib.hid (And.intro hv4 hs5)
 have HF := Lib.hid (show eMsg s = (⟨2, v1, v2, v3, 0, 0, 0, v4, [], zE, zP⟩, s5) by
  rw [HF0.out]
  unfold mBody
  rw [if_neg (by decide)]; rw [if_pos rfl]
  simp only [FM, PR, enOf, hv1, hs2, hv2, hs3, hv3, hs4, hv4, hs5])
 clear HF0 hv1 hs2 ho1 hv2 hs3 ho2 hv3 hs4 ho3 hv4 hs5 ho4 ho5
 have HQ := Lib.hid (show (s1.e != 0) = false by rw [he]; rfl)
 clear he
 go_enter Tryz.func60, Tryz.ntmps60
 go_upto_region 1 with fail
 obtain ⟨w1, hw1⟩ : ∃ w1, w.alloc (.cells #[.int .i64 0, .int .i64 0, .int .i64 0, .int .i64 0, .int .i64 0, .int .i64 0, .int .i64 0, .bool false, .slice none 0 0, .int .i64 0, .int .i64 0, .int .i64 0, .slice none 0 0, .int .i64 0, .int .i64 0, .int .i64 0, .slice none 0 0] 34) = w1 := ⟨_, rfl⟩
 rw [hw1] at HT1 ⊢
 clear hw1
 go_wp2_with fail
 have h4 := eNum_is HT1.out.i HT1.out.d HO0.out
 rw [HN.out.1, HN.out.2] at h4
 refine h4.mono ?_
 rintro e w2 ⟨rfl, h1, h2, h3⟩
 have HT2 := Lib.hid (HT1.out.call h1 h2 h3)
 clear h1 h2 h3 h4 HT1 HN
 go_wp2_with fail
 have h4 := eWrong_is HT2.out.i HT2.out.d false
 rw [eWrong_false] at h4
 refine h4.mono ?_
 rintro e w3 ⟨rfl, h1, h2, h3⟩
 have HT3 := Lib.hid (HT2.out.call h1 h2 h3)
 clear h1 h2 h3 h4 HT2
 have c1 : w3.cell? ⟨x, 1, none⟩ = some (.int .i64 s1.e) := by
  obtain ⟨A, c, g1, _⟩ := HT3.out.i
  simp [World.cell?, g1]
 have hq := HQ.out
 go_wp2_with fail
 clear c1 hq
 have h4 := eSmall_is HT3.out.i HT3.out.d HO1.out
 rw [HE1.out.1, HE1.out.2] at h4
 refine h4.mono ?_
 rintro e w4 ⟨rfl, h1, h2, h3⟩
 have HT4 := Lib.hid (HT3.out.call h1 h2 h3)
 clear h1 h2 h3 h4 HT3
 go_wp2_with fail
 have h4 := eSmall_is HT4.out.i HT4.out.d HO2.out
 rw [HE2.out.1, HE2.out.2] at h4
 refine h4.mono ?_
 rintro e w5 ⟨rfl, h1, h2, h3⟩
 have HT5 := Lib.hid (HT4.out.call h1 h2 h3)
 clear h1 h2 h3 h4 HT4
 go_upto_region 6 with fail
 have HT6 := Lib.hid (HT5.out.lay #[.int .i64 2, .int .i64 v1, .int .i64 v2, .int .i64 0, .int .i64 0, .int .i64 0, .int .i64 0, .bool false, .slice none 0 0, .int .i64 0, .int .i64 0, .int .i64 0, .slice none 0 0, .int .i64 0, .int .i64 0, .int .i64 0, .slice none 0 0])
 obtain ⟨g, hg⟩ : ∃ g, w5.heap.size = g := ⟨_, rfl⟩
 obtain ⟨w6, hw6⟩ : ∃ w6, w5.alloc (.cells #[.int .i64 2, .int .i64 v1, .int .i64 v2, .int .i64 0, .int .i64 0, .int .i64 0, .int .i64 0, .bool false, .slice none 0 0, .int .i64 0, .int .i64 0, .int .i64 0, .slice none 0 0, .int .i64 0, .int .i64 0, .int .i64 0, .slice none 0 0] 34) = w6 := ⟨_, rfl⟩
 rw [hg, hw6] at HT6
 rw [hw6, hg]
 clear hg hw6 HT5
 have b0 : w6.cell? ⟨g, 0, none⟩ = some (.int .i64 2) := (blk_cell HT6.out.y 0).trans rfl
 go_wp2_with fail
 have h4 := eNum_is HT6.out.i HT6.out.d HO3.out
 rw [HE3.out.1, HE3.out.2] at h4
 refine h4.mono ?_
 rintro e w7 ⟨rfl, h1, h2, h3⟩
 have HT7 := Lib.hid (HT6.out.call h1 h2 h3)
 clear h1 h2 h3 h4 HT6
 clear b0
 have d3 : w7.cell? ⟨g, 3, none⟩ = some (.int .i64 0) := (blk_cell HT7.out.y 3).trans rfl
 have z3 : w7.frozen? ⟨g, 3, none⟩ = false := blk_frozen HT7.out.y 3
 have d0 : w7.cell? ⟨g, 0, none⟩ = some (.int .i64 2) := (blk_cell HT7.out.y 0).trans rfl
 have z0 : w7.frozen? ⟨g, 0, none⟩ = false := blk_frozen HT7.out.y 0
 go_wp2_with fail
 have HT8 := Lib.hid (HT7.out.put 3 (.int .i64 v3))
 obtain ⟨w8, hw⟩ : ∃ W, (w7.setCell ⟨g, 3, none⟩ (.int .i64 v3)) = W := ⟨_, rfl⟩
 rw [hw] at HT8 ⊢
 clear hw HT7 d3 z3 d0 z0
 have h4 := eYes_is HT8.out.i HT8.out.d HO4.out
 rw [HE4.out.1, HE4.out.2] at h4
 refine h4.mono ?_
 rintro e w9 ⟨rfl, h1, h2, h3⟩
 have HT9 := Lib.hid (HT8.out.call h1 h2 h3)
 clear h1 h2 h3 h4 HT8
 have d7 : w9.cell? ⟨g, 7, none⟩ = some (.bool false) := (blk_cell HT9.out.y 7).trans rfl
 have z7 : w9.frozen? ⟨g, 7, none⟩ = false := blk_frozen HT9.out.y 7
 have d0 : w9.cell? ⟨g, 0, none⟩ = some (.int .i64 2) := (blk_cell HT9.out.y 0).trans rfl
 have z0 : w9.frozen? ⟨g, 0, none⟩ = false := blk_frozen HT9.out.y 0
 go_upto_region 28 with fail
 have HT10 := Lib.hid (HT9.out.put 7 (.bool v4))
 obtain ⟨w10, hw⟩ : ∃ W, (w9.setCell ⟨g, 7, none⟩ (.bool v4)) = W := ⟨_, rfl⟩
 rw [hw] at HT10 ⊢
 clear hw HT9 d7 z7 d0 z0
 have hT : Fr _ w0 w x g 34 _ #[.int .i64 2, .int .i64 v1, .int .i64 v2, .int .i64 v3, .int .i64 0, .int .i64 0, .int .i64 0, .bool v4, .slice none 0 0, .int .i64 0, .int .i64 0, .int .i64 0, .slice none 0 0, .int .i64 0, .int .i64 0, .int .i64 0, .slice none 0 0] _ _ _ := HT10.out
 refine wp_region_list ?_
 refine wpList_load_row rfl 34 (.tmp 4) rfl g rfl 34 _ (0, 0) _ hT.y Tryz.underlying34 rfl (by kernel_rfl) ?_
 refine wpList_store_row rfl 34 (.tmp 2) (.tmp 94) rfl w.heap.size _ rfl rfl 34 _ hT.g0 (by kernel_rfl) rfl (by simp [Value.oneCell']) ?_
 go_wp2_with fail
 refine bodyPost_ret (results_cell_row rfl _ _ w.heap.size 34 _ (0, 0) _ rfl hT.fin.1 Tryz.underlying34 rfl (by kernel_rfl)) rfl ?_
 rw [HF.out]
 exact ⟨_, _, _, rfl, Kd.R_nil _ _ _ _ _, Kd.R_nil _ _ _ _ _, Kd.R_nil _ _ _ _ _, hT.fin.2.2.1, hT.fin.2.2.2.1, hT.fin.2.2.2.2⟩
set_option maxHeartbeats 4000000 in
theorem eMsg4 {w0 w : World} {x : Nat} {s : EyeS} (hI : IsEye w0 w x s) (hB : Below w0.heap.size w0 w) (hok : okS s) (hk : (eNum s).1 = 4) (he : (eNum s).2.e = 0) :
  Calls Tryz.prog 60 #[.pointer (some ⟨x, 0, none⟩)] w fun e w' => MsP (fun W s => IsEye w0 W x s) w0 w x (eMsg s).1 (eMsg s).2 e w' := by
 have HT1 := Lib.hid (Fo.start (I := fun W s => IsEye w0 W x s) (T := 34) (zs := #[.int .i64 0, .int .i64 0, .int .i64 0, .int .i64 0, .int .i64 0, .int .i64 0, .int .i64 0, .bool false, .slice none 0 0, .int .i64 0, .int .i64 0, .int .i64 0, .slice none 0 0, .int .i64 0, .int .i64 0, .int .i64 0, .slice none 0 0]) hI hB hI.lt hI.ge (fun _ _ _ e h => h.at e))
 obtain ⟨s1, hs1⟩ : ∃ s1, (eNum s).2 = s1 := ⟨_, rfl⟩
 have HN := Lib.hid (And.intro hk hs1)
 have HO0 := Lib.hid hok
 have ho1 := okS_num hok
 rw [hs1] at ho1 he
 have HF0 := Lib.hid (show eMsg s = mBody eSmall eEntry (eList eTr) 4 s1 by
  have hm : eMk s = s1 := by unfold eMk; rw [hk, hs1]; exact eWrong_false _
  unfold eMsg
  rw [hm, if_neg (fun q => q he), hk])
 clear hI hB hok hk hs1
 obtain ⟨v1, hv1⟩ : ∃ v, (eSmall s1).1 = v := ⟨_, rfl⟩
 obtain ⟨s2, hs2⟩ : ∃ t, (eSmall s1).2 = t := ⟨_, rfl⟩
 have ho2 := okS_small ho1
 rw [hs2] at ho2
 have HO1 := Lib.hid ho1; have HE1 := Lib.hid (And.intro hv1 hs2)
 obtain ⟨v2, hv2⟩ : ∃ v, (eSmall s2).1 = v := ⟨_, rfl⟩
 obtain ⟨s3, hs3⟩ : ∃ t, (eSmall s2).2 = t := ⟨_, rfl⟩
 have ho3 := okS_small ho2
 rw [hs3] at ho3
 have HO2 := Lib.hid ho2; have HE2 := Lib.hid (And.intro hv2 hs3)
 obtain ⟨v3, hv3⟩ : ∃ v, (eNum s3).1 = v := ⟨_, rfl⟩
 obtain ⟨s4, hs4⟩ : ∃ t, (eNum s3).2 = t := ⟨_, rfl⟩
 have ho4 := okS_num ho3
 rw [hs4] at ho4
 have HO3 := Lib.hid ho3; have HE3 := Lib.hid (And.intro hv3 hs4)
 obtain ⟨v4, hv4⟩ : ∃ v, (eYes s4).1 = v := ⟨_, rfl⟩
 obtain ⟨s5, hs5⟩ : ∃ t, (eYes s4).2 = t := ⟨_, rfl⟩
 have ho5 := okS_yes ho4
 rw [hs5] at ho5
 have HO4 := Lib.hid ho4; have HE4 := Lib.hid (And.intro hv4 hs5)
 obtain ⟨v5, hv5⟩ : ∃ v, (eNum s5).1 = v := ⟨_, rfl⟩
 obtain ⟨s6, hs6⟩ : ∃ t, (eNum s5).2 = t := ⟨_, rfl⟩
 have ho6 := okS_num ho5
 rw [hs6] at ho6
 have HO5 := Lib.hid ho5; have HE5 := Lib.hid (And.intro hv5 hs6)
 have HF := Lib.hid (show eMsg s = (⟨4, v1, v2, v3, v5, 0, 0, v4, [], zE, zP⟩, s6) by
  rw [HF0.out]
  unfold mBody
  rw [if_neg (by decide)]; rw [if_neg (by decide)]; rw [if_neg (by decide)]; rw [if_pos rfl]
  simp only [FM, PR, enOf, hv1, hs2, hv2, hs3, hv3, hs4, hv4, hs5, hv5, hs6])
 clear HF0 hv1 hs2 ho1 hv2 hs3 ho2 hv3 hs4 ho3 hv4 hs5 ho4 hv5 hs6 ho5 ho6
 have HQ := Lib.hid (show (s1.e != 0) = false by rw [he]; rfl)
 clear he
 go_enter Tryz.func60, Tryz.ntmps60
 go_upto_region 1 with fail
 obtain ⟨w1, hw1⟩ : ∃ w1, w.alloc (.cells #[.int .i64 0, .int .i64 0, .int .i64 0, .int .i64 0, .int .i64 0, .int .i64 0, .int .i64 0, .bool false, .slice none 0 0, .int .i64 0, .int .i64 0, .int .i64 0, .slice none 0 0, .int .i64 0, .int .i64 0, .int .i64 0, .slice none 0 0] 34) = w1 := ⟨_, rfl⟩
 rw [hw1] at HT1 ⊢
 clear hw1
 go_wp2_with fail
 have h4 := eNum_is HT1.out.i HT1.out.d HO0.out
 rw [HN.out.1, HN.out.2] at h4
 refine h4.mono ?_
 rintro e w2 ⟨rfl, h1, h2, h3⟩
 have HT2 := Lib.hid (HT1.out.call h1 h2 h3)
 clear h1 h2 h3 h4 HT1 HN
 go_wp2_with fail
 have h4 := eWrong_is HT2.out.i HT2.out.d false
 rw [eWrong_false] at h4
 refine h4.mono ?_
 rintro e w3 ⟨rfl, h1, h2, h3⟩
 have HT3 := Lib.hid (HT2.out.call h1 h2 h3)
 clear h1 h2 h3 h4 HT2
 have c1 : w3.cell? ⟨x, 1, none⟩ = some (.int .i64 s1.e) := by
  obtain ⟨A, c, g1, _⟩ := HT3.out.i
  simp [World.cell?, g1]
 have hq := HQ.out
 go_wp2_with fail
 clear c1 hq
 have h4 := eSmall_is HT3.out.i HT3.out.d HO1.out
 rw [HE1.out.1, HE1.out.2] at h4
 refine h4.mono ?_
 rintro e w4 ⟨rfl, h1, h2, h3⟩
 have HT4 := Lib.hid (HT3.out.call h1 h2 h3)
 clear h1 h2 h3 h4 HT3
 go_wp2_with fail
 have h4 := eSmall_is HT4.out.i HT4.out.d HO2.out
 rw [HE2.out.1, HE2.out.2] at h4
 refine h4.mono ?_
 rintro e w5 ⟨rfl, h1, h2, h3⟩
 have HT5 := Lib.hid (HT4.out.call h1 h2 h3)
 clear h1 h2 h3 h4 HT4
 go_upto_region 6 with fail
 have HT6 := Lib.hid (HT5.out.lay #[.int .i64 4, .int .i64 v1, .int .i64 v2, .int .i64 0, .int .i64 0, .int .i64 0, .int .i64 0, .bool false, .slice none 0 0, .int .i64 0, .int .i64 0, .int .i64 0, .slice none 0 0, .int .i64 0, .int .i64 0, .int .i64 0, .slice none 0 0])
 obtain ⟨g, hg⟩ : ∃ g, w5.heap.size = g := ⟨_, rfl⟩
 obtain ⟨w6, hw6⟩ : ∃ w6, w5.alloc (.cells #[.int .i64 4, .int .i64 v1, .int .i64 v2, .int .i64 0, .int .i64 0, .int .i64 0, .int .i64 0, .bool false, .slice none 0 0, .int .i64 0, .int .i64 0, .int .i64 0, .slice none 0 0, .int .i64 0, .int .i64 0, .int .i64 0, .slice none 0 0] 34) = w6 := ⟨_, rfl⟩
 rw [hg, hw6] at HT6
 rw [hw6, hg]
 clear hg hw6 HT5
 have b0 : w6.cell? ⟨g, 0, none⟩ = some (.int .i64 4) := (blk_cell HT6.out.y 0).trans rfl
 go_wp2_with fail
 have h4 := eNum_is HT6.out.i HT6.out.d HO3.out
 rw [HE3.out.1, HE3.out.2] at h4
 refine h4.mono ?_
 rintro e w7 ⟨rfl, h1, h2, h3⟩
 have HT7 := Lib.hid (HT6.out.call h1 h2 h3)
 clear h1 h2 h3 h4 HT6
 clear b0
 have d3 : w7.cell? ⟨g, 3, none⟩ = some (.int .i64 0) := (blk_cell HT7.out.y 3).trans rfl
 have z3 : w7.frozen? ⟨g, 3, none⟩ = false := blk_frozen HT7.out.y 3
 have d0 : w7.cell? ⟨g, 0, none⟩ = some (.int .i64 4) := (blk_cell HT7.out.y 0).trans rfl
 have z0 : w7.frozen? ⟨g, 0, none⟩ = false := blk_frozen HT7.out.y 0
 go_wp2_with fail
 have HT8 := Lib.hid (HT7.out.put 3 (.int .i64 v3))
 obtain ⟨w8, hw⟩ : ∃ W, (w7.setCell ⟨g, 3, none⟩ (.int .i64 v3)) = W := ⟨_, rfl⟩
 rw [hw] at HT8 ⊢
 clear hw HT7 d3 z3 d0 z0
 have h4 := eYes_is HT8.out.i HT8.out.d HO4.out
 rw [HE4.out.1, HE4.out.2] at h4
 refine h4.mono ?_
 rintro e w9 ⟨rfl, h1, h2, h3⟩
 have HT9 := Lib.hid (HT8.out.call h1 h2 h3)
 clear h1 h2 h3 h4 HT8
 have d7 : w9.cell? ⟨g, 7, none⟩ = some (.bool false) := (blk_cell HT9.out.y 7).trans rfl
 have z7 : w9.frozen? ⟨g, 7, none⟩ = false := blk_frozen HT9.out.y 7
 have d0 : w9.cell? ⟨g, 0, none⟩ = some (.int .i64 4) := (blk_cell HT9.out.y 0).trans rfl
 have z0 : w9.frozen? ⟨g, 0, none⟩ = false := blk_frozen HT9.out.y 0
 go_wp2_with fail
 have HT10 := Lib.hid (HT9.out.put 7 (.bool v4))
 obtain ⟨w10, hw⟩ : ∃ W, (w9.setCell ⟨g, 7, none⟩ (.bool v4)) = W := ⟨_, rfl⟩
 rw [hw] at HT10 ⊢
 clear hw HT9 d7 z7 d0 z0
 have h4 := eNum_is HT10.out.i HT10.out.d HO5.out
 rw [HE5.out.1, HE5.out.2] at h4
 refine h4.mono ?_
 rintro e w11 ⟨rfl, h1, h2, h3⟩
 have HT11 := Lib.hid (HT10.out.call h1 h2 h3)
 clear h1 h2 h3 h4 HT10
 have d4 : w11.cell? ⟨g, 4, none⟩ = some (.int .i64 0) := (blk_cell HT11.out.y 4).trans rfl
 have z4 : w11.frozen? ⟨g, 4, none⟩ = false := blk_frozen HT11.out.y 4
 have d0 : w11.cell? ⟨g, 0, none⟩ = some (.int .i64 4) := (blk_cell HT11.out.y 0).trans rfl
 have z0 : w11.frozen? ⟨g, 0, none⟩ = false := blk_frozen HT11.out.y 0
 go_upto_region 28 with fail
 have HT12 := Lib.hid (HT11.out.put 4 (.int .i64 v5))
 obtain ⟨w12, hw⟩ : ∃ W, (w11.setCell ⟨g, 4, none⟩ (.int .i64 v5)) = W := ⟨_, rfl⟩
 rw [hw] at HT12 ⊢
 clear hw HT11 d4 z4 d0 z0
 have hT : Fr _ w0 w x g 34 _ #[.int .i64 4, .int .i64 v1, .int .i64 v2, .int .i64 v3, .int .i64 v5, .int .i64 0, .int .i64 0, .bool v4, .slice none 0 0, .int .i64 0, .int .i64 0, .int .i64 0, .slice none 0 0, .int .i64 0, .int .i64 0, .int .i64 0, .slice none 0 0] _ _ _ := HT12.out
 refine wp_region_list ?_
 refine wpList_load_row rfl 34 (.tmp 4) rfl g rfl 34 _ (0, 0) _ hT.y Tryz.underlying34 rfl (by kernel_rfl) ?_
 refine wpList_store_row rfl 34 (.tmp 2) (.tmp 94) rfl w.heap.size _ rfl rfl 34 _ hT.g0 (by kernel_rfl) rfl (by simp [Value.oneCell']) ?_
 go_wp2_with fail
 refine bodyPost_ret (results_cell_row rfl _ _ w.heap.size 34 _ (0, 0) _ rfl hT.fin.1 Tryz.underlying34 rfl (by kernel_rfl)) rfl ?_
 rw [HF.out]
 exact ⟨_, _, _, rfl, Kd.R_nil _ _ _ _ _, Kd.R_nil _ _ _ _ _, Kd.R_nil _ _ _ _ _, hT.fin.2.2.1, hT.fin.2.2.2.1, hT.fin.2.2.2.2⟩
end Go.Proofs.YtgiefblcckikeaaGreat.M
end

section
/- The eye: a message, kinds 3, 5 (printed by geneym04.py). -/
attribute [local irreducible] Go.wpStill
namespace Go.Proofs.YtgiefblcckikeaaGreat.M
open Go.RowKit Go.Proofs.YtgiefblcckikeaaGreatW.PrintWords Go.Proofs.YtgiefblcckikeaaGreatW.PrintLast Go.Proofs.YtgiefblcckikeaaGreatW.PrintMore Go.Proofs.YtgiefblcckikeaaGreat.G
set_option maxHeartbeats 4000000 in
theorem eMsg3 {w0 w : World} {x : Nat} {s : EyeS} (hI : IsEye w0 w x s) (hB : Below w0.heap.size w0 w) (hok : okS s) (hk : (eNum s).1 = 3) (he : (eNum s).2.e = 0) :
  Calls Tryz.prog 60 #[.pointer (some ⟨x, 0, none⟩)] w fun e w' => MsP (fun W s => IsEye w0 W x s) w0 w x (eMsg s).1 (eMsg s).2 e w' := by
 have HT1 := Lib.hid (Fo.start (I := fun W s => IsEye w0 W x s) (T := 34) (zs := #[.int .i64 0, .int .i64 0, .int .i64 0, .int .i64 0, .int .i64 0, .int .i64 0, .int .i64 0, .bool false, .slice none 0 0, .int .i64 0, .int .i64 0, .int .i64 0, .slice none 0 0, .int .i64 0, .int .i64 0, .int .i64 0, .slice none 0 0]) hI hB hI.lt hI.ge (fun _ _ _ e h => h.at e))
 obtain ⟨s1, hs1⟩ : ∃ s1, (eNum s).2 = s1 := ⟨_, rfl⟩
 have HN := Lib.hid (And.intro hk hs1)
 have HO0 := Lib.hid hok
 have ho1 := okS_num hok
 rw [hs1] at ho1 he
 have HF0 := Lib.hid (show eMsg s = mBody eSmall eEntry (eList eTr) 3 s1 by
  have hm : eMk s = s1 := by unfold eMk; rw [hk, hs1]; exact eWrong_false _
  unfold eMsg
  rw [hm, if_neg (fun q => q he), hk])
 clear hI hB hok hk hs1
 obtain ⟨v1, hv1⟩ : ∃ v, (eSmall s1).1 = v := ⟨_, rfl⟩
 obtain ⟨s2, hs2⟩ : ∃ t, (eSmall s1).2 = t := ⟨_, rfl⟩
 have ho2 := okS_small ho1
 rw [hs2] at ho2
 have HO1 := Lib.hid ho1; have HE1 := Lib.hid (And.intro hv1 hs2)
 obtain ⟨v2, hv2⟩ : ∃ v, (eSmall s2).1 = v := ⟨_, rfl⟩
 obtain ⟨s3, hs3⟩ : ∃ t, (eSmall s2).2 = t := ⟨_, rfl⟩
 have ho3 := okS_small ho2
 rw [hs3] at ho3
 have HO2 := Lib.hid ho2; have HE2 := Lib.hid (And.intro hv2 hs3)
 obtain ⟨v3, hv3⟩ : ∃ v, (eNum s3).1 = v := ⟨_, rfl⟩
 obtain ⟨s4, hs4⟩ : ∃ t, (eNum s3).2 = t := ⟨_, rfl⟩
 have ho4 := okS_num ho3
 rw [hs4] at ho4
 have HO3 := Lib.hid ho3; have HE3 := Lib.hid (And.intro hv3 hs4)
 obtain ⟨v4, hv4⟩ : ∃ v, (eNum s4).1 = v := ⟨_, rfl⟩
 obtain ⟨s5, hs5⟩ : ∃ t, (eNum s4).2 = t := ⟨_, rfl⟩
 have ho5 := okS_num ho4
 rw [hs5] at ho5
 have HO4 := Lib.hid ho4; have HE4 := Lib.hid (And.intro hv4 hs5)
 obtain ⟨v5, hv5⟩ : ∃ v, (eNum s5).1 = v := ⟨_, rfl⟩
 obtain ⟨s6, hs6⟩ : ∃ t, (eNum s5).2 = t := ⟨_, rfl⟩
 have ho6 := okS_num ho5
 rw [hs6] at ho6
 have HO5 := Lib.hid ho5; have HE5 := Lib.hid (And.intro hv5 hs6)
 obtain ⟨v6, hv6⟩ : ∃ v, (eNum s6).1 = v := ⟨_, rfl⟩
 obtain ⟨s7, hs7⟩ : ∃ t, (eNum s6).2 = t := ⟨_, rfl⟩
 have ho7 := okS_num ho6
 rw [hs7] at ho7
 have HO6 := Lib.hid ho6; have HE6 := Lib.hid (And.intro hv6 hs7)
 obtain ⟨v7, hv7⟩ : ∃ v, ((eList eTr) s7).1 = v := ⟨_, rfl⟩
 obtain ⟨s8, hs8⟩ : ∃ t, ((eList eTr) s7).2 = t := ⟨_, rfl⟩
 have ho8 := okS_trs ho7
 rw [hs8] at ho8
 have HO7 := Lib.hid ho7; have HE7 := Lib.hid (And.intro hv7 hs8)
 have HF := Lib.hid (show eMsg s = (⟨3, v1, v2, v3, v4, v5, v6, false, v7, zE, zP⟩, s8) by
  rw [HF0.out]
  unfold mBody
  rw [if_neg (by decide)]; rw [if_neg (by decide)]; rw [if_pos rfl]
  simp only [FM, PR, enOf, hv1, hs2, hv2, hs3, hv3, hs4, hv4, hs5, hv5, hs6, hv6, hs7, hv7, hs8])
 clear HF0 hv1 hs2 ho1 hv2 hs3 ho2 hv3 hs4 ho3 hv4 hs5 ho4 hv5 hs6 ho5 hv6 hs7 ho6 hv7 hs8 ho7 ho8
 have HQ := Lib.hid (show (s1.e != 0) = false by rw [he]; rfl)
 clear he
 go_enter Tryz.func60, Tryz.ntmps60
 go_upto_region 1 with fail
 obtain ⟨w1, hw1⟩ : ∃ w1, w.alloc (.cells #[.int .i64 0, .int .i64 0, .int .i64 0, .int .i64 0, .int .i64 0, .int .i64 0, .int .i64 0, .bool false, .slice none 0 0, .int .i64 0, .int .i64 0, .int .i64 0, .slice none 0 0, .int .i64 0, .int .i64 0, .int .i64 0, .slice none 0 0] 34) = w1 := ⟨_, rfl⟩
 rw [hw1] at HT1 ⊢
 clear hw1
 go_wp2_with fail
 have h4 := eNum_is HT1.out.i HT1.out.d HO0.out
 rw [HN.out.1, HN.out.2] at h4
 refine h4.mono ?_
 rintro e w2 ⟨rfl, h1, h2, h3⟩
 have HT2 := Lib.hid (HT1.out.call h1 h2 h3)
 clear h1 h2 h3 h4 HT1 HN
 go_wp2_with fail
 have h4 := eWrong_is HT2.out.i HT2.out.d false
 rw [eWrong_false] at h4
 refine h4.mono ?_
 rintro e w3 ⟨rfl, h1, h2, h3⟩
 have HT3 := Lib.hid (HT2.out.call h1 h2 h3)
 clear h1 h2 h3 h4 HT2
 have c1 : w3.cell? ⟨x, 1, none⟩ = some (.int .i64 s1.e) := by
  obtain ⟨A, c, g1, _⟩ := HT3.out.i
  simp [World.cell?, g1]
 have hq := HQ.out
 go_wp2_with fail
 clear c1 hq
 have h4 := eSmall_is HT3.out.i HT3.out.d HO1.out
 rw [HE1.out.1, HE1.out.2] at h4
 refine h4.mono ?_
 rintro e w4 ⟨rfl, h1, h2, h3⟩
 have HT4 := Lib.hid (HT3.out.call h1 h2 h3)
 clear h1 h2 h3 h4 HT3
 go_wp2_with fail
 have h4 := eSmall_is HT4.out.i HT4.out.d HO2.out
 rw [HE2.out.1, HE2.out.2] at h4
 refine h4.mono ?_
 rintro e w5 ⟨rfl, h1, h2, h3⟩
 have HT5 := Lib.hid (HT4.out.call h1 h2 h3)
 clear h1 h2 h3 h4 HT4
 go_upto_region 6 with fail
 have HT6 := Lib.hid (HT5.out.lay #[.int .i64 3, .int .i64 v1, .int .i64 v2, .int .i64 0, .int .i64 0, .int .i64 0, .int .i64 0, .bool false, .slice none 0 0, .int .i64 0, .int .i64 0, .int .i64 0, .slice none 0 0, .int .i64 0, .int .i64 0, .int .i64 0, .slice none 0 0])
 obtain ⟨g, hg⟩ : ∃ g, w5.heap.size = g := ⟨_, rfl⟩
 obtain ⟨w6, hw6⟩ : ∃ w6, w5.alloc (.cells #[.int .i64 3, .int .i64 v1, .int .i64 v2, .int .i64 0, .int .i64 0, .int .i64 0, .int .i64 0, .bool false, .slice none 0 0, .int .i64 0, .int .i64 0, .int .i64 0, .slice none 0 0, .int .i64 0, .int .i64 0, .int .i64 0, .slice none 0 0] 34) = w6 := ⟨_, rfl⟩
 rw [hg, hw6] at HT6
 rw [hw6, hg]
 clear hg hw6 HT5
 have b0 : w6.cell? ⟨g, 0, none⟩ = some (.int .i64 3) := (blk_cell HT6.out.y 0).trans rfl
 go_wp2_with fail
 have h4 := eNum_is HT6.out.i HT6.out.d HO3.out
 rw [HE3.out.1, HE3.out.2] at h4
 refine h4.mono ?_
 rintro e w7 ⟨rfl, h1, h2, h3⟩
 have HT7 := Lib.hid (HT6.out.call h1 h2 h3)
 clear h1 h2 h3 h4 HT6
 clear b0
 have d3 : w7.cell? ⟨g, 3, none⟩ = some (.int .i64 0) := (blk_cell HT7.out.y 3).trans rfl
 have z3 : w7.frozen? ⟨g, 3, none⟩ = false := blk_frozen HT7.out.y 3
 have d0 : w7.cell? ⟨g, 0, none⟩ = some (.int .i64 3) := (blk_cell HT7.out.y 0).trans rfl
 have z0 : w7.frozen? ⟨g, 0, none⟩ = false := blk_frozen HT7.out.y 0
 go_wp2_with fail
 have HT8 := Lib.hid (HT7.out.put 3 (.int .i64 v3))
 obtain ⟨w8, hw⟩ : ∃ W, (w7.setCell ⟨g, 3, none⟩ (.int .i64 v3)) = W := ⟨_, rfl⟩
 rw [hw] at HT8 ⊢
 clear hw HT7 d3 z3 d0 z0
 have h4 := eNum_is HT8.out.i HT8.out.d HO4.out
 rw [HE4.out.1, HE4.out.2] at h4
 refine h4.mono ?_
 rintro e w9 ⟨rfl, h1, h2, h3⟩
 have HT9 := Lib.hid (HT8.out.call h1 h2 h3)
 clear h1 h2 h3 h4 HT8
 have d4 : w9.cell? ⟨g, 4, none⟩ = some (.int .i64 0) := (blk_cell HT9.out.y 4).trans rfl
 have z4 : w9.frozen? ⟨g, 4, none⟩ = false := blk_frozen HT9.out.y 4
 have d0 : w9.cell? ⟨g, 0, none⟩ = some (.int .i64 3) := (blk_cell HT9.out.y 0).trans rfl
 have z0 : w9.frozen? ⟨g, 0, none⟩ = false := blk_frozen HT9.out.y 0
 go_wp2_with fail
 have HT10 := Lib.hid (HT9.out.put 4 (.int .i64 v4))
 obtain ⟨w10, hw⟩ : ∃ W, (w9.setCell ⟨g, 4, none⟩ (.int .i64 v4)) = W := ⟨_, rfl⟩
 rw [hw] at HT10 ⊢
 clear hw HT9 d4 z4 d0 z0
 have h4 := eNum_is HT10.out.i HT10.out.d HO5.out
 rw [HE5.out.1, HE5.out.2] at h4
 refine h4.mono ?_
 rintro e w11 ⟨rfl, h1, h2, h3⟩
 have HT11 := Lib.hid (HT10.out.call h1 h2 h3)
 clear h1 h2 h3 h4 HT10
 have d5 : w11.cell? ⟨g, 5, none⟩ = some (.int .i64 0) := (blk_cell HT11.out.y 5).trans rfl
 have z5 : w11.frozen? ⟨g, 5, none⟩ = false := blk_frozen HT11.out.y 5
 have d0 : w11.cell? ⟨g, 0, none⟩ = some (.int .i64 3) := (blk_cell HT11.out.y 0).trans rfl
 have z0 : w11.frozen? ⟨g, 0, none⟩ = false := blk_frozen HT11.out.y 0
 go_wp2_with fail
 have HT12 := Lib.hid (HT11.out.put 5 (.int .i64 v5))
 obtain ⟨w12, hw⟩ : ∃ W, (w11.setCell ⟨g, 5, none⟩ (.int .i64 v5)) = W := ⟨_, rfl⟩
 rw [hw] at HT12 ⊢
 clear hw HT11 d5 z5 d0 z0
 have h4 := eNum_is HT12.out.i HT12.out.d HO6.out
 rw [HE6.out.1, HE6.out.2] at h4
 refine h4.mono ?_
 rintro e w13 ⟨rfl, h1, h2, h3⟩
 have HT13 := Lib.hid (HT12.out.call h1 h2 h3)
 clear h1 h2 h3 h4 HT12
 have d6 : w13.cell? ⟨g, 6, none⟩ = some (.int .i64 0) := (blk_cell HT13.out.y 6).trans rfl
 have z6 : w13.frozen? ⟨g, 6, none⟩ = false := blk_frozen HT13.out.y 6
 have d0 : w13.cell? ⟨g, 0, none⟩ = some (.int .i64 3) := (blk_cell HT13.out.y 0).trans rfl
 have z0 : w13.frozen? ⟨g, 0, none⟩ = false := blk_frozen HT13.out.y 0
 go_wp2_with fail
 have HT14 := Lib.hid (HT13.out.put 6 (.int .i64 v6))
 obtain ⟨w14, hw⟩ : ∃ W, (w13.setCell ⟨g, 6, none⟩ (.int .i64 v6)) = W := ⟨_, rfl⟩
 rw [hw] at HT14 ⊢
 clear hw HT13 d6 z6 d0 z0
 have h4 := eList_trs HT14.out.i HT14.out.d HO7.out
 rw [HE7.out.1, HE7.out.2] at h4
 refine h4.mono ?_
 rintro e w15 ⟨v_, rfl, hv, h1, h2, h3⟩
 obtain ⟨A8, c8, rfl⟩ := Kd.R_slice (Kd.S_R hv)
 have HT15 := Lib.hid (HT14.out.callS h1 h2 h3 hv)
 have HLO15 := Lib.hid (show w14.heap.size ≤ w15.heap.size from h3.size)
 clear h1 h2 h3 h4 hv HT14
 have d8 : w15.cell? ⟨g, 8, none⟩ = some (.slice none 0 0) := (blk_cell HT15.out.y 8).trans rfl
 have z8 : w15.frozen? ⟨g, 8, none⟩ = false := blk_frozen HT15.out.y 8
 have d0 : w15.cell? ⟨g, 0, none⟩ = some (.int .i64 3) := (blk_cell HT15.out.y 0).trans rfl
 have z0 : w15.frozen? ⟨g, 0, none⟩ = false := blk_frozen HT15.out.y 0
 go_upto_region 28 with fail
 have HT16 := Lib.hid (HT15.out.put 8 (.slice A8 v7.length c8))
 obtain ⟨w16, hw⟩ : ∃ W, (w15.setCell ⟨g, 8, none⟩ (.slice A8 v7.length c8)) = W := ⟨_, rfl⟩
 rw [hw] at HT16 ⊢
 clear hw HT15 d8 z8 d0 z0
 have hT : Fr _ w0 w x g 34 _ #[.int .i64 3, .int .i64 v1, .int .i64 v2, .int .i64 v3, .int .i64 v4, .int .i64 v5, .int .i64 v6, .bool false, .slice A8 v7.length c8, .int .i64 0, .int .i64 0, .int .i64 0, .slice none 0 0, .int .i64 0, .int .i64 0, .int .i64 0, .slice none 0 0] _ _ _ := HT16.out
 refine wp_region_list ?_
 refine wpList_load_row rfl 34 (.tmp 4) rfl g rfl 34 _ (0, 0) _ hT.y Tryz.underlying34 rfl (by kernel_rfl) ?_
 refine wpList_store_row rfl 34 (.tmp 2) (.tmp 94) rfl w.heap.size _ rfl rfl 34 _ hT.g0 (by kernel_rfl) rfl (by simp [Value.oneCell']) ?_
 go_wp2_with fail
 refine bodyPost_ret (results_cell_row rfl _ _ w.heap.size 34 _ (0, 0) _ rfl hT.fin.1 Tryz.underlying34 rfl (by kernel_rfl)) rfl ?_
 rw [HF.out]
 exact ⟨_, _, _, rfl, Kd.R_mono (Kd.S_R hT.fin.2.1.2) (fun _ _ => trivial), Kd.R_nil _ _ _ _ _, Kd.R_nil _ _ _ _ _, hT.fin.2.2.1, hT.fin.2.2.2.1, hT.fin.2.2.2.2⟩
set_option maxHeartbeats 4000000 in
theorem eMsg5 {w0 w : World} {x : Nat} {s : EyeS} (hI : IsEye w0 w x s) (hB : Below w0.heap.size w0 w) (hok : okS s) (hk : (eNum s).1 = 5) (he : (eNum s).2.e = 0) :
  Calls Tryz.prog 60 #[.pointer (some ⟨x, 0, none⟩)] w fun e w' => MsP (fun W s => IsEye w0 W x s) w0 w x (eMsg s).1 (eMsg s).2 e w' := by
 have HT1 := Lib.hid (Fo.start (I := fun W s => IsEye w0 W x s) (T := 34) (zs := #[.int .i64 0, .int .i64 0, .int .i64 0, .int .i64 0, .int .i64 0, .int .i64 0, .int .i64 0, .bool false, .slice none 0 0, .int .i64 0, .int .i64 0, .int .i64 0, .slice none 0 0, .int .i64 0, .int .i64 0, .int .i64 0, .slice none 0 0]) hI hB hI.lt hI.ge (fun _ _ _ e h => h.at e))
 obtain ⟨s1, hs1⟩ : ∃ s1, (eNum s).2 = s1 := ⟨_, rfl⟩
 have HN := Lib.hid (And.intro hk hs1)
 have HO0 := Lib.hid hok
 have ho1 := okS_num hok
 rw [hs1] at ho1 he
 have HF0 := Lib.hid (show eMsg s = mBody eSmall eEntry (eList eTr) 5 s1 by
  have hm : eMk s = s1 := by unfold eMk; rw [hk, hs1]; exact eWrong_false _
  unfold eMsg
  rw [hm, if_neg (fun q => q he), hk])
 clear hI hB hok hk hs1
 obtain ⟨v1, hv1⟩ : ∃ v, (eSmall s1).1 = v := ⟨_, rfl⟩
 obtain ⟨s2, hs2⟩ : ∃ t, (eSmall s1).2 = t := ⟨_, rfl⟩
 have ho2 := okS_small ho1
 rw [hs2] at ho2
 have HO1 := Lib.hid ho1; have HE1 := Lib.hid (And.intro hv1 hs2)
 obtain ⟨v2, hv2⟩ : ∃ v, (eSmall s2).1 = v := ⟨_, rfl⟩
 obtain ⟨s3, hs3⟩ : ∃ t, (eSmall s2).2 = t := ⟨_, rfl⟩
 have ho3 := okS_small ho2
 rw [hs3] at ho3
 have HO2 := Lib.hid ho2; have HE2 := Lib.hid (And.intro hv2 hs3)
 obtain ⟨v3, hv3⟩ : ∃ v, (eNum s3).1 = v := ⟨_, rfl⟩
 obtain ⟨s4, hs4⟩ : ∃ t, (eNum s3).2 = t := ⟨_, rfl⟩
 have ho4 := okS_num ho3
 rw [hs4] at ho4
 have HO3 := Lib.hid ho3; have HE3 := Lib.hid (And.intro hv3 hs4)
 obtain ⟨v4, hv4⟩ : ∃ v, (eNum s4).1 = v := ⟨_, rfl⟩
 obtain ⟨s5, hs5⟩ : ∃ t, (eNum s4).2 = t := ⟨_, rfl⟩
 have ho5 := okS_num ho4
 rw [hs5] at ho5
 have HO4 := Lib.hid ho4; have HE4 := Lib.hid (And.intro hv4 hs5)
 obtain ⟨v5, hv5⟩ : ∃ v, (eNum s5).1 = v := ⟨_, rfl⟩
 obtain ⟨s6, hs6⟩ : ∃ t, (eNum s5).2 = t := ⟨_, rfl⟩
 have ho6 := okS_num ho5
 rw [hs6] at ho6
 have HO5 := Lib.hid ho5; have HE5 := Lib.hid (And.intro hv5 hs6)
 obtain ⟨v6, hv6⟩ : ∃ v, (eNum s6).1 = v := ⟨_, rfl⟩
 obtain ⟨s7, hs7⟩ : ∃ t, (eNum s6).2 = t := ⟨_, rfl⟩
 have ho7 := okS_num ho6
 rw [hs7] at ho7
 have HO6 := Lib.hid ho6; have HE6 := Lib.hid (And.intro hv6 hs7)
 obtain ⟨v7, hv7⟩ : ∃ v, (eSmall s7).1 = v := ⟨_, rfl⟩
 obtain ⟨s8, hs8⟩ : ∃ t, (eSmall s7).2 = t := ⟨_, rfl⟩
 have ho8 := okS_small ho7
 rw [hs8] at ho8
 have HO7 := Lib.hid ho7; have HE7 := Lib.hid (And.intro hv7 hs8)
 obtain ⟨v8, hv8⟩ : ∃ v, (eSmall s8).1 = v := ⟨_, rfl⟩
 obtain ⟨s9, hs9⟩ : ∃ t, (eSmall s8).2 = t := ⟨_, rfl⟩
 have ho9 := okS_small ho8
 rw [hs9] at ho9
 have HO8 := Lib.hid ho8; have HE8 := Lib.hid (And.intro hv8 hs9)
 obtain ⟨v9, hv9⟩ : ∃ v, (eData s9).1 = v := ⟨_, rfl⟩
 obtain ⟨s10, hs10⟩ : ∃ t, (eData s9).2 = t := ⟨_, rfl⟩
 have ho10 := okS_data ho9
 rw [hs10] at ho10
 have HO9 := Lib.hid ho9; have HE9 := Lib.hid (And.intro hv9 hs10)
 have HF := Lib.hid (show eMsg s = (⟨5, v1, v2, v3, v4, v5, 0, false, [], zE, ⟨v6, v7, v8, v9⟩⟩, s10) by
  rw [HF0.out]
  unfold mBody
  rw [if_neg (by decide)]; rw [if_neg (by decide)]; rw [if_neg (by decide)]; rw [if_neg (by decide)]; rw [if_pos rfl]; unfold ptOf
  simp only [FM, PR, enOf, hv1, hs2, hv2, hs3, hv3, hs4, hv4, hs5, hv5, hs6, hv6, hs7, hv7, hs8, hv8, hs9, hv9, hs10])
 clear HF0 hv1 hs2 ho1 hv2 hs3 ho2 hv3 hs4 ho3 hv4 hs5 ho4 hv5 hs6 ho5 hv6 hs7 ho6 hv7 hs8 ho7 hv8 hs9 ho8 hv9 hs10 ho9 ho10
 have HQ := Lib.hid (show (s1.e != 0) = false by rw [he]; rfl)
 clear he
 go_enter Tryz.func60, Tryz.ntmps60
 go_upto_region 1 with fail
 obtain ⟨w1, hw1⟩ : ∃ w1, w.alloc (.cells #[.int .i64 0, .int .i64 0, .int .i64 0, .int .i64 0, .int .i64 0, .int .i64 0, .int .i64 0, .bool false, .slice none 0 0, .int .i64 0, .int .i64 0, .int .i64 0, .slice none 0 0, .int .i64 0, .int .i64 0, .int .i64 0, .slice none 0 0] 34) = w1 := ⟨_, rfl⟩
 rw [hw1] at HT1 ⊢
 clear hw1
 go_wp2_with fail
 have h4 := eNum_is HT1.out.i HT1.out.d HO0.out
 rw [HN.out.1, HN.out.2] at h4
 refine h4.mono ?_
 rintro e w2 ⟨rfl, h1, h2, h3⟩
 have HT2 := Lib.hid (HT1.out.call h1 h2 h3)
 clear h1 h2 h3 h4 HT1 HN
 go_wp2_with fail
 have h4 := eWrong_is HT2.out.i HT2.out.d false
 rw [eWrong_false] at h4
 refine h4.mono ?_
 rintro e w3 ⟨rfl, h1, h2, h3⟩
 have HT3 := Lib.hid (HT2.out.call h1 h2 h3)
 clear h1 h2 h3 h4 HT2
 have c1 : w3.cell? ⟨x, 1, none⟩ = some (.int .i64 s1.e) := by
  obtain ⟨A, c, g1, _⟩ := HT3.out.i
  simp [World.cell?, g1]
 have hq := HQ.out
 go_wp2_with fail
 clear c1 hq
 have h4 := eSmall_is HT3.out.i HT3.out.d HO1.out
 rw [HE1.out.1, HE1.out.2] at h4
 refine h4.mono ?_
 rintro e w4 ⟨rfl, h1, h2, h3⟩
 have HT4 := Lib.hid (HT3.out.call h1 h2 h3)
 clear h1 h2 h3 h4 HT3
 go_wp2_with fail
 have h4 := eSmall_is HT4.out.i HT4.out.d HO2.out
 rw [HE2.out.1, HE2.out.2] at h4
 refine h4.mono ?_
 rintro e w5 ⟨rfl, h1, h2, h3⟩
 have HT5 := Lib.hid (HT4.out.call h1 h2 h3)
 clear h1 h2 h3 h4 HT4
 go_upto_region 6 with fail
 have HT6 := Lib.hid (HT5.out.lay #[.int .i64 5, .int .i64 v1, .int .i64 v2, .int .i64 0, .int .i64 0, .int .i64 0, .int .i64 0, .bool false, .slice none 0 0, .int .i64 0, .int .i64 0, .int .i64 0, .slice none 0 0, .int .i64 0, .int .i64 0, .int .i64 0, .slice none 0 0])
 obtain ⟨g, hg⟩ : ∃ g, w5.heap.size = g := ⟨_, rfl⟩
 obtain ⟨w6, hw6⟩ : ∃ w6, w5.alloc (.cells #[.int .i64 5, .int .i64 v1, .int .i64 v2, .int .i64 0, .int .i64 0, .int .i64 0, .int .i64 0, .bool false, .slice none 0 0, .int .i64 0, .int .i64 0, .int .i64 0, .slice none 0 0, .int .i64 0, .int .i64 0, .int .i64 0, .slice none 0 0] 34) = w6 := ⟨_, rfl⟩
 rw [hg, hw6] at HT6
 rw [hw6, hg]
 clear hg hw6 HT5
 have b0 : w6.cell? ⟨g, 0, none⟩ = some (.int .i64 5) := (blk_cell HT6.out.y 0).trans rfl
 go_wp2_with fail
 have h4 := eNum_is HT6.out.i HT6.out.d HO3.out
 rw [HE3.out.1, HE3.out.2] at h4
 refine h4.mono ?_
 rintro e w7 ⟨rfl, h1, h2, h3⟩
 have HT7 := Lib.hid (HT6.out.call h1 h2 h3)
 clear h1 h2 h3 h4 HT6
 clear b0
 have d3 : w7.cell? ⟨g, 3, none⟩ = some (.int .i64 0) := (blk_cell HT7.out.y 3).trans rfl
 have z3 : w7.frozen? ⟨g, 3, none⟩ = false := blk_frozen HT7.out.y 3
 have d0 : w7.cell? ⟨g, 0, none⟩ = some (.int .i64 5) := (blk_cell HT7.out.y 0).trans rfl
 have z0 : w7.frozen? ⟨g, 0, none⟩ = false := blk_frozen HT7.out.y 0
 go_wp2_with fail
 have HT8 := Lib.hid (HT7.out.put 3 (.int .i64 v3))
 obtain ⟨w8, hw⟩ : ∃ W, (w7.setCell ⟨g, 3, none⟩ (.int .i64 v3)) = W := ⟨_, rfl⟩
 rw [hw] at HT8 ⊢
 clear hw HT7 d3 z3 d0 z0
 have h4 := eNum_is HT8.out.i HT8.out.d HO4.out
 rw [HE4.out.1, HE4.out.2] at h4
 refine h4.mono ?_
 rintro e w9 ⟨rfl, h1, h2, h3⟩
 have HT9 := Lib.hid (HT8.out.call h1 h2 h3)
 clear h1 h2 h3 h4 HT8
 have d4 : w9.cell? ⟨g, 4, none⟩ = some (.int .i64 0) := (blk_cell HT9.out.y 4).trans rfl
 have z4 : w9.frozen? ⟨g, 4, none⟩ = false := blk_frozen HT9.out.y 4
 have d0 : w9.cell? ⟨g, 0, none⟩ = some (.int .i64 5) := (blk_cell HT9.out.y 0).trans rfl
 have z0 : w9.frozen? ⟨g, 0, none⟩ = false := blk_frozen HT9.out.y 0
 go_wp2_with fail
 have HT10 := Lib.hid (HT9.out.put 4 (.int .i64 v4))
 obtain ⟨w10, hw⟩ : ∃ W, (w9.setCell ⟨g, 4, none⟩ (.int .i64 v4)) = W := ⟨_, rfl⟩
 rw [hw] at HT10 ⊢
 clear hw HT9 d4 z4 d0 z0
 have h4 := eNum_is HT10.out.i HT10.out.d HO5.out
 rw [HE5.out.1, HE5.out.2] at h4
 refine h4.mono ?_
 rintro e w11 ⟨rfl, h1, h2, h3⟩
 have HT11 := Lib.hid (HT10.out.call h1 h2 h3)
 clear h1 h2 h3 h4 HT10
 have d5 : w11.cell? ⟨g, 5, none⟩ = some (.int .i64 0) := (blk_cell HT11.out.y 5).trans rfl
 have z5 : w11.frozen? ⟨g, 5, none⟩ = false := blk_frozen HT11.out.y 5
 have d0 : w11.cell? ⟨g, 0, none⟩ = some (.int .i64 5) := (blk_cell HT11.out.y 0).trans rfl
 have z0 : w11.frozen? ⟨g, 0, none⟩ = false := blk_frozen HT11.out.y 0
 go_wp2_with fail
 have HT12 := Lib.hid (HT11.out.put 5 (.int .i64 v5))
 obtain ⟨w12, hw⟩ : ∃ W, (w11.setCell ⟨g, 5, none⟩ (.int .i64 v5)) = W := ⟨_, rfl⟩
 rw [hw] at HT12 ⊢
 clear hw HT11 d5 z5 d0 z0
 have h4 := eNum_is HT12.out.i HT12.out.d HO6.out
 rw [HE6.out.1, HE6.out.2] at h4
 refine h4.mono ?_
 rintro e w13 ⟨rfl, h1, h2, h3⟩
 have HT13 := Lib.hid (HT12.out.call h1 h2 h3)
 clear h1 h2 h3 h4 HT12
 go_wp2_with fail
 have h4 := eSmall_is HT13.out.i HT13.out.d HO7.out
 rw [HE7.out.1, HE7.out.2] at h4
 refine h4.mono ?_
 rintro e w14 ⟨rfl, h1, h2, h3⟩
 have HT14 := Lib.hid (HT13.out.call h1 h2 h3)
 clear h1 h2 h3 h4 HT13
 go_wp2_with fail
 have h4 := eSmall_is HT14.out.i HT14.out.d HO8.out
 rw [HE8.out.1, HE8.out.2] at h4
 refine h4.mono ?_
 rintro e w15 ⟨rfl, h1, h2, h3⟩
 have HT15 := Lib.hid (HT14.out.call h1 h2 h3)
 clear h1 h2 h3 h4 HT14
 go_wp2_with fail
 have h4 := eData_is HT15.out.i HT15.out.d HO9.out
 rw [HE9.out.1, HE9.out.2] at h4
 refine h4.mono ?_
 rintro e w16 ⟨v_, rfl, hv, h1, h2, h3⟩
 obtain ⟨A16, c16, rfl⟩ := Kd.R_slice hv
 have HT16 := Lib.hid (HT15.out.callR h1 h2 h3 hv)
 have HLO16 := Lib.hid (show w15.heap.size ≤ w16.heap.size from h3.size)
 clear h1 h2 h3 h4 hv HT15
 have d13 : w16.cell? ⟨g, 13, none⟩ = some (.int .i64 0) := (blk_cell HT16.out.y 13).trans rfl
 have z13 : w16.frozen? ⟨g, 13, none⟩ = false := blk_frozen HT16.out.y 13
 have d14 : w16.cell? ⟨g, 14, none⟩ = some (.int .i64 0) := (blk_cell HT16.out.y 14).trans rfl
 have z14 : w16.frozen? ⟨g, 14, none⟩ = false := blk_frozen HT16.out.y 14
 have d15 : w16.cell? ⟨g, 15, none⟩ = some (.int .i64 0) := (blk_cell HT16.out.y 15).trans rfl
 have z15 : w16.frozen? ⟨g, 15, none⟩ = false := blk_frozen HT16.out.y 15
 have d16 : w16.cell? ⟨g, 16, none⟩ = some (.slice none 0 0) := (blk_cell HT16.out.y 16).trans rfl
 have z16 : w16.frozen? ⟨g, 16, none⟩ = false := blk_frozen HT16.out.y 16
 have d0 : w16.cell? ⟨g, 0, none⟩ = some (.int .i64 5) := (blk_cell HT16.out.y 0).trans rfl
 have z0 : w16.frozen? ⟨g, 0, none⟩ = false := blk_frozen HT16.out.y 0
 go_upto_region 28 with fail
 have HT17 := Lib.hid ((((HT16.out.put 13 (.int .i64 v6)).put 14 (.int .i64 v7)).put 15 (.int .i64 v8)).put 16 (.slice A16 v9.length c16))
 obtain ⟨w17, hw⟩ : ∃ W, ((((w16.setCell ⟨g, 13, none⟩ (.int .i64 v6)).setCell ⟨g, 14, none⟩ (.int .i64 v7)).setCell ⟨g, 15, none⟩ (.int .i64 v8)).setCell ⟨g, 16, none⟩ (.slice A16 v9.length c16)) = W := ⟨_, rfl⟩
 rw [hw] at HT17 ⊢
 clear hw HT16 d13 z13 d14 z14 d15 z15 d16 z16 d0 z0
 have hT : Fr _ w0 w x g 34 _ #[.int .i64 5, .int .i64 v1, .int .i64 v2, .int .i64 v3, .int .i64 v4, .int .i64 v5, .int .i64 0, .bool false, .slice none 0 0, .int .i64 0, .int .i64 0, .int .i64 0, .slice none 0 0, .int .i64 v6, .int .i64 v7, .int .i64 v8, .slice A16 v9.length c16] _ _ _ := HT17.out
 refine wp_region_list ?_
 refine wpList_load_row rfl 34 (.tmp 4) rfl g rfl 34 _ (0, 0) _ hT.y Tryz.underlying34 rfl (by kernel_rfl) ?_
 refine wpList_store_row rfl 34 (.tmp 2) (.tmp 94) rfl w.heap.size _ rfl rfl 34 _ hT.g0 (by kernel_rfl) rfl (by simp [Value.oneCell']) ?_
 go_wp2_with fail
 refine bodyPost_ret (results_cell_row rfl _ _ w.heap.size 34 _ (0, 0) _ rfl hT.fin.1 Tryz.underlying34 rfl (by kernel_rfl)) rfl ?_
 rw [HF.out]
 exact ⟨_, _, _, rfl, Kd.R_nil _ _ _ _ _, Kd.R_nil _ _ _ _ _, Kd.R_mono hT.fin.2.1.2 (fun _ _ => trivial), hT.fin.2.2.1, hT.fin.2.2.2.1, hT.fin.2.2.2.2⟩
end Go.Proofs.YtgiefblcckikeaaGreat.M
end

section
/- The eye: a message, the rest (printed by geneym04.py). -/
attribute [local irreducible] Go.wpStill
namespace Go.Proofs.YtgiefblcckikeaaGreat.M
open Go.RowKit Go.Proofs.YtgiefblcckikeaaGreatW.PrintWords Go.Proofs.YtgiefblcckikeaaGreatW.PrintLast Go.Proofs.YtgiefblcckikeaaGreatW.PrintMore Go.Proofs.YtgiefblcckikeaaGreat.G
set_option maxHeartbeats 4000000 in
theorem eMsg6 {w0 w : World} {x : Nat} {s : EyeS} (hI : IsEye w0 w x s) (hB : Below w0.heap.size w0 w) (hok : okS s) (hk : (eNum s).1 = 6) (he : (eNum s).2.e = 0) :
  Calls Tryz.prog 60 #[.pointer (some ⟨x, 0, none⟩)] w fun e w' => MsP (fun W s => IsEye w0 W x s) w0 w x (eMsg s).1 (eMsg s).2 e w' := by
 have HT1 := Lib.hid (Fo.start (I := fun W s => IsEye w0 W x s) (T := 34) (zs := #[.int .i64 0, .int .i64 0, .int .i64 0, .int .i64 0, .int .i64 0, .int .i64 0, .int .i64 0, .bool false, .slice none 0 0, .int .i64 0, .int .i64 0, .int .i64 0, .slice none 0 0, .int .i64 0, .int .i64 0, .int .i64 0, .slice none 0 0]) hI hB hI.lt hI.ge (fun _ _ _ e h => h.at e))
 obtain ⟨s1, hs1⟩ : ∃ s1, (eNum s).2 = s1 := ⟨_, rfl⟩
 have HN := Lib.hid (And.intro hk hs1)
 have HO0 := Lib.hid hok
 have ho1 := okS_num hok
 rw [hs1] at ho1 he
 have HF0 := Lib.hid (show eMsg s = mBody eSmall eEntry (eList eTr) 6 s1 by
  have hm : eMk s = s1 := by unfold eMk; rw [hk, hs1]; exact eWrong_false _
  unfold eMsg
  rw [hm, if_neg (fun q => q he), hk])
 clear hI hB hok hk hs1
 obtain ⟨v1, hv1⟩ : ∃ v, (eSmall s1).1 = v := ⟨_, rfl⟩
 obtain ⟨s2, hs2⟩ : ∃ t, (eSmall s1).2 = t := ⟨_, rfl⟩
 have ho2 := okS_small ho1
 rw [hs2] at ho2
 have HO1 := Lib.hid ho1; have HE1 := Lib.hid (And.intro hv1 hs2)
 obtain ⟨v2, hv2⟩ : ∃ v, (eSmall s2).1 = v := ⟨_, rfl⟩
 obtain ⟨s3, hs3⟩ : ∃ t, (eSmall s2).2 = t := ⟨_, rfl⟩
 have ho3 := okS_small ho2
 rw [hs3] at ho3
 have HO2 := Lib.hid ho2; have HE2 := Lib.hid (And.intro hv2 hs3)
 obtain ⟨⟨y0, y1, y2, yl⟩, hv3⟩ : ∃ v, (eEntry s3).1 = v := ⟨_, rfl⟩
 obtain ⟨s4, hs4⟩ : ∃ t, (eEntry s3).2 = t := ⟨_, rfl⟩
 have ho4 := okS_entry ho3
 rw [hs4] at ho4
 have HO3 := Lib.hid ho3; have HE3 := Lib.hid (And.intro hv3 hs4)
 have HF := Lib.hid (show eMsg s = (⟨6, v1, v2, 0, 0, 0, 0, false, [], ⟨y0, y1, y2, yl⟩, zP⟩, s4) by
  rw [HF0.out]
  unfold mBody
  rw [if_neg (by decide)]; rw [if_neg (by decide)]; rw [if_neg (by decide)]; rw [if_neg (by decide)]; rw [if_neg (by decide)]; rw [if_pos rfl]
  simp only [FM, PR, enOf, hv1, hs2, hv2, hs3, hv3, hs4])
 clear HF0 hv1 hs2 ho1 hv2 hs3 ho2 hv3 hs4 ho3 ho4
 have HQ := Lib.hid (show (s1.e != 0) = false by rw [he]; rfl)
 clear he
 go_enter Tryz.func60, Tryz.ntmps60
 go_upto_region 1 with fail
 obtain ⟨w1, hw1⟩ : ∃ w1, w.alloc (.cells #[.int .i64 0, .int .i64 0, .int .i64 0, .int .i64 0, .int .i64 0, .int .i64 0, .int .i64 0, .bool false, .slice none 0 0, .int .i64 0, .int .i64 0, .int .i64 0, .slice none 0 0, .int .i64 0, .int .i64 0, .int .i64 0, .slice none 0 0] 34) = w1 := ⟨_, rfl⟩
 rw [hw1] at HT1 ⊢
 clear hw1
 go_wp2_with fail
 have h4 := eNum_is HT1.out.i HT1.out.d HO0.out
 rw [HN.out.1, HN.out.2] at h4
 refine h4.mono ?_
 rintro e w2 ⟨rfl, h1, h2, h3⟩
 have HT2 := Lib.hid (HT1.out.call h1 h2 h3)
 clear h1 h2 h3 h4 HT1 HN
 go_wp2_with fail
 have h4 := eWrong_is HT2.out.i HT2.out.d false
 rw [eWrong_false] at h4
 refine h4.mono ?_
 rintro e w3 ⟨rfl, h1, h2, h3⟩
 have HT3 := Lib.hid (HT2.out.call h1 h2 h3)
 clear h1 h2 h3 h4 HT2
 have c1 : w3.cell? ⟨x, 1, none⟩ = some (.int .i64 s1.e) := by
  obtain ⟨A, c, g1, _⟩ := HT3.out.i
  simp [World.cell?, g1]
 have hq := HQ.out
 go_wp2_with fail
 clear c1 hq
 have h4 := eSmall_is HT3.out.i HT3.out.d HO1.out
 rw [HE1.out.1, HE1.out.2] at h4
 refine h4.mono ?_
 rintro e w4 ⟨rfl, h1, h2, h3⟩
 have HT4 := Lib.hid (HT3.out.call h1 h2 h3)
 clear h1 h2 h3 h4 HT3
 go_wp2_with fail
 have h4 := eSmall_is HT4.out.i HT4.out.d HO2.out
 rw [HE2.out.1, HE2.out.2] at h4
 refine h4.mono ?_
 rintro e w5 ⟨rfl, h1, h2, h3⟩
 have HT5 := Lib.hid (HT4.out.call h1 h2 h3)
 clear h1 h2 h3 h4 HT4
 go_upto_region 6 with fail
 have HT6 := Lib.hid (HT5.out.lay #[.int .i64 6, .int .i64 v1, .int .i64 v2, .int .i64 0, .int .i64 0, .int .i64 0, .int .i64 0, .bool false, .slice none 0 0, .int .i64 0, .int .i64 0, .int .i64 0, .slice none 0 0, .int .i64 0, .int .i64 0, .int .i64 0, .slice none 0 0])
 obtain ⟨g, hg⟩ : ∃ g, w5.heap.size = g := ⟨_, rfl⟩
 obtain ⟨w6, hw6⟩ : ∃ w6, w5.alloc (.cells #[.int .i64 6, .int .i64 v1, .int .i64 v2, .int .i64 0, .int .i64 0, .int .i64 0, .int .i64 0, .bool false, .slice none 0 0, .int .i64 0, .int .i64 0, .int .i64 0, .slice none 0 0, .int .i64 0, .int .i64 0, .int .i64 0, .slice none 0 0] 34) = w6 := ⟨_, rfl⟩
 rw [hg, hw6] at HT6
 rw [hw6, hg]
 clear hg hw6 HT5
 have b0 : w6.cell? ⟨g, 0, none⟩ = some (.int .i64 6) := (blk_cell HT6.out.y 0).trans rfl
 go_wp2_with fail
 have h4 := eEntry_is HT6.out.i HT6.out.d HO3.out
 rw [HE3.out.1, HE3.out.2] at h4
 refine h4.mono ?_
 rintro e w7 ⟨v_, rfl, hv, h1, h2, h3⟩
 have hv : Kd.S G.k26 26 w7 w6.heap.size (fun _ => True) v_ yl := hv
 obtain ⟨A12, c12, rfl⟩ := Kd.S_slice hv
 have HT7 := Lib.hid (HT6.out.callS h1 h2 h3 hv)
 clear h1 h2 h3 h4 hv HT6
 clear b0
 have d9 : w7.cell? ⟨g, 9, none⟩ = some (.int .i64 0) := (blk_cell HT7.out.y 9).trans rfl
 have z9 : w7.frozen? ⟨g, 9, none⟩ = false := blk_frozen HT7.out.y 9
 have d10 : w7.cell? ⟨g, 10, none⟩ = some (.int .i64 0) := (blk_cell HT7.out.y 10).trans rfl
 have z10 : w7.frozen? ⟨g, 10, none⟩ = false := blk_frozen HT7.out.y 10
 have d11 : w7.cell? ⟨g, 11, none⟩ = some (.int .i64 0) := (blk_cell HT7.out.y 11).trans rfl
 have z11 : w7.frozen? ⟨g, 11, none⟩ = false := blk_frozen HT7.out.y 11
 have d12 : w7.cell? ⟨g, 12, none⟩ = some (.slice none 0 0) := (blk_cell HT7.out.y 12).trans rfl
 have z12 : w7.frozen? ⟨g, 12, none⟩ = false := blk_frozen HT7.out.y 12
 have d0 : w7.cell? ⟨g, 0, none⟩ = some (.int .i64 6) := (blk_cell HT7.out.y 0).trans rfl
 have z0 : w7.frozen? ⟨g, 0, none⟩ = false := blk_frozen HT7.out.y 0
 go_upto_region 8 with fail
 have HT8 := Lib.hid ((((HT7.out.put 9 (.int .i64 y0)).put 10 (.int .i64 y1)).put 11 (.int .i64 y2)).put 12 (.slice A12 yl.length c12))
 obtain ⟨w8, hw⟩ : ∃ W, ((((w7.setCell ⟨g, 9, none⟩ (.int .i64 y0)).setCell ⟨g, 10, none⟩ (.int .i64 y1)).setCell ⟨g, 11, none⟩ (.int .i64 y2)).setCell ⟨g, 12, none⟩ (.slice A12 yl.length c12)) = W := ⟨_, rfl⟩
 rw [hw] at HT8 ⊢
 clear hw HT7 d9 z9 d10 z10 d11 z11 d12 z12 d0 z0
 have hT : Fr _ w0 w x g 34 _ #[.int .i64 6, .int .i64 v1, .int .i64 v2, .int .i64 0, .int .i64 0, .int .i64 0, .int .i64 0, .bool false, .slice none 0 0, .int .i64 y0, .int .i64 y1, .int .i64 y2, .slice A12 yl.length c12, .int .i64 0, .int .i64 0, .int .i64 0, .slice none 0 0] _ _ _ := HT8.out
 refine wp_region_list ?_
 refine wpList_load_row rfl 34 (.tmp 4) rfl g rfl 34 _ (0, 0) _ hT.y Tryz.underlying34 rfl (by kernel_rfl) ?_
 refine wpList_store_row rfl 34 (.tmp 2) (.tmp 33) rfl w.heap.size _ rfl rfl 34 _ hT.g0 (by kernel_rfl) rfl (by simp [Value.oneCell']) ?_
 go_wp2_with fail
 refine bodyPost_ret (results_cell_row rfl _ _ w.heap.size 34 _ (0, 0) _ rfl hT.fin.1 Tryz.underlying34 rfl (by kernel_rfl)) rfl ?_
 rw [HF.out]
 exact ⟨_, _, _, rfl, Kd.R_nil _ _ _ _ _, Kd.R_mono (Kd.S_R hT.fin.2.1.2) (fun _ _ => trivial), Kd.R_nil _ _ _ _ _, hT.fin.2.2.1, hT.fin.2.2.2.1, hT.fin.2.2.2.2⟩
set_option maxHeartbeats 4000000 in
theorem eMsgL {w0 w : World} {x : Nat} {s : EyeS} (hI : IsEye w0 w x s) (hB : Below w0.heap.size w0 w) (hok : okS s) (hn : (eNum s).1 < 1) :
  Calls Tryz.prog 60 #[.pointer (some ⟨x, 0, none⟩)] w fun e w' => MsP (fun W s => IsEye w0 W x s) w0 w x (eMsg s).1 (eMsg s).2 e w' := by
 have HT1 := Lib.hid (Fo.start (I := fun W s => IsEye w0 W x s) (T := 34) (zs := #[.int .i64 0, .int .i64 0, .int .i64 0, .int .i64 0, .int .i64 0, .int .i64 0, .int .i64 0, .bool false, .slice none 0 0, .int .i64 0, .int .i64 0, .int .i64 0, .slice none 0 0, .int .i64 0, .int .i64 0, .int .i64 0, .slice none 0 0]) hI hB hI.lt hI.ge (fun _ _ _ e h => h.at e))
 obtain ⟨k, hk⟩ : ∃ k, (eNum s).1 = k := ⟨_, rfl⟩
 obtain ⟨s1, hs1⟩ : ∃ s1, (eNum s).2 = s1 := ⟨_, rfl⟩
 rw [hk] at hn
 have HF := Lib.hid (show eMsg s = (zM, eWrong true s1) by
  have hm : eMk s = eWrong true s1 := by
   unfold eMk notKind
   rw [hk, hs1]
   congr 1
   simp
   omega
  unfold eMsg
  rw [hm, if_pos (eWrong_true _)])
 have HN := Lib.hid (And.intro hk hs1)
 have HO0 := Lib.hid hok
 clear hI hB hok hk hs1
 have q1 : decide (k < 1) = true := decide_eq_true hn
 have HQ := Lib.hid (show ((eWrong true s1).e != 0) = true from bne_iff_ne.2 (eWrong_true _))
 clear hn
 go_enter Tryz.func60, Tryz.ntmps60
 go_upto_region 1 with fail
 obtain ⟨w1, hw1⟩ : ∃ w1, w.alloc (.cells #[.int .i64 0, .int .i64 0, .int .i64 0, .int .i64 0, .int .i64 0, .int .i64 0, .int .i64 0, .bool false, .slice none 0 0, .int .i64 0, .int .i64 0, .int .i64 0, .slice none 0 0, .int .i64 0, .int .i64 0, .int .i64 0, .slice none 0 0] 34) = w1 := ⟨_, rfl⟩
 rw [hw1] at HT1 ⊢
 clear hw1
 go_wp2_with fail
 have h4 := eNum_is HT1.out.i HT1.out.d HO0.out
 rw [HN.out.1, HN.out.2] at h4
 refine h4.mono ?_
 rintro e w2 ⟨rfl, h1, h2, h3⟩
 have HT2 := Lib.hid (HT1.out.call h1 h2 h3)
 clear h1 h2 h3 h4 HT1 HN
 go_wp2_with fail
 have h4 := eWrong_is HT2.out.i HT2.out.d true
 obtain ⟨s2, hs2⟩ : ∃ t, eWrong true s1 = t := ⟨_, rfl⟩
 rw [hs2] at h4 HF HQ
 clear hs2
 refine h4.mono ?_
 rintro e w3 ⟨rfl, h1, h2, h3⟩
 have HT3 := Lib.hid (HT2.out.call h1 h2 h3)
 clear h1 h2 h3 h4 HT2 q1
 have c1 : w3.cell? ⟨x, 1, none⟩ = some (.int .i64 s2.e) := by
  obtain ⟨A, c, g1, _⟩ := HT3.out.i
  simp [World.cell?, g1]
 have hq := HQ.out
 go_upto_region 4 with fail
 clear c1 hq
 refine wp_region_list ?_
 refine wpList_cut 1 ?_
 simp only [List.take_succ_cons, List.take_zero, List.drop_succ_cons, List.drop_zero]
 go_wp2_with fail
 refine Halt.mk ?_
 have hT := HT3.out
 refine wpList_store_row rfl 34 (.tmp 2) (.tmp 20) rfl w.heap.size #[.int .i64 0, .int .i64 0, .int .i64 0, .int .i64 0, .int .i64 0, .int .i64 0, .int .i64 0, .bool false, .slice none 0 0, .int .i64 0, .int .i64 0, .int .i64 0, .slice none 0 0, .int .i64 0, .int .i64 0, .int .i64 0, .slice none 0 0] rfl rfl 34 _ hT.g0 (by kernel_rfl) rfl (by simp [Value.oneCell']) ?_
 go_wp2_with fail
 refine bodyPost_ret (results_cell_row rfl _ _ w.heap.size 34 _ (0, 0) _ rfl hT.fin.1 Tryz.underlying34 rfl (by kernel_rfl)) rfl ?_
 rw [HF.out]
 exact ⟨_, _, _, rfl, Kd.R_nil _ _ _ _ _, Kd.R_nil _ _ _ _ _, Kd.R_nil _ _ _ _ _, hT.fin.2.1, hT.fin.2.2.1, hT.fin.2.2.2⟩
set_option maxHeartbeats 4000000 in
theorem eMsgH {w0 w : World} {x : Nat} {s : EyeS} (hI : IsEye w0 w x s) (hB : Below w0.heap.size w0 w) (hok : okS s) (hn : 6 < (eNum s).1) :
  Calls Tryz.prog 60 #[.pointer (some ⟨x, 0, none⟩)] w fun e w' => MsP (fun W s => IsEye w0 W x s) w0 w x (eMsg s).1 (eMsg s).2 e w' := by
 have HT1 := Lib.hid (Fo.start (I := fun W s => IsEye w0 W x s) (T := 34) (zs := #[.int .i64 0, .int .i64 0, .int .i64 0, .int .i64 0, .int .i64 0, .int .i64 0, .int .i64 0, .bool false, .slice none 0 0, .int .i64 0, .int .i64 0, .int .i64 0, .slice none 0 0, .int .i64 0, .int .i64 0, .int .i64 0, .slice none 0 0]) hI hB hI.lt hI.ge (fun _ _ _ e h => h.at e))
 obtain ⟨k, hk⟩ : ∃ k, (eNum s).1 = k := ⟨_, rfl⟩
 obtain ⟨s1, hs1⟩ : ∃ s1, (eNum s).2 = s1 := ⟨_, rfl⟩
 rw [hk] at hn
 have HF := Lib.hid (show eMsg s = (zM, eWrong true s1) by
  have hm : eMk s = eWrong true s1 := by
   unfold eMk notKind
   rw [hk, hs1]
   congr 1
   simp
   omega
  unfold eMsg
  rw [hm, if_pos (eWrong_true _)])
 have HN := Lib.hid (And.intro hk hs1)
 have HO0 := Lib.hid hok
 clear hI hB hok hk hs1
 have q1 : decide (k < 1) = false := decide_eq_false (by omega)
 have q2 : decide ((6 : Int) < k) = true := decide_eq_true hn
 have HQ := Lib.hid (show ((eWrong true s1).e != 0) = true from bne_iff_ne.2 (eWrong_true _))
 clear hn
 go_enter Tryz.func60, Tryz.ntmps60
 go_upto_region 1 with fail
 obtain ⟨w1, hw1⟩ : ∃ w1, w.alloc (.cells #[.int .i64 0, .int .i64 0, .int .i64 0, .int .i64 0, .int .i64 0, .int .i64 0, .int .i64 0, .bool false, .slice none 0 0, .int .i64 0, .int .i64 0, .int .i64 0, .slice none 0 0, .int .i64 0, .int .i64 0, .int .i64 0, .slice none 0 0] 34) = w1 := ⟨_, rfl⟩
 rw [hw1] at HT1 ⊢
 clear hw1
 go_wp2_with fail
 have h4 := eNum_is HT1.out.i HT1.out.d HO0.out
 rw [HN.out.1, HN.out.2] at h4
 refine h4.mono ?_
 rintro e w2 ⟨rfl, h1, h2, h3⟩
 have HT2 := Lib.hid (HT1.out.call h1 h2 h3)
 clear h1 h2 h3 h4 HT1 HN
 go_wp2_with fail
 have h4 := eWrong_is HT2.out.i HT2.out.d true
 obtain ⟨s2, hs2⟩ : ∃ t, eWrong true s1 = t := ⟨_, rfl⟩
 rw [hs2] at h4 HF HQ
 clear hs2
 refine h4.mono ?_
 rintro e w3 ⟨rfl, h1, h2, h3⟩
 have HT3 := Lib.hid (HT2.out.call h1 h2 h3)
 clear h1 h2 h3 h4 HT2 q1 q2
 have c1 : w3.cell? ⟨x, 1, none⟩ = some (.int .i64 s2.e) := by
  obtain ⟨A, c, g1, _⟩ := HT3.out.i
  simp [World.cell?, g1]
 have hq := HQ.out
 go_upto_region 4 with fail
 clear c1 hq
 refine wp_region_list ?_
 refine wpList_cut 1 ?_
 simp only [List.take_succ_cons, List.take_zero, List.drop_succ_cons, List.drop_zero]
 go_wp2_with fail
 refine Halt.mk ?_
 have hT := HT3.out
 refine wpList_store_row rfl 34 (.tmp 2) (.tmp 20) rfl w.heap.size #[.int .i64 0, .int .i64 0, .int .i64 0, .int .i64 0, .int .i64 0, .int .i64 0, .int .i64 0, .bool false, .slice none 0 0, .int .i64 0, .int .i64 0, .int .i64 0, .slice none 0 0, .int .i64 0, .int .i64 0, .int .i64 0, .slice none 0 0] rfl rfl 34 _ hT.g0 (by kernel_rfl) rfl (by simp [Value.oneCell']) ?_
 go_wp2_with fail
 refine bodyPost_ret (results_cell_row rfl _ _ w.heap.size 34 _ (0, 0) _ rfl hT.fin.1 Tryz.underlying34 rfl (by kernel_rfl)) rfl ?_
 rw [HF.out]
 exact ⟨_, _, _, rfl, Kd.R_nil _ _ _ _ _, Kd.R_nil _ _ _ _ _, Kd.R_nil _ _ _ _ _, hT.fin.2.1, hT.fin.2.2.1, hT.fin.2.2.2⟩
theorem eMsg_is {w0 w : World} {x : Nat} {s : EyeS} (hI : IsEye w0 w x s) (hB : Below w0.heap.size w0 w) (hok : okS s) :
  Calls Tryz.prog 60 #[.pointer (some ⟨x, 0, none⟩)] w fun e w' => MsP (fun W s => IsEye w0 W x s) w0 w x (eMsg s).1 (eMsg s).2 e w' := by
 by_cases h0 : (eNum s).1 < 1
 ·exact eMsgL hI hB hok h0
 by_cases h7 : 6 < (eNum s).1
 ·exact eMsgH hI hB hok h7
 have he : (eNum s).2.e = 0 := by
  by_cases he : (eNum s).2.e = 0
  ·exact he
  ·have := eNum_z he; omega
 by_cases h1 : (eNum s).1 = 1
 ·exact eMsg1 hI hB hok h1 he
 by_cases h2 : (eNum s).1 = 2
 ·exact eMsg2 hI hB hok h2 he
 by_cases h3 : (eNum s).1 = 3
 ·exact eMsg3 hI hB hok h3 he
 by_cases h4 : (eNum s).1 = 4
 ·exact eMsg4 hI hB hok h4 he
 by_cases h5 : (eNum s).1 = 5
 ·exact eMsg5 hI hB hok h5 he
 exact eMsg6 hI hB hok (by omega) he
end Go.Proofs.YtgiefblcckikeaaGreat.M
end

section
/- What is read is within its kinds: numbers are int64, bytes are bytes. -/
namespace Go.Proofs.YtgiefblcckikeaaGreat.M
open Go.RowKit Go.Proofs.YtgiefblcckikeaaGreatW.PrintWords Go.Proofs.YtgiefblcckikeaaGreatW.PrintLast Go.Proofs.YtgiefblcckikeaaGreatW.PrintMore Go.Proofs.YtgiefblcckikeaaGreat.G
theorem num_i64 {s : EyeS} (h : okS s) : isI64 (eNum s).1 := by
 unfold eNum
 split
 ·show isI64 (takeNum s.l).1
  unfold takeNum
  split
  ·next he => exact (form_one h.1 he).2
  ·exact (by decide : isI64 0)
 ·exact (by decide : isI64 0)
theorem small_i64 {s : EyeS} (h : okS s) : isI64 (eSmall s).1 := by
 rw [eSmall_range]
 split
 ·exact num_i64 h
 ·exact (by decide : isI64 0)
theorem data_ok {s : EyeS} (h : okS s) : okB (eData s).1 = true := by
 unfold eData
 split
 ·show okB (takeBlob s.l).1 = true
  unfold takeBlob
  split
  ·unfold blD; exact okB_drop (okB_take h.1 _) _
  ·rfl
 ·rfl
theorem many_ok {α : Type} {g : EyeS → α × EyeS} {P : α → Prop} (hg : ∀ s, okS s → okS (g s).2 ∧ P (g s).1) : ∀ (n : Nat) (s : EyeS), okS s → ∀ x ∈ (eMany g n s).1, P x
 | 0, s, _ => fun x hx => by cases hx
 | n + 1, s, h => by
  intro x hx
  by_cases he : s.e = 0
  ·simp only [eMany, if_pos he] at hx
   rcases List.mem_cons.1 hx with rfl | hx
   ·exact (hg s h).2
   ·exact many_ok hg n _ (hg s h).1 x hx
  ·rw [eMany_stop he] at hx
   cases hx
theorem list_ok {α : Type} {g : EyeS → α × EyeS} {P : α → Prop} (hg : ∀ s, okS s → okS (g s).2 ∧ P (g s).1) {s : EyeS} (h : okS s) : ∀ x ∈ (eList g s).1, P x :=
 many_ok hg _ _ (okS_wrong _ (okS_num h))
theorem key_ok {s : EyeS} (h : okS s) : okK (eKey s).1 = true := by
 have h1 := eSmall_range s
 have h2 := num_i64 (okS_small h)
 have h0 : -2147483648 ≤ (eSmall s).1 ∧ (eSmall s).1 ≤ 2147483647 := by
  rw [h1]
  split
  ·next q => exact q
  ·exact (by decide : -2147483648 ≤ (0 : Int) ∧ (0 : Int) ≤ 2147483647)
 unfold okK
 exact decide_eq_true ⟨h0.1, h0.2, h2⟩
theorem txn_ok {s : EyeS} (h : okS s) : okT (eTxn s).1 = true := by
 have o1 := okS_num h
 have o2 := okS_num o1
 have o3 := okS_data o2
 have o4 := okS_list (fun _ => okS_num) o3
 have o5 := okS_list (fun _ => okS_key) o4
 unfold okT
 rw [decide_eq_true (show isI64 (eTxn s).1.f0 from num_i64 h), decide_eq_true (show isI64 (eTxn s).1.f1 from num_i64 o1), show okB (eTxn s).1.f2 = true from data_ok o2]
 have a : okI (eTxn s).1.f3 = true := List.all_eq_true.2 (fun x hx => decide_eq_true (list_ok (P := isI64) (fun s h => ⟨okS_num h, num_i64 h⟩) o3 x hx))
 have b : (eTxn s).1.f4.all okK = true := List.all_eq_true.2 (fun x hx => list_ok (P := fun k => okK k = true) (fun s h => ⟨okS_key h, key_ok h⟩) o4 x hx)
 have c : (eTxn s).1.f5.all okK = true := List.all_eq_true.2 (fun x hx => list_ok (P := fun k => okK k = true) (fun s h => ⟨okS_key h, key_ok h⟩) o5 x hx)
 rw [a, b, c]
 rfl
def okEn (x : EnD) : Prop := okE x.1 x.2.1 x.2.2.1 x.2.2.2 = true
theorem okE_mk {k f n : Int} {l : List TxD} (h0 : isI64 k) (h1 : isI64 f) (h2 : isI64 n) (h3 : ∀ t ∈ l, okT t = true) : okE k f n l = true := by
 unfold okE
 rw [decide_eq_true h0, decide_eq_true h1, decide_eq_true h2, List.all_eq_true.2 h3]
 rfl
theorem entry_ok {s : EyeS} (h : okS s) : okEn (eEntry s).1 := by
 unfold eEntry
 split
 ·exact okE_mk (k := 0) (f := 0) (n := 0) (l := []) (by decide) (by decide) (by decide) (fun t ht => by cases ht)
 ·have o := okS_kind h
  exact okE_mk (k := 1) (by decide) (small_i64 o) (num_i64 (okS_small o)) (list_ok (P := fun t => okT t = true) (fun s h => ⟨okS_txn h, txn_ok h⟩) (okS_num (okS_small o)))
def okTr (x : TrD) : Prop := isI64 x.f0 ∧ okE x.f1.f0 x.f1.f1 x.f1.f2 x.f1.f3 = true
theorem tr_ok {s : EyeS} (h : okS s) : okTr (eTr s).1 := ⟨num_i64 h, entry_ok (okS_num h)⟩
theorem okI3 {a b c : Int} (h0 : isI64 a) (h1 : isI64 b) (h2 : isI64 c) : okI [a, b, c] = true := okI_cons.2 ⟨h0, okI_cons.2 ⟨h1, okI_cons.2 ⟨h2, rfl⟩⟩⟩
theorem okI4 {a b c d : Int} (h0 : isI64 a) (h1 : isI64 b) (h2 : isI64 c) (h3 : isI64 d) : okI [a, b, c, d] = true := okI_cons.2 ⟨h0, okI3 h1 h2 h3⟩
theorem i64_0 : isI64 0 := by decide
theorem zE_ok : okE zE.f0 zE.f1 zE.f2 zE.f3 = true := by decide
theorem okM_zero : OkM zM := ⟨by decide, by decide, by decide, by decide, fun x hx => by cases hx⟩
theorem okM_body (k : Int) (hk : isI64 k) {s : EyeS} (h : okS s) : OkM (mBody eSmall eEntry (eList eTr) k s).1 ∧ isI64 (mBody eSmall eEntry (eList eTr) k s).1.f10.f2 ∧ okB (mBody eSmall eEntry (eList eTr) k s).1.f10.f3 = true := by
 have o1 := okS_small h
 have o2 := okS_small o1
 have a1 := small_i64 h
 have a2 := small_i64 o1
 have a3 := num_i64 o2
 have o3 := okS_num o2
 have a4 := num_i64 o3
 have o4 := okS_num o3
 have a5 := num_i64 o4
 have o5 := okS_num o4
 have a6 := num_i64 o5
 have o6 := okS_num o5
 unfold mBody
 split
 ·exact ⟨⟨okI3 (a := 1) (by decide) a1 a2, okI4 a3 a4 a5 i64_0, okI3 i64_0 i64_0 i64_0, zE_ok, fun x hx => by cases hx⟩, i64_0, rfl⟩
 split
 ·exact ⟨⟨okI3 (a := 2) (by decide) a1 a2, okI4 a3 i64_0 i64_0 i64_0, okI3 i64_0 i64_0 i64_0, zE_ok, fun x hx => by cases hx⟩, i64_0, rfl⟩
 split
 ·exact ⟨⟨okI3 (a := 3) (by decide) a1 a2, okI4 a3 a4 a5 a6, okI3 i64_0 i64_0 i64_0, zE_ok, list_ok (P := okTr) (fun s h => ⟨okS_tr h, tr_ok h⟩) o6⟩, i64_0, rfl⟩
 split
 ·exact ⟨⟨okI3 (a := 4) (by decide) a1 a2, okI4 a3 (num_i64 (okS_yes o3)) i64_0 i64_0, okI3 i64_0 i64_0 i64_0, zE_ok, fun x hx => by cases hx⟩, i64_0, rfl⟩
 split
 ·have o7 := okS_small o6
  exact ⟨⟨okI3 (a := 5) (by decide) a1 a2, okI4 a3 a4 a5 i64_0, okI3 a6 (small_i64 o6) (small_i64 o7), zE_ok, fun x hx => by cases hx⟩, small_i64 o7, data_ok (okS_small o7)⟩
 split
 ·exact ⟨⟨okI3 (a := 6) (by decide) a1 a2, okI4 i64_0 i64_0 i64_0 i64_0, okI3 i64_0 i64_0 i64_0, entry_ok o2, fun x hx => by cases hx⟩, i64_0, rfl⟩
 ·exact ⟨⟨okI3 hk a1 a2, okI4 a3 i64_0 i64_0 i64_0, okI3 i64_0 i64_0 i64_0, zE_ok, fun x hx => by cases hx⟩, i64_0, rfl⟩
theorem okM_eMsg {s : EyeS} (h : okS s) : OkM (eMsg s).1 ∧ isI64 (eMsg s).1.f10.f2 ∧ okB (eMsg s).1.f10.f3 = true := by
 unfold eMsg
 split
 ·exact ⟨okM_zero, i64_0, rfl⟩
 ·exact okM_body _ (num_i64 h) (okS_wrong _ (okS_num h))
end Go.Proofs.YtgiefblcckikeaaGreat.M
end

section
/- Contract of trivet/shape.eight: all eight bytes of a number (what append has not used is noughts). -/
namespace Go.Proofs.YtgiefblcckikeaaGreat.M
open Go.RowKit Go.Proofs.YtgiefblcckikeaaGreatW.PrintWords Go.Proofs.YtgiefblcckikeaaGreatW.PrintLast Go.Proofs.YtgiefblcckikeaaGreatW.PrintMore
def OwnZ (w : World) (base : Nat) (v : Value) (l : List Int) : Prop :=
 (v = .slice none 0 0 ∧ l = []) ∨ ∃ g cap cur, v = .slice (some ⟨g, 0, none⟩) l.length cap ∧ base ≤ g ∧ w.heap[g]? = some (.cells cur 5 (0, 0)) ∧ l.length ≤ cap ∧ cap ≤ maxLen ∧
  cur.toList = l.map (Value.int .u8) ++ List.replicate (cap - l.length) (.int .u8 0)
theorem OwnZ.own {w : World} {base : Nat} {v : Value} {l : List Int} (h : OwnZ w base v l) : w.ownsRow base 5 1 v l.length (l.map (Value.int .u8)) := by
 refine ⟨by simp, ?_⟩
 rcases h with ⟨rfl, rfl⟩ | ⟨g, cap, cur, rfl, h1, h2, h3, h4, h5⟩
 ·exact .inl ⟨rfl, rfl⟩
 ·refine .inr ⟨g, cap, cur, rfl, h1, h2, h3, h4, ?_, ?_⟩
  ·rw [← Array.length_toList, h5]; simp; omega
  ·rw [h5, Nat.mul_one, List.take_left' (by simp)]
theorem zeroCells_toList (n : Nat) : (Builtin.zeroCells #[Value.int .u8 0] n).toList = List.replicate n (.int .u8 0) := by
 refine List.ext_getElem (by simp [Builtin.zeroCells]) (fun i h1 h2 => ?_)
 simp [Builtin.zeroCells, Nat.mod_one]
theorem run_append_z (W : World) (base : Nat) (ty : TypeId) (v : Value) (l : List Int) (h : OwnZ W base v l) (hb : base ≤ W.heap.size) (a : Addr) (c : Nat) (x : Int) (hx : W.cell? a = some (.int .u8 x)) (hl : l.length + 1 ≤ 140737488355328) :
  ∃ v' w', (Builtin.append_ #[23, 23] ty #[v, .slice (some a) 1 c]).run Tryz.prog W = .ok v' w' ∧ OwnZ w' base v' (l ++ [x]) ∧ W.grownBy w' v.ownBlock := by
 obtain ⟨i0, hi, hz0, hz1, hz2⟩ := info_parts infoU8
 have hnews : ∀ j u, [Value.int .u8 x][j]? = some u → W.cell? (a.add j) = some u := by
  intro j u hu
  cases j with
  | zero => simp at hu; subst hu; rw [Addr.add_zero']; exact hx
  | succ j => simp at hu
 have hm : (Value.int .u8 0).cells = #[Value.int .u8 0] := rfl
 rcases h with ⟨rfl, rfl⟩ | ⟨g, cap, cur, rfl, h1, h2, h3, h4, h5⟩
 ·have hr := run_append_nil (P := Tryz.prog) W 23 ty 5 i0 (.int .u8 0) Tryz.underlying23 hi hz0 a 1 c [.int .u8 x] (by rw [hz1]; rfl) hnews (by omega) (by omega) (by rw [hz2]; decide)
  refine ⟨_, _, hr, .inr ⟨W.heap.size, _, _, rfl, hb, heap_alloc_new W.drew _, grownCap_ge W _ _ _, grownCap_le_maxLen W _ _ _ (by decide), ?_⟩, ⟨rfl, rfl, rfl, by simp, fun k hk _ => heap_alloc_old W.drew _ hk⟩⟩
  rw [hm, Array.toList_append, zeroCells_toList]
  rfl
 ·have hlen : cur.size = cap := by rw [← Array.length_toList, h5]; simp; omega
  by_cases hroom : l.length + 1 ≤ cap
  ·have hr := run_append_room (P := Tryz.prog) W 23 ty 5 i0 Tryz.underlying23 hi g l.length cap cur h2 a 1 c [.int .u8 x] (by rw [hz1]; rfl) hnews (by simp [Value.oneCell']) hroom (by rw [hz1, hlen]; simpa using hroom)
   refine ⟨_, _, hr, .inr ⟨g, cap, _, by simp, h1, setRow_heap W g cur _ 5 _ h2, by simpa using hroom, h4, ?_⟩, ⟨rfl, rfl, rfl, by simp, fun k hk hne => setRow_other W g k _ (fun e => hne (by simp [Value.ownBlock, e]))⟩⟩
   rw [hz1, h5, Nat.mul_one]
   rw [List.take_left' (by simp), List.drop_append, List.drop_eq_nil_of_le (by simp)]
   simp only [List.nil_append, List.map_append, List.map_cons, List.map_nil, List.length_append, List.length_map, List.length_cons, List.length_nil, List.drop_replicate]
   congr 2
   omega
  ·have holds : ∀ j u, (l.map (Value.int .u8))[j]? = some u → W.cell? ((⟨g, 0, none⟩ : Addr).add j) = some u := (OwnZ.own (.inr ⟨g, cap, cur, rfl, h1, h2, h3, h4, h5⟩)).cells (g := g) rfl
   have hr := run_append_grow (P := Tryz.prog) W 23 ty 5 i0 (.int .u8 0) Tryz.underlying23 hi hz0 ⟨g, 0, none⟩ l.length cap (l.map (Value.int .u8)) (by rw [hz1]; simp) holds a 1 c [.int .u8 x] (by rw [hz1]; rfl) hnews (by omega) (by omega) (by rw [hz2]; exact growslice_fits (by omega) (by omega))
   refine ⟨_, _, hr, .inr ⟨W.heap.size, grownCap W (l.length + 1) cap 5, _, by simp, hb, heap_alloc_new W.drew _, by simpa using grownCap_ge W (l.length + 1) cap 5, grownCap_le_maxLen W _ _ _ (by unfold maxLen; omega), ?_⟩, ⟨rfl, rfl, rfl, by simp, fun k hk _ => heap_alloc_old W.drew _ hk⟩⟩
   rw [hm]
   simp only [Array.toList_append, zeroCells_toList]
   simp
theorem OwnZ.alloc {W : World} {base : Nat} {v : Value} {l : List Int} (h : OwnZ W base v l) (o : Obj) : OwnZ (W.alloc o) base v l := by
 rcases h with h | ⟨g, cap, cur, h0, h1, h2, h3⟩
 ·exact .inl h
 ·exact .inr ⟨g, cap, cur, h0, h1, (heap_alloc_old W o (Array.getElem?_eq_some_iff.1 h2).1).trans h2, h3⟩
theorem wpList_append_z {ops : Array Oper} {rest : List Oper} {o : Oper} {a : Act} {Q : Exit → Act → World → Prop} {W : World} (base : Nat) (hgd : o.guard = none) (s x : Operand)
  (ho : o.op = .call { callee := .builtin .append, args := #[s, x], argTypes := #[23, 23] })
  (v : Value) (l : List Int) (y : Int) (hs : a.eval s = v) (hx : a.eval x = .slice (some ⟨W.heap.size, 0, none⟩) 1 1) (HO : OwnZ W base v l) (hb : base ≤ W.heap.size) (hl : l.length + 1 ≤ 140737488355328)
  (h : ∀ v' w', OwnZ w' base v' (l ++ [y]) → (W.alloc (.cells #[.int .u8 y] 5)).grownBy w' v.ownBlock → wpList Tryz.prog ops Q rest (a.put o.dst v') w') :
  wpList Tryz.prog ops Q (o :: rest) a (W.alloc (.cells #[.int .u8 y] 5)) := by
 refine wpList_plain hgd fun _ hK => ?_
 obtain ⟨v', w', hr, h2, h3⟩ := run_append_z (W.alloc (.cells #[.int .u8 y] 5)) base o.type v l (HO.alloc _) (by simp; omega) ⟨W.heap.size, 0, none⟩ 1 y (by simp) hl
 unfold Oper.wp execOp
 simp only [ho, resolve, invoke, builtin, Sem.run_bind, Sem.run_pure, Result.andThen_ok, List.map_toArray, List.map_cons, List.map_nil, hs, hx, hr]
 exact hK _ _ (h v' w' h2 h3)
theorem OwnZ.form {W : World} {base : Nat} {v : Value} {l : List Int} (h : OwnZ W base v l) : ∃ A n c, v = .slice A n c := by
 rcases h with ⟨rfl, _⟩ | ⟨g, cap, cur, rfl, _⟩
 ·exact ⟨_, _, _, rfl⟩
 ·exact ⟨_, _, _, rfl⟩
theorem OwnZ.lo {W : World} {base : Nat} {v : Value} {l : List Int} (h : OwnZ W base v l) (k : Nat) (hk : v.ownBlock = some k) : base ≤ k := by
 rcases h with ⟨rfl, _⟩ | ⟨g, cap, cur, rfl, h1, _⟩
 ·simp [Value.ownBlock] at hk
 ·simp [Value.ownBlock] at hk; omega
set_option maxHeartbeats 1000000 in
theorem low_z (n : Nat) (hn : n < 256 ^ 8) (w : World) :
  Calls Tryz.prog 152 #[.int .u64 (n : Int)] w fun e w' => ∃ v, e = .returned v ∧ OwnZ w' w.heap.size v (lowB n) ∧ Below w.heap.size w w' := by
 have HN := Aside0.mk (lowB_len n 8 hn)
 have HNN := Aside0.mk hn
 clear hn
 go_enter Tryz.func152, Tryz.ntmps152
 go_wp2
 go_loopw [0, 3] (fun u v wr => ∃ (m : Nat) (acc : List Int) (Av : Option Addr) (nv cv : Nat), u = .int .u64 (m : Int) ∧ v = .slice Av nv cv ∧ Aside0 (m < 256 ^ 8) ∧ Aside0 (Below w.heap.size w wr) ∧ Aside0 (acc ++ lowB m = lowB n) ∧ Aside0 (OwnZ wr w.heap.size (.slice Av nv cv) acc)) (fun u _ _ => (intOf u).toNat)
 case atStart => exact ⟨n, [], none, 0, 0, rfl, rfl, ⟨HNN.out⟩, ⟨Below.refl _ _⟩, ⟨rfl⟩, ⟨.inl ⟨rfl, rfl⟩⟩⟩
 case round =>
  obtain ⟨m, acc, Av, nv, cv, rfl, rfl, hm, HB, HA, HO⟩ := hrel
  by_cases h0 : 0 < m
  ·have hacc : acc.length + 1 ≤ 8 := by
    have h1 := HN.out
    rw [← HA.out, lowB_pos (by omega)] at h1
    simp at h1; omega
   have h0' : (0 : Int) < (m : Int) := by omega
   go_wp2_with ((with_reducible refine gate_builtin (b := .append) (xs := #[.tmp 8, .tmp 11]) rfl ?_); at_builtin; refine wpList_append_z w.heap.size rfl (.tmp 8) (.tmp 11) rfl _ acc ((m : Int) % 256) rfl rfl HO.out HB.out.size (by omega) ?_; intro v' w' ho hg)
   go_roundw
   case rel =>
    obtain ⟨A2, n2, c2, rfl⟩ := ho.form
    refine ⟨m / 256, acc ++ [(m : Int) % 256], A2, n2, c2, by go_num, rfl, ⟨by have := hm.out; omega⟩, ⟨(HB.out.alloc HB.out.size _).grown hg (by have := HB.out.size; simp; omega) (fun k hk => HO.out.lo k hk)⟩, ⟨?_⟩, ⟨ho⟩⟩
    rw [← HA.out, lowB_pos (n := m) (by omega)]
    simp
   case measure => simp [intOf]; omega
  ·obtain rfl : m = 0 := by omega
   have HZ := Aside0.mk (show acc = lowB n by have := HA.out; rw [lowB_zero, List.append_nil] at this; exact this)
   go_wp2
   go_ret
   exact ⟨_, rfl, by rw [← HZ.out]; exact HO.out, HB.out⟩
def pad8 (l : List Int) : List Int := l ++ List.replicate (8 - l.length) 0
theorem OwnZ.full {w : World} {base g n cap : Nat} {l : List Int} (h : OwnZ w base (.slice (some ⟨g, 0, none⟩) n cap) l) (m : Nat) (hm : l.length ≤ m) (hc : m ≤ cap) : Own w base (.slice (some ⟨g, 0, none⟩) m cap) (l ++ List.replicate (m - l.length) 0) := by
 rcases h with ⟨h, _⟩ | ⟨g', cap', cur, h0, h1, h2, h3, h4, h5⟩
 ·cases h
 ·simp only [Value.slice.injEq, Option.some.injEq, Addr.mk.injEq, and_true] at h0
  obtain ⟨rfl, _, rfl⟩ := h0
  refine Kd.R_of_own (enc := Value.int .u8) ?_ (fun _ _ => trivial)
  have hl : (l ++ List.replicate (m - l.length) (0 : Int)).length = m := by simp; omega
  refine ⟨by simp [encs], .inr ⟨g, cap, cur, by rw [hl], h1, h2, by omega, h4, ?_, ?_⟩⟩
  ·rw [← Array.length_toList, h5]; simp; omega
  ·rw [h5, hl, Nat.mul_one, List.take_append, List.length_map, List.take_of_length_le (by simp; omega), List.take_replicate]
   simp only [encs, List.map_append, List.map_replicate]
   congr 2
   omega
theorem own_form8 {w : World} {base : Nat} {v : Value} {l : List Int} (h : Own w base v l) (hl : l.length = 8) : ∃ g cap, v = .slice (some ⟨g, 0, none⟩) 8 cap ∧ 8 ≤ cap := by
 obtain ⟨A, c, e, hc, _⟩ := Kd.R_reads h
 obtain ⟨g, cap, e2, _⟩ := Kd.R_form h (by omega)
 rw [hl] at e2 hc e
 refine ⟨g, cap, e2, ?_⟩
 rw [e] at e2
 injection e2 with _ _ e3
 omega
theorem own_form8' {w : World} {base : Nat} {v : Value} {l : List Int} (h : Own w base v (l ++ List.replicate 8 0)) (hl : l.length ≤ 8) : ∃ g cap, v = .slice (some ⟨g, 0, none⟩) (l.length + 8) cap ∧ l.length + 8 ≤ cap ∧ Own w base (.slice (some ⟨g, 0, none⟩) 8 cap) (pad8 l) := by
 obtain ⟨A, c, e, hc, _⟩ := Kd.R_reads h
 obtain ⟨g, cap, e2, _⟩ := Kd.R_form h (by simp)
 have hlen : (l ++ List.replicate 8 (0 : Int)).length = l.length + 8 := by simp
 rw [hlen] at e2 hc e
 subst e2
 injection e with e1 _ e3
 refine ⟨g, cap, rfl, by omega, ?_⟩
 have ht := Kd.R_take (m := 8) h (by omega)
 have hp : (l ++ List.replicate 8 (0 : Int)).take 8 = pad8 l := by
  unfold pad8
  rw [List.take_append, List.take_of_length_le hl, List.take_replicate]
  congr 2; omega
 rw [hp] at ht
 exact ht
set_option maxHeartbeats 1000000 in
theorem grow8 (v : Value) (l : List Int) (base : Nat) (w : World) (h : OwnZ w base v l) (hl : l.length ≤ 8) (hb : base ≤ w.heap.size) :
  Calls Tryz.prog 151 #[v, .int .i64 8] w fun e w' => ∃ g cap, e = .returned (.slice (some ⟨g, 0, none⟩) l.length cap) ∧ 8 ≤ cap ∧ Own w' base (.slice (some ⟨g, 0, none⟩) 8 cap) (pad8 l) ∧ Below base w w' := by
 rcases h with ⟨rfl, rfl⟩ | ⟨g, cap, cur, rfl, h1, h2, h3, h4, h5⟩
 ·go_enter Tryz.func151, Tryz.ntmps151
  go_wp2_with ((with_reducible refine gate_builtin (b := .append) (xs := #[.tmp 20, .tmp 21]) rfl ?_); at_builtin; refine Kd.R_append_zeros (Kd.int .u8) (w0 := w) base rfl (.tmp 20) (.tmp 21) 23 3 5 (.int .u8 0) 1 rfl Tryz.underlying23 Tryz.underlying3 infoU8 rfl (by decide) (by decide) (.slice none 0 0) [] 0 8 (fun _ => True) rfl rfl rfl (fun _ _ => trivial) (Kd.R_nil _ _ _ _ _) (by decide) (Below.refl _ _) hb (by decide) ?_; intro v1 w1 ho hbl _ _; obtain ⟨g, cap, hv1, hc1⟩ := own_form8 ho (by simp); subst hv1)
  go_ret
  exact ⟨g, cap, rfl, hc1, ho, hbl⟩
 ·have HZ : OwnZ w base (.slice (some ⟨g, 0, none⟩) l.length cap) l := .inr ⟨g, cap, cur, rfl, h1, h2, h3, h4, h5⟩
  have hcm : (cap : Int) ≤ 9223372036854775807 := by unfold maxLen at h4; omega
  clear h1 h2 h4 h5
  by_cases hr : 8 ≤ cap - l.length
  ·have HO := Aside0.mk (HZ.full 8 (by omega) (by omega))
   have hr' : ¬ (0 : Int) < 8 - ((cap : Int) - (l.length : Int)) := by omega
   have hr2 : decide ((0 : Int) < 8 - ((cap : Int) - (l.length : Int))) = false := decide_eq_false hr'
   clear HZ
   go_enter Tryz.func151, Tryz.ntmps151
   go_wp2
   go_ret
   exact ⟨g, cap, rfl, by omega, HO.out, Below.refl _ _⟩
  ·have HO := Aside0.mk (HZ.full cap (by omega) (Nat.le_refl _))
   have hr' : (0 : Int) < 8 - ((cap : Int) - (l.length : Int)) := by omega
   have HE := Aside0.mk (show l ++ List.replicate (cap - l.length) (0 : Int) ++ List.replicate (8 - ((cap : Int) - (l.length : Int))).toNat 0 = l ++ List.replicate 8 0 by
    rw [List.append_assoc, List.replicate_append_replicate]; congr 2; omega)
   have hcl : (l ++ List.replicate (cap - l.length) (0 : Int)).length = cap := by simp; omega
   have HCL := Aside0.mk hcl
   clear HZ hcl
   go_enter Tryz.func151, Tryz.ntmps151
   go_wp2_with ((with_reducible refine gate_builtin (b := .append) (xs := #[.tmp 20, .tmp 21]) rfl ?_); at_builtin; refine Kd.R_append_zeros (Kd.int .u8) (w0 := w) base rfl (.tmp 20) (.tmp 21) 23 3 5 (.int .u8 0) 1 rfl Tryz.underlying23 Tryz.underlying3 infoU8 rfl (by decide) (by decide) _ _ 0 (8 - ((cap : Int) - (l.length : Int))) (fun _ => True) rfl rfl rfl (fun _ _ => trivial) HO.out (by omega) (Below.refl _ _) hb (by rw [HCL.out]; omega) ?_; intro v1 w1 ho hbl _ _; rw [HE.out] at ho; obtain ⟨g2, cap2, hv1, hc1, ho2⟩ := own_form8' ho hl; clear ho; subst hv1)
   go_ret
   exact ⟨g2, cap2, rfl, by omega, ho2, hbl⟩
def eightB (u : Nat) : List Int := pad8 (lowB u)
theorem eight_calls (u : Nat) (hu : u < 256 ^ 8) (w : World) :
  Calls Tryz.prog 102 #[.int .u64 (u : Int)] w fun e w' => ∃ v0_, e = .returned v0_ ∧ Own w' w.heap.size v0_ (eightB u) ∧ Below w.heap.size w w' := by
 have HL := Aside0.mk (lowB_len u 8 hu)
 have HU := Aside0.mk hu
 clear hu
 go_enter Tryz.func102, Tryz.ntmps102
 go_wp2_with fail
 refine (low_z u HU.out w).mono ?_
 rintro e w1 ⟨v, rfl, ho, hb⟩
 have HO := Aside0.mk ho
 have HB := Aside0.mk hb
 clear ho hb
 go_wp2_with fail
 refine (grow8 v (lowB u) w.heap.size w1 HO.out HL.out HB.out.size).mono ?_
 rintro e w2 ⟨g, cap, rfl, hc, ho2, hb2⟩
 have HO2 := Aside0.mk ho2
 have HB2 := Aside0.mk hb2
 have hc' : (8 : Int) ≤ (cap : Int) := by omega
 have hll := HL.out
 clear ho2 hb2
 go_wp2
 go_ret
 exact ⟨_, rfl, HO2.out, HB.out.trans HB2.out⟩
end Go.Proofs.YtgiefblcckikeaaGreat.M
namespace Go.Proofs.YtgiefblcckikeaaGreat.G
open Go.RowKit Go.Proofs.YtgiefblcckikeaaGreatW.PrintWords Go.Proofs.YtgiefblcckikeaaGreat.M
def shape_eight.f (a0 : Int) : Option (List Int) := if 0 ≤ a0 ∧ a0 ≤ 18446744073709551615 then some (eightB a0.toNat) else none
theorem shape_eight.calls (a0 : Int) (r : List Int) (w : World) (h : shape_eight.f a0 = some r) :
  Calls Tryz.prog 102 #[.int .u64 a0] w fun e w' => ∃ v0_ : Value, e = .returned (v0_) ∧ Kd.R (Kd.int .u8) 5 w' w.heap.size (fun _ => True) v0_ r ∧ Below w.heap.size w w' := by
 unfold shape_eight.f at h
 split at h
 ·rename_i hh
  obtain rfl := Option.some.inj h
  have := eight_calls a0.toNat (by omega) w
  rwa [show ((a0.toNat : Nat) : Int) = a0 from by omega] at this
 ·cases h
end Go.Proofs.YtgiefblcckikeaaGreat.G
end

section
-- Written by a program of this session's (wip/gprint.py over the kit's printer).
namespace Go.Proofs.YtgiefblcckikeaaGreat.G
open Go.RowKit Go.Proofs.YtgiefblcckikeaaGreatW.PrintWords Go.Proofs.YtgiefblcckikeaaGreatW.PrintLast Go.Proofs.YtgiefblcckikeaaGreatW.PrintMore
attribute [local go_sem] max2_int min2_int max_two min_two max_three min_three max_four min_four   -- for this text's walks alone
end Go.Proofs.YtgiefblcckikeaaGreat.G
end
