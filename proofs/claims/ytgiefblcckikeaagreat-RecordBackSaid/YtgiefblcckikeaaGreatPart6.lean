/- RecordBackSaid: contracts of the functions that the law goes through, put together in build order (part 7 of 7). -/
import Derived.Test.YtgiefblcckikeaaGreatPart5
import Derived.Laws.BitsAllLaws
set_option linter.unusedVariables false
set_option linter.unusedSimpArgs false
set_option maxRecDepth 100000
section
/- What is written is read as it was, and what is read is written as it stood. In plain Lean. -/
namespace Go.Proofs.YtgiefblcckikeaaGreat.M
open Go.RowKit Go.Proofs.YtgiefblcckikeaaGreatW.PrintWords Go.Proofs.YtgiefblcckikeaaGreatW.PrintLast Go.Proofs.YtgiefblcckikeaaGreatW.PrintMore Go.Proofs.YtgiefblcckikeaaGreat.G
structure Cod {α : Type} (g : EyeS → α × EyeS) (f : α → List Int) (P : α → Prop) : Prop where
 st : ∀ s : EyeS, ¬ s.e = 0 → (g s).2.e = s.e
 mo : ∀ s : EyeS, s.o = true → (g s).2.o = true
 fw : ∀ (x : α) (r : List Int) (o : Bool), P x → g ⟨f x ++ r, 0, o⟩ = (x, ⟨r, 0, o⟩)
 bk : ∀ s : EyeS, okB s.l = true → (g s).2.e = 0 → (g s).2.o = false → f (g s).1 ++ (g s).2.l = s.l
section
variable {α β γ : Type} {g : EyeS → α × EyeS} {k : EyeS → β × EyeS} {f : α → List Int} {q : β → List Int} {P : α → Prop} {Q : β → Prop}
theorem Cod.e (h : Cod g f P) {s : EyeS} (he : (g s).2.e = 0) : s.e = 0 := by
 by_cases hs : s.e = 0
 ·exact hs
 ·exact absurd ((h.st s hs).symm.trans he) hs
theorem Cod.o (h : Cod g f P) {s : EyeS} (he : (g s).2.o = false) : s.o = false := by
 cases hs : s.o with
 | false => rfl
 | true => rw [h.mo s hs] at he; exact he
theorem Cod.okB (h : Cod g f P) {s : EyeS} (hb : okB s.l = true) (he : (g s).2.e = 0) (ho : (g s).2.o = false) : M.okB (g s).2.l = true := by
 have := h.bk s hb he ho
 rw [← this, okB_app, Bool.and_eq_true] at hb
 exact hb.2
theorem Cod.pr (h : Cod g f P) (z : Cod k q Q) : Cod (PR g k) (fun x => f x.1 ++ q x.2) (fun x => P x.1 ∧ Q x.2) where
 st s hs := (z.st _ (by rw [h.st s hs]; exact hs)).trans (h.st s hs)
 mo s hs := z.mo _ (h.mo s hs)
 fw x r o hx := by
  unfold PR
  rw [List.append_assoc, h.fw x.1 _ o hx.1]
  dsimp only
  rw [z.fw x.2 r o hx.2]
 bk s hb he ho := by
  have h1 : (g s).2.e = 0 := z.e he
  have h2 : (g s).2.o = false := z.o ho
  have h3 := z.bk (g s).2 (h.okB hb h1 h2) he ho
  have h4 := h.bk s hb h1 h2
  show (f (g s).1 ++ q (k (g s).2).1) ++ (k (g s).2).2.l = s.l
  rw [List.append_assoc, h3, h4]
theorem Cod.fm (h : Cod g f P) (F : α → γ) (f' : γ → List Int) (P' : γ → Prop) (inv : γ → α) (h1 : ∀ y, P' y → P (inv y) ∧ F (inv y) = y) (h2 : ∀ x, f' (F x) = f x) : Cod (FM F g) f' P' where
 st := h.st
 mo := h.mo
 fw y r o hy := by
  obtain ⟨a, b⟩ := h1 y hy
  have := h.fw (inv y) r o a
  rw [← h2, b] at this
  show (F (g ⟨f' y ++ r, 0, o⟩).1, (g ⟨f' y ++ r, 0, o⟩).2) = _
  rw [this, b]
 bk s hb he ho := by
  show f' (F (g s).1) ++ _ = _
  rw [h2]
  exact h.bk s hb he ho
end
theorem cod_num : Cod eNum numB isI64 where
 st s hs := (sim_num.st s hs).2
 mo := sim_num.mo
 fw x r o hx := by
  obtain ⟨a, b, c⟩ := form_back hx r
  unfold eNum takeNum
  rw [if_pos rfl]
  dsimp only
  rw [if_pos a, b, c]
  dsimp only
  rw [Int.toNat_natCast, List.drop_left]
 bk s hb he ho := by
  have hs : s.e = 0 := by
   by_cases hs : s.e = 0
   ·exact hs
   ·exact absurd ((sim_num.st s hs).2.symm.trans he) hs
  unfold eNum at he ⊢
  rw [if_pos hs] at he ⊢
  dsimp only at he ⊢
  unfold takeNum at he ⊢
  by_cases hk : tkE s.l = 0
  ·rw [if_pos hk]
   dsimp only
   rw [(form_one hb hk).1, List.take_append_drop]
  ·rw [if_neg hk] at he
   exact absurd he hk
theorem eSmall_o {s : EyeS} (h : (eSmall s).2.o = false) : eSmall s = eNum s := by
 unfold eSmall at h ⊢
 split
 ·rfl
 ·next hn => rw [if_neg hn] at h; cases h
def sm32 (x : Int) : Prop := -2147483648 ≤ x ∧ x ≤ 2147483647
theorem cod_small : Cod eSmall numB sm32 where
 st s hs := (sim_small0.st s hs).2
 mo := sim_small0.mo
 fw x r o hx := by
  have h := cod_num.fw x r o (by unfold sm32 at hx; unfold isI64; omega)
  unfold eSmall
  rw [h]
  dsimp only
  rw [if_pos]
  unfold sm32 at hx
  rw [IntKind.wrap_i32]
  omega
 bk s hb he ho := by
  have e := eSmall_o ho
  rw [e] at he ho ⊢
  exact cod_num.bk s hb he ho
theorem cod_data : Cod eData (fun l => numB l.length ++ l) (fun l => l.length ≤ 1000000) where
 st s hs := (sim_data.st s hs).2
 mo := sim_data.mo
 fw x r o hx := by
  have hi : isI64 (x.length : Int) := by unfold isI64; omega
  obtain ⟨a, b, c⟩ := form_back hi (x ++ r)
  have hn := (numB_len hi).1
  have e1 : blHi (numB x.length ++ (x ++ r)) = (((numB (x.length : Int)).length + x.length : Nat) : Int) := by unfold blHi; rw [b, c]; omega
  have e2 : blLo (numB x.length ++ (x ++ r)) = ((numB (x.length : Int)).length : Int) := c
  have e3 : blE (numB x.length ++ (x ++ r)) big62 0 = 0 := by
   unfold blE
   rw [if_neg (by simp [a]), b, c, if_neg (by omega), if_neg (by unfold big62; omega), if_neg (by simp; omega)]
  have e4 : blD (numB x.length ++ (x ++ r)) = x := by
   unfold blD
   rw [e1, e2, Int.toNat_natCast, Int.toNat_natCast, ← List.append_assoc, ← List.length_append, List.take_left, List.drop_left]
  unfold eData
  rw [if_pos rfl]
  dsimp only
  rw [List.append_assoc]
  unfold takeBlob
  rw [if_pos e3, e1, e4]
  dsimp only
  rw [Int.toNat_natCast, ← List.append_assoc, ← List.length_append, List.drop_left]
 bk s hb he ho := by
  have hs : s.e = 0 := by
   by_cases hs : s.e = 0
   ·exact hs
   ·exact absurd ((sim_data.st s hs).2.symm.trans he) hs
  unfold eData at he ⊢
  rw [if_pos hs] at he ⊢
  dsimp only at he ⊢
  unfold takeBlob at he ⊢
  by_cases hk : blE s.l big62 0 = 0
  ·rw [if_pos hk]
   dsimp only
   obtain ⟨g1, g2, g3, g4, g5, g6⟩ := blE_good hk
   have hl : ((blD s.l).length : Int) = tkN s.l := by
    unfold blD
    rw [List.length_drop, List.length_take]
    unfold blHi blLo at *
    omega
   have h1 := (form_one hb g1).1
   rw [hl, h1]
   unfold blD
   have : s.l.take (tkS s.l).toNat = (s.l.take (blHi s.l).toNat).take (blLo s.l).toNat := by
    rw [List.take_take]
    congr 1
    unfold blHi blLo at *
    omega
   rw [this, List.take_append_drop, List.take_append_drop]
  ·rw [if_neg hk] at he
   exact absurd he hk
section
variable {α : Type} {g : EyeS → α × EyeS} {f : α → List Int} {P : α → Prop}
theorem many_fw (h : Cod g f P) : ∀ (l : List α) (r : List Int) (o : Bool), (∀ x ∈ l, P x) → eMany g l.length ⟨l.flatMap f ++ r, 0, o⟩ = (l, ⟨r, 0, o⟩)
 | [], r, o, _ => rfl
 | x :: l, r, o, hp => by
  rw [List.length_cons, List.flatMap_cons, List.append_assoc]
  unfold eMany
  rw [if_pos rfl, h.fw x _ o (hp x List.mem_cons_self)]
  dsimp only
  rw [many_fw h l r o (fun y hy => hp y (List.mem_cons_of_mem _ hy))]
theorem many_bk (h : Cod g f P) : ∀ (n : Nat) (s : EyeS), okB s.l = true → s.e = 0 → (eMany g n s).2.e = 0 → (eMany g n s).2.o = false → (eMany g n s).1.flatMap f ++ (eMany g n s).2.l = s.l ∧ (eMany g n s).1.length = n ∧ s.o = false
 | 0, s, hb, hs, he, ho => ⟨rfl, rfl, ho⟩
 | n + 1, s, hb, hs, he, ho => by
  unfold eMany at he ho ⊢
  rw [if_pos hs] at he ho ⊢
  dsimp only at he ho ⊢
  by_cases h1 : (g s).2.e = 0
  ·cases h2 : (g s).2.o with
   | true => exact absurd ((many_mo h n _ h2).symm.trans ho) (by simp)
   | false =>
    obtain ⟨a, b, _⟩ := many_bk h n (g s).2 (h.okB hb h1 h2) h1 he ho
    rw [List.flatMap_cons, List.append_assoc, a, List.length_cons, b]
    exact ⟨h.bk s hb h1 h2, rfl, h.o h2⟩
  ·rw [eMany_stop h1] at he
   exact absurd he h1
where
 many_mo (h : Cod g f P) : ∀ (n : Nat) (s : EyeS), s.o = true → (eMany g n s).2.o = true
  | 0, s, hs => hs
  | n + 1, s, hs => by
   unfold eMany
   split
   ·exact many_mo h n _ (h.mo s hs)
   ·exact hs
theorem eCount_cases (s : EyeS) : ((eCount s).e = 0 ∧ eCount s = (eNum s).2 ∧ 0 ≤ (eNum s).1 ∧ (eNum s).1 ≤ 4096) ∨ (¬ (eCount s).e = 0) := by
 unfold eCount eWrong
 by_cases he : (eNum s).2.e = 0
 ·by_cases hn : (eNum s).1 < 0 ∨ 4096 < (eNum s).1
  ·right
   rw [if_pos ⟨he, by simpa using hn⟩]
   simp
  ·left
   rw [if_neg (fun c => hn (by simpa using c.2))]
   exact ⟨he, rfl, by omega, by omega⟩
 ·right
  rw [if_neg (fun c => he c.1)]
  exact he
theorem cod_list (h : Cod g f P) : Cod (eList g) (fun l => numB l.length ++ l.flatMap f) (fun l => l.length ≤ 4096 ∧ ∀ x ∈ l, P x) where
 st s hs := by
  have h1 : (eNum s).2.e = s.e := (sim_num.st s hs).2
  have h2 : eCount s = (eNum s).2 := by unfold eCount; exact eWrong_st _ (by rw [h1]; exact hs)
  unfold eList
  rw [eMany_stop (by rw [h2, h1]; exact hs), h2, h1]
 mo s hs := by
  unfold eList
  exact many_bk.many_mo h _ _ (by rw [eCount_o]; exact hs)
 fw x r o hx := by
  have hn := cod_num.fw (x.length : Int) (x.flatMap f ++ r) o (by unfold isI64; omega)
  rw [← List.append_assoc] at hn
  unfold eList eCount eWrong
  rw [hn]
  dsimp only
  rw [if_neg (fun c => by have := c.2; simp at this; omega), Int.toNat_natCast]
  exact many_fw h x r o hx.2
 bk s hb he ho := by
  unfold eList at he ho ⊢
  rcases eCount_cases s with ⟨h1, h2, h3, h4⟩ | h1
  ·rw [h2] at he ho h1 ⊢
   have h5 : (eNum s).2.o = false := by
    cases h5 : (eNum s).2.o with
    | false => rfl
    | true => rw [many_bk.many_mo h _ _ h5] at ho; exact ho
   obtain ⟨a, b, c⟩ := many_bk h (eNum s).1.toNat (eNum s).2 (cod_num.okB hb h1 h5) h1 he ho
   rw [b, List.append_assoc, a, show (((eNum s).1.toNat : Nat) : Int) = (eNum s).1 by omega]
   exact cod_num.bk s hb h1 h5
  ·rw [eMany_stop h1] at he
   exact absurd he h1
end
theorem okK_parts {x : KeyD} (h : okK x = true) : sm32 x.f0 ∧ isI64 x.f1 := by
 have := of_decide_eq_true h
 exact ⟨⟨this.1, this.2.1⟩, this.2.2⟩
theorem cod_key : Cod eKey keyB (fun x => okK x = true) :=
 (cod_small.pr cod_num).fm (fun x : Int × Int => (⟨x.1, x.2⟩ : KeyD)) keyB (fun x => okK x = true) (fun y => (y.f0, y.f1)) (fun y hy => ⟨okK_parts hy, rfl⟩) (fun x => by simp [keyB, numsB])
theorem cod_txn : Cod eTxn txB TxP1 :=
 (cod_num.pr (cod_num.pr (cod_data.pr ((cod_list cod_num).pr ((cod_list cod_key).pr (cod_list cod_key)))))).fm txW txB TxP1 (fun t => (t.f0, t.f1, t.f2, t.f3, t.f4, t.f5))
  (fun t ht => by
   obtain ⟨a0, a1, a2, a3, a4, a5⟩ := okT_all ht.1
   obtain ⟨b2, b3, b4, b5⟩ := mayT_len ht.2
   exact ⟨⟨a0, a1, (by show t.f2.length ≤ 1000000; omega), ⟨(by show t.f3.length ≤ 4096; omega), a3⟩, ⟨(by show t.f4.length ≤ 4096; omega), a4⟩, ⟨(by show t.f5.length ≤ 4096; omega), a5⟩⟩, rfl⟩)
  (fun x => by simp [txB, numsB, keysB, List.append_assoc])
def EnG (x : EnD) : Prop := okE x.1 x.2.1 x.2.2.1 x.2.2.2 = true ∧ mayE x.1 x.2.1 x.2.2.1 x.2.2.2 = true
abbrev boB (x : EnD) : List Int := numsB [x.2.1, x.2.2.1] ++ numB x.2.2.2.length ++ x.2.2.2.flatMap txB
abbrev enB (x : EnD) : List Int := entB x.1 x.2.1 x.2.2.1 x.2.2.2
theorem in04 {x : Int} (h : inB 0 4 [x] = true) : sm32 x := by
 unfold inB at h
 simp at h
 unfold sm32
 omega
theorem cod_bentry : Cod (bEntry eSmall) boB (fun x => x.1 = 1 ∧ EnG x) :=
 (cod_small.pr (cod_num.pr (cod_list cod_txn))).fm _ boB _ (fun y => (y.2.1, y.2.2.1, y.2.2.2))
  (fun y hy => by
   obtain ⟨y0, y1, y2, y3⟩ := y
   obtain ⟨h0, h1, h2⟩ := hy
   dsimp only at h0 h1 h2
   subst h0
   obtain ⟨_, _, a2, a3⟩ := okE_all h1
   have h2' := h2
   unfold mayE at h2'
   rw [if_neg (by decide)] at h2'
   simp only [Bool.and_eq_true] at h2'
   rcases mayE_parts h2 with h | h
   ·exact absurd h.1 (by decide)
   ·exact ⟨⟨in04 h2'.2.1, a2, (by show y3.length ≤ 4096; omega), fun t ht => ⟨a3 t ht, h.2.2 t ht⟩⟩, rfl⟩)
  (fun x => by simp [boB, numsB, List.append_assoc])
theorem eKind_cases (s : EyeS) : ((eKind s).e = 0 ∧ eKind s = (eNum s).2 ∧ ((eNum s).1 = 0 ∨ (eNum s).1 = 1)) ∨ (¬ (eKind s).e = 0) := by
 unfold eKind eWrong
 by_cases he : (eNum s).2.e = 0
 ·by_cases hn : (eNum s).1 = 0 ∨ (eNum s).1 = 1
  ·left
   rw [if_neg (fun c => by have := c.2; simp at this; rcases hn with h | h <;> omega)]
   exact ⟨he, rfl, hn⟩
  ·right
   rw [if_pos ⟨he, by simp; omega⟩]
   simp
 ·right
  rw [if_neg (fun c => he c.1)]
  exact he
theorem eKind_st (s : EyeS) (hs : ¬ s.e = 0) : (eKind s).e = s.e := by
 have h1 : (eNum s).2.e = s.e := (sim_num.st s hs).2
 unfold eKind
 rw [eWrong_st _ (by rw [h1]; exact hs), h1]
theorem cod_entry : Cod eEntry enB EnG where
 st s hs := by
  unfold eEntry
  rw [if_pos (.inl (by rw [eKind_st s hs]; exact hs))]
  exact eKind_st s hs
 mo := sim_entry.mo
 fw x r o hx := by
  obtain ⟨y0, y1, y2, y3⟩ := x
  obtain ⟨h1, h2⟩ := hx
  dsimp only at h1 h2
  rcases mayE_parts h2 with ⟨rfl, rfl, rfl, rfl⟩ | h
  ·have hn := cod_num.fw 0 r o (by decide)
   have e : enB (0, 0, 0, []) = numB 0 := rfl
   rw [e]
   have hk : eKind ⟨numB 0 ++ r, 0, o⟩ = ⟨r, 0, o⟩ := by
    unfold eKind eWrong
    rw [hn]
    rfl
   unfold eEntry
   rw [if_pos (.inr (by rw [hn])), hk]
  ·obtain ⟨rfl, ha, hb⟩ := h
   have e : enB (1, y1, y2, y3) ++ r = numB 1 ++ (boB (1, y1, y2, y3) ++ r) := by simp [enB, entB, boB, List.append_assoc]
   have hn := cod_num.fw 1 (boB (1, y1, y2, y3) ++ r) o (by decide)
   rw [e]
   have hk : eKind ⟨numB 1 ++ (boB (1, y1, y2, y3) ++ r), 0, o⟩ = ⟨boB (1, y1, y2, y3) ++ r, 0, o⟩ := by
    unfold eKind eWrong
    rw [hn]
    rfl
   unfold eEntry
   rw [if_neg (by rw [hk, hn]; simp), hk, eBody_b]
   exact cod_bentry.fw (1, y1, y2, y3) r o ⟨rfl, h1, h2⟩
 bk s hb he ho := by
  unfold eEntry at he ho ⊢
  rcases eKind_cases s with ⟨h1, h2, h3 | h3⟩ | h1
  ·rw [if_pos (.inr h3)] at he ho ⊢
   dsimp only at he ho ⊢
   rw [h2] at ho h1 ⊢
   have := cod_num.bk s hb h1 ho
   rw [h3] at this
   exact this
  ·have hc : ¬ (¬ (eKind s).e = 0 ∨ (eNum s).1 = 0) := by omega
   rw [if_neg hc] at he ho ⊢
   rw [eBody_b] at he ho ⊢
   rw [h2] at he ho h1 ⊢
   have h5 := cod_bentry.o ho
   have := cod_bentry.bk (eNum s).2 (cod_num.okB hb h1 h5) he ho
   have h6 := cod_num.bk s hb h1 h5
   rw [h3, ← this] at h6
   have e : ∀ x : EnD, x.1 = 1 → enB x = numB 1 ++ boB x := by
    rintro ⟨x0, x1, x2, x3⟩ rfl
    simp [enB, entB, boB, List.append_assoc]
   rw [e _ rfl, List.append_assoc]
   exact h6
  ·rw [if_pos (.inl h1)] at he
   exact absurd he h1
abbrev TrG (x : TrD) : Prop := isI64 x.f0 ∧ okE x.f1.f0 x.f1.f1 x.f1.f2 x.f1.f3 = true ∧ mayE x.f1.f0 x.f1.f1 x.f1.f2 x.f1.f3 = true
theorem cod_tr : Cod eTr trB TrG :=
 (cod_num.pr cod_entry).fm _ trB TrG (fun y => (y.f0, y.f1.f0, y.f1.f1, y.f1.f2, y.f1.f3)) (fun y hy => ⟨⟨hy.1, hy.2⟩, rfl⟩) (fun x => rfl)
theorem cod_yes : Cod eYes yesB (fun _ => True) where
 st s hs := eKind_st s hs
 mo := sim_yes.mo
 fw x r o _ := by
  have hn := cod_num.fw (if x = true then 1 else 0) r o (by cases x <;> decide)
  unfold eYes eKind eWrong yesB
  rw [hn]
  cases x <;> rfl
 bk s hb he ho := by
  unfold eYes at he ho ⊢
  dsimp only at he ho ⊢
  rcases eKind_cases s with ⟨h1, h2, h3⟩ | h1
  ·rw [h2] at he ho ⊢
   have := cod_num.bk s hb he ho
   rcases h3 with h3 | h3
   ·rw [h3] at this ⊢
    exact this
   ·rw [h3] at this ⊢
    exact this
  ·exact absurd he h1
abbrev ptB (p : PartD) : List Int := numsB [p.f0, p.f1, p.f2] ++ numB p.f3.length ++ p.f3
theorem cod_part : Cod (ptOf eSmall) ptB (fun p => isI64 p.f0 ∧ sm32 p.f1 ∧ sm32 p.f2 ∧ p.f3.length ≤ 1000000) :=
 (cod_num.pr (cod_small.pr (cod_small.pr cod_data))).fm _ ptB _ (fun p => (p.f0, p.f1, p.f2, p.f3)) (fun p hp => ⟨hp, rfl⟩) (fun x => by simp [ptB, numsB, List.append_assoc])
structure MayM (m : MsgD) : Prop where
 k : isKind m.f0 = true
 e : eqMs (bareM m) m = true
 f1 : sm32 m.f1
 f2 : sm32 m.f2
 n : m.f8.length ≤ 4096
 l : ∀ x ∈ m.f8, mayTr x = true
 p : m.f0 = 5 → mayPt m.f10 = true
 t : m.f0 = 6 → mayE m.f9.f0 m.f9.f1 m.f9.f2 m.f9.f3 = true
theorem mayM_of {m : MsgD} (h : mayMs m = true) : MayM m := by
 unfold mayMs at h
 simp only [Bool.and_eq_true, decide_eq_true_eq, List.all_eq_true] at h
 obtain ⟨h1, h2, _, hk, he, hl, hm, hp, ht⟩ := h
 exact ⟨hk, he, in04 h1, in04 h2, by omega, hm, fun q => by rw [q] at hp; simpa using hp, fun q => by rw [q] at ht; simpa using ht⟩
theorem trs_nil {l : List TrD} (h : eqTrs [] l = true) : [] = l := by
 cases l with
 | nil => rfl
 | cons a l => simp [eqTrs] at h
theorem en_nil {e : EntD} (h : eqEn zE.f0 zE.f1 zE.f2 zE.f3 e.f0 e.f1 e.f2 e.f3 = true) : zE = e := by
 obtain ⟨a, b, c, l⟩ := e
 unfold eqEn at h
 simp only [Bool.and_eq_true, beq_iff_eq] at h
 obtain ⟨h0, h1, h2, h3⟩ := h
 cases l with
 | nil => rw [← h0, ← h1, ← h2]; rfl
 | cons x l => simp [zE, eqTs] at h3
theorem pt_nil {p : PartD} (hp : okB p.f3 = true) (h : eqPt zP p = true) : zP = p := by
 obtain ⟨a, b, c, l⟩ := p
 unfold eqPt at h
 rw [eqS_ok rfl hp] at h
 simp only [Bool.and_eq_true, beq_iff_eq, decide_eq_true_eq] at h
 obtain ⟨h0, h1, h2, h3⟩ := h
 rw [← h0, ← h1, ← h2, ← h3]
theorem bare8 (m : MsgD) : (bareM m).f8 = [] ∨ (bareM m).f8 = m.f8 := by
 unfold bareM
 repeat' split
 all_goals simp
theorem bare9 (m : MsgD) : (bareM m).f9 = zE ∨ (bareM m).f9 = m.f9 := by
 unfold bareM
 repeat' split
 all_goals simp
theorem bare10 (m : MsgD) : (bareM m).f10 = zP ∨ (bareM m).f10 = m.f10 := by
 unfold bareM
 repeat' split
 all_goals simp
theorem msg_ext {a b : MsgD} (h0 : a.f0 = b.f0) (h1 : a.f1 = b.f1) (h2 : a.f2 = b.f2) (h3 : a.f3 = b.f3) (h4 : a.f4 = b.f4) (h5 : a.f5 = b.f5) (h6 : a.f6 = b.f6) (h7 : a.f7 = b.f7) (h8 : a.f8 = b.f8) (h9 : a.f9 = b.f9) (h10 : a.f10 = b.f10) : a = b := by cases a; cases b; simp_all
theorem bare_eq {m : MsgD} (hd : okB m.f10.f3 = true) (hm : mayMs m = true) : bareM m = m := by
 have h := (mayM_of hm).e
 unfold eqMs at h
 simp only [Bool.and_eq_true, beq_iff_eq] at h
 obtain ⟨h0, h1, h2, h3, h4, h5, h6, h7, h8, h9, h10⟩ := h
 refine msg_ext h0 h1 h2 h3 h4 h5 h6 h7 ?_ ?_ ?_
 ·rcases bare8 m with e | e
  ·rw [e] at h8 ⊢; exact trs_nil h8
  ·exact e
 ·rcases bare9 m with e | e
  ·rw [e] at h9 ⊢; exact en_nil h9
  ·exact e
 ·rcases bare10 m with e | e
  ·rw [e] at h10 ⊢; exact pt_nil hd h10
  ·exact e
def bdB (m : MsgD) : List Int := numsB [m.f1, m.f2] ++ tailB m
structure GoodM (m : MsgD) : Prop where
 b : bareM m = m
 o : OkM m
 y : MayM m
theorem GoodM.t {m : MsgD} (h : GoodM m) : isI64 m.f3 ∧ isI64 m.f4 ∧ isI64 m.f5 ∧ isI64 m.f6 := by
 obtain ⟨a, b⟩ := okI_cons.1 h.o.t
 obtain ⟨c, d⟩ := okI_cons.1 b
 obtain ⟨e, f⟩ := okI_cons.1 d
 exact ⟨a, c, e, (okI_cons.1 f).1⟩
theorem cod_mbody (k : Int) (hk : isKind k = true) : Cod (mBody eSmall eEntry (eList eTr) k) bdB (fun m => m.f0 = k ∧ GoodM m) := by
 have hkk : k = 1 ∨ k = 2 ∨ k = 3 ∨ k = 4 ∨ k = 5 ∨ k = 6 := by
  unfold isKind at hk
  simp only [Bool.and_eq_true, decide_eq_true_eq] at hk
  omega
 rcases hkk with rfl | rfl | rfl | rfl | rfl | rfl
 ·unfold mBody
  rw [if_pos rfl]
  exact (cod_small.pr (cod_small.pr (cod_num.pr (cod_num.pr cod_num)))).fm _ bdB _ (fun m => (m.f1, m.f2, m.f3, m.f4, m.f5))
   (fun m ⟨h0, hg⟩ => by
    obtain ⟨i3, i4, i5, i6⟩ := hg.t
    have hy := hg.y
    refine ⟨⟨hy.f1, hy.f2, i3, i4, i5⟩, ?_⟩
    have hb := hg.b
    unfold bareM at hb
    simp only [h0] at hb
    simpa using hb)
   (fun x => by simp [bdB, tailB, numsB, List.append_assoc])
 ·unfold mBody
  rw [if_neg (by decide), if_pos rfl]
  exact (cod_small.pr (cod_small.pr (cod_num.pr cod_yes))).fm _ bdB _ (fun m => (m.f1, m.f2, m.f3, m.f7))
   (fun m ⟨h0, hg⟩ => by
    obtain ⟨i3, i4, i5, i6⟩ := hg.t
    have hy := hg.y
    refine ⟨⟨hy.f1, hy.f2, i3, trivial⟩, ?_⟩
    have hb := hg.b
    unfold bareM at hb
    simp only [h0] at hb
    simpa using hb)
   (fun x => by simp [bdB, tailB, numsB, List.append_assoc])
 ·unfold mBody
  rw [if_neg (by decide), if_neg (by decide), if_pos rfl]
  exact (cod_small.pr (cod_small.pr (cod_num.pr (cod_num.pr (cod_num.pr (cod_num.pr (cod_list cod_tr))))))).fm _ bdB _ (fun m => (m.f1, m.f2, m.f3, m.f4, m.f5, m.f6, m.f8))
   (fun m ⟨h0, hg⟩ => by
    obtain ⟨i3, i4, i5, i6⟩ := hg.t
    have hy := hg.y
    refine ⟨⟨hy.f1, hy.f2, i3, i4, i5, i6, hy.n, fun x hx => ⟨(hg.o.l x hx).1, (hg.o.l x hx).2, mayTr_e (hy.l x hx)⟩⟩, ?_⟩
    have hb := hg.b
    unfold bareM at hb
    simp only [h0] at hb
    simpa using hb)
   (fun x => by simp [bdB, tailB, numsB, List.append_assoc])
 ·unfold mBody
  rw [if_neg (by decide), if_neg (by decide), if_neg (by decide), if_pos rfl]
  exact (cod_small.pr (cod_small.pr (cod_num.pr (cod_yes.pr cod_num)))).fm _ bdB _ (fun m => (m.f1, m.f2, m.f3, m.f7, m.f4))
   (fun m ⟨h0, hg⟩ => by
    obtain ⟨i3, i4, i5, i6⟩ := hg.t
    have hy := hg.y
    refine ⟨⟨hy.f1, hy.f2, i3, trivial, i4⟩, ?_⟩
    have hb := hg.b
    unfold bareM at hb
    simp only [h0] at hb
    simpa using hb)
   (fun x => by simp [bdB, tailB, numsB, List.append_assoc])
 ·unfold mBody
  rw [if_neg (by decide), if_neg (by decide), if_neg (by decide), if_neg (by decide), if_pos rfl]
  exact (cod_small.pr (cod_small.pr (cod_num.pr (cod_num.pr (cod_num.pr cod_part))))).fm _ bdB _ (fun m => (m.f1, m.f2, m.f3, m.f4, m.f5, m.f10))
   (fun m ⟨h0, hg⟩ => by
    obtain ⟨i3, i4, i5, i6⟩ := hg.t
    have hy := hg.y
    have hp := hy.p h0
    unfold mayPt at hp
    simp only [Bool.and_eq_true, decide_eq_true_eq] at hp
    obtain ⟨p0, p2, p1, p3⟩ := hp
    unfold inB at p2 p1
    simp at p2 p1
    refine ⟨⟨hy.f1, hy.f2, i3, i4, i5, (okI_cons.1 hg.o.p).1, ?_, ?_, ?_⟩, ?_⟩
    ·unfold sm32; show _ ≤ m.f10.f1 ∧ m.f10.f1 ≤ _; omega
    ·unfold sm32; show _ ≤ m.f10.f2 ∧ m.f10.f2 ≤ _; omega
    ·show m.f10.f3.length ≤ 1000000; omega
    have hb := hg.b
    unfold bareM at hb
    simp only [h0] at hb
    simpa using hb)
   (fun x => by simp [bdB, tailB, ptB, numsB, List.append_assoc])
 ·unfold mBody
  rw [if_neg (by decide), if_neg (by decide), if_neg (by decide), if_neg (by decide), if_neg (by decide), if_pos rfl]
  exact (cod_small.pr (cod_small.pr cod_entry)).fm _ bdB _ (fun m => (m.f1, m.f2, m.f9.f0, m.f9.f1, m.f9.f2, m.f9.f3))
   (fun m ⟨h0, hg⟩ => by
    have hy := hg.y
    refine ⟨⟨hy.f1, hy.f2, hg.o.e, hy.t h0⟩, ?_⟩
    have hb := hg.b
    unfold bareM at hb
    simp only [h0] at hb
    simpa using hb)
   (fun x => by simp [bdB, tailB, enB, numsB, List.append_assoc])
theorem mbody_k (k : Int) (hk : isKind k = true) (s : EyeS) : (mBody eSmall eEntry (eList eTr) k s).1.f0 = k := by
 have hkk : k = 1 ∨ k = 2 ∨ k = 3 ∨ k = 4 ∨ k = 5 ∨ k = 6 := by
  unfold isKind at hk
  simp only [Bool.and_eq_true, decide_eq_true_eq] at hk
  omega
 rcases hkk with rfl | rfl | rfl | rfl | rfl | rfl <;> rfl
theorem msgB_split (m : MsgD) (r : List Int) : msgB m ++ r = numB m.f0 ++ (bdB m ++ r) := by simp [msgB, bdB, numsB, List.append_assoc]
theorem eMk_cases (s : EyeS) : ((eMk s).e = 0 ∧ eMk s = (eNum s).2 ∧ isKind (eNum s).1 = true) ∨ (¬ (eMk s).e = 0) := by
 unfold eMk eWrong
 by_cases he : (eNum s).2.e = 0
 ·cases hn : isKind (eNum s).1 with
  | true =>
   left
   rw [if_neg (fun c => by have := c.2; rw [notKind_is, hn] at this; cases this)]
   exact ⟨he, rfl, rfl⟩
  | false =>
   right
   rw [if_pos ⟨he, by rw [notKind_is, hn]; rfl⟩]
   simp
 ·right
  rw [if_neg (fun c => he c.1)]
  exact he
theorem msg_fw {m : MsgD} (hg : GoodM m) (r : List Int) (o : Bool) : eMsg ⟨msgB m ++ r, 0, o⟩ = (m, ⟨r, 0, o⟩) := by
 have h0 : isI64 m.f0 := (okI_cons.1 hg.o.h).1
 rw [msgB_split]
 have hn := cod_num.fw m.f0 (bdB m ++ r) o h0
 have hk : eMk ⟨numB m.f0 ++ (bdB m ++ r), 0, o⟩ = ⟨bdB m ++ r, 0, o⟩ := by
  unfold eMk eWrong
  rw [hn]
  dsimp only
  rw [if_neg (fun c => by have := c.2; rw [notKind_is, hg.y.k] at this; cases this)]
 unfold eMsg
 rw [hk, if_neg (by simp), hn]
 exact (cod_mbody m.f0 hg.y.k).fw m r o ⟨rfl, hg⟩
theorem msg_bk (s : EyeS) (hb : okB s.l = true) (he : (eMsg s).2.e = 0) (ho : (eMsg s).2.o = false) : msgB (eMsg s).1 ++ (eMsg s).2.l = s.l := by
 unfold eMsg at he ho ⊢
 rcases eMk_cases s with ⟨h1, h2, h3⟩ | h1
 ·rw [if_neg (fun c => c h1)] at he ho ⊢
  rw [h2] at he ho h1 ⊢
  have hc := cod_mbody (eNum s).1 h3
  have h5 := hc.o ho
  have h6 := hc.bk (eNum s).2 (cod_num.okB hb h1 h5) he ho
  have h7 := cod_num.bk s hb h1 h5
  rw [msgB_split, mbody_k _ h3, h6, h7]
 ·rw [if_pos h1] at he
  exact absurd he h1
theorem ends_zero {s : EyeS} {may : Bool} (h : eEnds s may true = 0) : s.e = 0 ∧ s.l = [] ∧ s.o = false ∧ may = true := by
 unfold eEnds at h
 by_cases he : s.e = 0
 ·rw [if_neg (fun c => c he)] at h
  by_cases hl : 0 < s.l.length
  ·rw [if_pos ⟨rfl, hl⟩] at h
   exact absurd h (by decide)
  ·rw [if_neg (fun c => hl c.2)] at h
   by_cases hx : s.o = true ∨ may = false
   ·rw [if_pos hx] at h
    exact absurd h (by decide)
   ·refine ⟨he, List.length_eq_zero_iff.1 (by omega), ?_, ?_⟩
    ·cases hs : s.o with
     | false => rfl
     | true => exact absurd (.inl hs) hx
    ·cases hs : may with
     | true => rfl
     | false => exact absurd (.inr hs) hx
 ·rw [if_pos he] at h
  exact absurd h he
theorem takeEn_fw {x : EnD} (hx : EnG x) : takeEn (enB x) = (x, 0) := by
 have h := cod_entry.fw x [] false hx
 rw [List.append_nil] at h
 rw [takeEn_w]
 unfold wholeOf
 rw [h]
 dsimp only
 have hm : mayEn x = true := hx.2
 rw [hm]
 exact if_pos (by unfold eEnds; simp)
theorem takeEn_bk {l : List Int} (hb : okB l = true) (h : (takeEn l).2 = 0) : enB (takeEn l).1 = l ∧ mayEn (takeEn l).1 = true := by
 rw [takeEn_w] at h ⊢
 unfold wholeOf at h ⊢
 by_cases he : eEnds (eEntry ⟨l, 0, false⟩).2 (mayEn (eEntry ⟨l, 0, false⟩).1) true = 0
 ·rw [if_pos he]
  obtain ⟨h1, h2, h3, h4⟩ := ends_zero he
  have := cod_entry.bk ⟨l, 0, false⟩ hb h1 h3
  rw [h2, List.append_nil] at this
  exact ⟨this, h4⟩
 ·rw [if_neg he] at h
  exact absurd h he
theorem takeMs_fw {m : MsgD} (ho : OkM m) (hd : okB m.f10.f3 = true) (hm : mayMs m = true) : takeMs (msgB m) = (m, 0) := by
 have h := msg_fw ⟨bare_eq hd hm, ho, mayM_of hm⟩ [] false
 rw [List.append_nil] at h
 unfold takeMs wholeOf
 rw [h]
 dsimp only
 rw [hm]
 exact if_pos (by unfold eEnds; simp)
theorem takeMs_bk {l : List Int} (hb : okB l = true) (h : (takeMs l).2 = 0) : msgB (takeMs l).1 = l ∧ mayMs (takeMs l).1 = true := by
 unfold takeMs wholeOf at h ⊢
 by_cases he : eEnds (eMsg ⟨l, 0, false⟩).2 (mayMs (eMsg ⟨l, 0, false⟩).1) true = 0
 ·rw [if_pos he]
  obtain ⟨h1, h2, h3, h4⟩ := ends_zero he
  have := msg_bk ⟨l, 0, false⟩ hb h1 h3
  rw [h2, List.append_nil] at this
  exact ⟨this, h4⟩
 ·rw [if_neg he] at h
  exact absurd h he
theorem unm_fw {m : MsgD} (ho : OkM m) (hd : okB m.f10.f3 = true) (hm : mayMs m = true) (hl : (msgB m).length ≤ 1048576) : unm (sealedB (msgB m)) = (m, 0) := by
 have h := seal_back (d := msgB m) [] hl
 rw [List.append_nil] at h
 unfold unm
 rw [h]
 dsimp only
 rw [if_neg (fun c => c rfl), if_neg (by omega), takeMs_fw ho hd hm]
theorem unm_bk {l : List Int} (hb : okB l = true) (h : (unm l).2 = 0) : marF sealedB (unm l).1 = (l, 0) := by
 unfold unm at h ⊢
 by_cases h1 : (takeSeal l).2.2 = 0
 ·rw [if_neg (fun c => c h1)] at h ⊢
  by_cases h2 : (takeSeal l).2.1 < (l.length : Int)
  ·rw [if_pos h2] at h
   exact absurd h (by decide)
  ·rw [if_neg h2] at h ⊢
   have hu : unE l = 0 := by
    unfold takeSeal at h1
    by_cases hu : unE l = 0
    ·exact hu
    ·rw [if_neg hu] at h1; exact absurd h1 hu
   have ht : takeSeal l = (blD l, blHi l + 8, 0) := by unfold takeSeal; rw [if_pos hu]
   rw [ht] at h2 h ⊢
   dsimp only at h2 h ⊢
   have hbl : blE l 1048576 8 = 0 := by
    unfold unE at hu
    by_cases q : blE l 1048576 8 = 0
    ·exact q
    ·rw [if_pos q] at hu; exact hu
   obtain ⟨g1, g2, g3, g4, g5, g6⟩ := blE_good hbl
   have hsb : sealB (blD l) = tail8 l := by
    unfold unE at hu
    rw [if_neg (fun c => c hbl)] at hu
    by_cases q : sealB (blD l) = tail8 l
    ·exact q
    ·rw [if_neg q] at hu; exact absurd hu (by decide)
   have hok : okB (blD l) = true := okB_drop (okB_take hb _) _
   obtain ⟨h3, h4⟩ := takeMs_bk hok h
   have hlen : ((blD l).length : Int) = tkN l := by
    unfold blD
    rw [List.length_drop, List.length_take]
    unfold blHi blLo at *
    omega
   unfold marF
   rw [if_pos h4, h3, if_neg (by omega)]
   congr 1
   unfold sealedB blobB
   rw [hsb, hlen, (form_one hb g1).1, List.nil_append]
   unfold tail8 blD
   have e1 : l.take (tkS l).toNat = (l.take (blHi l).toNat).take (blLo l).toNat := by
    rw [List.take_take]
    congr 1
    unfold blHi blLo at *
    omega
   have e2 : l.take (blHi l + 8).toNat = l := List.take_of_length_le (by omega)
   rw [e1, List.take_append_drop, e2, List.take_append_drop]
 ·rw [if_pos h1] at h
  exact absurd h h1
theorem entF_back {l : List Int} (hb : okB l = true) (h : (takeEn l).2 = 0) : entF (takeEn l).1.1 (takeEn l).1.2.1 (takeEn l).1.2.2.1 (takeEn l).1.2.2.2 = (if 1048576 < l.length then ([], 3) else (l, 0)) := by
 obtain ⟨h1, h2⟩ := takeEn_bk hb h
 unfold entF
 have h2' : mayE (takeEn l).1.1 (takeEn l).1.2.1 (takeEn l).1.2.2.1 (takeEn l).1.2.2.2 = true := h2
 have h1' : entB (takeEn l).1.1 (takeEn l).1.2.1 (takeEn l).1.2.2.1 (takeEn l).1.2.2.2 = l := h1
 rw [if_pos h2', h1']
end Go.Proofs.YtgiefblcckikeaaGreat.M
end

section
/- record.Marshal. -/
attribute [local irreducible] Go.wpStill
namespace Go.Proofs.YtgiefblcckikeaaGreat.M
open Go.RowKit Go.Proofs.YtgiefblcckikeaaGreatW.PrintWords Go.Proofs.YtgiefblcckikeaaGreatW.PrintLast Go.Proofs.YtgiefblcckikeaaGreatW.PrintMore Go.Proofs.YtgiefblcckikeaaGreat.G
def SealC (S : List Int → List Int) : Prop := ∀ (ok : Nat → Prop) (A : Option Addr) (c : Nat) (l : List Int) (w : World), Kd.V (Kd.int .u8) 5 w w.heap.size ok (.slice A l.length c) l → l.length ≤ 1048576 → Calls Tryz.prog 51 #[.slice A l.length c] w fun e w' => BytesP w (S l) 0 e w'
set_option maxHeartbeats 4000000 in
theorem mar_is {w : World} (m : MsgD) {A8 A12 A16 : Option Addr} {c8 c12 c16 : Nat} (hm : MsgC w m A8 c8 A12 c12 A16 c16) (ho : OkM m) (S : List Int → List Int) (hS : SealC S) :
  Calls Tryz.prog 20 #[.agg #[.int .i64 m.f0, .int .i64 m.f1, .int .i64 m.f2, .int .i64 m.f3, .int .i64 m.f4, .int .i64 m.f5, .int .i64 m.f6, .bool m.f7, .slice A8 m.f8.length c8, .int .i64 m.f9.f0, .int .i64 m.f9.f1, .int .i64 m.f9.f2, .slice A12 m.f9.f3.length c12, .int .i64 m.f10.f0, .int .i64 m.f10.f1, .int .i64 m.f10.f2, .slice A16 m.f10.f3.length c16]] w fun e w' => BytesP w (marF S m).1 (marF S m).2 e w' := by
 have hb := (Below.refl _ w).alloc (Nat.le_refl _) (.cells #[.int .i64 m.f0, .int .i64 m.f1, .int .i64 m.f2, .int .i64 m.f3, .int .i64 m.f4, .int .i64 m.f5, .int .i64 m.f6, .bool m.f7, .slice A8 m.f8.length c8, .int .i64 m.f9.f0, .int .i64 m.f9.f1, .int .i64 m.f9.f2, .slice A12 m.f9.f3.length c12, .int .i64 m.f10.f0, .int .i64 m.f10.f1, .int .i64 m.f10.f2, .slice A16 m.f10.f3.length c16] 34)
 have HB0 := Lib.hid hb; have HX0 := Lib.hid (show MsBox (w.alloc (.cells #[.int .i64 m.f0, .int .i64 m.f1, .int .i64 m.f2, .int .i64 m.f3, .int .i64 m.f4, .int .i64 m.f5, .int .i64 m.f6, .bool m.f7, .slice A8 m.f8.length c8, .int .i64 m.f9.f0, .int .i64 m.f9.f1, .int .i64 m.f9.f2, .slice A12 m.f9.f3.length c12, .int .i64 m.f10.f0, .int .i64 m.f10.f1, .int .i64 m.f10.f2, .slice A16 m.f10.f3.length c16] 34)) w.heap.size m A8 c8 A12 c12 A16 c16 from heap_alloc_new w _); have HM0 := Lib.hid (hm.below hb); have HM := Lib.hid hm; have HO := Lib.hid ho; have HS := Lib.hid hS
 have hi2 := ho.p
 simp only [okI_cons] at hi2
 have HI2 := Lib.hid hi2.2.2.1
 clear hm hb ho hS hi2
 go_enter Tryz.func20, Tryz.ntmps20
 go_upto_region 1 with fail
 obtain ⟨v0, hw⟩ : ∃ v, w.alloc (.cells #[.int .i64 m.f0, .int .i64 m.f1, .int .i64 m.f2, .int .i64 m.f3, .int .i64 m.f4, .int .i64 m.f5, .int .i64 m.f6, .bool m.f7, .slice A8 m.f8.length c8, .int .i64 m.f9.f0, .int .i64 m.f9.f1, .int .i64 m.f9.f2, .slice A12 m.f9.f3.length c12, .int .i64 m.f10.f0, .int .i64 m.f10.f1, .int .i64 m.f10.f2, .slice A16 m.f10.f3.length c16] 34) = v := ⟨_, rfl⟩
 obtain ⟨g, hg⟩ : ∃ g, w.heap.size = g := ⟨_, rfl⟩
 have HG := Lib.hid hg
 rw [hw] at HB0 HX0 HM0 ⊢
 rw [hg] at HX0 ⊢
 clear hw hg
 refine wp_region_list ?_
 refine wpList_load_row rfl 34 (.tmp 1) rfl g rfl 34 #[.int .i64 m.f0, .int .i64 m.f1, .int .i64 m.f2, .int .i64 m.f3, .int .i64 m.f4, .int .i64 m.f5, .int .i64 m.f6, .bool m.f7, .slice A8 m.f8.length c8, .int .i64 m.f9.f0, .int .i64 m.f9.f1, .int .i64 m.f9.f2, .slice A12 m.f9.f3.length c12, .int .i64 m.f10.f0, .int .i64 m.f10.f1, .int .i64 m.f10.f2, .slice A16 m.f10.f3.length c16] (0, 0) _ HX0.out Tryz.underlying34 rfl (by kernel_rfl) ?_
 go_wp2_with fail
 refine (msg_is m HM0.out HI2.out).mono ?_
 rintro e v1 ⟨rfl, hb⟩
 have HB1 := Lib.hid (HB0.out.trans (hb.mono HB0.out.size)); have HX1 := Lib.hid (HX0.out.below hb)
 clear hb
 cases hy : mayMs m with
 | false =>
  have HF := Lib.hid (show marF S m = ([], 40) by unfold marF; rw [if_neg (by rw [hy]; simp)])
  clear hy
  go_wp2_with fail
  go_ret2
  refine ⟨.slice none 0 0, by rw [HF.out]; rfl, by rw [HF.out]; exact Kd.R_nil _ _ _ _ _, HB1.out⟩
 | true =>
  have HY := Lib.hid hy
  have HF := Lib.hid (show marF S m = (if 1048576 < (msgB m).length then ([], 3) else (S (msgB m), 0)) by unfold marF; rw [if_pos hy])
  clear hy
  go_wp2_with fail
  refine (newPen_is none 0 [] v1 (Kd.C_nil _ _) (by simp) (by simp)).mono ?_
  rintro e v2 ⟨p, rfl, hI, hb⟩
  have HB2 := Lib.hid (HB1.out.trans (hb.mono HB1.out.size)); have HX2 := Lib.hid (HX1.out.below hb)
  have HI2 := Lib.hid (show IsPen v2 w.heap.size p [] by
   obtain ⟨A', c', h1, h2, h3, h4⟩ := hI
   have hz := HB1.out.size
   exact ⟨A', c', h1, by omega, h3, Kd.R_lower h4 hz⟩)
  clear hI hb
  go_upto_region 4 with fail
  refine wp_region_list ?_
  refine wpList_cut 1 ?_
  simp only [List.take_succ_cons, List.take_zero, List.drop_succ_cons, List.drop_zero]
  go_wp2_with fail
  refine Halt.mk ?_
  refine wpList_load_row rfl 34 (.tmp 1) rfl g rfl 34 #[.int .i64 m.f0, .int .i64 m.f1, .int .i64 m.f2, .int .i64 m.f3, .int .i64 m.f4, .int .i64 m.f5, .int .i64 m.f6, .bool m.f7, .slice A8 m.f8.length c8, .int .i64 m.f9.f0, .int .i64 m.f9.f1, .int .i64 m.f9.f2, .slice A12 m.f9.f3.length c12, .int .i64 m.f10.f0, .int .i64 m.f10.f1, .int .i64 m.f10.f2, .slice A16 m.f10.f3.length c16] (0, 0) _ HX2.out Tryz.underlying34 rfl (by kernel_rfl) ?_
  go_wp2_with fail
  refine (penMsg_is HI2.out HB2.out HI2.out.ge m HM.out HO.out HY.out (by simp)).mono ?_
  rintro e v3 ⟨rfl, h1, h2, h3⟩
  have HB3 := Lib.hid h2
  obtain ⟨A', c', hh, _, hc', hR⟩ := h1
  have HRR := Lib.hid hR
  rw [List.nil_append] at hh HRR
  obtain ⟨bs, hbs⟩ : ∃ bs, msgB m = bs := ⟨_, rfl⟩
  rw [hbs] at hh HRR HF
  have p0 : v3.cell? ⟨p, 0, none⟩ = some (.slice A' bs.length c') := by simp [World.cell?, hh]
  clear h2 h3 hh hc' hR hbs
  go_wp2_with fail
  refine (fits_is HB3.out HRR.out).mono ?_
  by_cases hlen : 1048576 < bs.length
  ·have HFF := Lib.hid (show marF S m = ([], 3) by rw [HF.out, if_pos hlen])
   rw [if_pos hlen, if_pos hlen]
   rintro e v4 ⟨v, rfl, hv, hb⟩
   have HB4 := Lib.hid hb
   obtain ⟨Av, cv, rfl⟩ := Kd.R_slice hv
   clear hv hb hlen
   go_wp2_with fail
   go_ret2
   exact ⟨.slice none 0 0, by rw [HFF.out]; rfl, by rw [HFF.out]; exact Kd.R_nil _ _ _ _ _, HB4.out⟩
  ·have HFF := Lib.hid (show marF S m = (S bs, 0) by rw [HF.out, if_neg hlen])
   rw [if_neg hlen, if_neg hlen]
   rintro e v4 ⟨v, rfl, hv, hb⟩
   have HB4 := Lib.hid hb
   obtain ⟨Av, cv, rfl⟩ := Kd.R_slice hv
   have HV := Lib.hid (Kd.R_reads' hv)
   have HSC := Lib.hid (HS.out _ Av cv bs v4 (Kd.R_V hv) (by omega))
   clear hv hb hlen
   go_wp2_with fail
   refine HSC.out.mono ?_
   rintro e v5 ⟨v, rfl, hv, hb⟩
   have HB5 := Lib.hid (HB4.out.trans (hb.mono HB4.out.size))
   have HR := Lib.hid (Kd.R_lower hv HB4.out.size)
   obtain ⟨Aw, cw, rfl⟩ := Kd.R_slice hv
   clear hb hv
   go_wp2_with fail
   go_ret2
   exact ⟨.slice Aw (S bs).length cw, by rw [HFF.out]; rfl, by rw [HFF.out]; exact HR.out, HB5.out⟩
end Go.Proofs.YtgiefblcckikeaaGreat.M
end

section
-- Written by a program of this session's (wip/gprint.py over the kit's printer).
namespace Go.Proofs.YtgiefblcckikeaaGreat.G
open Go.RowKit Go.Proofs.YtgiefblcckikeaaGreatW.PrintWords Go.Proofs.YtgiefblcckikeaaGreatW.PrintLast Go.Proofs.YtgiefblcckikeaaGreatW.PrintMore
attribute [local go_sem] max2_int min2_int max_two min_two max_three min_three max_four min_four   -- for this text's walks alone
def trivetlaw04_simple.f  : Option (Int × Int × Int × (List (S26)) × List Int) := some (1, 2, 5, (([(⟨1, 3, ([] : List Int), ([] : List Int), ([] : List (S101)), ([] : List (S101))⟩ : S26)] : List (S26))), (([2, 1, 2, 2, 2, 5, 2, 1, 2, 1, 2, 3, 0, 0, 0, 0] : List Int)))
set_option maxHeartbeats 8000000 in
set_option maxRecDepth 100000 in
theorem trivetlaw04_simple.calls  (r1 : Int) (r2 : Int) (r3 : Int) (r4 : List (S26)) (r5 : List Int) (w : World) (h : trivetlaw04_simple.f  = some (r1, r2, r3, r4, r5)) :
  Calls Tryz.prog 37 #[] w fun e w' => ∃ v3_ v4_ : Value, e = .returned (.tuple #[.agg #[.int .i64 r1, .int .i64 r2, .int .i64 r3, v3_], v4_]) ∧ Kd.S k26 26 w' w.heap.size (fun k_ => some k_ ≠ (v4_ : Value).ownBlock) v3_ r4 ∧ Kd.R (Kd.int .u8) 5 w' w.heap.size (fun _ => True) v4_ r5 ∧ Below w.heap.size w w' := by
 have hu29 := Tryz.underlying29
 have hu26 := Tryz.underlying26
 have HB := Aside0.mk (Below.refl w.heap.size w)
 have H : (some (1, 2, 5, (([(⟨1, 3, ([] : List Int), ([] : List Int), ([] : List (S101)), ([] : List (S101))⟩ : S26)] : List (S26))), (([2, 1, 2, 2, 2, 5, 2, 1, 2, 1, 2, 3, 0, 0, 0, 0] : List Int)))) = some (r1, r2, r3, r4, r5) := h
 clear h
 obtain ⟨y153, hy153⟩ : ∃ y_ : List (S26), y_ = (([(⟨1, 3, ([] : List Int), ([] : List Int), ([] : List (S101)), ([] : List (S101))⟩ : S26)] : List (S26))) := ⟨_, rfl⟩
 replace H : (some (1, 2, 5, y153, (([2, 1, 2, 2, 2, 5, 2, 1, 2, 1, 2, 3, 0, 0, 0, 0] : List Int)))) = some (r1, r2, r3, r4, r5) := by first | (rw [hy153]; with_reducible exact H) | (have H2_ := (Option.bind_some _ _).symm.trans H; rw [hy153]; with_reducible exact H2_) | (have H2_ := (Option.bind_some _ _).symm.trans H; with_reducible exact H2_) | with_reducible exact H | (rw [hy153]; exact H) | exact H
 have Ny153 := Aside0.mk hy153
 clear hy153
 obtain ⟨y156, hy156⟩ : ∃ y_ : List Int, y_ = (([2, 1, 2, 2, 2, 5, 2, 1, 2, 1, 2, 3, 0, 0, 0, 0] : List Int)) := ⟨_, rfl⟩
 replace H : (some (1, 2, 5, y153, y156)) = some (r1, r2, r3, r4, r5) := by first | (rw [hy156]; with_reducible exact H) | (have H2_ := (Option.bind_some _ _).symm.trans H; rw [hy156]; with_reducible exact H2_) | (have H2_ := (Option.bind_some _ _).symm.trans H; with_reducible exact H2_) | with_reducible exact H | (rw [hy156]; exact H) | exact H
 have Ny156 := Aside0.mk hy156
 clear hy156
 simp only [Option.some.injEq, Prod.mk.injEq] at H
 obtain ⟨rfl, rfl, rfl, rfl, rfl⟩ := H
 go_enter Tryz.func37, Tryz.ntmps37
 go_wp2_with (first | ((with_reducible refine gate_dst (N := 0) rfl ?_); refine box_event ?hg (N := 0) ?hd (cs := #[.int .i64 0, .int .i64 0, .int .i64 0, .slice none 0 0]) (t := 29) ?hr ?_; (case hd => rfl); (case hg => rfl); (case hr => first | (go_simp; done) | (go_simp; rfl)); intro gb152 hg w1 hbox hb; have n0_ := Aside0.mk (below_step (stB HB.out) hb); have n1_ := Aside0.mk (hbox); have n2_ := Aside0.mk ((by rw [hg]; exact (below_size (stB HB.out)) : w.heap.size ≤ gb152)); have n3_ := Aside0.mk ((by rw [hg]; exact (below_size (stB HB.out)) : w.heap.size ≤ gb152)); clear HB; have HB := n0_; have BK152 := n1_; have GW152 := n2_; have GE152 := n3_; clear n0_ n1_ n2_ n3_; clear hb hbox hg) | ((with_reducible refine gate_dst (N := 3) rfl ?_); refine Kd.S_lit k26 _ 26 ?hg (N := 3) ?hd (xs := ([(⟨1, 3, ([] : List Int), ([] : List Int), ([] : List (S101)), ([] : List (S101))⟩ : S26)] : List (S26))) (inner := [.int .i64 1, .int .i64 3, .slice none 0 0, .slice none 0 0, .slice none 0 0, .slice none 0 0]) (ok := fun _ => True) (okp := fun _ => True) ?hr ?hp (fun _ hk => hk) trivial (Below.refl _ _) (Nat.le_refl _) (by simp) ?_; (case hd => rfl); (case hg => rfl); (case hr => first | (go_simp; done) | (go_simp; rfl)); (case hp => exact (Reps.c6 (show Kd.M k26 _ _ _ (⟨1, 3, ([] : List Int), ([] : List Int), ([] : List (S101)), ([] : List (S101))⟩ : S26) [.int .i64 1, .int .i64 3, .slice none 0 0, .slice none 0 0, .slice none 0 0, .slice none 0 0] from (k26_mkM _ _ _ (⟨1, 3, ([] : List Int), ([] : List Int), ([] : List (S101)), ([] : List (S101))⟩ : S26) (Kd.R_nil _ _ _ _ _) (Kd.R_nil _ _ _ _ _) (Kd.R_nil _ _ _ _ _) (Kd.R_nil _ _ _ _ _))) (Reps.none _ _))); intro v154 w2 ho3 hb hg_ hnew_; clear hg_ hnew_; (first | rw [← Ny153.out] at ho3 | (simp only [Int.reduceToNat] at ho3; rw [← Ny153.out] at ho3)); have n0_ := Aside0.mk (Kd.S_lower ho3 (below_size (by repeat (first | (with_reducible first | exact HB.out | apply below_alloc | apply pw_below_drewN | apply below_drew1 | refine below_set ?_ GE152.out) | exact HB.out)))); have n1_ := Aside0.mk (blk_below (g := gb152) (o := .cells #[.int .i64 0, .int .i64 0, .int .i64 0, .slice none 0 0] 29 (0, 0)) (stK BK152.out) hb); have n2_ := Aside0.mk (below_step (by repeat (first | (with_reducible first | exact HB.out | apply below_alloc | apply pw_below_drewN | apply below_drew1 | refine below_set ?_ GE152.out) | exact HB.out)) hb); clear BK152; clear HB; have HO155 := n0_; have BK152 := n1_; have HB := n2_; clear n0_ n1_ n2_; clear hb ho3; obtain ⟨Ao4, co4, eo4⟩ := Kd.S_slice HO155.out; subst eo4) | ((with_reducible refine gate_dst (N := 5) rfl ?_); refine Kd.R_lit (Kd.int .u8) _ 5 ?hg (N := 5) ?hd (xs := ([2, 1, 2, 2, 2, 5, 2, 1, 2, 1, 2, 3, 0, 0, 0, 0] : List Int)) (inner := [.int .u8 2, .int .u8 1, .int .u8 2, .int .u8 2, .int .u8 2, .int .u8 5, .int .u8 2, .int .u8 1, .int .u8 2, .int .u8 1, .int .u8 2, .int .u8 3, .int .u8 0, .int .u8 0, .int .u8 0, .int .u8 0]) (ok := fun _ => True) (okp := fun _ => True) ?hr ?hp (fun _ hk => hk) trivial (Below.refl _ _) (Nat.le_refl _) (by simp) ?_; (case hd => rfl); (case hg => rfl); (case hr => first | (go_simp; done) | (go_simp; rfl)); (case hp => exact (Reps.one (show Kd.M (Kd.int .u8) _ _ _ 2 [.int .u8 2] from rfl) (Reps.one (show Kd.M (Kd.int .u8) _ _ _ 1 [.int .u8 1] from rfl) (Reps.one (show Kd.M (Kd.int .u8) _ _ _ 2 [.int .u8 2] from rfl) (Reps.one (show Kd.M (Kd.int .u8) _ _ _ 2 [.int .u8 2] from rfl) (Reps.one (show Kd.M (Kd.int .u8) _ _ _ 2 [.int .u8 2] from rfl) (Reps.one (show Kd.M (Kd.int .u8) _ _ _ 5 [.int .u8 5] from rfl) (Reps.one (show Kd.M (Kd.int .u8) _ _ _ 2 [.int .u8 2] from rfl) (Reps.one (show Kd.M (Kd.int .u8) _ _ _ 1 [.int .u8 1] from rfl) (Reps.one (show Kd.M (Kd.int .u8) _ _ _ 2 [.int .u8 2] from rfl) (Reps.one (show Kd.M (Kd.int .u8) _ _ _ 1 [.int .u8 1] from rfl) (Reps.one (show Kd.M (Kd.int .u8) _ _ _ 2 [.int .u8 2] from rfl) (Reps.one (show Kd.M (Kd.int .u8) _ _ _ 3 [.int .u8 3] from rfl) (Reps.one (show Kd.M (Kd.int .u8) _ _ _ 0 [.int .u8 0] from rfl) (Reps.one (show Kd.M (Kd.int .u8) _ _ _ 0 [.int .u8 0] from rfl) (Reps.one (show Kd.M (Kd.int .u8) _ _ _ 0 [.int .u8 0] from rfl) (Reps.one (show Kd.M (Kd.int .u8) _ _ _ 0 [.int .u8 0] from rfl) (Reps.none _ _)))))))))))))))))); intro v157 w5 ho6 hb hg_ hnew_; clear hg_ hnew_; (first | rw [← Ny156.out] at ho6 | (simp only [Int.reduceToNat] at ho6; rw [← Ny156.out] at ho6)); have n0_ := Aside0.mk (Kd.S_elder' (stS HO155.out) (Kd.R_base ho6) hb); have n1_ := Aside0.mk (Kd.R_lower ho6 (below_size (by repeat (first | (with_reducible first | exact HB.out | apply below_alloc | apply pw_below_drewN | apply below_drew1 | refine below_set ?_ GE152.out) | exact HB.out)))); have n2_ := Aside0.mk (blk_below (g := gb152) (o := .cells #[.int .i64 0, .int .i64 0, .int .i64 0, .slice none 0 0] 29 (0, 0)) (stK BK152.out) hb); have n3_ := Aside0.mk (below_step (by repeat (first | (with_reducible first | exact HB.out | apply below_alloc | apply pw_below_drewN | apply below_drew1 | refine below_set ?_ GE152.out) | exact HB.out)) hb); clear HO155; clear BK152; clear HB; have HO155 := n0_; have HO158 := n1_; have BK152 := n2_; have HB := n3_; clear n0_ n1_ n2_ n3_; clear hb ho6; obtain ⟨hcz7_0, hcz7_1, hcz7_2, hcz7_3⟩ := bc4 BK152.out; obtain ⟨hfz7_0, hfz7_1, hfz7_2, hfz7_3⟩ := bf4 BK152.out))
 refine bodyPost_ret (results_ct rfl _ _ gb152 29 #[.int .i64 1, .int .i64 2, .int .i64 5, .slice Ao4 y153.length co4] (0, 0) _ rfl (by (with_reducible repeat (first | refine blk_drewN ?_ _ | refine blk_drew ?_ | refine blk_alloc ?_ _)); refine blk_put (cs := #[.int .i64 1, .int .i64 2, .int .i64 5, .slice none 0 0]) ?_ 3 _ rfl; (with_reducible repeat (first | refine blk_drewN ?_ _ | refine blk_drew ?_ | refine blk_alloc ?_ _)); refine blk_put (cs := #[.int .i64 1, .int .i64 2, .int .i64 0, .slice none 0 0]) ?_ 2 _ rfl; (with_reducible repeat (first | refine blk_drewN ?_ _ | refine blk_drew ?_ | refine blk_alloc ?_ _)); refine blk_put (cs := #[.int .i64 1, .int .i64 0, .int .i64 0, .slice none 0 0]) ?_ 1 _ rfl; (with_reducible repeat (first | refine blk_drewN ?_ _ | refine blk_drew ?_ | refine blk_alloc ?_ _)); refine blk_put (cs := #[.int .i64 0, .int .i64 0, .int .i64 0, .slice none 0 0]) ?_ 0 _ rfl; (with_reducible repeat (first | refine blk_drewN ?_ _ | refine blk_drew ?_ | refine blk_alloc ?_ _)); exact BK152.out) Tryz.underlying29 rfl (by kernel_rfl)) rfl ?_
 exact ⟨_, _, by first | rfl | (simp [errW_none, errW_some] <;> rfl) | (simp [*, errW_none, errW_some] <;> rfl), by (with_reducible repeat (first|apply Kd.S_alloc | apply Kd.S_drewN | apply Kd.S_drew)); exact Kd.S_mono (Kd.S_far (p := ⟨gb152, 3, none⟩) (Kd.S_far (p := ⟨gb152, 2, none⟩) (Kd.S_far (p := ⟨gb152, 1, none⟩) (Kd.S_far (p := ⟨gb152, 0, none⟩) (Kd.S_types HO155.out BK152.out (by decide)) (fun _ hk => hk.2) (.int .i64 1)) (fun _ hk => hk.2) (.int .i64 2)) (fun _ hk => hk.2) (.int .i64 5)) (fun _ hk => hk.2) (.slice Ao4 y153.length co4)) (fun _ hk => hk.1.2), by (with_reducible repeat (first|apply Kd.R_alloc | apply Kd.R_drewN | apply Kd.R_drew)); exact Kd.R_mono (Kd.R_far (p := ⟨gb152, 3, none⟩) (Kd.R_far (p := ⟨gb152, 2, none⟩) (Kd.R_far (p := ⟨gb152, 1, none⟩) (Kd.R_far (p := ⟨gb152, 0, none⟩) (Kd.R_types HO158.out BK152.out (by decide)) (fun _ hk => hk.2) (.int .i64 1)) (fun _ hk => hk.2) (.int .i64 2)) (fun _ hk => hk.2) (.int .i64 5)) (fun _ hk => hk.2) (.slice Ao4 y153.length co4)) (fun _ hk => trivial), by repeat (first | (with_reducible first | exact HB.out | apply below_alloc | apply pw_below_drewN | apply below_drew1 | refine below_set ?_ GE152.out) | exact HB.out)⟩
end Go.Proofs.YtgiefblcckikeaaGreat.G
end

section
/- law04's begun returns true (by hand: the printed walk is long). -/
attribute [local irreducible] Go.wpStill
namespace Go.Proofs.YtgiefblcckikeaaGreat.M
open Go.RowKit Go.Proofs.YtgiefblcckikeaaGreatW.PrintWords Go.Proofs.YtgiefblcckikeaaGreatW.PrintLast Go.Proofs.YtgiefblcckikeaaGreatW.PrintMore Go.Proofs.YtgiefblcckikeaaGreat.G
abbrev bgT : List TxD := [(⟨1, 3, [], [], [], []⟩ : TxD)]
abbrev bgB : List Int := [2, 1, 2, 2, 2, 5, 2, 1, 2, 1, 2, 3, 0, 0, 0, 0]
theorem bg_entF : entF 1 2 5 bgT = (bgB, 0) := by decide +kernel
theorem bg_take : takeEn bgB = ((1, 2, 5, bgT), 0) := by kernel_rfl
theorem bg_same : ∃ k, G.trivetref04_SameEntry.f k 1 2 5 bgT 1 2 5 bgT = some true := by
 refine ⟨20, ?_⟩
 rw [sameEn_r 20 1 2 5 bgT 1 2 5 bgT (fun t ht => by rw [List.mem_singleton.1 ht]; decide) (by decide) (by decide) (fun t ht => by rw [List.mem_singleton.1 ht]; exact ⟨by decide, by decide, by decide, by decide⟩)]
 have : eqEn 1 2 5 bgT 1 2 5 bgT = true := by kernel_rfl
 rw [this]
set_option maxHeartbeats 1000000 in
theorem begun_is (w : World) : Calls Tryz.prog 9 #[] w fun e w' => e = .returned (.bool true) ∧ Below w.heap.size w w' := by
 go_enter Tryz.func9, Tryz.ntmps9
 go_wp2_with fail
 refine (G.trivetlaw04_simple.calls 1 2 5 bgT bgB w rfl).mono ?_
 rintro e w1 ⟨v3, v4, rfl, hs, hr, hb⟩
 obtain ⟨A, c, rfl, hc, hC⟩ := Kd.S_reads hs
 obtain ⟨B, d, rfl⟩ := Kd.R_slice hr
 obtain ⟨-, hd, hD⟩ := Kd.R_reads' hr
 obtain ⟨l, hl⟩ : ∃ l, bgT = l := ⟨_, rfl⟩
 obtain ⟨bs, hbs⟩ : ∃ bs, bgB = bs := ⟨_, rfl⟩
 have hEF := bg_entF; have hTK := bg_take; obtain ⟨K, hSM⟩ := bg_same
 have ho : okE 1 2 5 bgT = true := by kernel_rfl
 have hok : okB bgB = true := by decide
 have hbl : bgB.length < 140737488355328 := by decide
 rw [hl, hbs] at hEF hTK
 rw [hl] at hSM ho hc hC
 rw [hbs] at hok hbl hd hD
 rw [show (bgT).length = l.length by rw [hl], show (bgB).length = bs.length by rw [hbs]]
 have HC := Lib.hid hC; have HD := Lib.hid hD; have HB := Lib.hid hb; have HCC := Lib.hid (And.intro hc hd)
 have HEF := Lib.hid hEF; have HTK := Lib.hid hTK; have HSM := Lib.hid hSM; have HO := Lib.hid (And.intro ho (And.intro hok hbl))
 clear hs hr hb hC hD hc hd hl hbs hEF hTK hSM ho hok hbl
 go_wp2_with fail
 have hbx := heap_alloc_new w1 (.cells #[.int .i64 1, .int .i64 2, .int .i64 5, .slice A l.length c] 29)
 have hay := (Below.refl _ w1).alloc (Nat.le_refl _) (.cells #[.int .i64 1, .int .i64 2, .int .i64 5, .slice A l.length c] 29)
 have hz : (w1.alloc (.cells #[.int .i64 1, .int .i64 2, .int .i64 5, .slice A l.length c] 29)).heap.size = w1.heap.size + 1 := by simp
 obtain ⟨w2, hw2⟩ : ∃ w2, w1.alloc (.cells #[.int .i64 1, .int .i64 2, .int .i64 5, .slice A l.length c] 29) = w2 := ⟨_, rfl⟩
 rw [hw2] at hbx hay hz ⊢
 obtain ⟨g, hg⟩ : ∃ g, w1.heap.size = g := ⟨_, rfl⟩
 have HC2 := Lib.hid (Kd.C_below HC.out hay); have HD2 := Lib.hid (Kd.C_below HD.out hay); have HB2 := Lib.hid (HB.out.trans (hay.mono HB.out.size))
 rw [hg] at hbx hz ⊢
 have HX2 := Lib.hid (And.intro hbx (show g < w2.heap.size by omega))
 clear hw2 hbx hay hz hg HC HD HB
 have a0 : w2.cell? ⟨g, 0, none⟩ = some (.int .i64 1) := by simp [World.cell?, HX2.out.1]
 have a1 : w2.cell? ⟨g, 1, none⟩ = some (.int .i64 2) := by simp [World.cell?, HX2.out.1]
 have a2 : w2.cell? ⟨g, 2, none⟩ = some (.int .i64 5) := by simp [World.cell?, HX2.out.1]
 have a3 : w2.cell? ⟨g, 3, none⟩ = some (.slice A l.length c) := by simp [World.cell?, HX2.out.1]
 go_wp2_with fail
 refine (entry_is 1 2 5 A c l w2 HC2.out HO.out.1).mono ?_
 rw [HEF.out]
 rintro e w3 ⟨v, rfl, hv, hb⟩
 obtain ⟨V, cv, rfl⟩ := Kd.R_slice hv
 obtain ⟨-, hvl, hV⟩ := Kd.R_reads' hv
 have HV := Lib.hid (show Kd.C (Kd.int .u8) w3 V bs.length bs from hV); have HVL := Lib.hid (show bs.length ≤ cv from hvl)
 have HC3 := Lib.hid (Kd.C_below HC2.out hb); have HD3 := Lib.hid (Kd.C_below HD2.out hb); have HB3 := Lib.hid (HB2.out.trans (hb.mono HB2.out.size))
 have HX3 := Lib.hid (And.intro ((hb.block g HX2.out.2).trans HX2.out.1) (Nat.lt_of_lt_of_le HX2.out.2 hb.size))
 clear hv hvl hV hb a0 a1 a2 a3 HC2 HD2 HB2 HX2
 go_wp2_with fail
 refine (takeEn_is B d bs w3 HD3.out HCC.out.2 HO.out.2.1 HO.out.2.2).mono ?_
 rw [HTK.out]
 rintro e w4 ⟨v, rfl, hv, hb⟩
 obtain ⟨Y, cy, rfl, hyc, hY⟩ := Kd.S_reads hv
 have HY := Lib.hid (show Kd.C G.k26 w4 Y l.length l from hY); have HYC := Lib.hid (show l.length ≤ cy from hyc)
 have HC4 := Lib.hid (Kd.C_below HC3.out hb); have HD4 := Lib.hid (Kd.C_below HD3.out hb); have HV4 := Lib.hid (Kd.C_below HV.out hb); have HB4 := Lib.hid (HB3.out.trans (hb.mono HB3.out.size))
 have HX4 := Lib.hid (And.intro ((hb.block g HX3.out.2).trans HX3.out.1) (Nat.lt_of_lt_of_le HX3.out.2 hb.size))
 clear hv hyc hY hb HC3 HD3 HB3 HX3 HV
 go_wp2_with fail
 have hbx := heap_alloc_new w4 (.cells #[.int .i64 1, .int .i64 2, .int .i64 5, .slice Y l.length cy] 29)
 have hay := (Below.refl _ w4).alloc (Nat.le_refl _) (.cells #[.int .i64 1, .int .i64 2, .int .i64 5, .slice Y l.length cy] 29)
 obtain ⟨w5, hw5⟩ : ∃ w5, w4.alloc (.cells #[.int .i64 1, .int .i64 2, .int .i64 5, .slice Y l.length cy] 29) = w5 := ⟨_, rfl⟩
 rw [hw5] at hbx hay ⊢
 obtain ⟨g2, hg2⟩ : ∃ g2, w4.heap.size = g2 := ⟨_, rfl⟩
 have HC5 := Lib.hid (Kd.C_below HC4.out hay); have HD5 := Lib.hid (Kd.C_below HD4.out hay); have HV5 := Lib.hid (Kd.C_below HV4.out hay); have HY5 := Lib.hid (Kd.C_below HY.out hay); have HB5 := Lib.hid (HB4.out.trans (hay.mono HB4.out.size))
 have HX5 := Lib.hid ((hay.block g HX4.out.2).trans HX4.out.1)
 rw [hg2] at hbx ⊢
 have HG5 := Lib.hid hbx
 clear hw5 hbx hay hg2 HC4 HD4 HB4 HX4 HV4 HY
 have a0 : w5.cell? ⟨g, 0, none⟩ = some (.int .i64 1) := by simp [World.cell?, HX5.out]
 have a1 : w5.cell? ⟨g, 1, none⟩ = some (.int .i64 2) := by simp [World.cell?, HX5.out]
 have a2 : w5.cell? ⟨g, 2, none⟩ = some (.int .i64 5) := by simp [World.cell?, HX5.out]
 have a3 : w5.cell? ⟨g, 3, none⟩ = some (.slice A l.length c) := by simp [World.cell?, HX5.out]
 have b0 : w5.cell? ⟨g2, 0, none⟩ = some (.int .i64 1) := by simp [World.cell?, HG5.out]
 have b1 : w5.cell? ⟨g2, 1, none⟩ = some (.int .i64 2) := by simp [World.cell?, HG5.out]
 have b2 : w5.cell? ⟨g2, 2, none⟩ = some (.int .i64 5) := by simp [World.cell?, HG5.out]
 have b3 : w5.cell? ⟨g2, 3, none⟩ = some (.slice Y l.length cy) := by simp [World.cell?, HG5.out]
 go_wp2_with fail
 refine (G.bytes_Equal.calls V cv bs B d bs true w5 HV5.out HVL.out HD5.out HCC.out.2 (by unfold G.bytes_Equal.f; simp)).mono ?_
 rintro e w6 ⟨rfl, ⟨n, rfl⟩⟩
 go_wp2_with fail
 refine (G.trivetref04_SameEntry.calls K 1 2 5 A c l 1 2 5 Y cy l true _ (Kd.C_drewN HC5.out n) HCC.out.1 (Kd.C_drewN HY5.out n) HYC.out HSM.out).mono ?_
 rintro e w7 ⟨rfl, hb⟩
 have HB7 := Lib.hid (below_then (pw_below_drewN HB5.out n) hb)
 clear hb
 go_wp2_with fail
 go_ret
 exact ⟨rfl, HB7.out⟩
end Go.Proofs.YtgiefblcckikeaaGreat.M
namespace Go.Proofs.YtgiefblcckikeaaGreat.G
open Go.RowKit Go.Proofs.YtgiefblcckikeaaGreatW.PrintWords Go.Proofs.YtgiefblcckikeaaGreat.M
def trivetlaw04_begun.f : Option Bool := some true
theorem trivetlaw04_begun.calls (r : Bool) (w : World) (h : trivetlaw04_begun.f = some r) :
  Calls Tryz.prog 9 #[] w fun e w' => e = .returned (.bool r) ∧ Below w.heap.size w w' := by
 obtain rfl := Option.some.inj h
 exact begun_is w
end Go.Proofs.YtgiefblcckikeaaGreat.G
end

section
/- RecordWrites returns true, given what both Seals write. -/
attribute [local irreducible] Go.wpStill
namespace Go.Proofs.YtgiefblcckikeaaGreat.M
open Go.RowKit Go.Proofs.YtgiefblcckikeaaGreatW.PrintWords Go.Proofs.YtgiefblcckikeaaGreatW.PrintLast Go.Proofs.YtgiefblcckikeaaGreatW.PrintMore Go.Proofs.YtgiefblcckikeaaGreat.G
end Go.Proofs.YtgiefblcckikeaaGreat.M
end

section
/- RecordWrites returns true, whatever it is handed. -/
namespace Go.Proofs.YtgiefblcckikeaaGreat.M
open Go.RowKit Go.Proofs.YtgiefblcckikeaaGreatW.PrintWords Go.Proofs.YtgiefblcckikeaaGreatW.PrintLast Go.Proofs.YtgiefblcckikeaaGreatW.PrintMore Go.Proofs.YtgiefblcckikeaaGreat.G
theorem okM_of {m : MsgD} (h : okMd m) : OkM m := by
 obtain ⟨h0, h1, h2, h3, h4, h5, h6, _, h8, h9, h10⟩ := h
 refine ⟨?_, ?_, ?_, (okE_of h9).1, fun x hx => ?_⟩
 ·exact okI_cons.2 ⟨i64_of h0, okI_cons.2 ⟨i64_of h1, okI_cons.2 ⟨i64_of h2, rfl⟩⟩⟩
 ·exact okI_cons.2 ⟨i64_of h3, okI_cons.2 ⟨i64_of h4, okI_cons.2 ⟨i64_of h5, okI_cons.2 ⟨i64_of h6, rfl⟩⟩⟩⟩
 ·exact okI_cons.2 ⟨i64_of h10.1, okI_cons.2 ⟨i64_of h10.2.1, okI_cons.2 ⟨i64_of h10.2.2.1, rfl⟩⟩⟩
 ·have hx := h8.2 x hx
  exact ⟨i64_of hx.1, (okE_of hx.2).1⟩
theorem sealC : SealC sealedB := by
 intro ok A c l w hr hl
 obtain ⟨K, hK⟩ := shape_seal l hl
 refine (G.shape_Seal.calls K ok A c l (sealedB l) 0 w hr (hK K (Nat.le_refl _))).mono ?_
 rintro e w' ⟨v, rfl, h1, h2⟩
 exact ⟨v, rfl, Kd.R_mono h1 (fun _ _ => trivial), h2⟩
end Go.Proofs.YtgiefblcckikeaaGreat.M
end

section
/- Each is the same as itself. -/
namespace Go.Proofs.YtgiefblcckikeaaGreat.M
open Go.RowKit Go.Proofs.YtgiefblcckikeaaGreatW.PrintWords Go.Proofs.YtgiefblcckikeaaGreatW.PrintLast Go.Proofs.YtgiefblcckikeaaGreatW.PrintMore Go.Proofs.YtgiefblcckikeaaGreat.G
theorem eqTs_refl : ∀ l : List TxD, eqTs l l = true
 | [] => rfl
 | t :: l => by unfold eqTs; rw [show eqTx t t = true by unfold eqTx; simp [eqS_refl], eqTs_refl l]; rfl
theorem eqEn_refl (k f n : Int) (l : List TxD) : eqEn k f n l k f n l = true := by unfold eqEn; simp [eqTs_refl]
theorem eqTrs_refl : ∀ l : List TrD, eqTrs l l = true
 | [] => rfl
 | t :: l => by unfold eqTrs; rw [show eqTr t t = true by unfold eqTr; simp [eqEn_refl], eqTrs_refl l]; rfl
theorem eqMs_refl (m : MsgD) : eqMs m m = true := by unfold eqMs eqPt; simp [eqTrs_refl, eqEn_refl, eqS_refl]
end Go.Proofs.YtgiefblcckikeaaGreat.M
end

section
/- RecordTurned returns true (printed by genunm04.py). -/
attribute [local irreducible] Go.wpStill
namespace Go.Proofs.YtgiefblcckikeaaGreat.M
open Go.RowKit Go.Proofs.YtgiefblcckikeaaGreatW.PrintWords Go.Proofs.YtgiefblcckikeaaGreatW.PrintLast Go.Proofs.YtgiefblcckikeaaGreatW.PrintMore Go.Proofs.YtgiefblcckikeaaGreat.G
theorem entB_okm {k f n : Int} {l : List TxD} (ho : okE k f n l = true) (hm : mayE k f n l = true) : okB (entB k f n l) = true := by
 have h := mayE_parts hm
 refine entB_ok ho ?_ ?_
 ·rcases h with ⟨_, _, _, rfl⟩ | ⟨_, h, _⟩
  ·simp
  ·omega
 ·intro t ht
  rcases h with ⟨_, _, _, rfl⟩ | ⟨_, _, h⟩
  ·cases ht
  ·obtain ⟨a, b, c, d⟩ := mayT_len (h t ht)
   exact ⟨by omega, by omega, by omega, by omega⟩
theorem trB_ok {x : TrD} (ho : isI64 x.f0 ∧ okE x.f1.f0 x.f1.f1 x.f1.f2 x.f1.f3 = true) (hm : mayE x.f1.f0 x.f1.f1 x.f1.f2 x.f1.f3 = true) : okB (trB x) = true := by
 unfold trB
 rw [okB_app, numB_ok ho.1, entB_okm ho.2 hm]
 rfl
theorem yesB_ok (b : Bool) : okB (yesB b) = true := by cases b <;> exact numB_ok (by decide)
theorem okI_3 {a b c d : Int} (h : okI [a, b, c, d] = true) : okI [a, b, c] = true := by
 obtain ⟨x, h⟩ := okI_cons.1 h
 obtain ⟨y, h⟩ := okI_cons.1 h
 obtain ⟨z, h⟩ := okI_cons.1 h
 exact okI_cons.2 ⟨x, okI_cons.2 ⟨y, okI_cons.2 ⟨z, rfl⟩⟩⟩
theorem msgB_ok {m : MsgD} (ho : OkM m) (hy : mayMs m = true) (hd : okB m.f10.f3 = true) : okB (msgB m) = true := by
 have h3 := (okI_cons.1 ho.t).1
 have h4 := (okI_cons.1 (okI_cons.1 ho.t).2).1
 have hy' := hy
 unfold mayMs at hy'
 simp only [Bool.and_eq_true, decide_eq_true_eq, List.all_eq_true] at hy'
 obtain ⟨_, _, _, hkd, _, hl8, hml, h5, h6⟩ := hy'
 unfold msgB
 rw [okB_app, numsB_ok ho.h, Bool.true_and]
 unfold tailB
 split
 ·exact numsB_ok (okI_3 ho.t)
 split
 ·rw [okB_app, numB_ok h3, yesB_ok]; rfl
 split
 ·rw [okB_app, okB_app, numsB_ok ho.t, numB_ok (nat_i64 _ (by omega)), okB_flat (fun x hx => trB_ok (ho.l x hx) (mayTr_e (hml x hx)))]; rfl
 split
 ·rw [okB_app, okB_app, numB_ok h3, yesB_ok, numB_ok h4]; rfl
 split
 ·next hk =>
  have hp : m.f10.f3.length ≤ 16384 := by
   have : mayPt m.f10 = true := by
    rw [hk] at h5
    simpa using h5
   unfold mayPt at this
   simp only [Bool.and_eq_true, decide_eq_true_eq] at this
   omega
  have hi : okI [m.f3, m.f4, m.f5, m.f10.f0, m.f10.f1, m.f10.f2] = true := by
   obtain ⟨a, t⟩ := okI_cons.1 ho.t
   obtain ⟨b, t⟩ := okI_cons.1 t
   obtain ⟨c, t⟩ := okI_cons.1 t
   exact okI_cons.2 ⟨a, okI_cons.2 ⟨b, okI_cons.2 ⟨c, ho.p⟩⟩⟩
  rw [okB_app, okB_app, numsB_ok hi, numB_ok (nat_i64 _ (by omega)), hd]; rfl
 ·next n1 n2 n3 n4 n5 =>
  have h6' : m.f0 = 6 := by
   unfold isKind at hkd
   simp only [Bool.and_eq_true, decide_eq_true_eq] at hkd
   omega
  rw [h6'] at h6
  exact entB_okm ho.e (by simpa using h6)
end Go.Proofs.YtgiefblcckikeaaGreat.M
end

section
/- RecordBack returns true (printed by genunm04.py). -/
attribute [local irreducible] Go.wpStill
namespace Go.Proofs.YtgiefblcckikeaaGreat.M
open Go.RowKit Go.Proofs.YtgiefblcckikeaaGreatW.PrintWords Go.Proofs.YtgiefblcckikeaaGreatW.PrintLast Go.Proofs.YtgiefblcckikeaaGreatW.PrintMore Go.Proofs.YtgiefblcckikeaaGreat.G
theorem norm_k {P : Program} {y : Code} {K : Act → World → Prop} {Q : Exit → Act → World → Prop} {a : Act} {w : World} (h : ∀ a w, y.wp P Q a w → K a w) (g : y.wp P Q a w) : Exit.then K Q .normal a w := h _ _ g
theorem takeEn_val {l : List Int} (h : (takeEn l).2 = 0) : (takeEn l).1 = (eEntry ⟨l, 0, false⟩).1 := by
 rw [takeEn_w] at h ⊢
 unfold wholeOf at h ⊢
 by_cases he : eEnds (eEntry ⟨l, 0, false⟩).2 (mayEn (eEntry ⟨l, 0, false⟩).1) true = 0
 ·rw [if_pos he]
 ·rw [if_neg he] at h
  exact absurd h he
theorem unm_okM {l : List Int} (hb : okB l = true) (hl : l.length < 140737488355328) : OkM (unm l).1 := by
 unfold unm
 split
 ·exact okM_zero
 ·split
  ·exact okM_zero
  ·unfold takeMs wholeOf
   split
   ·exact (okM_eMsg (takeSeal_ok hb hl)).1
   ·exact okM_zero
set_option maxHeartbeats 4000000 in
theorem back_walk (w : World) (x : EntD) (m : MsgD) (D : Option Addr) (cd : Nat) (l : List Int) {E : Option Addr} {ce : Nat} {A8 A12 A16 : Option Addr} {c8 c12 c16 : Nat} (he : Kd.C G.k26 w E x.f3.length x.f3) (hel : x.f3.length ≤ ce) (hxo : okE x.f0 x.f1 x.f2 x.f3 = true) (hm : MsgC w m A8 c8 A12 c12 A16 c16) (ho : OkM m) (hd : okB m.f10.f3 = true) (hr : Kd.C (Kd.int .u8) w D l.length l) (hc : l.length ≤ cd) (hok : okB l = true) (hl : l.length < 140737488355328) :
  Calls Tryz.prog 6 #[.agg #[.int .i64 x.f0, .int .i64 x.f1, .int .i64 x.f2, .slice E x.f3.length ce], .agg #[.int .i64 m.f0, .int .i64 m.f1, .int .i64 m.f2, .int .i64 m.f3, .int .i64 m.f4, .int .i64 m.f5, .int .i64 m.f6, .bool m.f7, .slice A8 m.f8.length c8, .int .i64 m.f9.f0, .int .i64 m.f9.f1, .int .i64 m.f9.f2, .slice A12 m.f9.f3.length c12, .int .i64 m.f10.f0, .int .i64 m.f10.f1, .int .i64 m.f10.f2, .slice A16 m.f10.f3.length c16], .slice D l.length cd] w fun e w' => e = .returned (.bool true) ∧ Below w.heap.size w w' := by
 obtain ⟨hx, hy, hb⟩ := box2 w #[.int .i64 x.f0, .int .i64 x.f1, .int .i64 x.f2, .slice E x.f3.length ce] 29 #[.int .i64 m.f0, .int .i64 m.f1, .int .i64 m.f2, .int .i64 m.f3, .int .i64 m.f4, .int .i64 m.f5, .int .i64 m.f6, .bool m.f7, .slice A8 m.f8.length c8, .int .i64 m.f9.f0, .int .i64 m.f9.f1, .int .i64 m.f9.f2, .slice A12 m.f9.f3.length c12, .int .i64 m.f10.f0, .int .i64 m.f10.f1, .int .i64 m.f10.f2, .slice A16 m.f10.f3.length c16] 34
 obtain ⟨w0, hw⟩ : ∃ W, (w.alloc (.cells #[.int .i64 x.f0, .int .i64 x.f1, .int .i64 x.f2, .slice E x.f3.length ce] 29)).alloc (.cells #[.int .i64 m.f0, .int .i64 m.f1, .int .i64 m.f2, .int .i64 m.f3, .int .i64 m.f4, .int .i64 m.f5, .int .i64 m.f6, .bool m.f7, .slice A8 m.f8.length c8, .int .i64 m.f9.f0, .int .i64 m.f9.f1, .int .i64 m.f9.f2, .slice A12 m.f9.f3.length c12, .int .i64 m.f10.f0, .int .i64 m.f10.f1, .int .i64 m.f10.f2, .slice A16 m.f10.f3.length c16] 34) = W := ⟨_, rfl⟩
 rw [hw] at hx hy hb
 have B0 := Lib.hid hb; have X0 := Lib.hid hx; have Y0 := Lib.hid (show MsBox w0 (w.heap.size + 1) m A8 c8 A12 c12 A16 c16 from hy); have XC0 := Lib.hid (Kd.C_below he hb); have M0 := Lib.hid (hm.below hb); have D0 := Lib.hid (Kd.C_below hr hb)
 have XL := Lib.hid hel; have XO := Lib.hid hxo; have HO := Lib.hid ho; have HD := Lib.hid hd; have DL := Lib.hid hc; have DO := Lib.hid hok; have DN := Lib.hid hl
 clear hx hy hb he hel hxo hm ho hd hr hc hok hl
 go_enter Tryz.func6, Tryz.ntmps6
 go_upto_region 1 with fail
 obtain ⟨gx, hgx⟩ : ∃ g, w.heap.size = g := ⟨_, rfl⟩
 obtain ⟨gm, hgm⟩ : ∃ g, w.heap.size + 1 = g := ⟨_, rfl⟩
 rw [hgm] at Y0 ⊢
 rw [hgx] at X0 ⊢
 clear hw hgx hgm
 go_wp2_with fail
 refine (begun_is w0).mono ?_
 rintro e w1 ⟨rfl, hb⟩
 have X1 := Lib.hid ((hb.block _ (Array.getElem?_eq_some_iff.1 X0.out).1).trans X0.out); have Y1 := Lib.hid (Y0.out.below hb); have XC1 := Lib.hid (Kd.C_below XC0.out hb); have M1 := Lib.hid (M0.out.below hb); have D1 := Lib.hid (Kd.C_below D0.out hb); have B1 := Lib.hid (B0.out.trans (hb.mono B0.out.size))
 clear hb X0 Y0 XC0 M0 D0 B0
 go_upto_if 24 with fail
 refine wp_cond_false rfl (wp_skip (norm_k (by assumption) (wp_seq_k fun K1 k1 => ?_)))
 go_cut [] (fun wx => Below w1.heap.size w1 wx)
 case first =>
  obtain ⟨r, er, hf⟩ : ∃ r er, entF x.f0 x.f1 x.f2 x.f3 = (r, er) := ⟨_, _, rfl⟩
  have HF := Lib.hid hf
  clear hf
  go_upto_region 3 with fail
  refine wp_region_list ?_
  refine wpList_load_row rfl 29 (.tmp 3) rfl gx rfl 29 #[.int .i64 x.f0, .int .i64 x.f1, .int .i64 x.f2, .slice E x.f3.length ce] (0, 0) _ X1.out Tryz.underlying29 rfl (by kernel_rfl) ?_
  go_wp2_with fail
  have h4 := entry_is x.f0 x.f1 x.f2 E ce x.f3 w1 XC1.out XO.out
  rw [HF.out] at h4
  refine h4.mono ?_
  rintro e w2 ⟨v, rfl, hv, hb⟩
  obtain ⟨V, cV, rfl⟩ := Kd.R_slice hv
  have hk := HF.out
  unfold entF at hk
  have X2 := Lib.hid ((hb.block _ (Array.getElem?_eq_some_iff.1 X1.out).1).trans X1.out); have XC2 := Lib.hid (Kd.C_below XC1.out hb); have B2 := Lib.hid hb; have V2 := Lib.hid (Kd.R_reads' hv)
  clear hb hv h4 HF X1 Y1 XC1 M1 D1 B1
  cases hy : mayE x.f0 x.f1 x.f2 x.f3 with
  | false =>
   obtain ⟨rfl, rfl⟩ : r = [] ∧ er = 40 := by
    rw [if_neg (by rw [hy]; simp)] at hk
    simpa using hk.symm
   clear hk
   go_upto_region 8 with fail
   refine wp_region_list ?_
   refine wpList_load_row rfl 29 (.tmp 3) rfl gx rfl 29 #[.int .i64 x.f0, .int .i64 x.f1, .int .i64 x.f2, .slice E x.f3.length ce] (0, 0) _ X2.out Tryz.underlying29 rfl (by kernel_rfl) ?_
   go_wp2_with fail
   have h4 := refMayEn_is x.f0 x.f1 x.f2 E ce x.f3 w2 XC2.out XL.out
   rw [hy] at h4
   refine h4.mono ?_
   rintro e w3 ⟨rfl, hb⟩
   have B3 := Lib.hid (B2.out.trans (hb.mono B2.out.size))
   clear h4 hb hy
   go_wp2_with fail
   go_meet
   exact B3.out
  | true =>
   rw [if_pos hy] at hk
   by_cases hln : 1048576 < (entB x.f0 x.f1 x.f2 x.f3).length
   ·obtain ⟨rfl, rfl⟩ : r = [] ∧ er = 3 := by
     rw [if_pos hln] at hk
     simpa using hk.symm
    clear hk hln
    go_upto_region 8 with fail
    refine wp_region_list ?_
    refine wpList_load_row rfl 29 (.tmp 3) rfl gx rfl 29 #[.int .i64 x.f0, .int .i64 x.f1, .int .i64 x.f2, .slice E x.f3.length ce] (0, 0) _ X2.out Tryz.underlying29 rfl (by kernel_rfl) ?_
    go_wp2_with fail
    have h4 := refMayEn_is x.f0 x.f1 x.f2 E ce x.f3 w2 XC2.out XL.out
    rw [hy] at h4
    refine h4.mono ?_
    rintro e w3 ⟨rfl, hb⟩
    have B3 := Lib.hid (B2.out.trans (hb.mono B2.out.size))
    clear h4 hb hy
    go_wp2_with fail
    go_meet
    exact B3.out
   obtain ⟨rfl, rfl⟩ : r = entB x.f0 x.f1 x.f2 x.f3 ∧ er = 0 := by
    rw [if_neg hln] at hk
    simpa using hk.symm
   clear hk
   have HOB := Lib.hid (entB_okm XO.out hy)
   have HT := Lib.hid (show takeEn (entB x.f0 x.f1 x.f2 x.f3) = ((x.f0, x.f1, x.f2, x.f3), 0) from takeEn_fw (x := (x.f0, x.f1, x.f2, x.f3)) ⟨XO.out, hy⟩)
   obtain ⟨d, hd⟩ : ∃ d, entB x.f0 x.f1 x.f2 x.f3 = d := ⟨_, rfl⟩
   rw [hd] at hln V2 HOB HT ⊢
   clear hd hy
   go_wp2_with fail
   have h4 := takeEn_is V cV d w2 V2.out.2.2 V2.out.2.1 HOB.out (by omega)
   rw [HT.out] at h4
   refine h4.mono ?_
   rintro e w3 ⟨v, rfl, hv, hb⟩
   obtain ⟨F, cf, rfl⟩ := Kd.R_slice (Kd.S_R hv)
   have X3 := Lib.hid ((hb.block _ (Array.getElem?_eq_some_iff.1 X2.out).1).trans X2.out); have XC3 := Lib.hid (Kd.C_below XC2.out hb); have B3 := Lib.hid (B2.out.trans (hb.mono B2.out.size)); have V3 := Lib.hid (show x.f3.length ≤ cf ∧ Kd.C G.k26 w3 F x.f3.length x.f3 from (Kd.R_reads' (Kd.S_R hv)).2)
   clear hb hv h4 X2 XC2 B2 V2 HOB HT hln
   go_upto_region 6 with fail
   obtain ⟨x5, hb⟩ := box1 w3 #[.int .i64 x.f0, .int .i64 x.f1, .int .i64 x.f2, .slice F x.f3.length cf] 29
   obtain ⟨w4, hw⟩ : ∃ W, w3.alloc (.cells #[.int .i64 x.f0, .int .i64 x.f1, .int .i64 x.f2, .slice F x.f3.length cf] 29) = W := ⟨_, rfl⟩
   rw [hw] at x5 hb ⊢
   clear hw
   have X4 := Lib.hid ((hb.block _ (Array.getElem?_eq_some_iff.1 X3.out).1).trans X3.out); have XC4 := Lib.hid (Kd.C_below XC3.out hb); have B4 := Lib.hid (B3.out.trans (hb.mono B3.out.size)); have V4 := Lib.hid (Kd.C_below V3.out.2 hb); have Z4 := Lib.hid x5
   clear hb x5 X3 XC3 B3
   refine wp_region_list ?_
   refine wpList_cut 3 ?_
   simp only [List.take_succ_cons, List.take_zero, List.drop_succ_cons, List.drop_zero]
   go_wp2_with fail
   refine Halt.mk ?_
   refine gate_guard (by rfl) ?_
   dsimp only
   refine wpList_load_row rfl 29 (.tmp 3) rfl gx rfl 29 #[.int .i64 x.f0, .int .i64 x.f1, .int .i64 x.f2, .slice E x.f3.length ce] (0, 0) _ X4.out Tryz.underlying29 rfl (by kernel_rfl) ?_
   refine gate_guard (by rfl) ?_
   dsimp only
   refine wpList_load_row rfl 29 (.tmp 9) rfl w3.heap.size rfl 29 #[.int .i64 x.f0, .int .i64 x.f1, .int .i64 x.f2, .slice F x.f3.length cf] (0, 0) _ Z4.out Tryz.underlying29 rfl (by kernel_rfl) ?_
   go_wp2_with fail
   have h4 := refSameEn_is x.f0 x.f1 x.f2 E ce x.f3 x.f0 x.f1 x.f2 F cf x.f3 w4 XC4.out XL.out V4.out V3.out.1
   rw [eqEn_refl] at h4
   refine h4.mono ?_
   rintro e w5 ⟨rfl, hb⟩
   have B5 := Lib.hid (B4.out.trans (hb.mono B4.out.size))
   clear h4 hb
   go_wp2_with fail
   go_meet
   exact B5.out
 case rest =>
  obtain ⟨w2, rfl⟩ : ∃ W, W = wc := ⟨_, rfl⟩
  have hb := hcut
  clear hcut
  have X2 := Lib.hid ((hb.block _ (Array.getElem?_eq_some_iff.1 X1.out).1).trans X1.out); have Y2 := Lib.hid (Y1.out.below hb); have XC2 := Lib.hid (Kd.C_below XC1.out hb); have M2 := Lib.hid (M1.out.below hb); have D2 := Lib.hid (Kd.C_below D1.out hb); have B2 := Lib.hid (B1.out.trans (hb.mono B1.out.size))
  clear hb X1 Y1 XC1 M1 D1 B1
  refine k1 _ _ (wp_seq_k fun K2 k2 => ?_)
  go_cut [] (fun wx => Below w2.heap.size w2 wx)
  case first =>
   obtain ⟨r, er, hf⟩ : ∃ r er, marF sealedB m = (r, er) := ⟨_, _, rfl⟩
   have HF := Lib.hid hf
   clear hf
   go_upto_region 10 with fail
   refine wp_region_list ?_
   refine wpList_load_row rfl 34 (.tmp 4) rfl gm rfl 34 #[.int .i64 m.f0, .int .i64 m.f1, .int .i64 m.f2, .int .i64 m.f3, .int .i64 m.f4, .int .i64 m.f5, .int .i64 m.f6, .bool m.f7, .slice A8 m.f8.length c8, .int .i64 m.f9.f0, .int .i64 m.f9.f1, .int .i64 m.f9.f2, .slice A12 m.f9.f3.length c12, .int .i64 m.f10.f0, .int .i64 m.f10.f1, .int .i64 m.f10.f2, .slice A16 m.f10.f3.length c16] (0, 0) _ Y2.out Tryz.underlying34 rfl (by kernel_rfl) ?_
   go_wp2_with fail
   have h4 := mar_is m M2.out HO.out sealedB sealC
   rw [HF.out] at h4
   refine h4.mono ?_
   rintro e w3 ⟨v, rfl, hv, hb⟩
   obtain ⟨V, cV, rfl⟩ := Kd.R_slice hv
   have hk := HF.out
   unfold marF at hk
   have Y3 := Lib.hid (Y2.out.below hb); have M3 := Lib.hid (M2.out.below hb); have B3 := Lib.hid hb; have V3 := Lib.hid (Kd.R_reads' hv)
   clear hb hv h4 HF X2 Y2 XC2 M2 D2 B2
   cases hy : mayMs m with
   | false =>
    obtain ⟨rfl, rfl⟩ : r = [] ∧ er = 40 := by
     rw [if_neg (by rw [hy]; simp)] at hk
     simpa using hk.symm
    clear hk
    go_upto_region 15 with fail
    refine wp_region_list ?_
    refine wpList_load_row rfl 34 (.tmp 4) rfl gm rfl 34 #[.int .i64 m.f0, .int .i64 m.f1, .int .i64 m.f2, .int .i64 m.f3, .int .i64 m.f4, .int .i64 m.f5, .int .i64 m.f6, .bool m.f7, .slice A8 m.f8.length c8, .int .i64 m.f9.f0, .int .i64 m.f9.f1, .int .i64 m.f9.f2, .slice A12 m.f9.f3.length c12, .int .i64 m.f10.f0, .int .i64 m.f10.f1, .int .i64 m.f10.f2, .slice A16 m.f10.f3.length c16] (0, 0) _ Y3.out Tryz.underlying34 rfl (by kernel_rfl) ?_
    go_wp2_with fail
    have h4 := refMayMs_is m M3.out
    rw [hy] at h4
    refine h4.mono ?_
    rintro e w4 ⟨rfl, hb⟩
    have B4 := Lib.hid (B3.out.trans (hb.mono B3.out.size))
    clear h4 hb hy
    go_wp2_with fail
    go_meet
    exact B4.out
   | true =>
    rw [if_pos hy] at hk
    by_cases hln : 1048576 < (msgB m).length
    ·obtain ⟨rfl, rfl⟩ : r = [] ∧ er = 3 := by
      rw [if_pos hln] at hk
      simpa using hk.symm
     clear hk hln
     go_upto_region 15 with fail
     refine wp_region_list ?_
     refine wpList_load_row rfl 34 (.tmp 4) rfl gm rfl 34 #[.int .i64 m.f0, .int .i64 m.f1, .int .i64 m.f2, .int .i64 m.f3, .int .i64 m.f4, .int .i64 m.f5, .int .i64 m.f6, .bool m.f7, .slice A8 m.f8.length c8, .int .i64 m.f9.f0, .int .i64 m.f9.f1, .int .i64 m.f9.f2, .slice A12 m.f9.f3.length c12, .int .i64 m.f10.f0, .int .i64 m.f10.f1, .int .i64 m.f10.f2, .slice A16 m.f10.f3.length c16] (0, 0) _ Y3.out Tryz.underlying34 rfl (by kernel_rfl) ?_
     go_wp2_with fail
     have h4 := refMayMs_is m M3.out
     rw [hy] at h4
     refine h4.mono ?_
     rintro e w4 ⟨rfl, hb⟩
     have B4 := Lib.hid (B3.out.trans (hb.mono B3.out.size))
     clear h4 hb hy
     go_wp2_with fail
     go_meet
     exact B4.out
    obtain ⟨rfl, rfl⟩ : r = sealedB (msgB m) ∧ er = 0 := by
     rw [if_neg hln] at hk
     simpa using hk.symm
    clear hk
    have HOB := Lib.hid (sealed_ok (msgB_ok HO.out hy HD.out) (by omega))
    have HT := Lib.hid (unm_fw HO.out HD.out hy (by omega))
    have hsl := sealed_len (msgB m)
    have hns := numB_len (isI64_len (d := msgB m) (by omega))
    obtain ⟨d, hd⟩ : ∃ d, sealedB (msgB m) = d := ⟨_, rfl⟩
    rw [hd] at hsl V3 HOB HT ⊢
    have HDL := Lib.hid (show d.length < 140737488355328 by omega)
    clear hd hy hln hsl hns
    go_wp2_with fail
    have h4 := unm_is V cV d w3 V3.out.2.2 V3.out.2.1 HOB.out HDL.out
    rw [HT.out] at h4
    refine h4.mono ?_
    rintro e w4 ⟨v8, v12, v16, rfl, r8, r12, r16, hb⟩
    obtain ⟨F8, f8, rfl⟩ := Kd.R_slice r8
    obtain ⟨F12, f12, rfl⟩ := Kd.R_slice r12
    obtain ⟨F16, f16, rfl⟩ := Kd.R_slice r16
    have Y4 := Lib.hid (Y3.out.below hb); have M4 := Lib.hid (M3.out.below hb); have B4 := Lib.hid (B3.out.trans (hb.mono B3.out.size)); have V4 := Lib.hid (show MsgC w4 m F8 f8 F12 f12 F16 f16 from ⟨(Kd.R_reads' r8).2.1, (Kd.R_reads' r8).2.2, (Kd.R_reads' r12).2.1, (Kd.R_reads' r12).2.2, (Kd.R_reads' r16).2.1, (Kd.R_reads' r16).2.2⟩)
    clear hb r8 r12 r16 h4 Y3 M3 B3 V3 HOB HT HDL
    go_upto_region 13 with fail
    obtain ⟨x5, hb⟩ := box1 w4 #[.int .i64 m.f0, .int .i64 m.f1, .int .i64 m.f2, .int .i64 m.f3, .int .i64 m.f4, .int .i64 m.f5, .int .i64 m.f6, .bool m.f7, .slice F8 m.f8.length f8, .int .i64 m.f9.f0, .int .i64 m.f9.f1, .int .i64 m.f9.f2, .slice F12 m.f9.f3.length f12, .int .i64 m.f10.f0, .int .i64 m.f10.f1, .int .i64 m.f10.f2, .slice F16 m.f10.f3.length f16] 34
    obtain ⟨w5, hw⟩ : ∃ W, w4.alloc (.cells #[.int .i64 m.f0, .int .i64 m.f1, .int .i64 m.f2, .int .i64 m.f3, .int .i64 m.f4, .int .i64 m.f5, .int .i64 m.f6, .bool m.f7, .slice F8 m.f8.length f8, .int .i64 m.f9.f0, .int .i64 m.f9.f1, .int .i64 m.f9.f2, .slice F12 m.f9.f3.length f12, .int .i64 m.f10.f0, .int .i64 m.f10.f1, .int .i64 m.f10.f2, .slice F16 m.f10.f3.length f16] 34) = W := ⟨_, rfl⟩
    first | rw [hw] at x5 hb ⊢ | rw [hw] at x5 hb
    clear hw
    have Y5 := Lib.hid (Y4.out.below hb); have M5 := Lib.hid (M4.out.below hb); have B5 := Lib.hid (B4.out.trans (hb.mono B4.out.size)); have V5 := Lib.hid (V4.out.below hb); have Z5 := Lib.hid x5
    clear hb x5 Y4 M4 B4 V4
    refine wp_region_list ?_
    refine wpList_cut 3 ?_
    simp only [List.take_succ_cons, List.take_zero, List.drop_succ_cons, List.drop_zero]
    go_wp2_with fail
    refine Halt.mk ?_
    refine gate_guard (by rfl) ?_
    dsimp only
    refine wpList_load_row rfl 34 (.tmp 4) rfl gm rfl 34 #[.int .i64 m.f0, .int .i64 m.f1, .int .i64 m.f2, .int .i64 m.f3, .int .i64 m.f4, .int .i64 m.f5, .int .i64 m.f6, .bool m.f7, .slice A8 m.f8.length c8, .int .i64 m.f9.f0, .int .i64 m.f9.f1, .int .i64 m.f9.f2, .slice A12 m.f9.f3.length c12, .int .i64 m.f10.f0, .int .i64 m.f10.f1, .int .i64 m.f10.f2, .slice A16 m.f10.f3.length c16] (0, 0) _ Y5.out Tryz.underlying34 rfl (by kernel_rfl) ?_
    refine gate_guard (by rfl) ?_
    dsimp only
    refine wpList_load_row rfl 34 (.tmp 13) rfl w4.heap.size rfl 34 #[.int .i64 m.f0, .int .i64 m.f1, .int .i64 m.f2, .int .i64 m.f3, .int .i64 m.f4, .int .i64 m.f5, .int .i64 m.f6, .bool m.f7, .slice F8 m.f8.length f8, .int .i64 m.f9.f0, .int .i64 m.f9.f1, .int .i64 m.f9.f2, .slice F12 m.f9.f3.length f12, .int .i64 m.f10.f0, .int .i64 m.f10.f1, .int .i64 m.f10.f2, .slice F16 m.f10.f3.length f16] (0, 0) _ Z5.out Tryz.underlying34 rfl (by kernel_rfl) ?_
    go_wp2_with fail
    have h4 := refSameMs_is m m M5.out V5.out
    rw [eqMs_refl] at h4
    refine h4.mono ?_
    rintro e w6 ⟨rfl, hb⟩
    have B6 := Lib.hid (B5.out.trans (hb.mono B5.out.size))
    clear h4 hb
    go_wp2_with fail
    go_meet
    exact B6.out
  case rest =>
   obtain ⟨w3, rfl⟩ : ∃ W, W = wc := ⟨_, rfl⟩
   have hb := hcut
   clear hcut
   have X3 := Lib.hid ((hb.block _ (Array.getElem?_eq_some_iff.1 X2.out).1).trans X2.out); have Y3 := Lib.hid (Y2.out.below hb); have XC3 := Lib.hid (Kd.C_below XC2.out hb); have M3 := Lib.hid (M2.out.below hb); have D3 := Lib.hid (Kd.C_below D2.out hb); have B3 := Lib.hid (B2.out.trans (hb.mono B2.out.size))
   clear hb X2 Y2 XC2 M2 D2 B2
   refine k2 _ _ (wp_seq_k fun K3 k3 => ?_)
   go_cut [] (fun wx => Below w3.heap.size w3 wx)
   case first =>
    obtain ⟨y, e1, hf⟩ : ∃ y e1, takeEn l = (y, e1) := ⟨_, _, rfl⟩
    have HF := Lib.hid hf
    clear hf
    go_wp2_with fail
    have h4 := takeEn_is D cd l w3 D3.out DL.out DO.out DN.out
    rw [HF.out] at h4
    refine h4.mono ?_
    rintro e w4 ⟨v, rfl, hv, hb⟩
    obtain ⟨F, cf, rfl⟩ := Kd.R_slice (Kd.S_R hv)
    have D4 := Lib.hid (Kd.C_below D3.out hb); have B4 := Lib.hid hb; have V4 := Lib.hid (show y.2.2.2.length ≤ cf ∧ Kd.C G.k26 w4 F y.2.2.2.length y.2.2.2 from (Kd.R_reads' (Kd.S_R hv)).2)
    clear hb hv h4 X3 Y3 XC3 M3 D3 B3
    go_upto_region 18 with fail
    obtain ⟨x5, hb⟩ := box1 w4 #[.int .i64 y.1, .int .i64 y.2.1, .int .i64 y.2.2.1, .slice F y.2.2.2.length cf] 29
    obtain ⟨w5, hw⟩ : ∃ W, w4.alloc (.cells #[.int .i64 y.1, .int .i64 y.2.1, .int .i64 y.2.2.1, .slice F y.2.2.2.length cf] 29) = W := ⟨_, rfl⟩
    rw [hw] at x5 hb ⊢
    clear hw
    have D5 := Lib.hid (Kd.C_below D4.out hb); have B5 := Lib.hid (B4.out.trans (hb.mono B4.out.size)); have V5 := Lib.hid (Kd.C_below V4.out.2 hb); have Z5 := Lib.hid x5
    clear hb x5 D4 B4
    by_cases he1 : e1 = 0
    ·subst he1
     have hb0 := entF_back DO.out (by rw [HF.out] : (takeEn l).2 = 0)
     rw [HF.out] at hb0
     have hyo := entry_ok (s := ⟨l, 0, false⟩) ⟨DO.out, DN.out⟩
     have hye := (takeEn_val (by rw [HF.out] : (takeEn l).2 = 0))
     rw [HF.out] at hye
     have YO := Lib.hid (show okE y.1 y.2.1 y.2.2.1 y.2.2.2 = true by rw [show y = (eEntry ⟨l, 0, false⟩).1 from hye]; exact hyo)
     clear hyo hye
     go_upto_region 19 with fail
     refine wp_region_list ?_
     refine wpList_load_row rfl 29 (.tmp 15) rfl w4.heap.size rfl 29 #[.int .i64 y.1, .int .i64 y.2.1, .int .i64 y.2.2.1, .slice F y.2.2.2.length cf] (0, 0) _ Z5.out Tryz.underlying29 rfl (by kernel_rfl) ?_
     go_wp2_with fail
     have h4 := entry_is y.1 y.2.1 y.2.2.1 F cf y.2.2.2 w5 V5.out YO.out
     rw [hb0] at h4
     by_cases hln : 1048576 < l.length
     ·rw [if_pos hln] at h4
      refine h4.mono ?_
      rintro e w6 ⟨v, rfl, hv, hb⟩
      have B6 := Lib.hid (B5.out.trans (hb.mono B5.out.size))
      have q1 : decide ((l.length : Int) ≤ 1048576) = false := decide_eq_false (by omega)
      clear h4 hb hv hb0 hln
      go_wp2_with fail
      go_meet
      exact B6.out
     ·rw [if_neg hln] at h4
      refine h4.mono ?_
      rintro e w6 ⟨v, rfl, hv, hb⟩
      obtain ⟨V, cV, rfl⟩ := Kd.R_slice hv
      have V6 := Lib.hid (Kd.R_reads' hv); have D6 := Lib.hid (Kd.C_below D5.out hb); have B6 := Lib.hid (B5.out.trans (hb.mono B5.out.size))
      clear h4 hb hv hb0 hln
      go_wp2_with fail
      have h4 := bEqual_is V cV l D cd l V6.out.2.2 V6.out.2.1 D6.out DL.out
      rw [eqS_refl] at h4
      refine h4.mono ?_
      rintro e w7 ⟨rfl, hb⟩
      have B7 := Lib.hid (B6.out.trans (hb.mono B6.out.size))
      clear h4 hb
      go_wp2_with fail
      go_meet
      exact B7.out
    ·have q1 : (e1 == (0 : Int)) = false := beq_eq_false_iff_ne.2 he1
     clear he1
     go_wp2_with fail
     go_meet
     exact B5.out
   case rest =>
    obtain ⟨w4, rfl⟩ : ∃ W, W = wc := ⟨_, rfl⟩
    have hb := hcut
    clear hcut
    have X4 := Lib.hid ((hb.block _ (Array.getElem?_eq_some_iff.1 X3.out).1).trans X3.out); have Y4 := Lib.hid (Y3.out.below hb); have XC4 := Lib.hid (Kd.C_below XC3.out hb); have M4 := Lib.hid (M3.out.below hb); have D4 := Lib.hid (Kd.C_below D3.out hb); have B4 := Lib.hid (B3.out.trans (hb.mono B3.out.size))
    clear hb X3 Y3 XC3 M3 D3 B3
    refine k3 _ _ (wp_seq_k fun K4 k4 => ?_)
    go_cut [] (fun wx => Below w4.heap.size w4 wx)
    case first =>
     obtain ⟨y, e1, hf⟩ : ∃ y e1, unm l = (y, e1) := ⟨_, _, rfl⟩
     have HF := Lib.hid hf
     clear hf
     go_wp2_with fail
     have h4 := unm_is D cd l w4 D4.out DL.out DO.out DN.out
     rw [HF.out] at h4
     refine h4.mono ?_
     rintro e w5 ⟨v8, v12, v16, rfl, r8, r12, r16, hb⟩
     obtain ⟨F8, f8, rfl⟩ := Kd.R_slice r8
     obtain ⟨F12, f12, rfl⟩ := Kd.R_slice r12
     obtain ⟨F16, f16, rfl⟩ := Kd.R_slice r16
     have D5 := Lib.hid (Kd.C_below D4.out hb); have B5 := Lib.hid hb; have V5 := Lib.hid (show MsgC w5 y F8 f8 F12 f12 F16 f16 from ⟨(Kd.R_reads' r8).2.1, (Kd.R_reads' r8).2.2, (Kd.R_reads' r12).2.1, (Kd.R_reads' r12).2.2, (Kd.R_reads' r16).2.1, (Kd.R_reads' r16).2.2⟩)
     clear hb r8 r12 r16 h4 X4 Y4 XC4 M4 D4 B4
     go_upto_region 23 with fail
     obtain ⟨x5, hb⟩ := box1 w5 #[.int .i64 y.f0, .int .i64 y.f1, .int .i64 y.f2, .int .i64 y.f3, .int .i64 y.f4, .int .i64 y.f5, .int .i64 y.f6, .bool y.f7, .slice F8 y.f8.length f8, .int .i64 y.f9.f0, .int .i64 y.f9.f1, .int .i64 y.f9.f2, .slice F12 y.f9.f3.length f12, .int .i64 y.f10.f0, .int .i64 y.f10.f1, .int .i64 y.f10.f2, .slice F16 y.f10.f3.length f16] 34
     obtain ⟨w6, hw⟩ : ∃ W, w5.alloc (.cells #[.int .i64 y.f0, .int .i64 y.f1, .int .i64 y.f2, .int .i64 y.f3, .int .i64 y.f4, .int .i64 y.f5, .int .i64 y.f6, .bool y.f7, .slice F8 y.f8.length f8, .int .i64 y.f9.f0, .int .i64 y.f9.f1, .int .i64 y.f9.f2, .slice F12 y.f9.f3.length f12, .int .i64 y.f10.f0, .int .i64 y.f10.f1, .int .i64 y.f10.f2, .slice F16 y.f10.f3.length f16] 34) = W := ⟨_, rfl⟩
     rw [hw] at x5 hb ⊢
     clear hw
     have D6 := Lib.hid (Kd.C_below D5.out hb); have B6 := Lib.hid (B5.out.trans (hb.mono B5.out.size)); have V6 := Lib.hid (V5.out.below hb); have Z6 := Lib.hid x5
     clear hb x5 D5 B5 V5
     by_cases he1 : e1 = 0
     ·subst he1
      have hb0 := unm_bk DO.out (by rw [HF.out] : (unm l).2 = 0)
      rw [HF.out] at hb0
      have hyo := unm_okM DO.out DN.out
      rw [HF.out] at hyo
      have YO := Lib.hid hyo
      clear hyo
      go_upto_region 24 with fail
      refine wp_region_list ?_
      refine wpList_load_row rfl 34 (.tmp 19) rfl w5.heap.size rfl 34 #[.int .i64 y.f0, .int .i64 y.f1, .int .i64 y.f2, .int .i64 y.f3, .int .i64 y.f4, .int .i64 y.f5, .int .i64 y.f6, .bool y.f7, .slice F8 y.f8.length f8, .int .i64 y.f9.f0, .int .i64 y.f9.f1, .int .i64 y.f9.f2, .slice F12 y.f9.f3.length f12, .int .i64 y.f10.f0, .int .i64 y.f10.f1, .int .i64 y.f10.f2, .slice F16 y.f10.f3.length f16] (0, 0) _ Z6.out Tryz.underlying34 rfl (by kernel_rfl) ?_
      go_wp2_with fail
      have h4 := mar_is y V6.out YO.out sealedB sealC
      rw [hb0] at h4
      refine h4.mono ?_
      rintro e w7 ⟨v, rfl, hv, hb⟩
      obtain ⟨V, cV, rfl⟩ := Kd.R_slice hv
      have V7 := Lib.hid (Kd.R_reads' hv); have D7 := Lib.hid (Kd.C_below D6.out hb); have B7 := Lib.hid (B6.out.trans (hb.mono B6.out.size))
      clear h4 hb hv hb0
      go_wp2_with fail
      have h4 := bEqual_is V cV l D cd l V7.out.2.2 V7.out.2.1 D7.out DL.out
      rw [eqS_refl] at h4
      refine h4.mono ?_
      rintro e w8 ⟨rfl, hb⟩
      have B8 := Lib.hid (B7.out.trans (hb.mono B7.out.size))
      clear h4 hb
      go_wp2_with fail
      go_meet
      exact B8.out
     ·have q1 : (e1 == (0 : Int)) = false := beq_eq_false_iff_ne.2 he1
      clear he1
      go_wp2_with fail
      go_meet
      exact B6.out
    case rest =>
     obtain ⟨w5, rfl⟩ : ∃ W, W = wc := ⟨_, rfl⟩
     have hb := hcut
     clear hcut
     have X5 := Lib.hid ((hb.block _ (Array.getElem?_eq_some_iff.1 X4.out).1).trans X4.out); have Y5 := Lib.hid (Y4.out.below hb); have XC5 := Lib.hid (Kd.C_below XC4.out hb); have M5 := Lib.hid (M4.out.below hb); have D5 := Lib.hid (Kd.C_below D4.out hb); have B5 := Lib.hid (B4.out.trans (hb.mono B4.out.size))
     clear hb X4 Y4 XC4 M4 D4 B4
     refine k4 _ _ ?_
     go_wp2_with fail
     go_ret
     exact ⟨rfl, B5.out⟩
end Go.Proofs.YtgiefblcckikeaaGreat.M
end
