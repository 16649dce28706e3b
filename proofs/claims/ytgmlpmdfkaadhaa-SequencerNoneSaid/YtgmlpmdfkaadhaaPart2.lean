/- SequencerNoneSaid: contracts of the functions that the law goes through, put together in build order (part 3 of 3). -/
import Derived.Test.YtgmlpmdfkaadhaaPart1
import Derived.Laws.Rows
import Derived.WalkKit
import Derived.Laws.CopyRow
import Derived.Laws.MakeOwn
import Derived.Lib.Hide
import Derived.RangeFuncNested
import Derived.RangeFuncBound
import Derived.RangeFuncCalls
import Derived.RangeFuncLeaves
import Derived.RangeFuncBox
import Derived.Shelf.Abstract
import Derived.OwnWalkIn
import Derived.TacticsInMore
import Derived.LoopNIn
import Derived.LoopIn
set_option linter.unusedVariables false
set_option linter.unusedSimpArgs false
set_option maxRecDepth 100000
section
/- A function that reads with a state at x into a struct variable g, its result's box being the first new one; what it has read stays. -/
namespace Go.Proofs.Ytgmlpmdfkaadhaa.M
open Go.RowKit Go.Proofs.YtgmlpmdfkaadhaaW.PrintWords Go.Proofs.YtgmlpmdfkaadhaaW.PrintLast Go.Proofs.YtgmlpmdfkaadhaaW.PrintMore Go.Proofs.Ytgmlpmdfkaadhaa.G
def Held (S : Nat → Prop) (W : World) (P : World → Prop) : Prop := ∀ W' : World, W.heap.size ≤ W'.heap.size → (∀ k, k < W.heap.size → ¬ S k → W'.heap[k]? = W.heap[k]?) → P W'
theorem Held.now {S : Nat → Prop} {W : World} {P : World → Prop} (h : Held S W P) : P W := h W (Nat.le_refl _) (fun _ _ _ => rfl)
theorem Held.step {S : Nat → Prop} {W W' : World} {P : World → Prop} (h : Held S W P) (hz : W.heap.size ≤ W'.heap.size) (hm : ∀ k, k < W.heap.size → ¬ S k → W'.heap[k]? = W.heap[k]?) : Held S W' P :=
 fun V hV hk => h V (Nat.le_trans hz hV) (fun k h1 h2 => (hk k (Nat.lt_of_lt_of_le h1 hz) h2).trans (hm k h1 h2))
theorem Held.keep {S S' : Nat → Prop} {W W' : World} {P : World → Prop} (h : Held S W P) (k : KeepS S' W W') (hs : ∀ i, S' i → S i) : Held S W' P := h.step k.size (fun i h1 h2 => k.block i h1 (fun e => h2 (hs i e)))
theorem Held.set {S : Nat → Prop} {W : World} {P : World → Prop} (h : Held S W P) (p : Addr) (hp : S p.block) (v : Value) : Held S (W.setCell p v) P :=
 h.step (by rw [World.size_setCell]; exact Nat.le_refl _) (fun k _ h2 => Below.heap_setCell W p v k (fun e => h2 (e ▸ hp)))
theorem Held.and {S : Nat → Prop} {W : World} {P Q : World → Prop} (h : Held S W P) (k : Held S W Q) : Held S W (fun V => P V ∧ Q V) := fun V h1 h2 => ⟨h V h1 h2, k V h1 h2⟩
theorem Held.true (S : Nat → Prop) (W : World) : Held S W (fun _ => True) := fun _ _ _ => trivial
abbrev Iv {α : Type} (d : Kd α) (e : Nat) (w : World) (lo hi : Nat) (v : Value) (l : List α) (W : World) : Prop := Kd.R d e W w.heap.size (fun k => lo ≤ k ∧ k < hi) v l
theorem Iv.of {α : Type} {d : Kd α} {e : Nat} {w W : World} {base : Nat} {ok : Nat → Prop} {v : Value} {l : List α} (h : Kd.R d e W base ok v l) (hb : w.heap.size ≤ base) : Iv d e w base W.heap.size v l W :=
 Kd.R_mono (Kd.R_lower (Kd.R_bound h) hb) (fun k hk => ⟨hk.2.1, hk.2.2.1⟩)
theorem Iv.held {α : Type} {d : Kd α} {e : Nat} {w W : World} {lo hi : Nat} {v : Value} {l : List α} {S : Nat → Prop} (h : Iv d e w lo hi v l W) (hS : ∀ k, S k → k < lo ∨ hi ≤ k) : Held S W (Iv d e w lo hi v l) :=
 fun V _ hk => Kd.R_step h (fun k h1 h2 => hk k h2 (fun e => by have := hS k e; omega))
abbrev Sv {α : Type} (d : Kd α) (e : Nat) (w : World) (lo hi : Nat) (v : Value) (l : List α) (W : World) : Prop := Kd.S d e W w.heap.size (fun k => lo ≤ k ∧ k < hi) v l
theorem Sv.of {α : Type} {d : Kd α} {e : Nat} {w W : World} {base : Nat} {ok : Nat → Prop} {v : Value} {l : List α} (h : Kd.S d e W base ok v l) (hb : w.heap.size ≤ base) : Sv d e w base W.heap.size v l W :=
 Kd.S_mono (Kd.S_lower (Kd.S_bound h) hb) (fun k hk => ⟨hk.2.1, hk.2.2.1⟩)
theorem Sv.held {α : Type} {d : Kd α} {e : Nat} {w W : World} {lo hi : Nat} {v : Value} {l : List α} {S : Nat → Prop} (h : Sv d e w lo hi v l W) (hS : ∀ k, S k → k < lo ∨ hi ≤ k) : Held S W (Sv d e w lo hi v l) :=
 fun V _ hk => Kd.S_step h (fun k h1 h2 => hk k h2 (fun e => by have := hS k e; omega))
theorem Iv.apart {α β : Type} {d : Kd α} {d' : Kd β} {e e' : Nat} {w W : World} {lo hi lo' hi' : Nat} {v v' : Value} {l : List α} {l' : List β} (h : Iv d e w lo hi v l W) (h' : Iv d' e' w lo' hi' v' l' W) (hh : hi ≤ lo' ∨ hi' ≤ lo) : Kd.R d e W w.heap.size (fun k => some k ≠ v'.ownBlock) v l :=
 Kd.R_mono h (fun k hk e => by have := h'.1 k e.symm; omega)
end Go.Proofs.Ytgmlpmdfkaadhaa.M
end

section
/- A function that turns its parameter's box g and answers it out of the result's box r; what it has made stays. -/
namespace Go.Proofs.Ytgmlpmdfkaadhaa.M
open Go.RowKit Go.Proofs.YtgmlpmdfkaadhaaW.PrintWords Go.Proofs.YtgmlpmdfkaadhaaW.PrintLast Go.Proofs.YtgmlpmdfkaadhaaW.PrintMore Go.Proofs.Ytgmlpmdfkaadhaa.G
structure Bx (w : World) (g r T : Nat) (zs cs : Array Value) (P : World → Prop) (W : World) : Prop where
 g0 : W.heap[r]? = some (.cells zs T)
 y : W.heap[g]? = some (.cells cs T)
 d : Below w.heap.size w W
 hr : w.heap.size ≤ r
 hg : w.heap.size ≤ g
 ne : r ≠ g
 hz : g < W.heap.size
 hz2 : r < W.heap.size
 h : Held (fun k => k = r ∨ k = g) W P
section
variable {w W W' : World} {g r T : Nat} {zs cs : Array Value} {P Q : World → Prop}
theorem Bx.below (h : Bx w g r T zs cs P W) (hb : Below W.heap.size W W') : Bx w g r T zs cs P W' :=
 ⟨(hb.block r h.hz2).trans h.g0, (hb.block g h.hz).trans h.y, h.d.trans (hb.mono h.d.size), h.hr, h.hg, h.ne, Nat.lt_of_lt_of_le h.hz hb.size, Nat.lt_of_lt_of_le h.hz2 hb.size, h.h.step hb.size (fun k h1 _ => hb.block k h1)⟩
theorem Bx.drew (h : Bx w g r T zs cs P W) : Bx w g r T zs cs P W.drew := ⟨h.g0, h.y, h.d.drew, h.hr, h.hg, h.ne, h.hz, h.hz2, h.h.step (Nat.le_refl _) (fun _ _ _ => rfl)⟩
theorem Bx.and (h : Bx w g r T zs cs P W) (k : Held (fun k => k = r ∨ k = g) W Q) : Bx w g r T zs cs (fun V => P V ∧ Q V) W := ⟨h.g0, h.y, h.d, h.hr, h.hg, h.ne, h.hz, h.hz2, h.h.and k⟩
theorem Bx.lt (h : Bx w g r T zs cs P W) : w.heap.size ≤ W.heap.size := h.d.size
theorem Bx.callR {α : Type} {d : Kd α} {e : Nat} {ok : Nat → Prop} {v : Value} {l : List α} (h : Bx w g r T zs cs P W) (b : Below W.heap.size W W') (hv : Kd.R d e W' W.heap.size ok v l) :
  Bx w g r T zs cs (fun V => P V ∧ Iv d e w W.heap.size W'.heap.size v l V) W' :=
 (h.below b).and ((Iv.of hv h.lt).held (fun k hk => by have h1 := h.hz; have h2 := h.hz2; rcases hk with rfl | rfl <;> omega))
theorem Bx.set (h : Bx w g r T zs cs P W) (j : Nat) (v : Value) (cs' : Array Value) (hy : (W.setCell ⟨g, j, none⟩ v).heap[g]? = some (.cells cs' T)) : Bx w g r T zs cs' P (W.setCell ⟨g, j, none⟩ v) :=
 ⟨(Below.heap_setCell W ⟨g, j, none⟩ v r h.ne).trans h.g0, hy, h.d.setCell (p := ⟨g, j, none⟩) h.hg v, h.hr, h.hg, h.ne, by rw [World.size_setCell]; exact h.hz, by rw [World.size_setCell]; exact h.hz2, h.h.set ⟨g, j, none⟩ (.inr rfl) v⟩
theorem Bx.put (h : Bx w g r T zs cs P W) (j : Nat) (v : Value) : Bx w g r T zs (cs.setIfInBounds j v) P (W.setCell ⟨g, j, none⟩ v) := h.set j v _ (blk_put h.y j v rfl)
theorem Bx.done (h : Bx w g r T zs cs P W) (hk : KeepS (fun k => k = r ∨ k = g) W W') : P W' ∧ Below w.heap.size w W' := by
 have h1 := h.hg; have h2 := h.hr; have h3 := h.lt
 exact ⟨(h.h.keep hk (fun _ e => e)).now, h.d.trans (hk.below (B := w.heap.size) h3 (fun i e => by omega))⟩
end
theorem Bx.start (w : World) (T : Nat) (zs cs : Array Value) : Bx w w.heap.size (w.heap.size + 1) T zs cs (fun _ => True) ((w.alloc (.cells cs T)).alloc (.cells zs T)) := by
 have hz1 : (w.alloc (.cells cs T)).heap.size = w.heap.size + 1 := by simp
 have hz2 : ((w.alloc (.cells cs T)).alloc (.cells zs T)).heap.size = w.heap.size + 1 + 1 := by simp
 have hy := heap_alloc_new (w.alloc (.cells cs T)) (.cells zs T)
 rw [hz1] at hy
 exact ⟨hy, (((Below.refl _ (w.alloc (.cells cs T))).alloc (Nat.le_refl _) _).block w.heap.size (by omega)).trans (heap_alloc_new w _), ((Below.refl _ _).alloc (Nat.le_refl _) _).alloc (by simp) _, by omega, Nat.le_refl _, by omega, by omega, by omega, Held.true _ _⟩
end Go.Proofs.Ytgmlpmdfkaadhaa.M
end

section
/- What trivet/trivetref01's Num and Put come to, in plain Lean. -/
namespace Go.Proofs.Ytgmlpmdfkaadhaa.M
open Go.RowKit Go.Proofs.YtgmlpmdfkaadhaaW.PrintWords Go.Proofs.YtgmlpmdfkaadhaaW.PrintLast Go.Proofs.YtgmlpmdfkaadhaaW.PrintMore Go.Proofs.Ytgmlpmdfkaadhaa.G
end Go.Proofs.Ytgmlpmdfkaadhaa.M
end

section
-- Written by a program of this session's (wip/gprint.py over the kit's printer).
namespace Go.Proofs.Ytgmlpmdfkaadhaa.G
open Go.RowKit Go.Proofs.YtgmlpmdfkaadhaaW.PrintWords Go.Proofs.YtgmlpmdfkaadhaaW.PrintLast Go.Proofs.YtgmlpmdfkaadhaaW.PrintMore
attribute [local go_sem] max2_int min2_int max_two min_two max_three min_three max_four min_four   -- for this text's walks alone
end Go.Proofs.Ytgmlpmdfkaadhaa.G
end

section
-- Written by a program of this session's (wip/gprint.py over the kit's printer).
namespace Go.Proofs.Ytgmlpmdfkaadhaa.G
open Go.RowKit Go.Proofs.YtgmlpmdfkaadhaaW.PrintWords Go.Proofs.YtgmlpmdfkaadhaaW.PrintLast Go.Proofs.YtgmlpmdfkaadhaaW.PrintMore
attribute [local go_sem] max2_int min2_int max_two min_two max_three min_three max_four min_four   -- for this text's walks alone
end Go.Proofs.Ytgmlpmdfkaadhaa.G
end

section
/- A transaction's form. -/
namespace Go.Proofs.Ytgmlpmdfkaadhaa.M
open Go.RowKit Go.Proofs.YtgmlpmdfkaadhaaW.PrintWords Go.Proofs.YtgmlpmdfkaadhaaW.PrintLast Go.Proofs.YtgmlpmdfkaadhaaW.PrintMore Go.Proofs.Ytgmlpmdfkaadhaa.G
end Go.Proofs.Ytgmlpmdfkaadhaa.M
end

section
/- The reference's functions over transactions, as this session's words say them. -/
namespace Go.Proofs.Ytgmlpmdfkaadhaa.M
open Go.RowKit Go.Proofs.YtgmlpmdfkaadhaaW.PrintWords Go.Proofs.YtgmlpmdfkaadhaaW.PrintLast Go.Proofs.YtgmlpmdfkaadhaaW.PrintMore Go.Proofs.Ytgmlpmdfkaadhaa.G
abbrev txV (t : TxD) (A2 : Option Addr) (c2 : Nat) (A3 : Option Addr) (c3 : Nat) (A4 : Option Addr) (c4 : Nat) (A5 : Option Addr) (c5 : Nat) : Value := .agg #[.int .i64 t.f0, .int .i64 t.f1, .slice A2 t.f2.length c2, .slice A3 t.f3.length c3, .slice A4 t.f4.length c4, .slice A5 t.f5.length c5]
theorem TxC.ls {w : World} {t : TxD} {A2 A3 A4 A5 : Option Addr} {c2 c3 c4 c5 : Nat} (h : TxC w t A2 c2 A3 c3 A4 c4 A5 c5) : TxLs t := ⟨Kd.C_max h.g2, Kd.C_max h.g3, Kd.C_max h.g4, Kd.C_max h.g5⟩
end Go.Proofs.Ytgmlpmdfkaadhaa.M
end

section
/- record.CloneTxn (printed by genclone04.py). -/
attribute [local irreducible] Go.wpStill
namespace Go.Proofs.Ytgmlpmdfkaadhaa.M
open Go.RowKit Go.Proofs.YtgmlpmdfkaadhaaW.PrintWords Go.Proofs.YtgmlpmdfkaadhaaW.PrintLast Go.Proofs.YtgmlpmdfkaadhaaW.PrintMore Go.Proofs.Ytgmlpmdfkaadhaa.G
def SmT (t : TxD) : Prop := t.f2.length ≤ 1048576 ∧ t.f3.length ≤ 1048576 ∧ t.f4.length ≤ 1048576 ∧ t.f5.length ≤ 1048576
def TxNew (w : World) (t : TxD) (e : Ending) (w' : World) : Prop := ∃ v2 v3 v4 v5 : Value, e = .returned (.agg #[.int .i64 t.f0, .int .i64 t.f1, v2, v3, v4, v5]) ∧ Kd.R (Kd.int .u8) 5 w' w.heap.size (fun _ => True) v2 t.f2 ∧ Kd.R (Kd.int .i64) 2 w' w.heap.size (fun _ => True) v3 t.f3 ∧ Kd.R G.k54 54 w' w.heap.size (fun k => some k ≠ v5.ownBlock) v4 t.f4 ∧ Kd.R G.k54 54 w' w.heap.size (fun k => some k ≠ v4.ownBlock) v5 t.f5 ∧ Below w.heap.size w w'
set_option maxHeartbeats 4000000 in
theorem cloneTx_is {w : World} (t : TxD) {A2 A3 A4 A5 : Option Addr} {c2 c3 c4 c5 : Nat} (hC : TxC w t A2 c2 A3 c3 A4 c4 A5 c5) (hs : SmT t) :
  Calls Try.prog 30 #[txV t A2 c2 A3 c3 A4 c4 A5 c5] w fun e w' => TxNew w t e w' := by
 have HC := Lib.hid hC; have HS := Lib.hid hs
 have HT0 := Lib.hid (Bx.start w 32 #[.int .i64 0, .int .i64 0, .slice none 0 0, .slice none 0 0, .slice none 0 0, .slice none 0 0] #[.int .i64 t.f0, .int .i64 t.f1, .slice A2 t.f2.length c2, .slice A3 t.f3.length c3, .slice A4 t.f4.length c4, .slice A5 t.f5.length c5])
 clear hC hs
 go_enter Try.func30, Try.ntmps30
 go_upto_region 1 with fail
 obtain ⟨g, hg⟩ : ∃ g, w.heap.size = g := ⟨_, rfl⟩
 obtain ⟨w0, hw⟩ : ∃ w0, (w.alloc (.cells #[.int .i64 t.f0, .int .i64 t.f1, .slice A2 t.f2.length c2, .slice A3 t.f3.length c3, .slice A4 t.f4.length c4, .slice A5 t.f5.length c5] 32)).alloc (.cells #[.int .i64 0, .int .i64 0, .slice none 0 0, .slice none 0 0, .slice none 0 0, .slice none 0 0] 32) = w0 := ⟨_, rfl⟩
 have HG := Lib.hid hg
 rw [hw] at HT0 ⊢
 rw [hg] at HT0 ⊢
 clear hw hg
 have HT := Lib.hid HT0.out.drew
 clear HT0
 refine start_ (n := 10) (S := fun w' => w'.cell? ⟨g, 2, none⟩ = some (.slice A2 t.f2.length c2) ∧ w'.cell? ⟨g, 3, none⟩ = some (.slice A3 t.f3.length c3)) (ds := [7, 9]) #[false, false, false, false, false, false, false, false, false, false] (by kernel_rfl) rfl rfl ⟨(blk_cell HT.out.y 2).trans rfl, (blk_cell HT.out.y 3).trans rfl⟩ (fun hHeld => ?_)
 obtain ⟨wa, hwa⟩ : ∃ wa, w0.drew = wa := ⟨_, rfl⟩
 rw [hwa] at HT hHeld ⊢
 clear hwa
 refine pure_ (i := 0) (N := some 3) (v := ?_) (a' := ?_) #[true, false, false, false, false, false, false, false, false, false] rfl rfl (by kernel_rfl) (fun _ _ _ h => h) (Or.inl ⟨by rfl, ?_⟩) ?_ ?_
 rotate_left
 ·intro w'
  go_simp
  try with_reducible rfl
 rotate_left
 ·simp only [Act.put, sq1, sq2, sq3, i64_w, i32_w]
  rfl
 refine pure_ (i := 3) (N := some 6) (v := ?_) (a' := ?_) #[true, false, false, true, false, false, false, false, false, false] rfl rfl (by kernel_rfl) (fun _ _ _ h => h) (Or.inl ⟨by rfl, ?_⟩) ?_ ?_
 rotate_left
 ·intro w'
  go_simp
  try with_reducible rfl
 rotate_left
 ·simp only [Act.put, sq1, sq2, sq3, i64_w, i32_w]
  rfl
 refine take_ (i := 1) (N := some 4) (v := ?_) (a' := ?_) #[true, true, false, true, false, false, false, false, false, false] rfl rfl (by kernel_rfl) (fun _ _ _ h => h) (Or.inl ⟨by rfl, ?_⟩) hHeld ?_ ?_
 rotate_left
 ·intro w' hS
  go_simp
  try with_reducible rfl
 rotate_left
 ·simp only [Act.put, sq1, sq2, sq3, i64_w, i32_w]
  rfl
 refine take_ (i := 4) (N := some 7) (v := ?_) (a' := ?_) #[true, true, false, true, true, false, false, false, false, false] rfl rfl (by kernel_rfl) (fun _ _ _ h => h) (Or.inl ⟨by rfl, ?_⟩) hHeld ?_ ?_
 rotate_left
 ·intro w' hS
  go_simp
  try with_reducible rfl
 rotate_left
 ·simp only [Act.put, sq1, sq2, sq3, i64_w, i32_w]
  rfl
 refine one_ (i := 2) (N := some 5) #[true, true, true, true, true, false, false, false, false, false] rfl rfl (by kernel_rfl) (by decide) (fun K hK => ?_)
 go_simp
 refine (bclone_calls A2 c2 t.f2 wa (Kd.C_below HC.out.g2 HT.out.d) HC.out.l2 (by have := HS.out.1; omega)).mono ?_
 rintro e w1 ⟨v_, rfl, hv, hb⟩
 obtain ⟨N2, N2c, rfl⟩ := Kd.R_slice hv
 have HT1 := Lib.hid (HT.out.callR hb hv)
 have HLO1 := Lib.hid hb.size
 clear hv hb
 clear HT
 refine hK.out _ _ ⟨(blk_cell HT1.out.y 2).trans rfl, (blk_cell HT1.out.y 3).trans rfl⟩ (fun hHeld => ?_)
 clear hK K
 refine pure_ (i := 6) (N := some 9) (v := ?_) (a' := ?_) #[true, true, true, true, true, false, true, false, false, false] rfl rfl (by kernel_rfl) (fun _ _ _ h => h) (Or.inl ⟨by rfl, ?_⟩) ?_ ?_
 rotate_left
 ·intro w'
  go_simp
  try with_reducible rfl
 rotate_left
 ·simp only [Act.put, sq1, sq2, sq3, i64_w, i32_w]
  rfl
 refine one_ (i := 5) (N := some 8) #[true, true, true, true, true, true, true, false, false, false] rfl rfl (by kernel_rfl) (by decide) (fun K hK => ?_)
 go_simp
 refine (clone_ints A3 c3 t.f3 w1 (Kd.C_below HC.out.g3 HT1.out.d) HC.out.l3 (by have := HS.out.2.1; omega)).mono ?_
 rintro e w2 ⟨v_, rfl, hv, hb⟩
 obtain ⟨N3, N3c, rfl⟩ := Kd.R_slice hv
 have HT2 := Lib.hid (HT1.out.callR hb hv)
 have HLO2 := Lib.hid hb.size
 clear hv hb
 clear HT1
 refine hK.out _ _ ⟨(blk_cell HT2.out.y 2).trans rfl, (blk_cell HT2.out.y 3).trans rfl⟩ (fun hHeld => ?_)
 clear hK K
 have q2 : w2.cell? ⟨g, 2, none⟩ = some (.slice A2 t.f2.length c2) := (blk_cell HT2.out.y 2).trans rfl
 have z2 : w2.frozen? ⟨g, 2, none⟩ = false := blk_frozen HT2.out.y 2
 have q3 : w2.cell? ⟨g, 3, none⟩ = some (.slice A3 t.f3.length c3) := (blk_cell HT2.out.y 3).trans rfl
 have z3 : w2.frozen? ⟨g, 3, none⟩ = false := blk_frozen HT2.out.y 3
 refine last_ (i := 7) (N := none) #[true, true, true, true, true, true, true, true, false, false] rfl rfl (by kernel_rfl) (by decide) (fun K hK => ?_)
 refine skip_ (w1 := ?_) (by rfl) rfl ?_ ?_
 rotate_left
 ·go_simp
  rfl
 refine hK.out _ _ ?_
 clear hK K
 refine pure_ (i := 8) (N := some 10) (v := ?_) (a' := ?_) #[true, true, true, true, true, true, true, true, true, false] rfl rfl (by kernel_rfl) (fun _ _ _ h => h) (Or.inl ⟨by rfl, ?_⟩) ?_ ?_
 rotate_left
 ·intro w'
  go_simp
  try with_reducible rfl
 rotate_left
 ·simp only [Act.put, sq1, sq2, sq3, i64_w, i32_w]
  rfl
 refine last_ (i := 9) (N := none) #[true, true, true, true, true, true, true, true, true, true] rfl rfl (by kernel_rfl) (by decide) (fun K hK => ?_)
 refine skip_ (w1 := ?_) (by rfl) rfl ?_ ?_
 rotate_left
 ·go_simp
  rfl
 refine hK.out _ _ ?_
 clear hK K
 refine done_ (by kernel_rfl) ?_
 have HT3 := Lib.hid ((HT2.out.set 2 (.slice N2 t.f2.length N2c) #[.int .i64 t.f0, .int .i64 t.f1, .slice N2 t.f2.length N2c, .slice A3 t.f3.length c3, .slice A4 t.f4.length c4, .slice A5 t.f5.length c5] (blk_put HT2.out.y 2 _ rfl)).set 3 (.slice N3 t.f3.length N3c) #[.int .i64 t.f0, .int .i64 t.f1, .slice N2 t.f2.length N2c, .slice N3 t.f3.length N3c, .slice A4 t.f4.length c4, .slice A5 t.f5.length c5] (blk_put (blk_put HT2.out.y 2 _ rfl) 3 _ rfl))
 have HSZ3 := Lib.hid (show w2.heap.size ≤ ((w2.setCell ⟨g, 2, none⟩ (.slice N2 t.f2.length N2c)).setCell ⟨g, 3, none⟩ (.slice N3 t.f3.length N3c)).heap.size by rw [World.size_setCell, World.size_setCell]; exact Nat.le_refl _)
 obtain ⟨w3, hw⟩ : ∃ w3, (w2.setCell ⟨g, 2, none⟩ (.slice N2 t.f2.length N2c)).setCell ⟨g, 3, none⟩ (.slice N3 t.f3.length N3c) = w3 := ⟨_, rfl⟩
 rw [hw] at HT3 HSZ3 ⊢
 clear hw HT2 q2 z2 q3 z3
 go_upto_region 2 with fail
 have HT := Lib.hid HT3.out.drew
 clear HT3
 refine start_ (n := 10) (S := fun w' => w'.cell? ⟨g, 4, none⟩ = some (.slice A4 t.f4.length c4) ∧ w'.cell? ⟨g, 5, none⟩ = some (.slice A5 t.f5.length c5)) (ds := [7, 9]) #[false, false, false, false, false, false, false, false, false, false] (by kernel_rfl) rfl rfl ⟨(blk_cell HT.out.y 4).trans rfl, (blk_cell HT.out.y 5).trans rfl⟩ (fun hHeld => ?_)
 obtain ⟨wa, hwa⟩ : ∃ wa, w3.drew = wa := ⟨_, rfl⟩
 rw [hwa] at HT hHeld ⊢
 clear hwa
 refine pure_ (i := 0) (N := some 11) (v := ?_) (a' := ?_) #[true, false, false, false, false, false, false, false, false, false] rfl rfl (by kernel_rfl) (fun _ _ _ h => h) (Or.inl ⟨by rfl, ?_⟩) ?_ ?_
 rotate_left
 ·intro w'
  go_simp
  try with_reducible rfl
 rotate_left
 ·simp only [Act.put, sq1, sq2, sq3, i64_w, i32_w]
  rfl
 refine pure_ (i := 3) (N := some 14) (v := ?_) (a' := ?_) #[true, false, false, true, false, false, false, false, false, false] rfl rfl (by kernel_rfl) (fun _ _ _ h => h) (Or.inl ⟨by rfl, ?_⟩) ?_ ?_
 rotate_left
 ·intro w'
  go_simp
  try with_reducible rfl
 rotate_left
 ·simp only [Act.put, sq1, sq2, sq3, i64_w, i32_w]
  rfl
 refine take_ (i := 1) (N := some 12) (v := ?_) (a' := ?_) #[true, true, false, true, false, false, false, false, false, false] rfl rfl (by kernel_rfl) (fun _ _ _ h => h) (Or.inl ⟨by rfl, ?_⟩) hHeld ?_ ?_
 rotate_left
 ·intro w' hS
  go_simp
  try with_reducible rfl
 rotate_left
 ·simp only [Act.put, sq1, sq2, sq3, i64_w, i32_w]
  rfl
 refine take_ (i := 4) (N := some 15) (v := ?_) (a' := ?_) #[true, true, false, true, true, false, false, false, false, false] rfl rfl (by kernel_rfl) (fun _ _ _ h => h) (Or.inl ⟨by rfl, ?_⟩) hHeld ?_ ?_
 rotate_left
 ·intro w' hS
  go_simp
  try with_reducible rfl
 rotate_left
 ·simp only [Act.put, sq1, sq2, sq3, i64_w, i32_w]
  rfl
 refine one_ (i := 2) (N := some 13) #[true, true, true, true, true, false, false, false, false, false] rfl rfl (by kernel_rfl) (by decide) (fun K hK => ?_)
 go_simp
 refine (clone_keys A4 c4 t.f4 wa (Kd.C_below HC.out.g4 HT.out.d) HC.out.l4 (by have := HS.out.2.2.1; omega)).mono ?_
 rintro e w4 ⟨v_, rfl, hv, hb⟩
 obtain ⟨N4, N4c, rfl⟩ := Kd.R_slice hv
 have HT4 := Lib.hid (HT.out.callR hb hv)
 have HLO4 := Lib.hid hb.size
 clear hv hb
 clear HT
 refine hK.out _ _ ⟨(blk_cell HT4.out.y 4).trans rfl, (blk_cell HT4.out.y 5).trans rfl⟩ (fun hHeld => ?_)
 clear hK K
 refine pure_ (i := 6) (N := some 17) (v := ?_) (a' := ?_) #[true, true, true, true, true, false, true, false, false, false] rfl rfl (by kernel_rfl) (fun _ _ _ h => h) (Or.inl ⟨by rfl, ?_⟩) ?_ ?_
 rotate_left
 ·intro w'
  go_simp
  try with_reducible rfl
 rotate_left
 ·simp only [Act.put, sq1, sq2, sq3, i64_w, i32_w]
  rfl
 refine one_ (i := 5) (N := some 16) #[true, true, true, true, true, true, true, false, false, false] rfl rfl (by kernel_rfl) (by decide) (fun K hK => ?_)
 go_simp
 refine (clone_keys A5 c5 t.f5 w4 (Kd.C_below HC.out.g5 HT4.out.d) HC.out.l5 (by have := HS.out.2.2.2; omega)).mono ?_
 rintro e w5 ⟨v_, rfl, hv, hb⟩
 obtain ⟨N5, N5c, rfl⟩ := Kd.R_slice hv
 have HT5 := Lib.hid (HT4.out.callR hb hv)
 have HLO5 := Lib.hid hb.size
 clear hv hb
 clear HT4
 refine hK.out _ _ ⟨(blk_cell HT5.out.y 4).trans rfl, (blk_cell HT5.out.y 5).trans rfl⟩ (fun hHeld => ?_)
 clear hK K
 have q4 : w5.cell? ⟨g, 4, none⟩ = some (.slice A4 t.f4.length c4) := (blk_cell HT5.out.y 4).trans rfl
 have z4 : w5.frozen? ⟨g, 4, none⟩ = false := blk_frozen HT5.out.y 4
 have q5 : w5.cell? ⟨g, 5, none⟩ = some (.slice A5 t.f5.length c5) := (blk_cell HT5.out.y 5).trans rfl
 have z5 : w5.frozen? ⟨g, 5, none⟩ = false := blk_frozen HT5.out.y 5
 refine last_ (i := 7) (N := none) #[true, true, true, true, true, true, true, true, false, false] rfl rfl (by kernel_rfl) (by decide) (fun K hK => ?_)
 refine skip_ (w1 := ?_) (by rfl) rfl ?_ ?_
 rotate_left
 ·go_simp
  rfl
 refine hK.out _ _ ?_
 clear hK K
 refine pure_ (i := 8) (N := some 18) (v := ?_) (a' := ?_) #[true, true, true, true, true, true, true, true, true, false] rfl rfl (by kernel_rfl) (fun _ _ _ h => h) (Or.inl ⟨by rfl, ?_⟩) ?_ ?_
 rotate_left
 ·intro w'
  go_simp
  try with_reducible rfl
 rotate_left
 ·simp only [Act.put, sq1, sq2, sq3, i64_w, i32_w]
  rfl
 refine last_ (i := 9) (N := none) #[true, true, true, true, true, true, true, true, true, true] rfl rfl (by kernel_rfl) (by decide) (fun K hK => ?_)
 refine skip_ (w1 := ?_) (by rfl) rfl ?_ ?_
 rotate_left
 ·go_simp
  rfl
 refine hK.out _ _ ?_
 clear hK K
 refine done_ (by kernel_rfl) ?_
 have HT6 := Lib.hid ((HT5.out.set 4 (.slice N4 t.f4.length N4c) #[.int .i64 t.f0, .int .i64 t.f1, .slice N2 t.f2.length N2c, .slice N3 t.f3.length N3c, .slice N4 t.f4.length N4c, .slice A5 t.f5.length c5] (blk_put HT5.out.y 4 _ rfl)).set 5 (.slice N5 t.f5.length N5c) #[.int .i64 t.f0, .int .i64 t.f1, .slice N2 t.f2.length N2c, .slice N3 t.f3.length N3c, .slice N4 t.f4.length N4c, .slice N5 t.f5.length N5c] (blk_put (blk_put HT5.out.y 4 _ rfl) 5 _ rfl))
 have HSZ6 := Lib.hid (show w5.heap.size ≤ ((w5.setCell ⟨g, 4, none⟩ (.slice N4 t.f4.length N4c)).setCell ⟨g, 5, none⟩ (.slice N5 t.f5.length N5c)).heap.size by rw [World.size_setCell, World.size_setCell]; exact Nat.le_refl _)
 obtain ⟨w6, hw⟩ : ∃ w6, (w5.setCell ⟨g, 4, none⟩ (.slice N4 t.f4.length N4c)).setCell ⟨g, 5, none⟩ (.slice N5 t.f5.length N5c) = w6 := ⟨_, rfl⟩
 rw [hw] at HT6 HSZ6 ⊢
 clear hw HT5 q4 z4 q5 z5
 have d0 : w6.cell? ⟨g, 0, none⟩ = some (.int .i64 t.f0) := (blk_cell HT6.out.y 0).trans rfl
 have z0 : w6.frozen? ⟨g, 0, none⟩ = false := blk_frozen HT6.out.y 0
 have d1 : w6.cell? ⟨g, 1, none⟩ = some (.int .i64 t.f1) := (blk_cell HT6.out.y 1).trans rfl
 have z1 : w6.frozen? ⟨g, 1, none⟩ = false := blk_frozen HT6.out.y 1
 have d2 : w6.cell? ⟨g, 2, none⟩ = some (.slice N2 t.f2.length N2c) := (blk_cell HT6.out.y 2).trans rfl
 have z2 : w6.frozen? ⟨g, 2, none⟩ = false := blk_frozen HT6.out.y 2
 have d3 : w6.cell? ⟨g, 3, none⟩ = some (.slice N3 t.f3.length N3c) := (blk_cell HT6.out.y 3).trans rfl
 have z3 : w6.frozen? ⟨g, 3, none⟩ = false := blk_frozen HT6.out.y 3
 have d4 : w6.cell? ⟨g, 4, none⟩ = some (.slice N4 t.f4.length N4c) := (blk_cell HT6.out.y 4).trans rfl
 have z4 : w6.frozen? ⟨g, 4, none⟩ = false := blk_frozen HT6.out.y 4
 have d5 : w6.cell? ⟨g, 5, none⟩ = some (.slice N5 t.f5.length N5c) := (blk_cell HT6.out.y 5).trans rfl
 have z5 : w6.frozen? ⟨g, 5, none⟩ = false := blk_frozen HT6.out.y 5
 have e0 : w6.cell? ⟨g + 1, 0, none⟩ = some (.int .i64 0) := (blk_cell HT6.out.g0 0).trans rfl
 have y0 : w6.frozen? ⟨g + 1, 0, none⟩ = false := blk_frozen HT6.out.g0 0
 have e1 : w6.cell? ⟨g + 1, 1, none⟩ = some (.int .i64 0) := (blk_cell HT6.out.g0 1).trans rfl
 have y1 : w6.frozen? ⟨g + 1, 1, none⟩ = false := blk_frozen HT6.out.g0 1
 have e2 : w6.cell? ⟨g + 1, 2, none⟩ = some (.slice none 0 0) := (blk_cell HT6.out.g0 2).trans rfl
 have y2 : w6.frozen? ⟨g + 1, 2, none⟩ = false := blk_frozen HT6.out.g0 2
 have e3 : w6.cell? ⟨g + 1, 3, none⟩ = some (.slice none 0 0) := (blk_cell HT6.out.g0 3).trans rfl
 have y3 : w6.frozen? ⟨g + 1, 3, none⟩ = false := blk_frozen HT6.out.g0 3
 have e4 : w6.cell? ⟨g + 1, 4, none⟩ = some (.slice none 0 0) := (blk_cell HT6.out.g0 4).trans rfl
 have y4 : w6.frozen? ⟨g + 1, 4, none⟩ = false := blk_frozen HT6.out.g0 4
 have e5 : w6.cell? ⟨g + 1, 5, none⟩ = some (.slice none 0 0) := (blk_cell HT6.out.g0 5).trans rfl
 have y5 : w6.frozen? ⟨g + 1, 5, none⟩ = false := blk_frozen HT6.out.g0 5
 go_wp2_with fail
 have HEB := Lib.hid (blk_put (cs := #[.int .i64 t.f0, .int .i64 t.f1, .slice N2 t.f2.length N2c, .slice N3 t.f3.length N3c, .slice N4 t.f4.length N4c, .slice none 0 0]) (blk_put (cs := #[.int .i64 t.f0, .int .i64 t.f1, .slice N2 t.f2.length N2c, .slice N3 t.f3.length N3c, .slice none 0 0, .slice none 0 0]) (blk_put (cs := #[.int .i64 t.f0, .int .i64 t.f1, .slice N2 t.f2.length N2c, .slice none 0 0, .slice none 0 0, .slice none 0 0]) (blk_put (cs := #[.int .i64 t.f0, .int .i64 t.f1, .slice none 0 0, .slice none 0 0, .slice none 0 0, .slice none 0 0]) (blk_put (cs := #[.int .i64 t.f0, .int .i64 0, .slice none 0 0, .slice none 0 0, .slice none 0 0, .slice none 0 0]) (blk_put (cs := #[.int .i64 0, .int .i64 0, .slice none 0 0, .slice none 0 0, .slice none 0 0, .slice none 0 0]) HT6.out.g0 0 (.int .i64 t.f0) rfl) 1 (.int .i64 t.f1) rfl) 2 (.slice N2 t.f2.length N2c) rfl) 3 (.slice N3 t.f3.length N3c) rfl) 4 (.slice N4 t.f4.length N4c) rfl) 5 (.slice N5 t.f5.length N5c) rfl)
 have HD := Lib.hid (HT6.out.done (((((((KeepS.refl (fun k => k = g + 1 ∨ k = g) w6).set (p := ⟨g + 1, 0, none⟩) (.inl (.inl rfl)) (.int .i64 t.f0)).set (p := ⟨g + 1, 1, none⟩) (.inl (.inl rfl)) (.int .i64 t.f1)).set (p := ⟨g + 1, 2, none⟩) (.inl (.inl rfl)) (.slice N2 t.f2.length N2c)).set (p := ⟨g + 1, 3, none⟩) (.inl (.inl rfl)) (.slice N3 t.f3.length N3c)).set (p := ⟨g + 1, 4, none⟩) (.inl (.inl rfl)) (.slice N4 t.f4.length N4c)).set (p := ⟨g + 1, 5, none⟩) (.inl (.inl rfl)) (.slice N5 t.f5.length N5c)))
 obtain ⟨W, hW⟩ : ∃ W, ((((((w6.setCell ⟨g + 1, 0, none⟩ (.int .i64 t.f0)).setCell ⟨g + 1, 1, none⟩ (.int .i64 t.f1)).setCell ⟨g + 1, 2, none⟩ (.slice N2 t.f2.length N2c)).setCell ⟨g + 1, 3, none⟩ (.slice N3 t.f3.length N3c)).setCell ⟨g + 1, 4, none⟩ (.slice N4 t.f4.length N4c)).setCell ⟨g + 1, 5, none⟩ (.slice N5 t.f5.length N5c)) = W := ⟨_, rfl⟩
 rw [hW] at HEB HD ⊢
 clear hW
 refine bodyPost_ret (results_cell_row rfl _ _ (g + 1) 32 #[.int .i64 t.f0, .int .i64 t.f1, .slice N2 t.f2.length N2c, .slice N3 t.f3.length N3c, .slice N4 t.f4.length N4c, .slice N5 t.f5.length N5c] (0, 0) _ rfl HEB.out Try.underlying32 rfl (by kernel_rfl)) rfl ?_
 obtain ⟨⟨⟨⟨⟨-, p2⟩, p3⟩, p4⟩, p5⟩, dd⟩ := HD.out
 exact ⟨_, _, _, _, rfl, Kd.R_mono p2 (fun _ _ => trivial), Kd.R_mono p3 (fun _ _ => trivial), Iv.apart p4 p5 (.inl (Nat.le_refl _)), Iv.apart p5 p4 (.inr (Nat.le_refl _)), dd⟩
end Go.Proofs.Ytgmlpmdfkaadhaa.M
end

section
/- what a clone of an entry is. -/
attribute [local irreducible] Go.wpStill
namespace Go.Proofs.Ytgmlpmdfkaadhaa.M
open Go.RowKit Go.Proofs.YtgmlpmdfkaadhaaW.PrintWords Go.Proofs.YtgmlpmdfkaadhaaW.PrintLast Go.Proofs.YtgmlpmdfkaadhaaW.PrintMore Go.Proofs.Ytgmlpmdfkaadhaa.G
theorem Bx.grow {w W W' W0 : World} {g r T : Nat} {zs cs : Array Value} (h : Bx w g r T zs cs (fun _ => True) W) (hg : g < W0.heap.size) (hr : r < W0.heap.size) (hw : w.heap.size ≤ W0.heap.size) (hb : Below W0.heap.size W W') : Bx w g r T zs cs (fun _ => True) W' :=
 ⟨(hb.block r hr).trans h.g0, (hb.block g hg).trans h.y, h.d.trans (hb.mono hw), h.hr, h.hg, h.ne, Nat.lt_of_lt_of_le h.hz hb.size, Nat.lt_of_lt_of_le h.hz2 hb.size, Held.true _ _⟩
end Go.Proofs.Ytgmlpmdfkaadhaa.M
namespace Go.Proofs.Ytgmlpmdfkaadhaa.G
theorem info32 : (Try.prog.info? 32).map (fun i => (i.zero, i.size, i.bytes)) = some (some (.agg #[.int .i64 0, .int .i64 0, .slice none 0 0, .slice none 0 0, .slice none 0 0, .slice none 0 0]), 6, 112) := by kernel_rfl
end Go.Proofs.Ytgmlpmdfkaadhaa.G
end

section
/- A row of transactions: its cells are the call's own, what its elements lead to is only read. -/
namespace Go.Proofs.Ytgmlpmdfkaadhaa.M
open Go.RowKit Go.Proofs.YtgmlpmdfkaadhaaW.PrintWords Go.Proofs.YtgmlpmdfkaadhaaW.PrintLast Go.Proofs.YtgmlpmdfkaadhaaW.PrintMore Go.Proofs.Ytgmlpmdfkaadhaa.G
def Inn (B : Nat) (W : World) (k : Nat) : Prop := k < B ∨ (k < W.heap.size ∧ ∃ q, q ∈ (G.k32).E ∧ ∃ cells, W.heap[k]? = some (.cells cells q (0, 0)))
def Calm (B : Nat) (W W' : World) : Prop := ∀ k, Inn B W k → k < W.heap.size → W'.heap[k]? = W.heap[k]?
theorem Inn.step {B : Nat} {W W' : World} {k : Nat} (h : Inn B W k) (hl : k < W.heap.size) (hm : W'.heap[k]? = W.heap[k]?) : Inn B W' k := by
 rcases h with h | ⟨_, q, hq, cells, hc⟩
 ·exact .inl h
 ·exact .inr ⟨heap_lt hm hl, q, hq, cells, hm.trans hc⟩
section
variable {B : Nat} {W W' V : World}
theorem Calm.refl (B : Nat) (W : World) : Calm B W W := fun _ _ _ => rfl
theorem Calm.trans (h : Calm B W W') (k : Calm B W' V) : Calm B W V := fun i hi hl => (k i (hi.step hl (h i hi hl)) (heap_lt (h i hi hl) hl)).trans (h i hi hl)
theorem Calm.of_keep {S : Nat → Prop} (h : KeepS S W W') (hs : ∀ k, S k → ¬ Inn B W k) : Calm B W W' := fun k hk hl => h.block k hl (fun e => hs k e hk)
theorem Calm.of_below (h : Below W.heap.size W W') : Calm B W W' := fun k _ hl => h.block k hl
theorem FK_calm {α : Type} {d : Kd α} {x : α} {c : List Value} (h : Kd.FK d W (Inn B W) x c) (hc : Calm B W W') : Kd.FK d W' (Inn B W') x c :=
 Kd.FK_mono (Kd.FK_step (Kd.FK_bound h) (fun k hk _ => hc k hk.1 hk.2)) (fun k hk => hk.1.step hk.2 (hc k hk.1 hk.2))
theorem not_inn {g t : Nat} {cells : Array Value} (hB : B ≤ g) (hb : W.heap[g]? = some (.cells cells t (0, 0))) (ht : t ∉ (G.k32).E) : ¬ Inn B W g := by
 rintro (h | ⟨_, q, hq, cells', hc⟩)
 ·omega
 ·rw [hc] at hb
  injection hb with hb
  injection hb with _ hb
  exact ht (hb ▸ hq)
theorem not_inn_map {g : Nat} {es : Array _} {n : Nat} (hB : B ≤ g) (hb : W.heap[g]? = some (.map es n)) : ¬ Inn B W g := by
 rintro (h | ⟨_, q, hq, cells', hc⟩)
 ·omega
 ·rw [hc] at hb
  cases hb
end
theorem txn_not : 32 ∉ (G.k32).E := by decide
theorem sq_not : 68 ∉ (G.k32).E := by decide
def TR (B : Nat) (W : World) (v : Value) (l : List TxD) : Prop := ∃ inner, QRow W B 32 6 v l.length inner ∧ Reps (fun x c => Kd.FK G.k32 W (Inn B W) x c) 6 l inner
section
variable {B : Nat} {W W' : World} {v : Value} {l : List TxD} {A : Option Addr} {n c : Nat}
theorem TR.nil (B : Nat) (W : World) : TR B W (.slice none 0 0) [] := ⟨[], q_of_own (own_nil _ _ _ _), Reps.none _ _⟩
theorem TR.calm (h : TR B W v l) (hc : Calm B W W') (ho : ∀ k, v.ownBlock = some k → W'.heap[k]? = W.heap[k]?) : TR B W' v l := by
 obtain ⟨inner, hq, hr⟩ := h
 exact ⟨inner, q_move hq ho, hr.imp_ (fun _ _ hp => FK_calm hp hc)⟩
theorem TR.lt (h : TR B W v l) : ∀ k, v.ownBlock = some k → k < W.heap.size := by obtain ⟨inner, hq, _⟩ := h; exact q_lt hq
theorem TR.typed (h : TR B W v l) : ∀ k, v.ownBlock = some k → B ≤ k ∧ ∃ cells, W.heap[k]? = some (.cells cells 32 (0, 0)) := by obtain ⟨inner, hq, _⟩ := h; exact q_typed hq
theorem TR.not_inn (h : TR B W v l) : ∀ k, v.ownBlock = some k → ¬ Inn B W k := fun k hk => by
 obtain ⟨h1, cells, h2⟩ := h.typed k hk
 exact M.not_inn h1 h2 txn_not
theorem TR.below (h : TR B W v l) (hb : Below W.heap.size W W') : TR B W' v l := h.calm (.of_below hb) (fun k hk => hb.block k (h.lt k hk))
theorem TR.keep {S : Nat → Prop} (h : TR B W v l) (hk : KeepS S W W') (hs : ∀ k, S k → ¬ Inn B W k) (ho : ∀ k, v.ownBlock = some k → ¬ S k) : TR B W' v l :=
 h.calm (.of_keep hk hs) (fun k e => hk.block k (h.lt k e) (ho k e))
theorem TR.alloc (h : TR B W v l) (o : Obj) : TR B (W.alloc o) v l := h.below ((Below.refl _ _).alloc (Nat.le_refl _) o)
theorem TR.slice (h : TR B W v l) : ∃ A c, v = .slice A l.length c ∧ l.length ≤ c := by obtain ⟨inner, hq, _⟩ := h; exact q_slice hq
theorem TR.reads (h : TR B W (.slice A n c) l) : n = l.length ∧ n ≤ c ∧ Kd.C G.k32 W A l.length l := by
 obtain ⟨A', c', he, hl⟩ := h.slice
 injection he with h1 h2 h3
 subst h1; subst h2; subst h3
 refine ⟨rfl, hl, rfl, ?_, fun hn => ?_⟩
 ·obtain ⟨inner, hq, _⟩ := h
  exact q_max hq
 ·obtain ⟨inner, hq, hr⟩ := h
  obtain ⟨ad, rfl, hc⟩ := q_cells hq hn
  refine ⟨ad, rfl, fun j p hj => ⟨(inner.drop (j * 6)).take 6, Kd.K_len _ (Kd.FK_now (hr.2 j p hj)), Kd.FK_now (hr.2 j p hj), fun i u hu => ?_⟩⟩
  rw [List.getElem?_take] at hu
  split at hu
  ·rw [List.getElem?_drop] at hu
   exact hc _ u hu
  ·cases hu
theorem TR.f (h : TR B W (.slice A n c) l) : Kd.F G.k32 W (fun k => Inn B W k ∨ (Value.slice A n c).ownBlock = some k) A l.length l := fun W' hW =>
 (h.calm (fun k hk hl => hW k (.inl hk) hl) (fun k e => hW k (.inr e) (h.lt k e))).reads.2.2
theorem TR.take {m : Nat} (h : TR B W (.slice A l.length c) l) (hm : m ≤ l.length) : TR B W (.slice A m c) (l.take m) := by
 obtain ⟨inner, hq, hr⟩ := h
 exact ⟨inner.take (m * 6), by rw [List.length_take, Nat.min_eq_left hm]; exact q_take hq hm, Kd.reps_take hr hm⟩
theorem TR.drop {m : Nat} (h : TR B W (.slice A l.length c) l) (hm : m ≤ l.length) : TR B W (.slice (if c = m then A else A.map (·.add (m * 6))) (l.length - m) (c - m)) (l.drop m) := by
 obtain ⟨inner, hq, hr⟩ := h
 exact ⟨inner.drop (m * 6), by rw [List.length_drop]; exact q_drop hq hm, Kd.reps_drop hr⟩
def Src (B : Nat) (W : World) (a : Addr) (l : List TxD) (news : List Value) : Prop := (∀ j u, news[j]? = some u → W.cell? (a.add j) = some u) ∧ Reps (fun x c => Kd.FK G.k32 W (Inn B W) x c) 6 l news
theorem reps_one {l : List TxD} {news : List Value} (h : Reps (fun x c => Kd.FK G.k32 W (Inn B W) x c) 6 l news) : ∀ u ∈ news, u.oneCell' = true := by
 intro u hu
 obtain ⟨i, hi⟩ := List.getElem?_of_mem hu
 have hl := h.1
 have hilt := (List.getElem?_eq_some_iff.1 hi).1
 have hj : i / 6 < l.length := by omega
 have hp := h.2 (i / 6) l[i / 6] (List.getElem?_eq_getElem hj)
 refine Kd.K_one _ (Kd.FK_now hp) u (List.mem_of_getElem? (i := i % 6) ?_)
 rw [List.getElem?_take, if_pos (Nat.mod_lt _ (by decide)), List.getElem?_drop, ← hi]
 congr 1
 omega
theorem TR.src (h : TR B W (.slice A l.length c) l) (hp : 0 < l.length) : ∃ a news, A = some a ∧ Src B W a l news := by
 obtain ⟨inner, hq, hr⟩ := h
 obtain ⟨ad, rfl, hc⟩ := q_cells hq hp
 exact ⟨ad, inner, rfl, hc, hr⟩
theorem TR.append (h : TR B W v l) (ty : TypeId) {a : Addr} {m c : Nat} {l' : List TxD} {news : List Value} (hs : Src B W a l' news) (hm : m = l'.length) (h0 : 0 < m) (hl : l.length + m ≤ 1048576) (hB : B ≤ W.heap.size) :
  ∃ v' w', (Builtin.append_ #[22, 22] ty #[v, .slice (some a) m c]).run Try.prog W = .ok v' w' ∧ TR B w' v' (l ++ l') ∧ W.grownBy w' v.ownBlock ∧ (v'.ownBlock = v.ownBlock ∨ ∃ b, v'.ownBlock = some b ∧ W.heap.size ≤ b) := by
 subst hm
 have hni := h.not_inn
 obtain ⟨inner, hq, hr⟩ := h
 obtain ⟨i0, hi, hzz⟩ := Option.map_eq_some_iff.1 G.info32
 simp only [Prod.mk.injEq] at hzz
 obtain ⟨hz0, hz1, hz2⟩ := hzz
 obtain ⟨v', w', hrun, hq1, hg, hat⟩ := q_append (P := Try.prog) W B 22 ty 32 i0 _ 6 112 Try.underlying22 hi hz0 hz1 hz2 rfl (by decide) v l.length inner hq a l'.length c news (by rw [hs.2.1]) hs.1 (reps_one hs.2) h0 (by simp only [maxLen]; omega) (by omega) hB
 have hcalm : Calm B W w' := fun k hk hlt => hg.block k hlt (fun e => hni k e.symm hk)
 refine ⟨v', w', hrun, ⟨inner ++ news, by rw [List.length_append]; exact hq1, ?_⟩, hg, hat⟩
 have e1 := hr.imp_ (fun _ _ hp => FK_calm hp hcalm)
 have e2 := hs.2.imp_ (fun _ _ hp => FK_calm hp hcalm)
 refine ⟨by rw [List.length_append, List.length_append, e1.1, e2.1, Nat.add_mul], fun j p hj => ?_⟩
 rcases Nat.lt_or_ge j l.length with hjl | hjl
 ·rw [List.getElem?_append_left hjl] at hj
  have h2 := e1.2 j p hj
  rw [List.drop_append_of_le_length (by rw [e1.1]; omega), List.take_append_of_le_length (by rw [List.length_drop, e1.1]; omega)]
  exact h2
 ·rw [List.getElem?_append_right hjl] at hj
  have h2 := e2.2 _ p hj
  rw [show j * 6 = inner.length + (j - l.length) * 6 by rw [e1.1]; omega, ← List.drop_drop, List.drop_left]
  exact h2
theorem TR.block {g : Nat} {cur : Array Value} (hB : B ≤ g) (hb : W.heap[g]? = some (.cells cur 32 (0, 0))) (hr : Reps (fun x c => Kd.FK G.k32 W (Inn B W) x c) 6 l cur.toList) (hl : l.length ≤ 1048576) : TR B W (.slice (some ⟨g, 0, none⟩) l.length l.length) l := by
 have hz : cur.size = l.length * 6 := by rw [← Array.length_toList, hr.1]
 exact ⟨cur.toList, ⟨hr.1, .inr ⟨g, 0, l.length, cur, by rw [Nat.zero_mul], hB, hb, Nat.le_refl _, by simp only [maxLen]; omega, by rw [hz, Nat.zero_add], by rw [Nat.zero_mul, List.drop_zero, List.take_of_length_le (by rw [hr.1]; exact Nat.le_refl _)]⟩⟩, hr⟩
end
theorem fk_new {B : Nat} {W : World} {t : TxD} {lo : Nat} {o2 o3 o4 o5 : Nat → Prop} {v2 v3 v4 v5 : Value} (h2 : Kd.R (Kd.int .u8) 5 W lo o2 v2 t.f2) (h3 : Kd.R (Kd.int .i64) 2 W lo o3 v3 t.f3) (h4 : Kd.R G.k54 54 W lo o4 v4 t.f4) (h5 : Kd.R G.k54 54 W lo o5 v5 t.f5) :
  Kd.FK G.k32 W (Inn B W) t [.int .i64 t.f0, .int .i64 t.f1, v2, v3, v4, v5] := by
 have hM := G.k32_mkM W lo (fun _ => True) t (Kd.R_mono h2 (fun _ _ => trivial)) (Kd.R_mono h3 (fun _ _ => trivial)) (Kd.R_mono h4 (fun _ _ => trivial)) (Kd.R_mono h5 (fun _ _ => trivial))
 exact Kd.FK_mono (Kd.FK_of_M (Kd.M_bound _ hM)) (fun k hk => .inr ⟨hk.2.2.1, hk.2.2.2⟩)
theorem src_one {B : Nat} {W : World} {t : TxD} {cs : List Value} {e : TypeId} (h : Kd.FK G.k32 W (Inn B W) t cs) : Src B (W.alloc (.cells cs.toArray e)) ⟨W.heap.size, 0, none⟩ [t] cs := by
 have h' := FK_calm h (.of_below ((Below.refl _ W).alloc (Nat.le_refl _) (.cells cs.toArray e)))
 have hl : cs.length = 6 := Kd.K_len _ (Kd.FK_now h')
 refine ⟨fun j u hu => ?_, by rw [hl]; rfl, fun j p hj => ?_⟩
 ·rw [add_at, Nat.zero_add]
  have hb := heap_alloc_new W (.cells cs.toArray e)
  rw [cell_of_row _ _ _ _ _ (0, 0) hb]
  simpa using hu
 ·cases j with
  | zero =>
   simp at hj
   subst hj
   rw [Nat.zero_mul, List.drop_zero, List.take_of_length_le (by omega)]
   exact h'
  | succ j => simp at hj
section
variable {B : Nat} {W : World} {ops : Array Oper} {rest : List Oper} {o : Oper} {a : Act} {Q : Exit → Act → World → Prop} {Kc : Act → World → Prop}
theorem tr_append_step (hw : Region.wanted o (yielded ops a.tmps) = true) (s x : Operand) (ho : o.op = .call { callee := .builtin .append, args := #[s, x], argTypes := #[22, 22] })
  {v : Value} {l l' : List TxD} {news : List Value} {ad : Addr} {m c : Nat} (hs : a.eval s = v) (hx : a.eval x = .slice (some ad) m c) (h : TR B W v l) (hn : Src B W ad l' news) (hm : m = l'.length) (h0 : 0 < m) (hl : l.length + m ≤ 1048576) (hB : B ≤ W.heap.size)
  (hK : ∀ v' w', TR B w' v' (l ++ l') → W.grownBy w' v.ownBlock → (v'.ownBlock = v.ownBlock ∨ ∃ b, v'.ownBlock = some b ∧ W.heap.size ≤ b) → Kc (a.put o.dst v') w') :
  if Region.wanted o (yielded ops a.tmps) = true then Oper.wp Try.prog o a W Kc Q else Kc (a.put o.dst undef) W := by
 obtain ⟨v', w', hr, h1, h2, h3⟩ := h.append (c := c) o.type hn hm h0 hl hB
 rw [if_pos hw]
 unfold Oper.wp execOp
 simp only [ho, resolve, invoke, builtin, Sem.run_bind, Sem.run_pure, Result.andThen_ok, List.map_toArray, List.map_cons, List.map_nil, hs, hx, hr]
 exact hK v' w' h1 h2 h3
end
end Go.Proofs.Ytgmlpmdfkaadhaa.M
end

section
/- Keys of two numbers: arrays [2]int, structs of two numbers. -/
namespace Go.Proofs.Ytgmlpmdfkaadhaa.M
open Go.RowKit Go.Maps
theorem arr_two {α : Type} {cs : Array α} (h : cs.size = 2) : ∃ c0 c1, cs = #[c0, c1] := by
 obtain ⟨l⟩ := cs
 match l, h with
 | [c0, c1], _ => exact ⟨c0, c1, rfl⟩
def mk2 (p q : IntKind) (x : Int × Int) : Value := .agg #[.int p x.1, .int q x.2]
def wf2 (p q : IntKind) (x : Int × Int) : Prop := (Lit.int p x.1).wf = true ∧ (Lit.int q x.2).wf = true
theorem mk2_inj {p q : IntKind} (x y : Int × Int) (h : mk2 p q x = mk2 p q y) : x = y := by
 simp only [mk2, Value.agg.injEq, Array.mk.injEq, List.cons.injEq, Value.int.injEq, true_and, and_true] at h
 exact Prod.ext h.1 h.2
theorem keyT_struct2 {P : Program} {k : TypeId} {f0 f1 : Field} {p q : IntKind} (hk : P.underlying k = some (.struct #[f0, f1])) (h0 : P.underlying f0.type = some (.int p)) (h1 : P.underlying f1.type = some (.int q)) (ho : f0.offset = 0 ∧ f1.offset = 1) (hnm : (f0.name != "_") = true ∧ (f1.name != "_") = true)
  (hck : P.cellsOf k = 2) (hc0 : P.cellsOf f0.type = 1) (hc1 : P.cellsOf f1.type = 1) (hkt : P.keyType k = true) (hm : ∃ m, P.types.size = m + 1) (K : Keyed P k) :
  KeyT P k (mk2 p q) (wf2 p q) := by
 obtain ⟨m, hm⟩ := hm
 obtain ⟨n0, n1⟩ := hnm
 refine ⟨K, fun x hx => ?_, fun v kl h => ?_, mk2_inj⟩
 ·obtain ⟨w0, w1⟩ := hx
  simp only [bne_iff_ne, ne_eq] at n0 n1
  simp [keyOf, hk, hkt, mk2, Value.formed, hck, Program.keyLits, hm, h0, h1, hc0, hc1, ho.1, ho.2, n0, n1, Value.cells, w0, w1]
 ·unfold keyOf at h
  rw [hk] at h
  simp only [hkt, Bool.true_and] at h
  split at h
  ·rename_i hf
   rw [Option.map_eq_some_iff] at h
   obtain ⟨ls, h1', _⟩ := h
   cases v with
   | agg cs =>
    simp [Value.formed, hk, hck] at hf
    obtain ⟨c0, c1, rfl⟩ := arr_two hf
    simp only [bne_iff_ne, ne_eq] at n0 n1
    simp [Program.keyLits, hm, hk, hck, hc0, hc1, ho.1, ho.2, n0, n1, Value.cells] at h1'
    rw [Option.bind_eq_some_iff] at h1'
    obtain ⟨l0, h2, h3⟩ := h1'
    cases c0 <;> simp [h0] at h2
    obtain ⟨⟨rfl, w0⟩, rfl⟩ := h2
    cases c1 <;> simp [h1, Option.bind_eq_some_iff] at h3
    obtain ⟨_, ⟨_, ⟨⟨rfl, w1⟩, _⟩, _⟩, _⟩ := h3
    exact ⟨(_, _), ⟨w0, w1⟩, rfl⟩
   | _ => simp [Value.formed, hk] at hf
  ·cases h
theorem keyed_deep {P : Program} (hl : laidOutB P = true) {k : TypeId} (hrow : k < P.types.size) (hk : P.keyTypeAt 2 k = true) (hwide : (match P.underlying k with | some (.array _ _) | some (.struct _) => true | _ => false) = true) : Keyed P k :=
 Keyed.of_law (deep_law_laid hl (m := 2) (by omega) hrow hk hwide)
end Go.Proofs.Ytgmlpmdfkaadhaa.M
end

section
/- A sequencer in memory; New, Len, Number, Epoch, none. -/
namespace Go.Proofs.Ytgmlpmdfkaadhaa.M
open Go.RowKit Go.Proofs.YtgmlpmdfkaadhaaW.PrintWords Go.Proofs.YtgmlpmdfkaadhaaW.PrintLast Go.Proofs.YtgmlpmdfkaadhaaW.PrintMore Go.Proofs.Ytgmlpmdfkaadhaa.G
def mapQ (l : List TxD) (k : Int × Int) : Option Value := if waitsB l k = true then some (.bool true) else none
structure IsSq (B : Nat) (W : World) (g mp nb : Nat) (s : SqS) (A : Option Addr) (c : Nat) : Prop where
 y : W.heap[g]? = some (.cells #[.bool true, .int .i64 s.r, .slice A s.l.length c, .map (some mp), .int .i64 s.n, .int .i64 s.t] 68)
 m : IsM Try.prog 72 (mk2 .i64 .i64) W mp nb (mapQ s.l) s.l.length
 r : TR B W (.slice A s.l.length c) s.l
 o : OkQ s
 bg : B ≤ g
 bm : B ≤ mp
def sqS (g mp : Nat) (A : Option Addr) (k : Nat) : Prop := k = g ∨ k = mp ∨ ∃ a, A = some a ∧ a.block = k
def NewRow (W : World) (A A' : Option Addr) : Prop := ∀ a', A' = some a' → (∃ a, A = some a ∧ a.block = a'.block) ∨ W.heap.size ≤ a'.block
theorem own_iff {A : Option Addr} {n c k : Nat} : (Value.slice A n c).ownBlock = some k ↔ ∃ a, A = some a ∧ a.block = k := by
 cases A with
 | none => simp [Value.ownBlock]
 | some a => simp [Value.ownBlock]
theorem NewRow.refl (W : World) (A : Option Addr) : NewRow W A A := fun a' h => .inl ⟨a', h, rfl⟩
theorem NewRow.of {W : World} {A A' : Option Addr} {n c n' c' : Nat} (h : (Value.slice A' n' c').ownBlock = (Value.slice A n c).ownBlock ∨ ∃ b, (Value.slice A' n' c').ownBlock = some b ∧ W.heap.size ≤ b) : NewRow W A A' := by
 intro a' ha
 have h1 : (Value.slice A' n' c').ownBlock = some a'.block := own_iff.2 ⟨a', ha, rfl⟩
 rcases h with h | ⟨b, h, hb⟩
 ·exact .inl (own_iff.1 (h.symm.trans h1))
 ·rw [h1] at h
  injection h with h
  exact .inr (h ▸ hb)
theorem NewRow.trans {W W' : World} {A A' A'' : Option Addr} (h : NewRow W A A') (hz : W.heap.size ≤ W'.heap.size) (k : NewRow W' A' A'') : NewRow W A A'' := by
 intro a'' ha
 rcases k a'' ha with ⟨a', e1, e2⟩ | e
 ·rcases h a' e1 with ⟨a, f1, f2⟩ | f
  ·exact .inl ⟨a, f1, f2.trans e2⟩
  ·exact .inr (e2 ▸ f)
 ·exact .inr (Nat.le_trans hz e)
theorem NewRow.up {W W' : World} {A A' : Option Addr} (h : NewRow W' A A') (hz : W.heap.size ≤ W'.heap.size) : NewRow W A A' := (NewRow.refl W A).trans hz h
section
variable {B : Nat} {W W' : World} {g mp nb : Nat} {s : SqS} {A : Option Addr} {c : Nat}
theorem isM_obj {α : Type} {P : Program} {k : TypeId} {mk : α → Value} {w : World} {b n : Nat} {M : α → Option Value} {sz : Nat} (h : IsM P k mk w b n M sz) : ∃ es clock, w.heap[b]? = some (.map es clock) := by
 obtain ⟨D, ⟨es, clock, h1, h2⟩, h3⟩ := h
 exact ⟨es, clock, h1⟩
theorem IsSq.glt (h : IsSq B W g mp nb s A c) : g < W.heap.size := (Array.getElem?_eq_some_iff.1 h.y).1
theorem IsSq.ne (h : IsSq B W g mp nb s A c) : g ≠ mp := by
 rintro rfl
 obtain ⟨es, clock, e⟩ := isM_obj h.m
 have := h.y
 rw [e] at this
 cases this
theorem IsSq.own (h : IsSq B W g mp nb s A c) {a : Addr} (ha : A = some a) : B ≤ a.block ∧ ∃ cells, W.heap[a.block]? = some (.cells cells 32 (0, 0)) := h.r.typed _ (own_iff.2 ⟨a, ha, rfl⟩)
theorem IsSq.own_ne (h : IsSq B W g mp nb s A c) {a : Addr} (ha : A = some a) : a.block ≠ g ∧ a.block ≠ mp := by
 obtain ⟨_, cells, hc⟩ := h.own ha
 constructor
 ·intro e
  have := h.y
  rw [← e, hc] at this
  injection this with this
  injection this with _ this
  exact absurd this (by decide)
 ·intro e
  obtain ⟨es, clock, e2⟩ := isM_obj h.m
  rw [← e, hc] at e2
  cases e2
theorem IsSq.out (h : IsSq B W g mp nb s A c) : ∀ k, sqS g mp A k → ¬ Inn B W k := by
 rintro k (rfl | rfl | ⟨a, ha, rfl⟩)
 ·exact not_inn h.bg h.y sq_not
 ·obtain ⟨es, clock, e⟩ := isM_obj h.m
  exact not_inn_map h.bm e
 ·exact h.r.not_inn _ (own_iff.2 ⟨a, ha, rfl⟩)
theorem IsSq.lt (h : IsSq B W g mp nb s A c) : ∀ k, sqS g mp A k → k < W.heap.size := by
 rintro k (rfl | rfl | ⟨a, ha, rfl⟩)
 ·exact h.glt
 ·exact h.m.lt
 ·exact h.r.lt _ (own_iff.2 ⟨a, ha, rfl⟩)
theorem IsSq.ge (h : IsSq B W g mp nb s A c) : ∀ k, sqS g mp A k → B ≤ k := by
 rintro k (rfl | rfl | ⟨a, ha, rfl⟩)
 ·exact h.bg
 ·exact h.bm
 ·exact (h.own ha).1
theorem IsSq.keep {S : Nat → Prop} (h : IsSq B W g mp nb s A c) (hk : KeepS S W W') (hs : ∀ k, S k → ¬ Inn B W k) (hd : ∀ k, sqS g mp A k → ¬ S k) : IsSq B W' g mp nb s A c :=
 ⟨(hk.block g h.glt (hd g (.inl rfl))).trans h.y, h.m.move (hk.block mp h.m.lt (hd mp (.inr (.inl rfl)))), h.r.keep hk hs (fun k e => hd k (.inr (.inr (own_iff.1 e)))), h.o, h.bg, h.bm⟩
theorem IsSq.below (h : IsSq B W g mp nb s A c) (hb : Below W.heap.size W W') : IsSq B W' g mp nb s A c :=
 h.keep (KeepS.of_below (fun _ => False) hb) (fun _ h => h.elim) (fun _ _ h => h)
end
theorem noneOf {B : Nat} {W : World} {g mp nb : Nat} {s : SqS} {A : Option Addr} {c : Nat} (h : IsSq B W g mp nb s A c) : Calls Try.prog 28 #[.pointer (some ⟨g, 0, none⟩)] W fun e w' => e = .returned (.bool false) ∧ w' = W := by
 have h0 : W.cell? ⟨g, 0, none⟩ = some (.bool true) := (blk_cell h.y 0).trans rfl
 clear h
 go_enter Try.func28, Try.ntmps28
 go_wp2_with fail
 go_ret
 exact ⟨rfl, rfl⟩
theorem len_is {B : Nat} {W : World} {g mp nb : Nat} {s : SqS} {A : Option Addr} {c : Nat} (h : IsSq B W g mp nb s A c) : Calls Try.prog 11 #[.pointer (some ⟨g, 0, none⟩)] W fun e w' => e = .returned (.int .i64 s.l.length) ∧ w' = W := by
 have h2 : W.cell? ⟨g, 2, none⟩ = some (.slice A s.l.length c) := (blk_cell h.y 2).trans rfl
 have H := Lib.hid (noneOf h)
 clear h
 go_enter Try.func11, Try.ntmps11
 go_wp2_with fail
 refine H.out.mono ?_
 rintro e w' ⟨rfl, rfl⟩
 go_wp2_with fail
 go_ret
 exact ⟨rfl, rfl⟩
theorem number_is {B : Nat} {W : World} {g mp nb : Nat} {s : SqS} {A : Option Addr} {c : Nat} (h : IsSq B W g mp nb s A c) : Calls Try.prog 25 #[.pointer (some ⟨g, 0, none⟩)] W fun e w' => e = .returned (.int .i64 s.n) ∧ w' = W := by
 have h2 : W.cell? ⟨g, 4, none⟩ = some (.int .i64 s.n) := (blk_cell h.y 4).trans rfl
 have H := Lib.hid (noneOf h)
 clear h
 go_enter Try.func25, Try.ntmps25
 go_wp2_with fail
 refine H.out.mono ?_
 rintro e w' ⟨rfl, rfl⟩
 go_wp2_with fail
 go_ret
 exact ⟨rfl, rfl⟩
def newQ (r : Int) : SqS := ⟨r, [], 0, 0⟩
theorem newQ_ok {r : Int} (h : 0 ≤ r ∧ r ≤ 4) : OkQ (newQ r) where
 r := h
 n := by show (0 : Int) ≤ 0 ∧ (0 : Int) ≤ 1099511627776; decide
 t := by show (0 : Int) ≤ 0 ∧ (0 : Int) < 4; decide
 m := Nat.zero_le _
 a := fun t ht => by cases ht
 u := List.nodup_nil
theorem new_is {w : World} {r : Int} (h : 0 ≤ r ∧ r ≤ 4) {B : Nat} (hB : B ≤ w.heap.size) : Calls Try.prog 8 #[.int .i64 r] w fun e w' => e = .returned (.tuple #[.pointer (some ⟨w.heap.size + 1, 0, none⟩), .int .i64 0]) ∧ IsSq B w' (w.heap.size + 1) w.heap.size 0 (newQ r) none 0 ∧ Below w.heap.size w w' := by
 have q : decide (r < 0) = false := decide_eq_false (by omega)
 have q2 : decide (5 ≤ r) = false := decide_eq_false (by omega)
 have hmm := @run_makeMap Try.prog
 have HR := Lib.hid h
 have HB := Lib.hid hB
 clear h hB
 go_enter Try.func8, Try.ntmps8
 go_wp2_with fail
 go_ret2
 have hz : (w.alloc (.map #[] 0)).heap.size = w.heap.size + 1 := by simp
 have hB := HB.out
 refine ⟨by simp, ⟨?_, ?_, TR.nil _ _, newQ_ok HR.out, by omega, hB⟩, ?_⟩
 ·rw [← hz]; exact heap_alloc_new _ _
 ·exact (isM_made w _ _ _).alloc _
 ·exact ((Below.refl _ _).alloc (Nat.le_refl _) _).alloc (by simp) _
end Go.Proofs.Ytgmlpmdfkaadhaa.M
end

section
/- A whole struct's load, at once. -/
namespace Go.Proofs.Ytgmlpmdfkaadhaa.M
open Go
theorem exec_load_row {P : Program} {ρ : Operand → Value} {o : Oper} {w : World} {ty : TypeId} {x : Operand} {g t : Nat} {cs : Array Value} {fr : Nat × Nat} {d : TypeDesc} (ho : o.op = .load ty x) (hx : ρ x = .pointer (some ⟨g, 0, none⟩)) (hg : w.heap[g]? = some (.cells cs t fr))
  (hu : P.underlying ty = some d) (hd : (match d with | .struct _ | .array _ _ => true | _ => false) = true) (hi : (P.info? ty).map (·.size) = some cs.size) : (execOp ρ o).run P w = .ok (.value (.agg cs)) w := by
 unfold execOp
 simp only [ho, hx, Instr.loadAt, Instr.sureAddr, Sem.run_bind, Sem.run_pure, Result.andThen_ok, run_loadVar_row w g t ty cs fr d hg hu hd hi]
end Go.Proofs.Ytgmlpmdfkaadhaa.M
end

section
/- Take: a row of one transaction; its entry. -/
attribute [local irreducible] Go.wpStill
namespace Go.Proofs.Ytgmlpmdfkaadhaa.M
open Go.RowKit Go.Proofs.YtgmlpmdfkaadhaaW.PrintWords Go.Proofs.YtgmlpmdfkaadhaaW.PrintLast Go.Proofs.YtgmlpmdfkaadhaaW.PrintMore Go.Proofs.Ytgmlpmdfkaadhaa.G
theorem C_tx1 {w : World} {t : TxD} {A2 A3 A4 A5 : Option Addr} {c2 c3 c4 c5 : Nat} (h : TxC w t A2 c2 A3 c3 A4 c4 A5 c5) (e : TypeId) :
  Kd.C G.k32 (w.alloc (.cells #[.int .i64 t.f0, .int .i64 t.f1, .slice A2 t.f2.length c2, .slice A3 t.f3.length c3, .slice A4 t.f4.length c4, .slice A5 t.f5.length c5] e)) (some ⟨w.heap.size, 0, none⟩) 1 [t] := by
 refine ⟨rfl, by decide, fun _ => ⟨_, rfl, fun j p hj => ?_⟩⟩
 cases j with
 | zero =>
  simp at hj
  subst hj
  refine ⟨[.int .i64 t.f0, .int .i64 t.f1, .slice A2 t.f2.length c2, .slice A3 t.f3.length c3, .slice A4 t.f4.length c4, .slice A5 t.f5.length c5], rfl, G.k32_mk _ t h.l2 (Kd.C_alloc h.g2 _) h.l3 (Kd.C_alloc h.g3 _) h.l4 (Kd.C_alloc h.g4 _) h.l5 (Kd.C_alloc h.g5 _), fun i u hu => ?_⟩
  have hz : (0 : Nat) * Kd.sz G.k32 = 0 := Nat.zero_mul _
  match i, hu with
  | 0, hu => simp at hu; subst hu; rw [add_plain]; simp
  | 1, hu => simp at hu; subst hu; rw [add_plain]; simp
  | 2, hu => simp at hu; subst hu; rw [add_plain]; simp
  | 3, hu => simp at hu; subst hu; rw [add_plain]; simp
  | 4, hu => simp at hu; subst hu; rw [add_plain]; simp
  | 5, hu => simp at hu; subst hu; rw [add_plain]; simp
  | i + 6, hu => simp at hu
 | succ j => simp at hj
theorem smT_of {t : TxD} (h : mayT t = true) : SmT t := by
 obtain ⟨a, b, c, d⟩ := mayT_len h
 exact ⟨by omega, by omega, by omega, by omega⟩
open Go.Maps in
theorem keyQ : KeyT Try.prog 72 (mk2 .i64 .i64) (wf2 .i64 .i64) :=
 keyT_struct2 Try.underlying72 Try.underlying2 Try.underlying2 ⟨rfl, rfl⟩ ⟨by rfl, by rfl⟩ (by kernel_rfl) (by kernel_rfl) (by kernel_rfl) (by kernel_rfl) ⟨Try.prog.types.size - 1, by have h : 0 < Try.prog.types.size := of_decide_eq_true (by kernel_rfl); omega⟩
  (keyed_deep laidOut (of_decide_eq_true (by kernel_rfl)) (by kernel_rfl) (by rw [Try.underlying72]))
theorem zeroBool (u : World) : (zeroValue 4).run Try.prog u = .ok (.bool false) u := by kernel_rfl
theorem m_get_v {α : Type} {P : Program} {k e : TypeId} {mk : α → Value} {wf : α → Prop} {b n sz : Nat} {M : α → Option Value} (w : World) {ops : Array Oper} {rest : List Oper} {o : Oper} {a : Act} {Q : Exit → Act → World → Prop} (h : IsM P k mk w b n M sz) (hk : KeyT P k mk wf) (t : TypeId) (ht : P.underlying t = some (.map k e)) {z : Value} (hz : ∀ u : World, (zeroValue e).run P u = .ok z u) (hg : o.guard = none) (m y : Operand) (hop : o.op = Op.lookup t m y false)
  (x : α) (hx : wf x) {v : Value} (hv : (M x).getD z = v) (hm : a.eval m = .map (some b)) (hy : a.eval y = mk x) (hK : wpList P ops Q rest (a.put o.dst v) w) : wpList P ops Q (o :: rest) a w := by
 subst hv
 exact m_get w h hk t ht hz hg m y hop x hx hm hy hK
theorem mapQ_snoc (l : List TxD) (t : TxD) : mapQ (l ++ [t]) = fun y => if y = (t.f0, t.f1) then some (.bool true) else mapQ l y := by
 funext y
 unfold mapQ waitsB
 rw [List.any_append]
 by_cases h : y = (t.f0, t.f1)
 ·subst h
  simp [keyTx]
 ·have : (keyTx t == y) = false := by
   rw [beq_eq_false_iff_ne]
   exact fun e => h e.symm
  simp [h, this]
theorem IsSq.more {B : Nat} {W : World} {g mp nb : Nat} {s : SqS} {A : Option Addr} {c : Nat} (h : IsSq B W g mp nb s A c) : IsSq B W g mp (nb + 1) s A c := ⟨h.y, h.m.mono (Nat.le_succ _), h.r, h.o, h.bg, h.bm⟩
theorem txC_of {W : World} {ok : Nat → Prop} {t : TxD} {A2 A3 A4 A5 : Option Addr} {c2 c3 c4 c5 : Nat} (h : Kd.FK G.k32 W ok t [.int .i64 t.f0, .int .i64 t.f1, .slice A2 t.f2.length c2, .slice A3 t.f3.length c3, .slice A4 t.f4.length c4, .slice A5 t.f5.length c5]) : TxC W t A2 c2 A3 c3 A4 c4 A5 c5 := by
 obtain ⟨B2, d2, B3, d3, B4, d4, B5, d5, he, l2, g2, l3, g3, l4, g4, l5, g5⟩ := G.k32_open (Kd.FK_now h)
 simp only [List.cons.injEq, Value.slice.injEq, and_true, true_and] at he
 obtain ⟨⟨rfl, rfl⟩, ⟨rfl, rfl⟩, ⟨rfl, rfl⟩, ⟨rfl, rfl⟩⟩ := he
 exact ⟨l2, g2, l3, g3, l4, g4, l5, g5⟩
set_option maxHeartbeats 2000000 in
theorem take_arg {B : Nat} {W : World} {g mp nb : Nat} {s : SqS} {A : Option Addr} {c : Nat} (h : IsSq B W g mp nb s A c) {t : TxD} {A2 A3 A4 A5 : Option Addr} {c2 c3 c4 c5 : Nat} (hC : TxC W t A2 c2 A3 c3 A4 c4 A5 c5) (ho : okT t = true) (hm : mayT t = false) :
  Calls Try.prog 10 #[.pointer (some ⟨g, 0, none⟩), .agg #[.int .i64 t.f0, .int .i64 t.f1, .slice A2 t.f2.length c2, .slice A3 t.f3.length c3, .slice A4 t.f4.length c4, .slice A5 t.f5.length c5]] W fun e w' => e = .returned (.int .i64 1) ∧ Below W.heap.size W w' := by
 obtain ⟨hx, hb⟩ : (W.alloc (.cells #[.int .i64 t.f0, .int .i64 t.f1, .slice A2 t.f2.length c2, .slice A3 t.f3.length c3, .slice A4 t.f4.length c4, .slice A5 t.f5.length c5] 32)).heap[W.heap.size]? = some (.cells #[.int .i64 t.f0, .int .i64 t.f1, .slice A2 t.f2.length c2, .slice A3 t.f3.length c3, .slice A4 t.f4.length c4, .slice A5 t.f5.length c5] 32) ∧ Below W.heap.size W (W.alloc (.cells #[.int .i64 t.f0, .int .i64 t.f1, .slice A2 t.f2.length c2, .slice A3 t.f3.length c3, .slice A4 t.f4.length c4, .slice A5 t.f5.length c5] 32)) := ⟨heap_alloc_new W _, (Below.refl _ W).alloc (Nat.le_refl _) _⟩
 obtain ⟨w0, hw⟩ : ∃ V, W.alloc (.cells #[.int .i64 t.f0, .int .i64 t.f1, .slice A2 t.f2.length c2, .slice A3 t.f3.length c3, .slice A4 t.f4.length c4, .slice A5 t.f5.length c5] 32) = V := ⟨_, rfl⟩
 rw [hw] at hx hb
 have H := Lib.hid (noneOf (h.below hb))
 have HC := Lib.hid (hC.below hb); have HX := Lib.hid hx; have HB := Lib.hid hb
 have HE := Lib.hid (show okE 1 0 0 [t] = true ∧ (entF 1 0 0 [t]).2 = 40 from ⟨by unfold okE; rw [List.all_cons, ho]; rfl, by rw [one_err ho, if_neg (by rw [hm]; simp)]⟩)
 clear h hC hx hb
 go_enter Try.func10, Try.ntmps10
 go_wp2_with fail
 refine H.out.mono ?_
 rintro e w' ⟨rfl, rfl⟩
 go_upto_region 3 with fail
 refine wp_region_list ?_
 refine wpList_load_row rfl 32 (.tmp 3) rfl W.heap.size rfl 32 #[.int .i64 t.f0, .int .i64 t.f1, .slice A2 t.f2.length c2, .slice A3 t.f3.length c3, .slice A4 t.f4.length c4, .slice A5 t.f5.length c5] (0, 0) _ HX.out Try.underlying32 rfl (by kernel_rfl) ?_
 go_wp2_with fail
 have h4 := entry_is 1 0 0 (some ⟨w'.heap.size, 0, none⟩) 1 [t] (w'.alloc (.cells #[.int .i64 t.f0, .int .i64 t.f1, .slice A2 t.f2.length c2, .slice A3 t.f3.length c3, .slice A4 t.f4.length c4, .slice A5 t.f5.length c5] 32)) (C_tx1 HC.out _) HE.out.1
 rw [HE.out.2] at h4
 have h5 := (Below.refl w'.heap.size w').alloc (Nat.le_refl _) (.cells #[.int .i64 t.f0, .int .i64 t.f1, .slice A2 t.f2.length c2, .slice A3 t.f3.length c3, .slice A4 t.f4.length c4, .slice A5 t.f5.length c5] 32)
 refine h4.mono ?_
 rintro e w2 ⟨v, rfl, hv, hb⟩
 have HB2 := Lib.hid (HB.out.trans ((h5.trans (hb.mono h5.size)).mono HB.out.size))
 clear h4 h5 hb hv
 go_wp2_with fail
 go_ret
 exact ⟨rfl, HB2.out⟩
def TakeP (B : Nat) (W : World) (g mp nb : Nat) (s : SqS) (A : Option Addr) (t : TxD) (e : Ending) (w' : World) : Prop :=
 ∃ A' c', e = .returned (.int .i64 (qTake s t).2) ∧ IsSq B w' g mp (nb + 1) (qTake s t).1 A' c' ∧ KeepS (sqS g mp A) W w' ∧ NewRow W A A'
set_option maxHeartbeats 8000000 in
theorem take_may {B : Nat} {W : World} {g mp nb : Nat} {s : SqS} {A : Option Addr} {c : Nat} (h : IsSq B W g mp nb s A c) {t : TxD} {A2 A3 A4 A5 : Option Addr} {c2 c3 c4 c5 : Nat} (hF : Kd.FK G.k32 W (Inn B W) t [.int .i64 t.f0, .int .i64 t.f1, .slice A2 t.f2.length c2, .slice A3 t.f3.length c3, .slice A4 t.f4.length c4, .slice A5 t.f5.length c5]) (ho : okT t = true) (hm : mayT t = true) (hn : nb < maxLen) (hwf : wf2 .i64 .i64 (t.f0, t.f1)) :
  Calls Try.prog 10 #[.pointer (some ⟨g, 0, none⟩), .agg #[.int .i64 t.f0, .int .i64 t.f1, .slice A2 t.f2.length c2, .slice A3 t.f3.length c3, .slice A4 t.f4.length c4, .slice A5 t.f5.length c5]] W fun e w' => TakeP B W g mp nb s A t e w' := by
 have HWF := Lib.hid hwf
 clear hwf
 obtain ⟨hx, hb⟩ : (W.alloc (.cells #[.int .i64 t.f0, .int .i64 t.f1, .slice A2 t.f2.length c2, .slice A3 t.f3.length c3, .slice A4 t.f4.length c4, .slice A5 t.f5.length c5] 32)).heap[W.heap.size]? = some (.cells #[.int .i64 t.f0, .int .i64 t.f1, .slice A2 t.f2.length c2, .slice A3 t.f3.length c3, .slice A4 t.f4.length c4, .slice A5 t.f5.length c5] 32) ∧ Below W.heap.size W (W.alloc (.cells #[.int .i64 t.f0, .int .i64 t.f1, .slice A2 t.f2.length c2, .slice A3 t.f3.length c3, .slice A4 t.f4.length c4, .slice A5 t.f5.length c5] 32)) := ⟨heap_alloc_new W _, (Below.refl _ W).alloc (Nat.le_refl _) _⟩
 obtain ⟨w0, hw⟩ : ∃ V, W.alloc (.cells #[.int .i64 t.f0, .int .i64 t.f1, .slice A2 t.f2.length c2, .slice A3 t.f3.length c3, .slice A4 t.f4.length c4, .slice A5 t.f5.length c5] 32) = V := ⟨_, rfl⟩
 rw [hw] at hx hb
 have H := Lib.hid (noneOf (h.below hb))
 have HQ := Lib.hid (h.below hb)
 have HF := Lib.hid (FK_calm hF (.of_below hb)); have HX := Lib.hid hx; have HB := Lib.hid hb; have HN := Lib.hid hn; have HM := Lib.hid hm; have HO := Lib.hid ho
 have HLT := Lib.hid (show ∀ k, sqS g mp A k → k < W.heap.size from h.lt)
 have HE := Lib.hid (show okE 1 0 0 [t] = true ∧ (entF 1 0 0 [t]).2 = 0 from ⟨by unfold okE; rw [List.all_cons, ho]; rfl, by rw [one_err ho, if_pos hm]⟩)
 clear h hF hx hb hn hm ho
 go_enter Try.func10, Try.ntmps10
 go_wp2_with fail
 refine H.out.mono ?_
 rintro e w' ⟨rfl, rfl⟩
 go_upto_region 3 with fail
 refine wp_region_list ?_
 refine wpList_load_row rfl 32 (.tmp 3) rfl W.heap.size rfl 32 #[.int .i64 t.f0, .int .i64 t.f1, .slice A2 t.f2.length c2, .slice A3 t.f3.length c3, .slice A4 t.f4.length c4, .slice A5 t.f5.length c5] (0, 0) _ HX.out Try.underlying32 rfl (by kernel_rfl) ?_
 go_wp2_with fail
 have h4 := entry_is 1 0 0 (some ⟨w'.heap.size, 0, none⟩) 1 [t] (w'.alloc (.cells #[.int .i64 t.f0, .int .i64 t.f1, .slice A2 t.f2.length c2, .slice A3 t.f3.length c3, .slice A4 t.f4.length c4, .slice A5 t.f5.length c5] 32)) (C_tx1 (txC_of HF.out) _) HE.out.1
 rw [HE.out.2] at h4
 have h5 := (Below.refl w'.heap.size w').alloc (Nat.le_refl _) (.cells #[.int .i64 t.f0, .int .i64 t.f1, .slice A2 t.f2.length c2, .slice A3 t.f3.length c3, .slice A4 t.f4.length c4, .slice A5 t.f5.length c5] 32)
 refine h4.mono ?_
 rintro e w2 ⟨v, rfl, hv, hb⟩
 have HB2 := Lib.hid (h5.trans (hb.mono h5.size))
 clear h4 h5 hb hv H
 have d0 : w2.cell? ⟨W.heap.size, 0, none⟩ = some (.int .i64 t.f0) := (blk_cell ((HB2.out.block _ (blk_lt HX.out)).trans HX.out) 0).trans rfl
 have d1 : w2.cell? ⟨W.heap.size, 1, none⟩ = some (.int .i64 t.f1) := (blk_cell ((HB2.out.block _ (blk_lt HX.out)).trans HX.out) 1).trans rfl
 go_upto_region 7 with fail
 have HB3 := Lib.hid (HB2.out.alloc (HB2.out.size) (.cells #[.int .i64 t.f0, .int .i64 t.f1] 72))
 have HK3 := Lib.hid (heap_alloc_new w2 (.cells #[.int .i64 t.f0, .int .i64 t.f1] 72))
 obtain ⟨kb, hkb⟩ : ∃ kb, w2.heap.size = kb := ⟨_, rfl⟩
 have HKB := Lib.hid (show w'.heap.size ≤ kb by have := HB2.out.size; omega)
 obtain ⟨w3, hw3⟩ : ∃ V, w2.alloc (.cells #[.int .i64 t.f0, .int .i64 t.f1] 72) = V := ⟨_, rfl⟩
 rw [hw3] at HB3 HK3 ⊢
 rw [hkb] at HK3 ⊢
 clear hw3 hkb d0 d1 HB2
 have HQ3 := Lib.hid (HQ.out.below HB3.out)
 have HX3 := Lib.hid ((HB3.out.block _ (blk_lt HX.out)).trans HX.out)
 have HF3 := Lib.hid (FK_calm HF.out (.of_below HB3.out))
 have HW3 := Lib.hid (show Below W.heap.size W w3 from HB.out.trans (HB3.out.mono HB.out.size))
 clear HQ HX HF HB HB3 HE
 have e3 : w3.cell? ⟨g, 3, none⟩ = some (.map (some mp)) := (blk_cell HQ3.out.y 3).trans rfl
 have k0 : w3.cell? ⟨kb, 0, none⟩ = some (.int .i64 t.f0) := (blk_cell HK3.out 0).trans rfl
 have k1 : w3.cell? ⟨kb, 1, none⟩ = some (.int .i64 t.f1) := (blk_cell HK3.out 1).trans rfl
 refine wp_region_still_tail 5 (by kernel_rfl) (by kernel_rfl) ?_
 simp only [List.take_succ_cons, List.take_zero, List.drop_succ_cons, List.drop_zero]
 iterate 5 still_step
 refine wpStill_nil ?_
 change wpList _ _ _ _ _ w3.drew
 have HQ4 := Lib.hid (HQ3.out.below (Below.refl _ w3).drew)
 have HX4 := Lib.hid (show w3.drew.heap[W.heap.size]? = _ from HX3.out)
 have HK4 := Lib.hid (show w3.drew.heap[kb]? = _ from HK3.out)
 have HF4 := Lib.hid (FK_calm HF3.out (.of_below (Below.refl _ w3).drew))
 have HW4 := Lib.hid HW3.out.drew
 obtain ⟨w4, hw4⟩ : ∃ V, w3.drew = V := ⟨_, rfl⟩
 rw [hw4] at HQ4 HX4 HK4 HF4 HW4 ⊢
 clear hw4 HQ3 HX3 HK3 HF3 HW3 e3 k0 k1
 by_cases hq : waitsB s.l (keyTx t) = true
 ·have HV := Lib.hid (show (mapQ s.l (t.f0, t.f1)).getD (.bool false) = .bool true by unfold mapQ; rw [if_pos (show waitsB s.l (t.f0, t.f1) = true from hq)]; rfl)
  have HR := Lib.hid (show qTake s t = (s, 210) by unfold qTake; rw [if_neg (by rw [HM.out]; simp), if_pos hq])
  clear hq
  go_wp2_with (at_lookup; refine m_get_v _ HQ4.out.m keyQ 66 Try.underlying66 zeroBool rfl (.tmp 28) (.tmp 29) rfl (t.f0, t.f1) HWF.out HV.out rfl rfl ?_)
  go_ret
  exact ⟨A, c, by rw [HR.out]; rfl, by rw [HR.out]; exact HQ4.out.more, KeepS.of_below _ HW4.out, NewRow.refl _ _⟩
 have HV := Lib.hid (show (mapQ s.l (t.f0, t.f1)).getD (.bool false) = .bool false by unfold mapQ; rw [if_neg (show ¬ waitsB s.l (t.f0, t.f1) = true from hq)]; rfl)
 have e2 : w4.cell? ⟨g, 2, none⟩ = some (.slice A s.l.length c) := (blk_cell HQ4.out.y 2).trans rfl
 by_cases hf : 64 ≤ s.l.length
 ·have HR := Lib.hid (show qTake s t = (s, 6) by unfold qTake; rw [if_neg (by rw [HM.out]; simp), if_neg hq, if_pos hf])
  have q : decide (64 ≤ s.l.length) = true := decide_eq_true hf
  have q2 : decide (64 ≤ (s.l.length : Int)) = true := decide_eq_true (by omega)
  clear hq hf
  go_wp2_with (at_lookup; refine m_get_v _ HQ4.out.m keyQ 66 Try.underlying66 zeroBool rfl (.tmp 28) (.tmp 29) rfl (t.f0, t.f1) HWF.out HV.out rfl rfl ?_)
  go_ret
  exact ⟨A, c, by rw [HR.out]; rfl, by rw [HR.out]; exact HQ4.out.more, KeepS.of_below _ HW4.out, NewRow.refl _ _⟩
 have HR := Lib.hid (show qTake s t = ({ s with l := s.l ++ [t] }, 0) by unfold qTake; rw [if_neg (by rw [HM.out]; simp), if_neg hq, if_neg hf])
 have HNO := Lib.hid (show mapQ s.l (t.f0, t.f1) = none by unfold mapQ; rw [if_neg (show ¬ waitsB s.l (t.f0, t.f1) = true from hq)])
 have HL := Lib.hid (show s.l.length < 64 by omega)
 have q : decide (64 ≤ s.l.length) = false := decide_eq_false hf
 have q2 : decide (64 ≤ (s.l.length : Int)) = false := decide_eq_false (by omega)
 clear hq hf
 go_upto_region 11 with (at_lookup; refine m_get_v _ HQ4.out.m keyQ 66 Try.underlying66 zeroBool rfl (.tmp 28) (.tmp 29) rfl (t.f0, t.f1) HWF.out HV.out rfl rfl ?_)
 clear q q2 e2
 have e3 : w4.cell? ⟨g, 3, none⟩ = some (.map (some mp)) := (blk_cell HQ4.out.y 3).trans rfl
 have k0 : w4.cell? ⟨kb, 0, none⟩ = some (.int .i64 t.f0) := (blk_cell HK4.out 0).trans rfl
 have k1 : w4.cell? ⟨kb, 1, none⟩ = some (.int .i64 t.f1) := (blk_cell HK4.out 1).trans rfl
 refine wp_region_still_tail 5 (by kernel_rfl) (by kernel_rfl) ?_
 simp only [List.take_succ_cons, List.take_zero, List.drop_succ_cons, List.drop_zero]
 iterate 5 still_step
 refine wpStill_nil ?_
 change wpList _ _ _ _ _ w4.drew
 have HQ5 := Lib.hid (HQ4.out.below (Below.refl _ w4).drew)
 have HX5 := Lib.hid (show w4.drew.heap[W.heap.size]? = _ from HX4.out)
 have HF5 := Lib.hid (FK_calm HF4.out (.of_below (Below.refl _ w4).drew))
 have HW5 := Lib.hid HW4.out.drew
 obtain ⟨w5, hw5⟩ : ∃ V, w4.drew = V := ⟨_, rfl⟩
 rw [hw5] at HQ5 HX5 HF5 HW5 ⊢
 clear hw5 HQ4 HX4 HK4 HF4 HW4 e3 k0 k1 HV
 go_upto_region 12 with (at_mapUpdate; refine m_put _ HQ5.out.m keyQ 66 Try.underlying66 HN.out rfl (.tmp 41) (.tmp 42) (.const (.bool true)) rfl (t.f0, t.f1) HWF.out (.bool true) rfl rfl rfl ?_; intro w6 hM hG; have HMM := Lib.hid hM; have HG := Lib.hid hG; clear hM hG)
 have HK6 := Lib.hid (KeepS.of_grown (S := sqS g mp A) HG.out (fun i hi => by injection hi with hi; exact .inr (.inl hi.symm)))
 have HC6 := Lib.hid (Calm.of_keep HK6.out HQ5.out.out)
 have HF6 := Lib.hid (FK_calm HF5.out HC6.out)
 have HY6 := Lib.hid ((HG.out.block g HQ5.out.glt (by simp only [ne_eq, Option.some.injEq]; exact HQ5.out.ne)).trans HQ5.out.y)
 have HT6 := Lib.hid (HQ5.out.r.calm HC6.out (fun k hk => HG.out.block k (HQ5.out.r.lt k hk) (by obtain ⟨a, ha, rfl⟩ := own_iff.1 hk; simp only [ne_eq, Option.some.injEq]; exact (HQ5.out.own_ne ha).2)))
 have HX6 := Lib.hid ((HG.out.block W.heap.size (blk_lt HX5.out) (by simp only [ne_eq, Option.some.injEq]; have := HLT.out mp (.inr (.inl rfl)); omega)).trans HX5.out)
 have HW6 := Lib.hid ((KeepS.of_below (sqS g mp A) HW5.out).trans HK6.out)
 have HO5 := Lib.hid (show (∀ a, A = some a → a.block ≠ g ∧ a.block ≠ mp) ∧ B ≤ g ∧ B ≤ mp ∧ g ≠ mp ∧ OkQ s from ⟨fun a ha => HQ5.out.own_ne ha, HQ5.out.bg, HQ5.out.bm, HQ5.out.ne, HQ5.out.o⟩)
 clear HQ5 HX5 HF5 HW5 HG HK6 HC6
 refine start_ (n := 12) (S := fun w' => w'.cell? ⟨g, 2, none⟩ = some (.slice A s.l.length c) ∧ w'.heap[W.heap.size]? = some (.cells #[.int .i64 t.f0, .int .i64 t.f1, .slice A2 t.f2.length c2, .slice A3 t.f3.length c3, .slice A4 t.f4.length c4, .slice A5 t.f5.length c5] 32)) (ds := [11]) #[false, false, false, false, false, false, false, false, false, false, false, false] (by kernel_rfl) rfl rfl ⟨(blk_cell (show w6.drew.heap[g]? = _ from HY6.out) 2).trans rfl, HX6.out⟩ (fun hHeld => ?_)
 have HF := Lib.hid (FK_calm HF6.out (.of_below (Below.refl _ w6).drew)); have HY := Lib.hid (show w6.drew.heap[g]? = _ from HY6.out); have HT := Lib.hid (HT6.out.below (Below.refl _ w6).drew); have HX := Lib.hid (show w6.drew.heap[W.heap.size]? = _ from HX6.out); have HW := Lib.hid HW6.out.drew; have HMP := Lib.hid (HMM.out.below (Below.refl _ w6).drew)
 obtain ⟨wa, hwa⟩ : ∃ wa, w6.drew = wa := ⟨_, rfl⟩
 rw [hwa] at HF HY HT HX HW HMP hHeld ⊢
 clear hwa HF6 HY6 HT6 HX6 HW6 HMM
 refine pure_ (i := 0) (N := some 43) (v := ?_) (a' := ?_) #[true, false, false, false, false, false, false, false, false, false, false, false] rfl rfl (by kernel_rfl) (fun _ _ _ h => h) (Or.inl ⟨by rfl, ?_⟩) ?_ ?_
 rotate_left
 ·intro w'
  go_simp
  try with_reducible rfl
 rotate_left
 ·simp only [Act.put, sq1, sq2, sq3, i64_w, i32_w]
  rfl
 refine pure_ (i := 1) (N := some 44) (v := ?_) (a' := ?_) #[true, true, false, false, false, false, false, false, false, false, false, false] rfl rfl (by kernel_rfl) (fun _ _ _ h => h) (Or.inl ⟨by rfl, ?_⟩) ?_ ?_
 rotate_left
 ·intro w'
  go_simp
  try with_reducible rfl
 rotate_left
 ·simp only [Act.put, sq1, sq2, sq3, i64_w, i32_w]
  rfl
 refine pure_ (i := 2) (N := some 45) (v := ?_) (a' := ?_) #[true, true, true, false, false, false, false, false, false, false, false, false] rfl rfl (by kernel_rfl) (fun _ _ _ h => h) (Or.inl ⟨by rfl, ?_⟩) ?_ ?_
 rotate_left
 ·intro w'
  go_simp
  try with_reducible rfl
 rotate_left
 ·simp only [Act.put, sq1, sq2, sq3, i64_w, i32_w]
  rfl
 refine pure_ (i := 3) (N := some 46) (v := ?_) (a' := ?_) #[true, true, true, true, false, false, false, false, false, false, false, false] rfl rfl (by kernel_rfl) (fun _ _ _ h => h) (Or.inl ⟨by rfl, ?_⟩) ?_ ?_
 rotate_left
 ·intro w'
  go_simp
  try with_reducible rfl
 rotate_left
 ·simp only [Act.put, sq1, sq2, sq3, i64_w, i32_w]
  rfl
 refine take_ (i := 4) (N := some 47) (v := ?_) (a' := ?_) #[true, true, true, true, true, false, false, false, false, false, false, false] rfl rfl (by kernel_rfl) (fun _ _ _ h => h) (Or.inl ⟨by rfl, ?_⟩) hHeld ?_ ?_
 rotate_left
 ·intro w' hS
  obtain ⟨hS, _⟩ := hS
  go_simp
  try with_reducible rfl
 rotate_left
 ·simp only [Act.put, sq1, sq2, sq3, i64_w, i32_w]
  rfl
 refine take_ (i := 5) (N := some 48) (v := _) (a' := ?_) #[true, true, true, true, true, true, false, false, false, false, false, false] rfl rfl (by kernel_rfl) (fun _ _ _ h => h) (Or.inl ⟨by rfl, fun w' hS => exec_load_row rfl rfl (hS.2) Try.underlying32 rfl (by kernel_rfl)⟩) hHeld ?_ ?_
 rotate_left
 ·simp only [Act.put, sq1, sq2, sq3, i64_w, i32_w]
  rfl
 refine one_ (i := 6) (N := some 49) #[true, true, true, true, true, true, true, false, false, false, false, false] rfl rfl (by kernel_rfl) (by decide) (fun K hK => ?_)
 go_simp
 refine (cloneTx_is t (txC_of HF.out) (smT_of HM.out)).mono ?_
 rintro e w7 ⟨v2, v3, v4, v5, rfl, h2, h3, h4, h5, hb⟩
 have HB := Lib.hid hb
 have HNE := Lib.hid (fk_new (B := B) h2 h3 h4 h5)
 obtain ⟨N2, N2c, rfl⟩ := Kd.R_slice h2
 obtain ⟨N3, N3c, rfl⟩ := Kd.R_slice h3
 obtain ⟨N4, N4c, rfl⟩ := Kd.R_slice h4
 obtain ⟨N5, N5c, rfl⟩ := Kd.R_slice h5
 have HY7 := Lib.hid ((hb.block g (blk_lt HY.out)).trans HY.out); have HT7 := Lib.hid (HT.out.below hb); have HX7 := Lib.hid ((hb.block _ (blk_lt HX.out)).trans HX.out); have HW7 := Lib.hid (HW.out.then_below hb); have HM7 := Lib.hid (HMP.out.below hb)
 clear hb h2 h3 h4 h5 HF HY HT HX HW HMP
 refine hK.out _ _ ⟨(blk_cell HY7.out 2).trans rfl, HX7.out⟩ (fun hHeld => ?_)
 clear hK K
 refine one_ (i := 7) (N := some 50) #[true, true, true, true, true, true, true, true, false, false, false, false] rfl rfl (by kernel_rfl) (by decide) (fun K hK => ?_)
 refine value_ (w1 := ?_) (v := ?_) (by rfl) rfl ?_ ?_
 rotate_left 2
 ·go_simp
  constructor <;> rfl
 have HB8 := Lib.hid ((Below.refl w7.heap.size w7).alloc (Nat.le_refl _) (.cells #[.int .i64 t.f0, .int .i64 t.f1, .slice N2 t.f2.length N2c, .slice N3 t.f3.length N3c, .slice N4 t.f4.length N4c, .slice N5 t.f5.length N5c] 32))
 refine hK.out _ _ ⟨(blk_cell ((HB8.out.block g (blk_lt HY7.out)).trans HY7.out) 2).trans rfl, (HB8.out.block _ (blk_lt HX7.out)).trans HX7.out⟩ (fun hHeld => ?_)
 clear hK K
 refine norm_ (a' := ?_) ?_ ?_
 rotate_left
 ·show Act.put _ (some 50) _ = _
  simp only [Act.put, sq1, sq2, sq3, i64_w, i32_w]
  rfl
 have HY8 := Lib.hid ((HB8.out.block g (blk_lt HY7.out)).trans HY7.out); have HT8 := Lib.hid (HT7.out.below HB8.out); have HX8 := Lib.hid ((HB8.out.block _ (blk_lt HX7.out)).trans HX7.out); have HW8 := Lib.hid (HW7.out.then_below HB8.out); have HM8 := Lib.hid (HM7.out.below HB8.out)
 have HS8 := Lib.hid (src_one (B := B) (e := 32) HNE.out)
 obtain ⟨ab, hab⟩ : ∃ ab, w7.heap.size = ab := ⟨_, rfl⟩
 obtain ⟨w8, hw8⟩ : ∃ V, w7.alloc (.cells #[.int .i64 t.f0, .int .i64 t.f1, .slice N2 t.f2.length N2c, .slice N3 t.f3.length N3c, .slice N4 t.f4.length N4c, .slice N5 t.f5.length N5c] 32) = V := ⟨_, rfl⟩
 have HS8' := Lib.hid (show Src B (w7.alloc (.cells #[.int .i64 t.f0, .int .i64 t.f1, .slice N2 t.f2.length N2c, .slice N3 t.f3.length N3c, .slice N4 t.f4.length N4c, .slice N5 t.f5.length N5c] 32)) _ _ _ from HS8.out)
 rw [hw8] at HY8 HT8 HX8 HW8 HM8 HS8' hHeld ⊢
 rw [hab] at HS8' ⊢
 clear hw8 hab HY7 HT7 HX7 HW7 HM7 HS8 HB8 HNE HB
 refine one_ (i := 8) (N := some 51) #[true, true, true, true, true, true, true, true, true, false, false, false] rfl rfl (by kernel_rfl) (by decide) (fun K hK => ?_)
 have HZ8 := Lib.hid (blk_lt HY8.out)
 refine tr_append_step (by rfl) (.tmp 47) (.tmp 50) rfl rfl rfl HT8.out HS8'.out rfl (by decide) (by have := HL.out; omega) (by have := HO5.out.2.1; have := HZ8.out; omega) ?_
 intro v_ w9 ho hg_ hat
 obtain ⟨A', c', rfl, hlc⟩ := ho.slice
 have HK9 := Lib.hid (KeepS.of_grown (S := sqS g mp A) hg_ (fun i hi => .inr (.inr (own_iff.1 hi))))
 have HA9 := Lib.hid (NewRow.of hat)
 have HT9 := Lib.hid ho
 have HY9 := Lib.hid ((hg_.block g (blk_lt HY8.out) (fun e => by obtain ⟨a, ha, e2⟩ := own_iff.1 e.symm; exact (HO5.out.1 a ha).1 e2)).trans HY8.out)
 have HX9 := Lib.hid ((hg_.block W.heap.size (blk_lt HX8.out) (fun e => by have := HLT.out _ (.inr (.inr (own_iff.1 e.symm))); omega)).trans HX8.out)
 have HM9 := Lib.hid (HM8.out.move (hg_.block mp HM8.out.lt (fun e => by obtain ⟨a, ha, e2⟩ := own_iff.1 e.symm; exact (HO5.out.1 a ha).2 e2)))
 have HW9 := Lib.hid (HW8.out.trans HK9.out)
 have HA := Lib.hid (HA9.out.up HW8.out.size)
 have HOG := Lib.hid (show ∀ a', A' = some a' → a'.block ≠ g by
  intro a' ha
  rcases HA9.out a' ha with ⟨a, h1, h2⟩ | h
  ·rw [← h2]; exact (HO5.out.1 a h1).1
  ·have := HZ8.out; omega)
 clear ho hg_ hat hlc HT8 HY8 HX8 HM8 HW8 HK9 HA9 HS8'
 refine hK.out _ _ ⟨(blk_cell HY9.out 2).trans rfl, HX9.out⟩ (fun hHeld => ?_)
 clear hK K
 refine norm_ (a' := ?_) ?_ ?_
 rotate_left
 ·show Act.put _ (some 51) _ = _
  simp only [Act.put, sq1, sq2, sq3, i64_w, i32_w]
  rfl
 refine pure_ (i := 9) (N := some 52) (v := ?_) (a' := ?_) #[true, true, true, true, true, true, true, true, true, true, false, false] rfl rfl (by kernel_rfl) (fun _ _ _ h => h) (Or.inl ⟨by rfl, ?_⟩) ?_ ?_
 rotate_left
 ·intro w'
  go_simp
  try with_reducible rfl
 rotate_left
 ·simp only [Act.put, sq1, sq2, sq3, i64_w, i32_w]
  rfl
 refine pure_ (i := 10) (N := some 53) (v := ?_) (a' := ?_) #[true, true, true, true, true, true, true, true, true, true, true, false] rfl rfl (by kernel_rfl) (fun _ _ _ h => h) (Or.inl ⟨by rfl, ?_⟩) ?_ ?_
 rotate_left
 ·intro w'
  go_simp
  try with_reducible rfl
 rotate_left
 ·simp only [Act.put, sq1, sq2, sq3, i64_w, i32_w]
  rfl
 have q2 : w9.cell? ⟨g, 2, none⟩ = some (.slice A s.l.length c) := (blk_cell HY9.out 2).trans rfl
 have z2 : w9.frozen? ⟨g, 2, none⟩ = false := blk_frozen HY9.out 2
 refine last_ (i := 11) (N := none) #[true, true, true, true, true, true, true, true, true, true, true, true] rfl rfl (by kernel_rfl) (by decide) (fun K hK => ?_)
 refine skip_ (w1 := ?_) (by rfl) rfl ?_ ?_
 rotate_left
 ·go_simp
  rfl
 refine hK.out _ _ ?_
 clear hK K
 refine done_ (by kernel_rfl) ?_
 go_wp2_with fail
 go_ret
 refine ⟨A', c', by rw [HR.out]; rfl, ?_, HW9.out.set (p := ⟨g, 2, none⟩) (.inl (.inl rfl)) _, HA.out⟩
 rw [HR.out]
 have hl : (s.l ++ [t]).length = s.l.length + 1 := by simp
 have hng : ¬ Inn B w9 g := not_inn HO5.out.2.1 HY9.out sq_not
 have hcalm : Calm B w9 (w9.setCell ⟨g, 2, none⟩ (.slice A' (s.l.length + 1) c')) := fun k hk _ => Below.heap_setCell w9 ⟨g, 2, none⟩ _ k (by rintro rfl; exact hng hk)
 refine ⟨?_, ?_, HT9.out.calm hcalm (fun k hk => Below.heap_setCell w9 ⟨g, 2, none⟩ _ k (fun e => by obtain ⟨a, ha, e2⟩ := own_iff.1 hk; exact HOG.out a ha (e2.trans e))), ?_, HO5.out.2.1, HO5.out.2.2.1⟩
 ·show _ = some (Obj.cells #[.bool true, .int .i64 s.r, .slice A' (s.l ++ [t]).length c', .map (some mp), .int .i64 s.n, .int .i64 s.t] _ _)
  rw [hl]
  exact blk_put HY9.out 2 _ rfl
 ·have h9 := HM9.out.move (w' := w9.setCell ⟨g, 2, none⟩ (.slice A' (s.l.length + 1) c')) (Below.heap_setCell w9 ⟨g, 2, none⟩ _ mp (fun e => HO5.out.2.2.2.1 e.symm))
  rw [HNO.out] at h9
  show IsM _ _ _ _ _ _ (mapQ (s.l ++ [t])) (s.l ++ [t]).length
  rw [mapQ_snoc, hl]
  exact h9
 ·have h10 := HO5.out.2.2.2.2.take HO.out
  rw [HR.out] at h10
  exact h10
theorem take_is {B : Nat} {W : World} {g mp nb : Nat} {s : SqS} {A : Option Addr} {c : Nat} (h : IsSq B W g mp nb s A c) {t : TxD} {A2 A3 A4 A5 : Option Addr} {c2 c3 c4 c5 : Nat} (hF : Kd.FK G.k32 W (Inn B W) t [.int .i64 t.f0, .int .i64 t.f1, .slice A2 t.f2.length c2, .slice A3 t.f3.length c3, .slice A4 t.f4.length c4, .slice A5 t.f5.length c5]) (ho : okT t = true) (hn : nb < maxLen) (hwf : wf2 .i64 .i64 (t.f0, t.f1)) :
  Calls Try.prog 10 #[.pointer (some ⟨g, 0, none⟩), .agg #[.int .i64 t.f0, .int .i64 t.f1, .slice A2 t.f2.length c2, .slice A3 t.f3.length c3, .slice A4 t.f4.length c4, .slice A5 t.f5.length c5]] W fun e w' => TakeP B W g mp nb s A t e w' := by
 cases hm : mayT t with
 | true => exact take_may h hF ho hm hn hwf
 | false =>
  refine (take_arg h (txC_of hF) ho hm).mono ?_
  rintro e w' ⟨rfl, hb⟩
  have e1 : qTake s t = (s, 1) := by unfold qTake; rw [if_pos hm]
  exact ⟨A, c, by rw [e1], by rw [e1]; exact (h.below hb).more, KeepS.of_below _ hb, NewRow.refl _ _⟩
end Go.Proofs.Ytgmlpmdfkaadhaa.M
end

section
/- Rows of transactions: a row behind a row, slices.Clone, make and copy. -/
namespace Go.Proofs.Ytgmlpmdfkaadhaa.M
open Go.RowKit Go.Proofs.YtgmlpmdfkaadhaaW.PrintWords Go.Proofs.YtgmlpmdfkaadhaaW.PrintLast Go.Proofs.YtgmlpmdfkaadhaaW.PrintMore Go.Proofs.Ytgmlpmdfkaadhaa.G
theorem run_append_zero (W : World) (ty : TypeId) (A x : Option Addr) (n c cx : Nat) (h : n ≤ c) : (Builtin.append_ #[22, 22] ty #[.slice A n c, .slice x 0 cx]).run Try.prog W = .ok (.slice A n c) W := by
 obtain ⟨i0, hi, _⟩ := Option.map_eq_some_iff.1 G.info32
 have hld : ∀ a : Addr, (loadCells a 0).run Try.prog W = .ok #[] W := fun a => run_loadCells_list (P := Try.prog) W a [] (fun j v hj => by simp at hj)
 cases A <;> cases x <;> simp [hld, Builtin.append_, run_underlying Try.underlying22, sizeOf, typeInfo, hi, Builtin.lenOf, Builtin.firstCells, h, storeCells]
def SrcO (B : Nat) (W : World) (x : Option Addr) (l : List TxD) : Prop := 0 < l.length → ∃ a news, x = some a ∧ Src B W a l news
section
variable {B : Nat} {W W' : World} {v : Value} {l l' : List TxD} {A x : Option Addr} {n c : Nat}
theorem TR.srcO (h : TR B W (.slice A l.length c) l) : SrcO B W A l := fun hp => h.src hp
theorem SrcO.below (h : SrcO B W x l) (hb : Below W.heap.size W W') : SrcO B W' x l := fun hp => by
 obtain ⟨a, news, h1, h2, h3⟩ := h hp
 exact ⟨a, news, h1, fun j u hu => pw_cell_below hb (h2 j u hu), h3.imp_ (fun _ _ hq => FK_calm hq (.of_below hb))⟩
theorem TR.appendAll (h : TR B W v l) (ty : TypeId) {cx : Nat} (hs : SrcO B W x l') (hl : l.length + l'.length ≤ 1048576) (hB : B ≤ W.heap.size) :
  ∃ v' w', (Builtin.append_ #[22, 22] ty #[v, .slice x l'.length cx]).run Try.prog W = .ok v' w' ∧ TR B w' v' (l ++ l') ∧ W.grownBy w' v.ownBlock ∧ (v'.ownBlock = v.ownBlock ∨ ∃ b, v'.ownBlock = some b ∧ W.heap.size ≤ b) := by
 rcases Nat.eq_zero_or_pos l'.length with h0 | h0
 ·obtain rfl : l' = [] := List.eq_nil_of_length_eq_zero h0
  obtain ⟨A, c, rfl, hc⟩ := h.slice
  exact ⟨_, W, run_append_zero W ty A x _ c cx hc, by rw [List.append_nil]; exact h, ⟨rfl, rfl, rfl, Nat.le_refl _, fun _ _ _ => rfl⟩, .inl rfl⟩
 ·obtain ⟨a, news, rfl, h2⟩ := hs h0
  exact h.append (c := cx) ty h2 rfl h0 hl hB
end
section
variable {B : Nat} {W : World} {ops : Array Oper} {rest : List Oper} {o : Oper} {a : Act} {Q : Exit → Act → World → Prop} {Kc : Act → World → Prop}
theorem tr_append_all (hgd : o.guard = none) (s x : Operand) (ho : o.op = .call { callee := .builtin .append, args := #[s, x], argTypes := #[22, 22] })
  {v : Value} {l l' : List TxD} {X : Option Addr} {cx : Nat} (hs : a.eval s = v) (hx : a.eval x = .slice X l'.length cx) (h : TR B W v l) (hn : SrcO B W X l') (hl : l.length + l'.length ≤ 1048576) (hB : B ≤ W.heap.size)
  (hK : ∀ v' w', TR B w' v' (l ++ l') → W.grownBy w' v.ownBlock → (v'.ownBlock = v.ownBlock ∨ ∃ b, v'.ownBlock = some b ∧ W.heap.size ≤ b) → wpList Try.prog ops Q rest (a.put o.dst v') w') : wpList Try.prog ops Q (o :: rest) a W := by
 obtain ⟨v', w', hr, h1, h2, h3⟩ := h.appendAll (cx := cx) o.type hn hl hB
 refine wpList_plain hgd fun K hK' => ?_
 unfold Oper.wp execOp
 simp only [ho, resolve, invoke, builtin, Sem.run_bind, Sem.run_pure, Result.andThen_ok, List.map_toArray, List.map_cons, List.map_nil, hs, hx, hr]
 exact hK' _ _ (hK v' w' h1 h2 h3)
end
theorem tr_empty {B : Nat} {W : World} (hB : B ≤ W.heap.size) : TR B (W.alloc (.cells #[] 32)) (.slice (some ⟨W.heap.size, 0, none⟩) 0 0) [] :=
 ⟨[], ⟨rfl, .inl ⟨rfl, _, rfl, fun a ha => by injection ha with ha; subst ha; exact ⟨hB, _, heap_alloc_new W _⟩⟩⟩, Reps.none _ _⟩
theorem clone_txs {B : Nat} {W : World} {A : Option Addr} {l : List TxD} {c : Nat} (h : TR B W (.slice A l.length c) l) (hl : l.length ≤ 1048576) (hB : B ≤ W.heap.size) :
  Calls Try.prog 36 #[.slice A l.length c] W fun e w' => ∃ A' c', e = .returned (.slice A' l.length c') ∧ TR B w' (.slice A' l.length c') l ∧ Below W.heap.size W w' ∧ ∀ a, A' = some a → W.heap.size ≤ a.block := by
 have qT : ∀ (w : World) (a : Option Addr) (n c n' c' : Nat), (binOp .eql 22 (.slice a n c) (.slice none n' c')).run Try.prog w = .ok (.bool a.isNone) w := fun w a n c n' c' => Lib.run_eql_slice_nil w _ _ a n c n' c' Try.underlying22
 rcases A with _ | ad
 ·obtain ⟨_, hnil⟩ := C_none' h.reads.2.2
  subst hnil
  have HB := Lib.hid hB
  clear h hl hB
  go_enter Try.func36, Try.ntmps36
  go_wp2
  go_ret
  exact ⟨none, 0, rfl, TR.nil _ _, Below.refl _ _, fun _ h => by cases h⟩
 ·have hb := (Below.refl W.heap.size W).alloc (Nat.le_refl _) (.cells #[] 32)
  have HS := Lib.hid (h.srcO.below hb)
  have HE := Lib.hid (tr_empty (B := B) hB)
  have HL := Lib.hid hl; have HB := Lib.hid hB; have HBB := Lib.hid hb
  clear h hl hB hb
  go_enter Try.func36, Try.ntmps36
  go_wp2_with ((with_reducible refine gate_builtin (b := .append) (xs := #[.tmp 5, .tmp 6]) rfl ?_); at_builtin; refine tr_append_all rfl (.tmp 5) (.tmp 6) rfl rfl rfl HE.out HS.out (by have := HL.out; simp; omega) (by have := HB.out; simp; omega) ?_; intro v1 w1 ho hg hat; rw [List.nil_append] at ho; obtain ⟨A', c', rfl, _⟩ := ho.slice)
  go_ret
  refine ⟨A', c', rfl, ho, HBB.out.grown hg (by simp) (fun k hk => by obtain ⟨a, ha, e⟩ := own_iff.1 hk; injection ha with ha; subst ha; exact Nat.le_of_eq e), fun a ha => ?_⟩
  rcases (NewRow.of hat) a ha with ⟨a0, h1, h2⟩ | h1
  ·injection h1 with h1
   rw [← h2, ← h1]
   exact Nat.le_refl _
  ·simp at h1
   omega
theorem run_copy_txs (W : World) (ty : TypeId) {g n m c : Nat} {cur : Array Value} (hg : W.heap[g]? = some (.cells cur 32 (0, 0))) (hc : cur.size = n * 6) {a : Addr} {inner : List Value} (hi : ∀ j u, inner[j]? = some u → W.cell? (a.add j) = some u) (hl : inner.length = m * 6) (hnm : n ≤ m) (h1 : ∀ u ∈ inner, u.oneCell' = true) :
  (Builtin.copy_ #[22, 22] ty #[.slice (some ⟨g, 0, none⟩) n n, .slice (some a) m c]).run Try.prog W = .ok (goInt n) (W.setRow g (inner.take (n * 6)).toArray) := by
 obtain ⟨i0, hi0, hzz⟩ := Option.map_eq_some_iff.1 G.info32
 simp only [Prod.mk.injEq] at hzz
 obtain ⟨hz0, hz1, hz2⟩ := hzz
 have hlen : (inner.take (n * 6)).length = n * 6 := by rw [List.length_take, hl]; omega
 have hld := run_loadCells_list (P := Try.prog) W a (inner.take (n * 6)) (fun j v hj => hi j v (by rw [List.getElem?_take] at hj; split at hj; exact hj; cases hj))
 have hst := run_storeCells_at Try.prog g 0 32 (inner.take (n * 6)) 0 cur W hg (by rw [hlen, hc]; omega) (fun v hv => h1 v (List.mem_of_mem_take hv))
 have e : (cur.toList.take (0 + 0) ++ inner.take (n * 6) ++ cur.toList.drop (0 + 0 + (inner.take (n * 6)).length)).toArray = (inner.take (n * 6)).toArray := by
  congr 1
  rw [hlen, List.drop_of_length_le (by rw [Array.length_toList, hc]; omega)]
  simp
 rw [e] at hst
 rw [hlen] at hld
 have hmn : Nat.min m n = n := Nat.min_eq_right hnm
 simp [Builtin.copy_, run_underlying Try.underlying22, Builtin.lenOf, Builtin.firstCells, sizeOf, typeInfo, hi0, hz1, hmn, hld, hst]
section
variable {B : Nat} {W : World} {ops : Array Oper} {rest : List Oper} {o : Oper} {a : Act} {Q : Exit → Act → World → Prop}
theorem tr_copy (hgd : o.guard = none) (d s : Operand) (ho : o.op = .call { callee := .builtin .copy, args := #[d, s], argTypes := #[22, 22] })
  {g n c : Nat} {A : Option Addr} {l : List TxD} {cur : Array Value} (hd : a.eval d = .slice (some ⟨g, 0, none⟩) n n) (hs : a.eval s = .slice A l.length c) (hg : W.heap[g]? = some (.cells cur 32 (0, 0))) (hc : cur.size = n * 6) (h : TR B W (.slice A l.length c) l) (hn : n ≤ l.length) (h0 : 0 < n) (hl : l.length ≤ 1048576) (hB : B ≤ g)
  (hne : ∀ a, A = some a → a.block ≠ g)
  (hK : ∀ w', TR B w' (.slice (some ⟨g, 0, none⟩) n n) (l.take n) → KeepS (fun k => k = g) W w' → wpList Try.prog ops Q rest (a.put o.dst (goInt n)) w') : wpList Try.prog ops Q (o :: rest) a W := by
 have h' := h
 obtain ⟨inner, hq, hr⟩ := h
 obtain ⟨ad, rfl, hcl⟩ := q_cells hq (by omega)
 have hrun := run_copy_txs W o.type (c := c) hg hc hcl hr.1 hn (reps_one hr)
 refine wpList_plain hgd fun K hK' => ?_
 unfold Oper.wp execOp
 simp only [ho, resolve, invoke, builtin, Sem.run_bind, Sem.run_pure, Result.andThen_ok, List.map_toArray, List.map_cons, List.map_nil, hd, hs, hrun]
 have hk : KeepS (fun k => k = g) W (W.setRow g (inner.take (n * 6)).toArray) := ⟨rfl, rfl, rfl, by simp [World.setRow], fun k _ hk => setRow_other W g k _ hk⟩
 have hcalm : Calm B W (W.setRow g (inner.take (n * 6)).toArray) := .of_keep hk (fun k e => by subst e; exact not_inn hB hg txn_not)
 refine hK' _ _ (hK _ ?_ hk)
 have hlt : (l.take n).length = n := by rw [List.length_take]; omega
 have hb : (W.setRow g (inner.take (n * 6)).toArray).heap[g]? = some (.cells (inner.take (n * 6)).toArray 32 (0, 0)) := setRow_heap W g _ _ _ _ hg
 have := TR.block (l := l.take n) hB hb (by
  have := (Kd.reps_take hr hn).imp_ (fun _ _ hp => FK_calm hp hcalm)
  simpa using this) (by omega)
 rw [hlt] at this
 exact this
end
end Go.Proofs.Ytgmlpmdfkaadhaa.M
end

section
/- Flush: the batch of those that have waited longest. -/
attribute [local irreducible] Go.wpStill
namespace Go.Proofs.Ytgmlpmdfkaadhaa.M
open Go.RowKit Go.Proofs.YtgmlpmdfkaadhaaW.PrintWords Go.Proofs.YtgmlpmdfkaadhaaW.PrintLast Go.Proofs.YtgmlpmdfkaadhaaW.PrintMore Go.Proofs.Ytgmlpmdfkaadhaa.G
theorem infoTxn0 : ∃ i, Try.prog.info? 32 = some i ∧ i.size = 6 := by
 obtain ⟨i0, hi, hzz⟩ := Option.map_eq_some_iff.1 G.info32
 simp only [Prod.mk.injEq] at hzz
 exact ⟨i0, hi, hzz.2.1⟩
theorem makeTx (n : Nat) (hn : n ≤ 64) : ∀ u : World, (Instr.makeSlice 22 (.int .i64 (n : Int)) (.int .i64 (n : Int))).run Try.prog u = .ok (.slice (some ⟨u.heap.size, 0, none⟩) n n) (u.alloc (.cells (madeCells (Value.cells (.agg #[.int .i64 0, .int .i64 0, .slice none 0 0, .slice none 0 0, .slice none 0 0, .slice none 0 0])) (n * 6)) 32)) := by
 intro u
 obtain ⟨i0, hi, hzz⟩ := Option.map_eq_some_iff.1 G.info32
 simp only [Prod.mk.injEq] at hzz
 obtain ⟨hz0, hz1, hz2⟩ := hzz
 have h := run_make (P := Try.prog) u 22 32 i0 _ Try.underlying22 hi hz0 .i64 .i64 (n : Int) (n : Int) (by omega) (Int.le_refl _) (by rw [hz2]; omega) (by omega)
 rw [Int.toNat_natCast, hz1] at h
 exact h
def FlushP (B : Nat) (W : World) (g mp nb : Nat) (s : SqS) (A : Option Addr) (e : Ending) (w' : World) : Prop :=
 ∃ A' c' E, e = .returned (.tuple #[.agg #[.int .i64 (qFlush s).2.1.f0, .int .i64 (qFlush s).2.1.f1, .int .i64 (qFlush s).2.1.f2, E], .bool (qFlush s).2.2]) ∧ IsSq B w' g mp nb (qFlush s).1 A' c' ∧ TR B w' E (qFlush s).2.1.f3 ∧ KeepS (sqS g mp A) W w' ∧ NewRow W A A' ∧ ∀ k, E.ownBlock = some k → W.heap.size ≤ k
theorem en_not : 36 ∉ (G.k32).E := by decide
theorem wf_key {t : TxD} (h : okT t = true) : wf2 .i64 .i64 (t.f0, t.f1) := by
 obtain ⟨h0, h1, _⟩ := okT_all h
 unfold isI64 at h0 h1
 have e1 : IntKind.i64.min = -9223372036854775808 := rfl
 have e2 : IntKind.i64.max = 9223372036854775807 := rfl
 exact ⟨by simp only [Lit.wf, Bool.and_eq_true, decide_eq_true_eq]; omega, by simp only [Lit.wf, Bool.and_eq_true, decide_eq_true_eq]; omega⟩
theorem mapQ_tail {t : TxD} {l : List TxD} (h : ((t :: l).map keyTx).Nodup) : mapQ l = fun y => if y = (t.f0, t.f1) then none else mapQ (t :: l) y := by
 funext y
 rw [List.map_cons, List.nodup_cons] at h
 by_cases hy : y = (t.f0, t.f1)
 ·subst hy
  rw [if_pos rfl]
  unfold mapQ
  exact if_neg (fun hc => h.1 ((waits_iff _ (t.f0, t.f1)).1 hc))
 ·rw [if_neg hy]
  unfold mapQ waitsB
  rw [List.any_cons]
  have : (keyTx t == y) = false := by rw [beq_eq_false_iff_ne]; exact fun e => hy e.symm
  rw [this, Bool.false_or]
set_option maxHeartbeats 8000000 in
theorem flush_yes {B : Nat} {W : World} {g mp nb : Nat} {s : SqS} {A : Option Addr} {c : Nat} (h : IsSq B W g mp nb s A c) (hl : s.l ≠ []) (hn : s.n < 1099511627776) :
  Calls Try.prog 20 #[.pointer (some ⟨g, 0, none⟩)] W fun e w' => FlushP B W g mp nb s A e w' := by
 obtain ⟨i0, infoTxn, infoTxnS⟩ := infoTxn0
 obtain ⟨hx, hb⟩ : (W.alloc (.cells #[.int .i64 0, .int .i64 0, .int .i64 0, .slice none 0 0] 36)).heap[W.heap.size]? = some (.cells #[.int .i64 0, .int .i64 0, .int .i64 0, .slice none 0 0] 36) ∧ Below W.heap.size W (W.alloc (.cells #[.int .i64 0, .int .i64 0, .int .i64 0, .slice none 0 0] 36)) := ⟨heap_alloc_new W _, (Below.refl _ W).alloc (Nat.le_refl _) _⟩
 obtain ⟨w0, hw⟩ : ∃ V, W.alloc (.cells #[.int .i64 0, .int .i64 0, .int .i64 0, .slice none 0 0] 36) = V := ⟨_, rfl⟩
 rw [hw] at hx hb
 have H := Lib.hid (noneOf (h.below hb))
 have HQ := Lib.hid (h.below hb)
 have HX := Lib.hid hx; have HB := Lib.hid hb
 have HLT := Lib.hid (show ∀ k, sqS g mp A k → k < W.heap.size from h.lt)
 have HNE := Lib.hid hl
 have HL := Lib.hid (show 1 ≤ s.l.length ∧ s.l.length ≤ 64 from ⟨List.length_pos_iff.2 hl, h.o.m⟩)
 have HFL := Lib.hid (qFlush_some h.o hl hn)
 have HO := Lib.hid h.o
 have q1 : ((s.l.length : Int) == 0) = false := by have := List.length_pos_iff.2 hl; rw [beq_eq_false_iff_ne]; omega
 have q2 : decide (1099511627776 ≤ s.n) = false := decide_eq_false (by omega)
 have e2 : w0.cell? ⟨g, 2, none⟩ = some (.slice A s.l.length c) := (blk_cell HQ.out.y 2).trans rfl
 have e4 : w0.cell? ⟨g, 4, none⟩ = some (.int .i64 s.n) := (blk_cell HQ.out.y 4).trans rfl
 have HN := Lib.hid hn
 have HQW := Lib.hid h
 clear h hl hn hx hb
 go_enter Try.func20, Try.ntmps20
 go_wp2_with fail
 refine H.out.mono ?_
 rintro e w' ⟨rfl, rfl⟩
 clear H
 go_upto_region 3 with fail
 clear q1 q2
 refine start_ (n := 11) (S := fun w' => w'.cell? ⟨g, 1, none⟩ = some (.int .i64 s.r) ∧ w'.cell? ⟨g, 4, none⟩ = some (.int .i64 s.n)) (ds := [10]) #[false, false, false, false, false, false, false, false, false, false, false] (by kernel_rfl) rfl rfl ⟨(blk_cell (show w'.drew.heap[g]? = _ from HQ.out.y) 1).trans rfl, (blk_cell (show w'.drew.heap[g]? = _ from HQ.out.y) 4).trans rfl⟩ (fun hHeld => ?_)
 have HQa := Lib.hid (HQ.out.below (Below.refl _ w').drew); have HXa := Lib.hid (show w'.drew.heap[W.heap.size]? = _ from HX.out); have HBa := Lib.hid HB.out.drew
 obtain ⟨wa, hwa⟩ : ∃ wa, w'.drew = wa := ⟨_, rfl⟩
 rw [hwa] at HQa HXa HBa hHeld ⊢
 clear hwa HQ HX HB e2 e4
 refine pure_ (i := 0) (N := some 29) (v := ?_) (a' := ?_) #[true, false, false, false, false, false, false, false, false, false, false] rfl rfl (by kernel_rfl) (fun _ _ _ h => h) (Or.inl ⟨by rfl, ?_⟩) ?_ ?_
 rotate_left
 ·intro w'
  go_simp
  try with_reducible rfl
 rotate_left
 ·simp only [Act.put, sq1, sq2, sq3, i64_w, i32_w]
  rfl
 refine pure_ (i := 1) (N := some 30) (v := ?_) (a' := ?_) #[true, true, false, false, false, false, false, false, false, false, false] rfl rfl (by kernel_rfl) (fun _ _ _ h => h) (Or.inl ⟨by rfl, ?_⟩) ?_ ?_
 rotate_left
 ·intro w'
  go_simp
  try with_reducible rfl
 rotate_left
 ·simp only [Act.put, sq1, sq2, sq3, i64_w, i32_w]
  rfl
 refine pure_ (i := 2) (N := some 31) (v := ?_) (a' := ?_) #[true, true, true, false, false, false, false, false, false, false, false] rfl rfl (by kernel_rfl) (fun _ _ _ h => h) (Or.inl ⟨by rfl, ?_⟩) ?_ ?_
 rotate_left
 ·intro w'
  go_simp
  try with_reducible rfl
 rotate_left
 ·simp only [Act.put, sq1, sq2, sq3, i64_w, i32_w]
  rfl
 refine take_ (i := 3) (N := some 32) (v := ?_) (a' := ?_) #[true, true, true, true, false, false, false, false, false, false, false] rfl rfl (by kernel_rfl) (fun _ _ _ h => h) (Or.inl ⟨by rfl, ?_⟩) hHeld ?_ ?_
 rotate_left
 ·intro w' hS
  obtain ⟨hS, _⟩ := hS
  go_simp
  try with_reducible rfl
 rotate_left
 ·simp only [Act.put, sq1, sq2, sq3, i64_w, i32_w]
  rfl
 refine pure_ (i := 4) (N := some 33) (v := ?_) (a' := ?_) #[true, true, true, true, true, false, false, false, false, false, false] rfl rfl (by kernel_rfl) (fun _ _ _ h => h) (Or.inl ⟨by rfl, ?_⟩) ?_ ?_
 rotate_left
 ·intro w'
  go_simp
  try with_reducible rfl
 rotate_left
 ·simp only [Act.put, sq1, sq2, sq3, i64_w, i32_w]
  rfl
 refine pure_ (i := 5) (N := some 34) (v := ?_) (a' := ?_) #[true, true, true, true, true, true, false, false, false, false, false] rfl rfl (by kernel_rfl) (fun _ _ _ h => h) (Or.inl ⟨by rfl, ?_⟩) ?_ ?_
 rotate_left
 ·intro w'
  go_simp
  try with_reducible rfl
 rotate_left
 ·simp only [Act.put, sq1, sq2, sq3, i64_w, i32_w]
  rfl
 refine pure_ (i := 6) (N := some 35) (v := ?_) (a' := ?_) #[true, true, true, true, true, true, true, false, false, false, false] rfl rfl (by kernel_rfl) (fun _ _ _ h => h) (Or.inl ⟨by rfl, ?_⟩) ?_ ?_
 rotate_left
 ·intro w'
  go_simp
  try with_reducible rfl
 rotate_left
 ·simp only [Act.put, sq1, sq2, sq3, i64_w, i32_w]
  rfl
 refine take_ (i := 7) (N := some 36) (v := ?_) (a' := ?_) #[true, true, true, true, true, true, true, true, false, false, false] rfl rfl (by kernel_rfl) (fun _ _ _ h => h) (Or.inl ⟨by rfl, ?_⟩) hHeld ?_ ?_
 rotate_left
 ·intro w' hS
  obtain ⟨_, hS⟩ := hS
  go_simp
  try with_reducible rfl
 rotate_left
 ·simp only [Act.put, sq1, sq2, sq3, i64_w, i32_w]
  rfl
 refine pure_ (i := 8) (N := some 37) (v := ?_) (a' := ?_) #[true, true, true, true, true, true, true, true, true, false, false] rfl rfl (by kernel_rfl) (fun _ _ _ h => h) (Or.inl ⟨by rfl, ?_⟩) ?_ ?_
 rotate_left
 ·intro w'
  go_simp
  try with_reducible rfl
 rotate_left
 ·simp only [Act.put, sq1, sq2, sq3, i64_w, i32_w]
  rfl
 refine one_ (i := 9) (N := some 4) #[true, true, true, true, true, true, true, true, true, true, false] rfl rfl (by kernel_rfl) (by decide) (fun K hK => ?_)
 refine value_ (w1 := ?_) (v := ?_) (by rfl) rfl ?_ ?_
 rotate_left 2
 ·go_simp
  constructor <;> rfl
 have HBz := Lib.hid ((Below.refl wa.heap.size wa).alloc (Nat.le_refl _) (.cells #[.int .i64 0, .int .i64 0, .int .i64 0, .slice none 0 0] 36))
 refine hK.out _ _ ⟨(blk_cell (HQa.out.below HBz.out).y 1).trans rfl, (blk_cell (HQa.out.below HBz.out).y 4).trans rfl⟩ (fun hHeld => ?_)
 clear hK K
 refine norm_ (a' := ?_) ?_ ?_
 rotate_left
 ·show Act.put _ (some 4) _ = _
  simp only [Act.put, sq1, sq2, sq3, i64_w, i32_w]
  rfl
 refine last_ (i := 10) (N := none) #[true, true, true, true, true, true, true, true, true, true, true] rfl rfl (by kernel_rfl) (by decide) (fun K hK => ?_)
 refine skip_ (w1 := ?_) (by rfl) rfl ?_ ?_
 rotate_left
 ·go_simp
  rfl
 refine hK.out _ _ ?_
 clear hK K
 refine done_ (by kernel_rfl) ?_
 have HB1 := Lib.hid ((Below.refl wa.heap.size wa).alloc (Nat.le_refl _) (.cells #[.int .i64 1, .int .i64 s.r, .int .i64 s.n, .slice none 0 0] 36))
 have HE1 := Lib.hid (heap_alloc_new wa (.cells #[.int .i64 1, .int .i64 s.r, .int .i64 s.n, .slice none 0 0] 36))
 obtain ⟨eb, heb⟩ : ∃ eb, wa.heap.size = eb := ⟨_, rfl⟩
 obtain ⟨w1, hw1⟩ : ∃ V, wa.alloc (.cells #[.int .i64 1, .int .i64 s.r, .int .i64 s.n, .slice none 0 0] 36) = V := ⟨_, rfl⟩
 have HEB := Lib.hid (show wa.heap.size ≤ eb by omega)
 rw [hw1] at HB1 HE1 ⊢
 rw [heb] at HE1 ⊢
 have HQ1 := Lib.hid (HQa.out.below HB1.out)
 have HX1 := Lib.hid ((HB1.out.block W.heap.size (blk_lt HXa.out)).trans HXa.out)
 have HW1 := Lib.hid (HBa.out.trans (HB1.out.mono (by have := blk_lt HXa.out; omega)))
 have HRE := Lib.hid (show W.heap.size < eb by have := blk_lt HXa.out; omega)
 clear hw1 heb HB1 HBz HQa HXa HBa HEB
 go_upto_block 0 with fail
 go_cut [5] (fun v wx => ∃ k : Nat, v = .int .i64 (k : Int) ∧ k = min s.l.length 16 ∧ Below w1.heap.size w1 wx)
 case first =>
  go_wp2_with fail
  go_loopw [5] (fun v wr => ∃ k : Nat, v = .int .i64 (k : Int) ∧ 1 ≤ k ∧ k ≤ s.l.length ∧ k ≤ 16 ∧ Below w1.heap.size w1 wr) (fun v _ => 16 - (intOf v).toNat)
  case atStart => exact ⟨1, rfl, by omega, HL.out.1, by omega, Below.refl _ _⟩
  case round =>
   obtain ⟨k, rfl, hk1, hk2, hk3, hb⟩ := hrel
   have HBr := Lib.hid hb
   have HQr := Lib.hid (HQ1.out.below hb)
   have HEr := Lib.hid ((hb.block eb (blk_lt HE1.out)).trans HE1.out)
   have HK := Lib.hid (show 1 ≤ k ∧ k ≤ s.l.length ∧ k ≤ 16 from ⟨hk1, hk2, hk3⟩)
   have e2 : wr.cell? ⟨g, 2, none⟩ = some (.slice A s.l.length c) := (blk_cell HQr.out.y 2).trans rfl
   clear hb
   by_cases ha : k < s.l.length
   ·by_cases hc : k < 16
    ·have q1 : decide (k < s.l.length) = true := decide_eq_true ha
     have q2 : decide (k < 16) = true := decide_eq_true hc
     have q3 : decide ((k : Int) < 16) = true := decide_eq_true (by omega)
     have HKK := Lib.hid (show k + 1 ≤ s.l.length ∧ k + 1 ≤ 16 from ⟨ha, hc⟩)
     have hlen : (s.l.take (k + 1)).length = k + 1 := by rw [List.length_take]; omega
     have hC := (HQr.out.r.take (m := k + 1) ha).reads.2.2
     have hbo := batch_ok (l := s.l.take (k + 1)) (r := s.r) (n := s.n) (fun t ht => HO.out.a t (List.mem_of_mem_take ht)) (by omega) (by omega) HO.out.r HO.out.n
     have HCUT := cut_to (P := Try.prog) 22 32 .i64 Try.underlying22 infoTxn A s.l.length c ((k : Int) + 1) (by omega) (by omega) HQr.out.r.reads.2.1
     rw [show ((k : Int) + 1).toNat = k + 1 by omega] at HCUT
     have HEN := Lib.hid (show Kd.C G.k32 wr A (k + 1) (s.l.take (k + 1)) by have h0 := hC; rw [hlen] at h0; exact h0)
     have HLEN := Lib.hid hlen
     have HBO := Lib.hid hbo
     have b0 : wr.cell? ⟨eb, 0, none⟩ = some (.int .i64 1) := (blk_cell HEr.out 0).trans rfl
     have b1 : wr.cell? ⟨eb, 1, none⟩ = some (.int .i64 s.r) := (blk_cell HEr.out 1).trans rfl
     have b2 : wr.cell? ⟨eb, 2, none⟩ = some (.int .i64 s.n) := (blk_cell HEr.out 2).trans rfl
     have b3 : wr.cell? ⟨eb, 3, none⟩ = some (.slice none 0 0) := (blk_cell HEr.out 3).trans rfl
     have hgl : g < wr.heap.size := HQr.out.glt
     clear ha hc hlen hC hbo hk1 hk2
     go_wp2_with fail
     have h4 := entry_is 1 s.r s.n A c (s.l.take (k + 1)) (wr.alloc (.cells #[.int .i64 1, .int .i64 s.r, .int .i64 s.n, .slice A (k + 1) c] 36)) (HLEN.out.symm ▸ Kd.C_alloc HEN.out _) HBO.out.1
     rw [HLEN.out, HBO.out.2.2.1] at h4
     obtain ⟨bs, hbs⟩ : ∃ bs, entB 1 s.r s.n (s.l.take (k + 1)) = bs := ⟨_, rfl⟩
     have q4 : decide (65472 < bs.length) = false := decide_eq_false (by have := HBO.out.2.2.2; rw [hbs] at this; omega)
     have q5 : decide (65472 < (bs.length : Int)) = false := decide_eq_false (by have := HBO.out.2.2.2; rw [hbs] at this; omega)
     rw [hbs] at h4
     clear hbs
     refine h4.mono ?_
     rintro e w3 ⟨v, rfl, hv, hb⟩
     obtain ⟨X, cx, rfl⟩ := Kd.R_slice hv
     have h5 := (Below.refl wr.heap.size wr).alloc (Nat.le_refl _) (.cells #[.int .i64 1, .int .i64 s.r, .int .i64 s.n, .slice A (k + 1) c] 36)
     have HB3 := Lib.hid (HBr.out.trans ((h5.trans (hb.mono h5.size)).mono HBr.out.size))
     clear h4 h5 hv hb HCUT
     go_wp2_with fail
     go_roundw
     case rel => exact ⟨k + 1, by go_num, by omega, HKK.out.1, HKK.out.2, HB3.out⟩
     case measure => have := HKK.out; simp [intOf]; omega
    ·have q1 : decide (k < s.l.length) = true := decide_eq_true ha
     have q2 : decide (k < 16) = false := decide_eq_false hc
     have q3 : decide ((k : Int) < 16) = false := decide_eq_false (by omega)
     have HM := Lib.hid (show k = min s.l.length 16 by omega)
     clear ha hc hk1 hk2 hk3
     go_wp2_with fail
     go_meet
     exact ⟨k, rfl, HM.out, HBr.out⟩
   ·have q1 : decide (k < s.l.length) = false := decide_eq_false ha
    have HM := Lib.hid (show k = min s.l.length 16 by omega)
    clear ha hk1 hk2 hk3
    go_wp2_with fail
    go_meet
    exact ⟨k, rfl, HM.out, HBr.out⟩
 obtain ⟨k, rfl, hk, hb⟩ := hcut
 have HWc := Lib.hid (HW1.out.trans (hb.mono HW1.out.size))
 have HEc := Lib.hid ((hb.block eb (blk_lt HE1.out)).trans HE1.out)
 have HXc := Lib.hid ((hb.block W.heap.size (blk_lt HX1.out)).trans HX1.out)
 have HK := Lib.hid (show 1 ≤ k ∧ k ≤ s.l.length ∧ k ≤ 16 by have := HL.out; omega)
 have HTK := Lib.hid (show s.l.take 16 = s.l.take k ∧ s.l.drop 16 = s.l.drop k by
  by_cases h16 : s.l.length ≤ 16
  ·rw [List.take_of_length_le h16, List.drop_of_length_le h16, List.take_of_length_le (by omega), List.drop_of_length_le (by omega)]; exact ⟨rfl, rfl⟩
  ·rw [show k = 16 by omega]; exact ⟨rfl, rfl⟩)
 have hmk := makeTx k (by have := HK.out; omega)
 have b3 : wc.cell? ⟨eb, 3, none⟩ = some (.slice none 0 0) := (blk_cell HEc.out 3).trans rfl
 have z3 : wc.frozen? ⟨eb, 3, none⟩ = false := blk_frozen HEc.out 3
 have hel : eb < wc.heap.size := blk_lt HEc.out
 clear hb hk HW1 HE1 HX1 HQ1
 go_upto_region 12 with fail
 obtain ⟨tb, htb⟩ : ∃ tb, wc.heap.size = tb := ⟨_, rfl⟩
 obtain ⟨ZC, hZC⟩ : ∃ ZC, madeCells #[.int .i64 0, .int .i64 0, .slice none 0 0, .slice none 0 0, .slice none 0 0, .slice none 0 0] (k * 6) = ZC := ⟨_, rfl⟩
 have HZC := Lib.hid (show ZC.size = k * 6 by rw [← hZC, size_madeCells])
 have HTB := Lib.hid (show eb < tb by omega)
 have hz5 : (wc.setCell ⟨eb, 3, none⟩ (.slice (some ⟨wc.heap.size, 0, none⟩) k k)).heap.size = tb := by rw [World.size_setCell]; exact htb
 have HW2 := Lib.hid ((HWc.out.setCell (p := ⟨eb, 3, none⟩) (by have := HRE.out; show _ ≤ eb; omega) (.slice (some ⟨wc.heap.size, 0, none⟩) k k)).alloc (by rw [World.size_setCell]; exact HWc.out.size) (.cells ZC 32))
 have HE2 := Lib.hid (show ((wc.setCell ⟨eb, 3, none⟩ (.slice (some ⟨wc.heap.size, 0, none⟩) k k)).alloc (.cells ZC 32)).heap[eb]? = some (.cells #[.int .i64 1, .int .i64 s.r, .int .i64 s.n, .slice (some ⟨wc.heap.size, 0, none⟩) k k] 36) from (((Below.refl _ _).alloc (Nat.le_refl _) (.cells ZC 32)).block eb (by rw [hz5]; exact HTB.out)).trans (blk_put HEc.out 3 (.slice (some ⟨wc.heap.size, 0, none⟩) k k) rfl))
 have HX2 := Lib.hid ((((Below.refl _ _).alloc (Nat.le_refl _) (.cells ZC 32)).block W.heap.size (by rw [hz5]; have := HTB.out; have := HRE.out; omega)).trans ((Below.heap_setCell wc ⟨eb, 3, none⟩ (.slice (some ⟨wc.heap.size, 0, none⟩) k k) W.heap.size (by have := HRE.out; show _ ≠ eb; omega)).trans HXc.out))
 have HT2 := Lib.hid (heap_alloc_new (wc.setCell ⟨eb, 3, none⟩ (.slice (some ⟨wc.heap.size, 0, none⟩) k k)) (.cells ZC 32))
 rw [hz5] at HT2
 rw [hZC]
 obtain ⟨w2, hw2⟩ : ∃ V, (wc.setCell ⟨eb, 3, none⟩ (.slice (some ⟨wc.heap.size, 0, none⟩) k k)).alloc (.cells ZC 32) = V := ⟨_, rfl⟩
 rw [hw2] at HW2 HE2 HX2 HT2 ⊢
 rw [htb] at HE2 ⊢
 clear hw2 htb hZC hz5 hmk b3 z3 hel HWc HEc HXc
 have HQ2 := Lib.hid (HQW.out.below (HW2.out))
 have e3 : w2.cell? ⟨eb, 3, none⟩ = some (.slice (some ⟨tb, 0, none⟩) k k) := (blk_cell HE2.out 3).trans rfl
 have e2 : w2.cell? ⟨g, 2, none⟩ = some (.slice A s.l.length c) := (blk_cell HQ2.out.y 2).trans rfl
 refine wp_region_still_tail 6 (by kernel_rfl) (by kernel_rfl) ?_
 simp only [List.take_succ_cons, List.take_zero, List.drop_succ_cons, List.drop_zero]
 iterate 6 still_step
 refine wpStill_nil ?_
 change wpList _ _ _ _ _ w2.drew
 refine tr_copy rfl (.tmp 76) (.tmp 80) rfl rfl rfl (show w2.drew.heap[tb]? = _ from HT2.out) HZC.out (HQ2.out.r.below (Below.refl _ w2).drew) HK.out.2.1 HK.out.1 (by have := HL.out; omega) (by have := HLT.out g (.inl rfl); have := HTB.out; have := HRE.out; have := HQ2.out.bg; omega) (fun a ha => by have := HLT.out _ (.inr (.inr ⟨a, ha, rfl⟩)); have := HTB.out; have := HRE.out; omega) ?_
 intro w3 hT hk
 have HW3 := Lib.hid (HW2.out.drew.trans (hk.below (B := W.heap.size) HW2.out.size (fun i e => by have := HTB.out; have := HRE.out; omega)))
 have HE3 := Lib.hid ((hk.block eb (blk_lt HE2.out) (by have := HTB.out; omega)).trans HE2.out)
 have HX3 := Lib.hid ((hk.block W.heap.size (blk_lt HX2.out) (by have := HTB.out; have := HRE.out; omega)).trans HX2.out)
 obtain ⟨E, hE⟩ : ∃ E : Option Addr, some ⟨tb, 0, none⟩ = E := ⟨_, rfl⟩
 have HEN := Lib.hid (show ∀ a, E = some a → eb < a.block from fun a ha => by rw [← hE] at ha; injection ha with ha; rw [← ha]; exact HTB.out)
 have HTE := Lib.hid hT
 rw [hE] at HE3 HTE
 clear hT hk hE HW2 HE2 HX2 HT2 HQ2 e2 e3 HZC HTB
 have e3 : w3.cell? ⟨eb, 3, none⟩ = some (.slice E k k) := (blk_cell HE3.out 3).trans rfl
 have HM3 := Lib.hid (HQW.out.below HW3.out).m
 go_wp2_with fail
 go_loopw [85] (fun v wr => ∃ j : Nat, v = .int .i64 (j : Int) ∧ j ≤ k ∧ IsM Try.prog 72 (mk2 .i64 .i64) wr mp nb (mapQ (s.l.drop j)) (s.l.length - j) ∧ KeepS (fun i => i = mp) w3 wr) (fun v _ => k - (intOf v).toNat)
 case atStart => exact ⟨0, rfl, Nat.zero_le _, by simpa using HM3.out, KeepS.refl _ _⟩
 case round =>
  obtain ⟨j, rfl, hj, hM, hKp⟩ := hrel
  have HMr := Lib.hid hM; have HKr := Lib.hid hKp
  have HYr := Lib.hid ((hKp.block g (HQW.out.below HW3.out).glt (HQW.out.ne)).trans (HQW.out.below HW3.out).y)
  have HEr := Lib.hid ((hKp.block eb (blk_lt HE3.out) (by have := HLT.out mp (.inr (.inl rfl)); have := HRE.out; omega)).trans HE3.out)
  have HXr := Lib.hid ((hKp.block W.heap.size (blk_lt HX3.out) (by have := HLT.out mp (.inr (.inl rfl)); omega)).trans HX3.out)
  have HNI := Lib.hid (show ∀ i, i = mp → ¬ Inn B w3 i from fun i e => by subst e; exact (HQW.out.below HW3.out).out _ (.inr (.inl rfl)))
  have HTr := Lib.hid (HTE.out.keep hKp HNI.out (fun i hi e => by obtain ⟨a, ha, e2⟩ := own_iff.1 hi; have := HEN.out a ha; have := HLT.out mp (.inr (.inl rfl)); have := HRE.out; omega))
  have HRr := Lib.hid ((HQW.out.below HW3.out).r.keep hKp HNI.out (fun i hi e => by obtain ⟨a, ha, e2⟩ := own_iff.1 hi; exact (HQW.out.own_ne ha).2 (e2.trans e)))
  clear hM hKp e3
  by_cases hlt : j < k
  ·obtain ⟨t, ht⟩ : ∃ t, s.l[j]? = some t := ⟨_, List.getElem?_eq_getElem (by have := HK.out; omega)⟩
   have htk : (s.l.take k)[j]? = some t := by rw [List.getElem?_take, if_pos hlt]; exact ht
   have HDJ := Lib.hid (show s.l.drop j = t :: s.l.drop (j + 1) by rw [List.drop_eq_getElem_cons (List.getElem?_eq_some_iff.1 ht).1, (List.getElem?_eq_some_iff.1 ht).2])
   have HWF := Lib.hid (show wf2 .i64 .i64 (t.f0, t.f1) from wf_key ((HO.out.a t (List.mem_of_getElem? ht)).1))
   obtain ⟨ad, A2, c2, A3, c3, A4, c4, A5, c5, hEad, ⟨x0, x1, x2, x3, x4, x5⟩, hX⟩ := tx_get HTr.out.reads.2.2 htk
   have HTr2 := Lib.hid HTr.out
   subst hEad
   have q1 : decide (j < k) = true := decide_eq_true hlt
   have hgl : g < wr.heap.size := blk_lt HYr.out
   have HLTJ := Lib.hid hlt
   have hj16 : j ≤ 16 := by have := HK.out; omega
   clear ht htk hX hlt HTr
   go_upto_region 16 with fail
   have HW4 := Lib.hid ((Below.refl wr.heap.size wr).alloc (Nat.le_refl _) (.cells #[.int .i64 t.f0, .int .i64 t.f1, .slice A2 t.f2.length c2, .slice A3 t.f3.length c3, .slice A4 t.f4.length c4, .slice A5 t.f5.length c5] 32))
   have HT4 := Lib.hid (heap_alloc_new wr (.cells #[.int .i64 t.f0, .int .i64 t.f1, .slice A2 t.f2.length c2, .slice A3 t.f3.length c3, .slice A4 t.f4.length c4, .slice A5 t.f5.length c5] 32))
   obtain ⟨bx, hbx⟩ : ∃ bx, wr.heap.size = bx := ⟨_, rfl⟩
   obtain ⟨w4, hw4⟩ : ∃ V, wr.alloc (.cells #[.int .i64 t.f0, .int .i64 t.f1, .slice A2 t.f2.length c2, .slice A3 t.f3.length c3, .slice A4 t.f4.length c4, .slice A5 t.f5.length c5] 32) = V := ⟨_, rfl⟩
   rw [hw4] at HW4 HT4 ⊢
   rw [hbx] at HT4 ⊢
   clear hw4 hbx hgl x0 x1 x2 x3 x4 x5
   have HM4 := Lib.hid (HMr.out.below HW4.out)
   have m3 : w4.cell? ⟨g, 3, none⟩ = some (.map (some mp)) := (blk_cell ((HW4.out.block g (blk_lt HYr.out)).trans HYr.out) 3).trans rfl
   have t0 : w4.cell? ⟨bx, 0, none⟩ = some (.int .i64 t.f0) := (blk_cell HT4.out 0).trans rfl
   have t1 : w4.cell? ⟨bx, 1, none⟩ = some (.int .i64 t.f1) := (blk_cell HT4.out 1).trans rfl
   refine wp_region_still_tail 9 (by kernel_rfl) (by kernel_rfl) ?_
   simp only [List.take_succ_cons, List.take_zero, List.drop_succ_cons, List.drop_zero]
   iterate 9 still_step
   refine wpStill_nil ?_
   change wpList _ _ _ _ _ w4.drew
   have HM5 := Lib.hid (HM4.out.move (w' := w4.drew) rfl)
   have HK5 := Lib.hid ((HKr.out.then_below HW4.out).drew)
   obtain ⟨w5, hw5⟩ : ∃ V, w4.drew = V := ⟨_, rfl⟩
   rw [hw5] at HM5 HK5 ⊢
   clear hw5 HM4 m3 t0 t1 HT4 HW4 HKr HMr
   go_wp2_with (at_delete; refine m_del _ HM5.out keyQ 66 Try.underlying66 rfl (.tmp 92) (.tmp 97) rfl (t.f0, t.f1) HWF.out rfl rfl ?_; intro w6 hM6 hg6; have HM6 := Lib.hid hM6; have HG6 := Lib.hid hg6; clear hM6 hg6)
   go_roundw
   case rel =>
    refine ⟨j + 1, by go_num, HLTJ.out, ?_, HK5.out.trans (KeepS.of_grown HG6.out (fun i hi => by injection hi with hi; exact hi.symm))⟩
    have h9 := HM6.out
    have hnd : (t :: s.l.drop (j + 1)).map keyTx |>.Nodup := by
     have := HO.out.u
     rw [← HDJ.out, List.map_drop]
     exact (List.drop_sublist j _).nodup this
    have hsome : (mapQ (s.l.drop j) (t.f0, t.f1)).isSome = true := by
     rw [HDJ.out]; unfold mapQ waitsB
     rw [if_pos (by rw [List.any_cons]; show ((keyTx t == (t.f0, t.f1)) || _) = true; rw [show (keyTx t == (t.f0, t.f1)) = true from beq_iff_eq.2 rfl]; rfl)]
     rfl
    rw [hsome, if_pos rfl] at h9
    rw [mapQ_tail hnd, ← HDJ.out, show s.l.length - (j + 1) = s.l.length - j - 1 by omega]
    exact h9
   case measure => have := HLTJ.out; simp [intOf]; omega
  ·obtain rfl : j = k := by omega
   have q1 : decide (j < j) = false := decide_eq_false hlt
   have e2 : wr.cell? ⟨g, 2, none⟩ = some (.slice A s.l.length c) := (blk_cell HYr.out 2).trans rfl
   obtain ⟨A1, hA1⟩ : ∃ A1, (if c = j then A else A.map (·.add (j * 6))) = A1 := ⟨_, rfl⟩
   have hcut := cut_from (P := Try.prog) 22 32 .i64 Try.underlying22 infoTxn 6 infoTxnS A s.l.length c (j : Int) (by omega) (by have := HK.out; omega)
   rw [Int.toNat_natCast, hA1] at hcut
   have HD := Lib.hid (HRr.out.drop HK.out.2.1)
   rw [hA1] at HD
   have HLD := Lib.hid (show (s.l.drop j).length = s.l.length - j from List.length_drop)
   clear hA1 hlt hj
   go_wp2_with fail
   have h4 := clone_txs (A := A1) (l := s.l.drop j) (c := c - j) (by rw [HLD.out]; exact HD.out) (by rw [HLD.out]; have := HL.out; omega) (by have := HQW.out.bg; have := blk_lt HYr.out; omega)
   rw [HLD.out] at h4
   refine h4.mono ?_
   rintro e w5 ⟨A', c', rfl, hT5, hb5, hn5⟩
   have HT5 := Lib.hid hT5; have HB5 := Lib.hid hb5; have HN5 := Lib.hid hn5
   clear h4 hT5 hb5 hn5 hcut e2
   have HY5 := Lib.hid ((HB5.out.block g (blk_lt HYr.out)).trans HYr.out)
   have HE5 := Lib.hid ((HB5.out.block eb (blk_lt HEr.out)).trans HEr.out)
   have HX5 := Lib.hid ((HB5.out.block W.heap.size (blk_lt HXr.out)).trans HXr.out)
   have HZ5 := Lib.hid (show ∀ a, A' = some a → W.heap.size < a.block from fun a ha => by have := HN5.out a ha; have := blk_lt HXr.out; omega)
   have y2 : w5.cell? ⟨g, 2, none⟩ = some (.slice A s.l.length c) := (blk_cell HY5.out 2).trans rfl
   have y2z : w5.frozen? ⟨g, 2, none⟩ = false := blk_frozen HY5.out 2
   have y4 : w5.cell? ⟨g, 4, none⟩ = some (.int .i64 s.n) := (blk_cell HY5.out 4).trans rfl
   have y4z : w5.frozen? ⟨g, 4, none⟩ = false := blk_frozen HY5.out 4
   have n1 : 0 ≤ s.n := HO.out.n.1
   have n2 : s.n < 1099511627776 := HN.out
   have hge : g ≠ eb := fun e => by have := HLT.out g (.inl rfl); have := HRE.out; omega
   have hgx : g ≠ W.heap.size := fun e => by have := HLT.out g (.inl rfl); omega
   have hxe : W.heap.size ≠ eb := fun e => by have := HRE.out; omega
   go_upto_region 20 with fail
   have HW6 := Lib.hid ((((KeepS.of_below (sqS g mp A) HW3.out).trans (HKr.out.mono (fun i e => .inr (.inl e)))).then_below HB5.out).set (p := ⟨g, 2, none⟩) (.inl (.inl rfl)) (.slice A' (s.l.length - j) c') |>.set (p := ⟨g, 4, none⟩) (.inl (.inl rfl)) (.int .i64 (s.n + 1)))
   have HY6 := Lib.hid (show ((w5.setCell ⟨g, 2, none⟩ (.slice A' (s.l.length - j) c')).setCell ⟨g, 4, none⟩ (.int .i64 (s.n + 1))).heap[g]? = some (.cells #[.bool true, .int .i64 s.r, .slice A' (s.l.length - j) c', .map (some mp), .int .i64 (s.n + 1), .int .i64 s.t] 68) from blk_put (blk_put HY5.out 2 _ rfl) 4 _ rfl)
   have HE6 := Lib.hid ((Below.heap_setCell (w5.setCell ⟨g, 2, none⟩ (.slice A' (s.l.length - j) c')) ⟨g, 4, none⟩ (.int .i64 (s.n + 1)) eb (fun e => hge e.symm)).trans ((Below.heap_setCell w5 ⟨g, 2, none⟩ (.slice A' (s.l.length - j) c') eb (fun e => hge e.symm)).trans HE5.out))
   have HX6 := Lib.hid ((Below.heap_setCell (w5.setCell ⟨g, 2, none⟩ (.slice A' (s.l.length - j) c')) ⟨g, 4, none⟩ (.int .i64 (s.n + 1)) W.heap.size (fun e => hgx e.symm)).trans ((Below.heap_setCell w5 ⟨g, 2, none⟩ (.slice A' (s.l.length - j) c') W.heap.size (fun e => hgx e.symm)).trans HX5.out))
   have HM6 := Lib.hid ((HMr.out.below HB5.out).move (w' := (w5.setCell ⟨g, 2, none⟩ (.slice A' (s.l.length - j) c')).setCell ⟨g, 4, none⟩ (.int .i64 (s.n + 1))) ((Below.heap_setCell _ ⟨g, 4, none⟩ _ mp (fun e => HQW.out.ne e.symm)).trans (Below.heap_setCell _ ⟨g, 2, none⟩ _ mp (fun e => HQW.out.ne e.symm))))
   have HKG := Lib.hid (((KeepS.refl (fun i => i = g) w5).set (p := ⟨g, 2, none⟩) (.inl rfl) (.slice A' (s.l.length - j) c')).set (p := ⟨g, 4, none⟩) (.inl rfl) (.int .i64 (s.n + 1)))
   have HNG := Lib.hid (show ∀ i, i = g → ¬ Inn B w5 i from fun i e => by subst e; exact not_inn HQW.out.bg HY5.out sq_not)
   have HTA := Lib.hid (HT5.out.keep HKG.out HNG.out (fun i hi e => by obtain ⟨a, ha, e2⟩ := own_iff.1 hi; have := HZ5.out a ha; have := HLT.out g (.inl rfl); omega))
   have HTF := Lib.hid ((HTr.out.below HB5.out).keep HKG.out HNG.out (fun i hi e => by obtain ⟨a, ha, e2⟩ := own_iff.1 hi; have := HEN.out a ha; have := HLT.out g (.inl rfl); have := HRE.out; omega))
   obtain ⟨w6, hw6⟩ : ∃ V, (w5.setCell ⟨g, 2, none⟩ (.slice A' (s.l.length - j) c')).setCell ⟨g, 4, none⟩ (.int .i64 (s.n + 1)) = V := ⟨_, rfl⟩
   rw [hw6] at HW6 HY6 HE6 HX6 HM6 HTA HTF ⊢
   clear hw6 HY5 HE5 HX5 HT5 HB5 y2 y2z y4 y4z HKG HNG HMr HKr HTr HRr HYr HEr HXr HM3 HTE HE3 HX3 HW3
   have b0 : w6.cell? ⟨eb, 0, none⟩ = some (.int .i64 1) := (blk_cell HE6.out 0).trans rfl
   have b1 : w6.cell? ⟨eb, 1, none⟩ = some (.int .i64 s.r) := (blk_cell HE6.out 1).trans rfl
   have b2 : w6.cell? ⟨eb, 2, none⟩ = some (.int .i64 s.n) := (blk_cell HE6.out 2).trans rfl
   have b3 : w6.cell? ⟨eb, 3, none⟩ = some (.slice E j j) := (blk_cell HE6.out 3).trans rfl
   have x0 : w6.cell? ⟨W.heap.size, 0, none⟩ = some (.int .i64 0) := (blk_cell HX6.out 0).trans rfl
   have x1 : w6.cell? ⟨W.heap.size, 1, none⟩ = some (.int .i64 0) := (blk_cell HX6.out 1).trans rfl
   have x2 : w6.cell? ⟨W.heap.size, 2, none⟩ = some (.int .i64 0) := (blk_cell HX6.out 2).trans rfl
   have x3 : w6.cell? ⟨W.heap.size, 3, none⟩ = some (.slice none 0 0) := (blk_cell HX6.out 3).trans rfl
   obtain ⟨f0, f1, f2, f3⟩ := bf4 HX6.out
   clear n1 n2 hge hgx hxe q1
   go_wp2_with fail
   refine bodyPost_ret (v := .tuple #[.agg #[.int .i64 1, .int .i64 s.r, .int .i64 s.n, .slice E j j], .bool true]) ?_ rfl ?_
   ·rw [results_cell_tmp rfl]
    go_simp
   ·have HKX := ((((KeepS.refl (fun i => i = W.heap.size) w6).set (p := ⟨W.heap.size, 0, none⟩) (.inl rfl) (.int .i64 1)).set (p := ⟨W.heap.size, 1, none⟩) (.inl rfl) (.int .i64 s.r)).set (p := ⟨W.heap.size, 2, none⟩) (.inl rfl) (.int .i64 s.n)).set (p := ⟨W.heap.size, 3, none⟩) (.inl rfl) (.slice E j j)
    have hlr : (s.l.drop 16).length = s.l.length - j := by rw [HTK.out.2]; exact HLD.out
    have hlt : ∀ k, sqS g mp A k → ¬ k = W.heap.size := fun k hk e => by have := HLT.out k hk; omega
    have hni : ∀ i, i = W.heap.size → ¬ Inn B w6 i := fun i e => by subst e; exact not_inn (by have := HQW.out.bg; have := HLT.out g (.inl rfl); omega) HX6.out en_not
    refine ⟨A', c', .slice E j j, by rw [HFL.out], ?_, ?_, (((HW6.out.set (p := ⟨W.heap.size, 0, none⟩) (.inr (Nat.le_refl _)) (.int .i64 1)).set (p := ⟨W.heap.size, 1, none⟩) (.inr (Nat.le_refl _)) (.int .i64 s.r)).set (p := ⟨W.heap.size, 2, none⟩) (.inr (Nat.le_refl _)) (.int .i64 s.n)).set (p := ⟨W.heap.size, 3, none⟩) (.inr (Nat.le_refl _)) (.slice E j j), fun a' ha' => .inr (by have := HZ5.out a' ha'; omega), fun k hk => by obtain ⟨a, ha, e2⟩ := own_iff.1 hk; have := HEN.out a ha; have := HRE.out; omega⟩
    ·rw [HFL.out]
     refine ⟨?_, ?_, ?_, ?_, HQW.out.bg, HQW.out.bm⟩
     ·show _ = some (Obj.cells #[.bool true, .int .i64 s.r, .slice A' (s.l.drop 16).length c', .map (some mp), .int .i64 (s.n + 1), .int .i64 s.t] _ _)
      rw [hlr]
      exact (HKX.block g (blk_lt HY6.out) (hlt g (.inl rfl))).trans HY6.out
     ·show IsM _ _ _ _ _ _ (mapQ (s.l.drop 16)) (s.l.drop 16).length
      rw [hlr, HTK.out.2]
      exact HM6.out.move (HKX.block mp HM6.out.lt (hlt mp (.inr (.inl rfl))))
     ·show TR B _ (.slice A' (s.l.drop 16).length c') (s.l.drop 16)
      rw [hlr, HTK.out.2]
      exact HTA.out.keep HKX hni (fun k hk e => by obtain ⟨a, ha, e2⟩ := own_iff.1 hk; have := HZ5.out a ha; omega)
     ·have := HO.out.flush
      rw [HFL.out] at this
      exact this
    ·rw [HFL.out]
     show TR B _ (.slice E j j) (s.l.take 16)
     rw [HTK.out.1]
     exact HTF.out.keep HKX hni (fun k hk e => by obtain ⟨a, ha, e2⟩ := own_iff.1 hk; have := HEN.out a ha; have := HRE.out; omega)
end Go.Proofs.Ytgmlpmdfkaadhaa.M
end

section
/- Flush and Tick, whatever waits. -/
attribute [local irreducible] Go.wpStill
namespace Go.Proofs.Ytgmlpmdfkaadhaa.M
open Go.RowKit Go.Proofs.YtgmlpmdfkaadhaaW.PrintWords Go.Proofs.YtgmlpmdfkaadhaaW.PrintLast Go.Proofs.YtgmlpmdfkaadhaaW.PrintMore Go.Proofs.Ytgmlpmdfkaadhaa.G
theorem flush_nob {B : Nat} {W : World} {g mp nb : Nat} {s : SqS} {A : Option Addr} {c : Nat} (h : IsSq B W g mp nb s A c) (hl : s.l = [] ∨ 1099511627776 ≤ s.n) :
  Calls Try.prog 20 #[.pointer (some ⟨g, 0, none⟩)] W fun e w' => e = .returned (.tuple #[.agg #[.int .i64 0, .int .i64 0, .int .i64 0, .slice none 0 0], .bool false]) ∧ Below W.heap.size W w' := by
 have hb := (Below.refl W.heap.size W).alloc (Nat.le_refl _) (.cells #[.int .i64 0, .int .i64 0, .int .i64 0, .slice none 0 0] 36)
 have H := Lib.hid (noneOf (h.below hb))
 have HB := Lib.hid hb
 have e2 : (W.alloc (.cells #[.int .i64 0, .int .i64 0, .int .i64 0, .slice none 0 0] 36)).cell? ⟨g, 2, none⟩ = some (.slice A s.l.length c) := (blk_cell (h.below hb).y 2).trans rfl
 have e4 : (W.alloc (.cells #[.int .i64 0, .int .i64 0, .int .i64 0, .slice none 0 0] 36)).cell? ⟨g, 4, none⟩ = some (.int .i64 s.n) := (blk_cell (h.below hb).y 4).trans rfl
 by_cases h0 : s.l = []
 ·have q1 : ((s.l.length : Int) == 0) = true := by rw [h0]; rfl
  clear h hl hb h0
  go_enter Try.func20, Try.ntmps20
  go_wp2_with fail
  refine H.out.mono ?_
  rintro e w' ⟨rfl, rfl⟩
  go_wp2_with fail
  refine bodyPost_ret (v := .tuple #[.agg #[.int .i64 0, .int .i64 0, .int .i64 0, .slice none 0 0], .bool false]) ?_ rfl ⟨rfl, HB.out⟩
  rw [results_cell_tmp rfl]
  go_simp
 ·have q1 : ((s.l.length : Int) == 0) = false := by have := List.length_pos_iff.2 h0; rw [beq_eq_false_iff_ne]; omega
  have q2 : decide (1099511627776 ≤ s.n) = true := decide_eq_true (by rcases hl with h | h; exact absurd h h0; exact h)
  clear h hl hb h0
  go_enter Try.func20, Try.ntmps20
  go_wp2_with fail
  refine H.out.mono ?_
  rintro e w' ⟨rfl, rfl⟩
  go_wp2_with fail
  refine bodyPost_ret (v := .tuple #[.agg #[.int .i64 0, .int .i64 0, .int .i64 0, .slice none 0 0], .bool false]) ?_ rfl ⟨rfl, HB.out⟩
  rw [results_cell_tmp rfl]
  go_simp
theorem flush_is {B : Nat} {W : World} {g mp nb : Nat} {s : SqS} {A : Option Addr} {c : Nat} (h : IsSq B W g mp nb s A c) :
  Calls Try.prog 20 #[.pointer (some ⟨g, 0, none⟩)] W fun e w' => FlushP B W g mp nb s A e w' := by
 by_cases hl : s.l = [] ∨ 1099511627776 ≤ s.n
 ·refine (flush_nob h hl).mono ?_
  rintro e w' ⟨rfl, hb⟩
  have e1 : qFlush s = (s, zE, false) := by unfold qFlush; rw [if_pos hl]
  exact ⟨A, c, .slice none 0 0, by rw [e1]; rfl, by rw [e1]; exact h.below hb, by rw [e1]; exact TR.nil _ _, KeepS.of_below _ hb, NewRow.refl _ _, fun k hk => by simp [Value.ownBlock] at hk⟩
 ·exact flush_yes h (fun e => hl (.inl e)) (by have := fun e => hl (.inr e); omega)
theorem IsSq.setT {B : Nat} {W : World} {g mp nb : Nat} {s : SqS} {A : Option Addr} {c : Nat} (h : IsSq B W g mp nb s A c) (x : Int) (hx : 0 ≤ x ∧ x < 4) : IsSq B (W.setCell ⟨g, 5, none⟩ (.int .i64 x)) g mp nb { s with t := x } A c := by
 have hk := (KeepS.refl (fun i => i = g) W).set (p := ⟨g, 5, none⟩) (.inl rfl) (.int .i64 x)
 have hni : ∀ i, i = g → ¬ Inn B W i := fun i e => by subst e; exact not_inn h.bg h.y sq_not
 refine ⟨?_, h.m.move (Below.heap_setCell _ ⟨g, 5, none⟩ _ mp (fun e => h.ne e.symm)), h.r.keep hk hni (fun k hk e => by obtain ⟨a, ha, e2⟩ := own_iff.1 hk; exact (h.own_ne ha).1 (e2.trans e)), ⟨h.o.r, h.o.n, hx, h.o.m, h.o.a, h.o.u⟩, h.bg, h.bm⟩
 exact blk_put h.y 5 _ rfl
def TickP (B : Nat) (W : World) (g mp nb : Nat) (s : SqS) (A : Option Addr) (e : Ending) (w' : World) : Prop :=
 ∃ A' c' E, e = .returned (.tuple #[.agg #[.int .i64 (qTick s).2.1.f0, .int .i64 (qTick s).2.1.f1, .int .i64 (qTick s).2.1.f2, E], .bool (qTick s).2.2]) ∧ IsSq B w' g mp nb (qTick s).1 A' c' ∧ TR B w' E (qTick s).2.1.f3 ∧ KeepS (sqS g mp A) W w' ∧ NewRow W A A' ∧ ∀ k, E.ownBlock = some k → W.heap.size ≤ k
set_option maxHeartbeats 1000000 in
theorem tick_is {B : Nat} {W : World} {g mp nb : Nat} {s : SqS} {A : Option Addr} {c : Nat} (h : IsSq B W g mp nb s A c) :
  Calls Try.prog 12 #[.pointer (some ⟨g, 0, none⟩)] W fun e w' => TickP B W g mp nb s A e w' := by
 have hb := (Below.refl W.heap.size W).alloc (Nat.le_refl _) (.cells #[.int .i64 0, .int .i64 0, .int .i64 0, .slice none 0 0] 36)
 have HX := Lib.hid (heap_alloc_new W (.cells #[.int .i64 0, .int .i64 0, .int .i64 0, .slice none 0 0] 36))
 have HGX := Lib.hid (show g ≠ W.heap.size from fun e => by have := h.glt; omega)
 have HLT := Lib.hid (show ∀ k, sqS g mp A k → k < W.heap.size from h.lt)
 obtain ⟨w0, hw⟩ : ∃ V, W.alloc (.cells #[.int .i64 0, .int .i64 0, .int .i64 0, .slice none 0 0] 36) = V := ⟨_, rfl⟩
 rw [hw] at hb HX
 have HQ := Lib.hid (h.below hb)
 have H := Lib.hid (noneOf (h.below hb))
 have HB := Lib.hid hb
 have e5 : w0.cell? ⟨g, 5, none⟩ = some (.int .i64 s.t) := (blk_cell (h.below hb).y 5).trans rfl
 have z5 : w0.frozen? ⟨g, 5, none⟩ = false := blk_frozen (h.below hb).y 5
 have HO := Lib.hid h.o
 clear h hb
 by_cases ht : s.t = 3
 ·have HR := Lib.hid (show qTick s = qFlush { s with t := 0 } by unfold qTick; rw [if_pos ht])
  rw [ht] at e5
  clear ht
  go_enter Try.func12, Try.ntmps12
  go_wp2_with fail
  refine H.out.mono ?_
  rintro e w' ⟨rfl, rfl⟩
  clear H
  go_wp2_with fail
  have HQ1 := Lib.hid (HQ.out.setT 0 (by decide))
  have HX1 := Lib.hid ((Below.heap_setCell w' ⟨g, 5, none⟩ (.int .i64 0) W.heap.size (fun e => HGX.out e.symm)).trans HX.out)
  have HK1 := Lib.hid ((KeepS.of_below (sqS g mp A) HB.out).set (p := ⟨g, 5, none⟩) (.inl (.inl rfl)) (.int .i64 0))
  obtain ⟨w1, hw1⟩ : ∃ V, w'.setCell ⟨g, 5, none⟩ (.int .i64 0) = V := ⟨_, rfl⟩
  rw [hw1] at HQ1 HX1 HK1 ⊢
  clear hw1 e5 z5 HQ HX
  refine (flush_is HQ1.out).mono ?_
  rintro e w2 ⟨A', c', E, rfl, hQ, hT, hK, hN, hE⟩
  have HQ2 := Lib.hid hQ; have HT2 := Lib.hid hT; have HK2 := Lib.hid hK; have HN2 := Lib.hid hN; have HE2 := Lib.hid hE
  have HX2 := Lib.hid ((hK.block W.heap.size (blk_lt HX1.out) (fun e => by have := HLT.out _ e; omega)).trans HX1.out)
  obtain ⟨E3, Ec, rfl, _⟩ := hT.slice
  obtain ⟨r, hr⟩ : ∃ r, qFlush { s with t := 0 } = r := ⟨_, rfl⟩
  rw [hr] at HQ2 HT2 HE2 HR ⊢
  have HS1 := Lib.hid (blk_lt HX1.out)
  clear hQ hT hK hN hE HQ1 HX1 hr
  obtain ⟨s2, ⟨f0, f1, f2, f3⟩, is⟩ := r
  have x0 : w2.cell? ⟨W.heap.size, 0, none⟩ = some (.int .i64 0) := (blk_cell HX2.out 0).trans rfl
  have x1 : w2.cell? ⟨W.heap.size, 1, none⟩ = some (.int .i64 0) := (blk_cell HX2.out 1).trans rfl
  have x2 : w2.cell? ⟨W.heap.size, 2, none⟩ = some (.int .i64 0) := (blk_cell HX2.out 2).trans rfl
  have x3 : w2.cell? ⟨W.heap.size, 3, none⟩ = some (.slice none 0 0) := (blk_cell HX2.out 3).trans rfl
  obtain ⟨y0, y1, y2, y3⟩ := bf4 HX2.out
  go_wp2_with fail
  refine bodyPost_ret (v := .tuple #[.agg #[.int .i64 f0, .int .i64 f1, .int .i64 f2, .slice E3 f3.length Ec], .bool is]) ?_ rfl ?_
  ·rw [results_cell_tmp rfl]
   go_simp
  ·have HKX := ((((KeepS.refl (fun i => i = W.heap.size) w2).set (p := ⟨W.heap.size, 0, none⟩) (.inl rfl) (.int .i64 f0)).set (p := ⟨W.heap.size, 1, none⟩) (.inl rfl) (.int .i64 f1)).set (p := ⟨W.heap.size, 2, none⟩) (.inl rfl) (.int .i64 f2)).set (p := ⟨W.heap.size, 3, none⟩) (.inl rfl) (.slice E3 f3.length Ec)
   have hni : ∀ i, i = W.heap.size → ¬ Inn B w2 i := fun i e => by subst e; exact not_inn (by have := HQ2.out.bg; have := HLT.out g (.inl rfl); omega) HX2.out en_not
   have hq : ∀ k, sqS g mp A' k → ¬ k = W.heap.size := by
    rintro k (rfl | rfl | ⟨a, ha, rfl⟩) e
    ·exact HGX.out e
    ·have := HLT.out _ (.inr (.inl rfl)); omega
    ·rcases HN2.out a ha with ⟨a0, h1, h2⟩ | h1
     ·have := HLT.out _ (.inr (.inr ⟨a0, h1, h2⟩)); omega
     ·have := HS1.out; omega
   refine ⟨A', c', .slice E3 f3.length Ec, by rw [HR.out], ?_, ?_, ?_, ?_, ?_⟩
   ·rw [HR.out]
    exact HQ2.out.keep HKX hni hq
   ·rw [HR.out]
    exact HT2.out.keep HKX hni (fun k hk e => by have := HE2.out k hk; have := HS1.out; omega)
   ·exact ((((HK1.out.trans HK2.out).set (p := ⟨W.heap.size, 0, none⟩) (.inr (Nat.le_refl _)) (.int .i64 f0)).set (p := ⟨W.heap.size, 1, none⟩) (.inr (Nat.le_refl _)) (.int .i64 f1)).set (p := ⟨W.heap.size, 2, none⟩) (.inr (Nat.le_refl _)) (.int .i64 f2)).set (p := ⟨W.heap.size, 3, none⟩) (.inr (Nat.le_refl _)) (.slice E3 f3.length Ec)
   ·exact HN2.out.up HK1.out.size
   ·exact fun k hk => by have := HE2.out k hk; have := HK1.out.size; omega
 ·have HR := Lib.hid (show qTick s = ({ s with t := s.t + 1 }, zE, false) by unfold qTick; rw [if_neg ht])
  have HT3 := Lib.hid (show 0 ≤ s.t + 1 ∧ s.t + 1 < 4 by have := HO.out.t; omega)
  obtain ⟨x, hx⟩ : ∃ x, s.t = x := ⟨_, rfl⟩
  have HXX := Lib.hid hx
  have h1 : 0 ≤ x := by have := HO.out.t; omega
  have h2 : x < 3 := by have := HO.out.t; omega
  have hm : (x + 1) % 4 = x + 1 := by omega
  have q : ((x + 1) != 0) = true := by rw [bne_iff_ne]; omega
  rw [hx] at e5 HT3
  clear ht hx
  go_enter Try.func12, Try.ntmps12
  go_wp2_with fail
  refine H.out.mono ?_
  rintro e w' ⟨rfl, rfl⟩
  clear H
  have hgx : g ≠ W.heap.size := HGX.out
  have x0 : w'.cell? ⟨W.heap.size, 0, none⟩ = some (.int .i64 0) := (blk_cell HX.out 0).trans rfl
  have x1 : w'.cell? ⟨W.heap.size, 1, none⟩ = some (.int .i64 0) := (blk_cell HX.out 1).trans rfl
  have x2 : w'.cell? ⟨W.heap.size, 2, none⟩ = some (.int .i64 0) := (blk_cell HX.out 2).trans rfl
  have x3 : w'.cell? ⟨W.heap.size, 3, none⟩ = some (.slice none 0 0) := (blk_cell HX.out 3).trans rfl
  have y0 : w'.frozen? ⟨W.heap.size, 0, none⟩ = false := blk_frozen HX.out 0
  have y1 : w'.frozen? ⟨W.heap.size, 1, none⟩ = false := blk_frozen HX.out 1
  have y2 : w'.frozen? ⟨W.heap.size, 2, none⟩ = false := blk_frozen HX.out 2
  have y3 : w'.frozen? ⟨W.heap.size, 3, none⟩ = false := blk_frozen HX.out 3
  go_upto_region 5 with fail
  have HQ1 := Lib.hid (HQ.out.setT (x + 1) HT3.out)
  have HX1 := Lib.hid ((Below.heap_setCell w' ⟨g, 5, none⟩ (.int .i64 (x + 1)) W.heap.size (fun e => hgx e.symm)).trans HX.out)
  have HK1 := Lib.hid ((KeepS.of_below (sqS g mp A) HB.out).set (p := ⟨g, 5, none⟩) (.inl (.inl rfl)) (.int .i64 (x + 1)))
  obtain ⟨w1, hw1⟩ : ∃ V, w'.setCell ⟨g, 5, none⟩ (.int .i64 (x + 1)) = V := ⟨_, rfl⟩
  rw [hw1] at HQ1 HX1 HK1 ⊢
  clear hw1 e5 z5 HQ HX x0 x1 x2 x3 y0 y1 y2 y3
  have x0 : w1.cell? ⟨W.heap.size, 0, none⟩ = some (.int .i64 0) := (blk_cell HX1.out 0).trans rfl
  have x1 : w1.cell? ⟨W.heap.size, 1, none⟩ = some (.int .i64 0) := (blk_cell HX1.out 1).trans rfl
  have x2 : w1.cell? ⟨W.heap.size, 2, none⟩ = some (.int .i64 0) := (blk_cell HX1.out 2).trans rfl
  have x3 : w1.cell? ⟨W.heap.size, 3, none⟩ = some (.slice none 0 0) := (blk_cell HX1.out 3).trans rfl
  obtain ⟨y0, y1, y2, y3⟩ := bf4 HX1.out
  go_wp2_with fail
  refine bodyPost_ret (v := .tuple #[.agg #[.int .i64 0, .int .i64 0, .int .i64 0, .slice none 0 0], .bool false]) ?_ rfl ?_
  ·rw [results_cell_tmp rfl]
   go_simp
  ·have HKX := ((((KeepS.refl (fun i => i = W.heap.size) w1).set (p := ⟨W.heap.size, 0, none⟩) (.inl rfl) (.int .i64 0)).set (p := ⟨W.heap.size, 1, none⟩) (.inl rfl) (.int .i64 0)).set (p := ⟨W.heap.size, 2, none⟩) (.inl rfl) (.int .i64 0)).set (p := ⟨W.heap.size, 3, none⟩) (.inl rfl) (.slice none 0 0)
   have hni : ∀ i, i = W.heap.size → ¬ Inn B w1 i := fun i e => by subst e; exact not_inn (by have := HQ1.out.bg; have := HLT.out g (.inl rfl); omega) HX1.out en_not
   refine ⟨A, c, .slice none 0 0, by rw [HR.out]; rfl, ?_, by rw [HR.out]; exact TR.nil _ _, ?_, NewRow.refl _ _, fun k hk => by simp [Value.ownBlock] at hk⟩
   ·rw [HR.out, HXX.out]
    exact HQ1.out.keep HKX hni (fun k hk e => by have := HLT.out k hk; omega)
   ·exact (((HK1.out.set (p := ⟨W.heap.size, 0, none⟩) (.inr (Nat.le_refl _)) (.int .i64 0)).set (p := ⟨W.heap.size, 1, none⟩) (.inr (Nat.le_refl _)) (.int .i64 0)).set (p := ⟨W.heap.size, 2, none⟩) (.inr (Nat.le_refl _)) (.int .i64 0)).set (p := ⟨W.heap.size, 3, none⟩) (.inr (Nat.le_refl _)) (.slice none 0 0)
end Go.Proofs.Ytgmlpmdfkaadhaa.M
end

section
/- live: the first batch. -/
attribute [local irreducible] Go.wpStill
namespace Go.Proofs.Ytgmlpmdfkaadhaa.M
open Go.RowKit Go.Proofs.YtgmlpmdfkaadhaaW.PrintWords Go.Proofs.YtgmlpmdfkaadhaaW.PrintLast Go.Proofs.YtgmlpmdfkaadhaaW.PrintMore Go.Proofs.Ytgmlpmdfkaadhaa.G
structure Run (B : Nat) (w0 W : World) (g mp nb : Nat) (s : SqS) (A : Option Addr) (c : Nat) : Prop where
 q : IsSq B W g mp nb s A c
 d : Below B w0 W
section
variable {B : Nat} {w0 W W' : World} {g mp nb : Nat} {s s' : SqS} {A A' : Option Addr} {c c' : Nat}
theorem Run.le (h : Run B w0 W g mp nb s A c) : B ≤ W.heap.size := Nat.le_trans h.q.bg (Nat.le_of_lt h.q.glt)
theorem Run.keep {S : Nat → Prop} (h : Run B w0 W g mp nb s A c) (hk : KeepS (sqS g mp A) W W') : Below B w0 W' := h.d.trans (hk.below h.le h.q.ge)
theorem Run.step {nb' : Nat} (h : Run B w0 W g mp nb s A c) (hq : IsSq B W' g mp nb' s' A' c') (hk : KeepS (sqS g mp A) W W') : Run B w0 W' g mp nb' s' A' c' := ⟨hq, h.d.trans (hk.below h.le h.q.ge)⟩
theorem Run.below (h : Run B w0 W g mp nb s A c) (hb : Below W.heap.size W W') : Run B w0 W' g mp nb s A c := ⟨h.q.below hb, h.d.trans (hb.mono h.le)⟩
theorem Run.alloc (h : Run B w0 W g mp nb s A c) (o : Obj) : Run B w0 (W.alloc o) g mp nb s A c := h.below ((Below.refl _ _).alloc (Nat.le_refl _) _)
end
theorem new_run {w w1 : World} {r : Int} (h : 0 ≤ r ∧ r ≤ 4) {B : Nat} (hb : Below B w w1) (hB : B ≤ w1.heap.size) : Calls Try.prog 8 #[.int .i64 r] w1 fun e w' => ∃ g mp, e = .returned (.tuple #[.pointer (some ⟨g, 0, none⟩), .int .i64 0]) ∧ Run B w w' g mp 0 (newQ r) none 0 ∧ w1.heap.size ≤ g ∧ w1.heap.size ≤ mp := by
 refine (new_is h hB).mono ?_
 rintro e w' ⟨rfl, hq, hb'⟩
 exact ⟨_, _, rfl, ⟨hq, hb.trans (hb'.mono hB)⟩, Nat.le_succ _, Nat.le_refl _⟩
def t11 : TxD := ⟨1, 1, [], [], [], []⟩
theorem fk_t11 (W : World) (ok : Nat → Prop) : Kd.FK G.k32 W ok t11 [.int .i64 t11.f0, .int .i64 t11.f1, .slice none t11.f2.length 0, .slice none t11.f3.length 0, .slice none t11.f4.length 0, .slice none t11.f5.length 0] := by
 have hM := G.k32_mkM W 0 ok t11 (Kd.R_nil _ _ _ _ _) (Kd.R_nil _ _ _ _ _) (Kd.R_nil _ _ _ _ _) (Kd.R_nil _ _ _ _ _)
 exact Kd.FK_of_M hM
theorem take_t11 {B : Nat} {W : World} {g mp nb : Nat} {s : SqS} {A : Option Addr} {c : Nat} (h : IsSq B W g mp nb s A c) (hn : nb < maxLen) :
  Calls Try.prog 10 #[.pointer (some ⟨g, 0, none⟩), .agg #[.int .i64 1, .int .i64 1, .slice none 0 0, .slice none 0 0, .slice none 0 0, .slice none 0 0]] W fun e w' => TakeP B W g mp nb s A t11 e w' :=
 take_is h (fk_t11 W _) (by decide) hn (wf_key (t := t11) (by decide))
theorem qt1 : qTake (newQ 1) t11 = (⟨1, [t11], 0, 0⟩, 0) := rfl
theorem qt2 : qTake ⟨1, [t11], 0, 0⟩ t11 = (⟨1, [t11], 0, 0⟩, 210) := rfl
theorem qt3 : qTick ⟨1, [t11], 0, 3⟩ = (⟨1, [], 1, 0⟩, ⟨1, 1, 0, [t11]⟩, true) := rfl
theorem qt4 (k : Nat) (h : k < 3) : qTick ⟨1, [t11], 0, (k : Int)⟩ = (⟨1, [t11], 0, ((k + 1 : Nat) : Int)⟩, zE, false) := by
 unfold qTick
 rw [if_neg (by show ¬ (k : Int) = 3; omega)]
 simp
set_option maxHeartbeats 2000000 in
theorem live_is (w : World) : Calls Try.prog 9 #[] w fun e w' => e = .returned (.bool true) ∧ Below w.heap.size w w' := by
 go_enter Try.func9, Try.ntmps9
 go_wp2_with fail
 refine (new_run (r := 1) (by decide) (Below.refl w.heap.size w) (Nat.le_refl _)).mono ?_
 rintro e w1 ⟨g, mp, rfl, hR, _, _⟩
 have HR := Lib.hid hR
 clear hR
 go_wp2_with fail
 refine (take_t11 HR.out.q (by decide)).mono ?_
 rintro e w2 ⟨A, c, rfl, hQ, hK, hN⟩
 rw [qt1] at hQ
 have HR2 := Lib.hid (HR.out.step hQ hK)
 clear hQ hK hN HR
 rw [qt1]
 go_wp2_with fail
 refine (take_t11 HR2.out.q (by decide)).mono ?_
 rintro e w3 ⟨A3, c3, rfl, hQ, hK, hN⟩
 rw [qt2] at hQ
 have HR3 := Lib.hid (HR2.out.step hQ hK)
 clear hQ hK hN HR2
 rw [qt2]
 go_wp2_with fail
 go_loopw [29] (fun v wr => ∃ (k : Nat) (A : Option Addr) (c : Nat), v = .int .i64 (k : Int) ∧ k ≤ 3 ∧ Run w.heap.size w wr g mp 2 ⟨1, [t11], 0, (k : Int)⟩ A c) (fun v _ => 3 - (intOf v).toNat)
 case atStart => exact ⟨0, A3, c3, rfl, by omega, HR3.out⟩
 case round =>
  obtain ⟨k, A4, c4, rfl, hk, hR⟩ := hrel
  have HR4 := Lib.hid hR
  clear hR HR3
  by_cases hlt : k < 3
  ·have q : decide (k < 3) = true := decide_eq_true hlt
   have q2 : decide ((k : Int) < 3) = true := decide_eq_true (by omega)
   have HE := Lib.hid (qt4 k hlt)
   have HLT := Lib.hid hlt
   clear hlt
   go_wp2_with fail
   refine (tick_is HR4.out.q).mono ?_
   rintro e w5 ⟨A5, c5, E, rfl, hQ, hT, hK, hN, hE⟩
   rw [HE.out] at hQ hT ⊢
   obtain ⟨E3, Ec, rfl, _⟩ := hT.slice
   have HR5 := Lib.hid (HR4.out.step hQ hK)
   clear hQ hT hK hN hE HR4
   go_wp2_with fail
   go_roundw
   case rel => exact ⟨k + 1, A5, c5, by go_num, HLT.out, HR5.out.alloc _⟩
   case measure => have := HLT.out; simp [intOf]; omega
  ·obtain rfl : k = 3 := by omega
   clear hlt
   go_wp2_with fail
   refine (tick_is HR4.out.q).mono ?_
   rintro e w5 ⟨A5, c5, E, rfl, hQ, hT, hK, hN, hE⟩
   change IsSq _ _ _ _ _ (qTick ⟨1, [t11], 0, 3⟩).1 _ _ at hQ
   change TR _ _ _ (qTick ⟨1, [t11], 0, 3⟩).2.1.f3 at hT
   rw [qt3] at hQ hT
   have h1 : (qTick ⟨1, [t11], 0, ((3 : Nat) : Int)⟩) = (⟨1, [], 1, 0⟩, ⟨1, 1, 0, [t11]⟩, true) := qt3
   rw [h1]
   obtain ⟨E3, Ec, rfl, _⟩ := hT.slice
   have HR5 := Lib.hid (HR4.out.step hQ hK)
   have HR6 := Lib.hid ((HR4.out.step hQ hK).alloc (.cells #[.int .i64 1, .int .i64 1, .int .i64 0, .slice E3 1 Ec] 36))
   clear hQ hT hK hN hE HR4 h1
   go_wp2_with fail
   refine (number_is HR6.out.q).mono ?_
   rintro e w6 ⟨rfl, rfl⟩
   go_wp2_with fail
   refine (len_is HR6.out.q).mono ?_
   rintro e w7 ⟨rfl, rfl⟩
   go_wp2_with fail
   go_ret
   exact ⟨rfl, HR6.out.d⟩
end Go.Proofs.Ytgmlpmdfkaadhaa.M
end

section
/- What the laws' walks need: a transaction that came in, a map's length, what Take answers. -/
namespace Go.Proofs.Ytgmlpmdfkaadhaa.M
open Go.RowKit Go.Proofs.YtgmlpmdfkaadhaaW.PrintWords Go.Proofs.YtgmlpmdfkaadhaaW.PrintLast Go.Proofs.YtgmlpmdfkaadhaaW.PrintMore Go.Proofs.Ytgmlpmdfkaadhaa.G
open Go.Maps in
inductive QT (s : SqS) (t : TxD) : Prop where
 | arg (h : qTake s t = (s, 1))
 | queue (h : qTake s t = (s, 210)) (hw : waitsB s.l (t.f0, t.f1) = true)
 | full (h : qTake s t = (s, 6)) (hw : waitsB s.l (t.f0, t.f1) = false) (hl : 64 ≤ s.l.length)
 | ok (h : qTake s t = ({ s with l := s.l ++ [t] }, 0)) (hw : waitsB s.l (t.f0, t.f1) = false) (hl : s.l.length < 64) (hm : mayT t = true)
end Go.Proofs.Ytgmlpmdfkaadhaa.M
end

section
/- A range over a function whose values are made as it goes: what is handed to a round is known to be well in that round's world (V). -/
namespace Go.Proofs.Ytgmlpmdfkaadhaa.M
open Go.RowKit Go.Shelf Go.Proofs.YtgmlpmdfkaadhaaW.PrintWords
variable {α : Type} {F : Fence} {n : Nat} {P : Program}
def SeqV (F : Fence) (n : Nat) (P : Program) (g : Nat) (lb : Array Value) (encs : α → Array Value) (V : α → World → Prop) (S : List α → Prop) (N : Nat) (w : World) : Prop :=
 ∀ (l : Nat) (J : List α → World → Prop) (W : World), Below w.heap.size w W → (∀ s X Y, J s X → Below X.heap.size X Y → J s Y) →
  (∀ pre x W1, J pre W1 → V x W1 → Below w.heap.size w W1 → pre.length < N → YieldAt F (n - 1) P l (encs x) W1 fun e W' => e = .returned (.bool true) ∧ J (pre ++ [x]) W' ∧ Below w.heap.size W1 W') →
  J [] W → CallsIn F n P g (#[.func (.yield l) #[] #[]] ++ lb) W fun e W' => (∃ v, e = .returned v) ∧ ∃ xs, S xs ∧ J xs W'
theorem keepS_putObj {S : Nat → Prop} {W : World} {k : Nat} (o : Obj) (hk : S k) : KeepS S W (W.putObj k o) :=
 ⟨rfl, rfl, rfl, by rw [World.putObj_size]; exact Nat.le_refl _, fun i _ hi => World.putObj_heap_other (fun e => hi (e ▸ hk))⟩
def BodyV (D B0 : Nat) (I : List α → World → Prop) (xs : List α) (W2 : World) (e : Exit) (_ : Act) (W3 : World) : Prop :=
 e = .normal ∧ (∀ k, k = D ∨ k = D + 1 → W3.heap[k]? = W2.heap[k]?) ∧ Below B0 W2 W3 ∧ I xs W3
theorem range_V {g : Operand} {ps : Array Tmp} {assign body : Code} {Q : Exit → Act → World → Prop} {a : Act} {w w0 : World} (hro : F.round = none) (h1 : 1 ≤ n) {gf : Nat} {lb : Array Value} (hg : a.eval g = .func (.func gf) #[] lb) (hFg : F.fn gf) (eg : ∀ args w, (callFunc gf args).run P w = .ok (.enter gf args) w)
  {encs : α → Array Value} {V : α → World → Prop} {S : List α → Prop} {N : Nat} (hseq : SeqV F (n - 1) P gf lb encs V S N w0) (hb0 : Below w0.heap.size w0 w) (hps : ∀ x, (encs x).size = ps.size)
  (I : List α → World → Prop) (hIb : ∀ s X Y, I s X → Below X.heap.size X Y → I s Y) (hIo : ∀ s X o o', I s X → X.heap[w.heap.size + 1]? = some o → o.isCells = false → I s (X.putObj (w.heap.size + 1) o')) (hVb : ∀ x X Y, V x X → Below X.heap.size X Y → V x Y) (hVo : ∀ x X o o', V x X → X.heap[w.heap.size + 1]? = some o → o.isCells = false → V x (X.putObj (w.heap.size + 1) o')) (h0 : I [] w)
  (hround : ∀ (pre : List α) (x : α) (W : World), I pre W → V x W → Below w0.heap.size w0 W → pre.length < N → w.heap.size + 1 < W.heap.size → ∀ K : Act → World → Prop,
   (∀ a1 W1, Below W.heap.size W W1 → (∀ W2, KeepS (fun k => k = w.heap.size + 1) W1 W2 → I pre W2 → V x W2 → body.wpIn (F.inRound (w.heap.size + 1)) (n - 1 - 1) P (BodyV w.heap.size w0.heap.size I (pre ++ [x]) W2) a1 W2) → K a1 W1) →
   assign.wpIn (F.inRound (w.heap.size + 1)) (n - 1 - 1) P (Exit.then K (fun _ _ _ => False)) { tmps := (ps.zip (encs x)).foldl (fun t (p, v) => t.setIfInBounds p v) a.tmps, defers := [] } W)
  (hdone : ∀ (xs : List α) (W : World), S xs → I xs W → W.heap[w.heap.size]? = some (.deferred (some [])) → Q .normal { a with defers := { target := .collected w.heap.size, args := #[] } :: a.defers } W) :
  (Code.rangeFunc g ps assign body).wpIn F n P Q a w := by
 refine wpIn_rangeFunc ?_
 intro fn hfn
 rw [hro]
 obtain ⟨D, hD⟩ : ∃ D, w.heap.size = D := ⟨_, rfl⟩
 obtain ⟨rec, hrec⟩ : ∃ rec : LoopState → Loop, rec = fun st => { state := st, pending := none, fn, tmps := a.tmps, params := ps, assign, body, defers := D } := ⟨_, rfl⟩
 have hen := run_enterLoop_outer (P := P) (w := w) fn a.tmps ps assign body
 obtain ⟨W1, hW1⟩ : ∃ W1, (w.alloc (.deferred (some []))).alloc (.loop { state := .ready, pending := none, fn, tmps := a.tmps, params := ps, assign, body, defers := w.heap.size }) = W1 := ⟨_, rfl⟩
 rw [hW1] at hen
 have hz : (w.alloc (.deferred (some []))).heap.size = D + 1 := by rw [World.size_alloc, hD]
 have hL : W1.heap[D + 1]? = some (.loop (rec .ready)) := by rw [← hW1, ← hz, hrec, ← hD]; exact World.alloc_heap_new _ _
 have hK : W1.heap[D]? = some (.deferred (some [])) := by
  rw [← hW1]
  exact (Below.heap_alloc _ _ D (by omega)).trans (hD ▸ World.alloc_heap_new w _)
 have hb1 : Below w.heap.size w W1 := by rw [← hW1]; exact ((Below.refl _ w).alloc (Nat.le_refl _) _).alloc (by omega) _
 have hkI : ∀ {s X Y}, I s X → Below X.heap.size X Y → I s Y := fun h hb => hIb _ _ _ h hb
 refine ⟨_, _, W1, { target := .fn (.func gf) lb, args := #[.func (.yield (D + 1)) #[] #[]] }, W1, gf, #[.func (.yield (D + 1)) #[] #[]] ++ lb, W1, hen, ?_, ?_, ?_, fun _ => h1, ?_⟩
 ·rw [hD]
  simp only [resolve, hg]
  simp [go_sem]
 ·intro f' hf'
  simp [Target.leads] at hf'
  subst hf'
  exact hFg
 ·simp [invoke, go_sem, eg]
 ·refine (hseq (D + 1) (fun pre W => I pre W ∧ W.heap[D + 1]? = some (.loop (rec .ready)) ∧ W.heap[D]? = some (.deferred (some []))) W1 (hb0.trans (hb1.mono hb0.size))
   (fun s X Y hs hb => ⟨hkI hs.1 hb, (hb.block _ (Array.getElem?_eq_some_iff.1 hs.2.1).1).trans hs.2.1, (hb.block _ (Array.getElem?_eq_some_iff.1 hs.2.2).1).trans hs.2.2⟩) ?_ ⟨hkI h0 hb1, hL, hK⟩).mono ?_
  ·rintro pre x W ⟨hi, hl, hk⟩ hv hb2 hlen
   have hlt := (Array.getElem?_eq_some_iff.1 hl).1
   have hlw : D = w.heap.size := hD.symm
   have hw0 : w0.heap.size ≤ D := hD ▸ hb0.size
   have hy := run_yield (P := P) (args := encs x) hl (by rw [hrec]; exact hps x)
   rw [hrec] at hy
   refine ⟨fn, _, assign, body, hy, roundIn_of_wpIn hfn ?_⟩
   clear hy
   subst hlw
   refine hround pre x W hi hv hb2 hlen hlt _ ?_
   intro a1 Wa hba hbody
   have hl1 := (hba.block _ hlt).trans hl
   have hk1 := (hba.block _ (by omega)).trans hk
   refine ⟨_, run_beginRound hl1 (by rw [hrec]), ?_⟩
   have hlta := (Array.getElem?_eq_some_iff.1 hl1).1
   refine wpIn_mono (hbody _ (keepS_putObj _ rfl) (hIo _ _ _ _ (hkI hi hba) hl1 rfl) (hVo _ _ _ _ (hVb _ _ _ hv hba) hl1 rfl)) ?_
   rintro e a3 W3 ⟨rfl, hs, hb3, hi3⟩
   have hl3 := (hs _ (.inr rfl)).trans (World.putObj_heap_same hlta)
   have hk3 := (hs _ (.inl rfl)).trans ((World.putObj_heap_other (by omega)).trans hk1)
   have hlt3 := (Array.getElem?_eq_some_iff.1 hl3).1
   refine ⟨_, _, run_endRound none hl3, rfl, ⟨?_, ?_, ?_⟩, ?_⟩
   ·exact hIo _ _ _ _ hi3 hl3 rfl
   ·rw [World.putObj_heap_same hlt3, hrec]
    rfl
   ·exact (World.putObj_heap_other (by omega)).trans hk3
   ·refine (hba.mono (by omega)).trans ?_
    refine (KeepS.below (S := fun k => k = w.heap.size + 1) (keepS_putObj _ rfl) (by omega) (fun i e => by omega)).trans (hb3.trans ?_)
    exact KeepS.below (S := fun k => k = w.heap.size + 1) (keepS_putObj _ rfl) (by omega) (fun i e => by omega)
  ·rintro e W2 ⟨⟨v, rfl⟩, xs, hS, hi, hl, hk⟩
   rw [hD]
   refine ⟨none, _, by have := run_endLoop (P := P) hl (by rw [hrec]; simp); rw [hrec] at this; exact this, ?_⟩
   have := hdone xs (W2.putObj (D + 1) (.loop { rec .ready with state := .exhausted })) hS (by have := hIo xs W2 _ (.loop { rec .ready with state := .exhausted }) hi (by rw [hD]; exact hl) rfl; rw [hD] at this; exact this) (by rw [hD]; exact (World.putObj_heap_other (by omega)).trans hk)
   rw [hD, hrec] at this
   exact this
end Go.Proofs.Ytgmlpmdfkaadhaa.M
end

section
/- Waiting: its iterator's word. -/
namespace Go.Proofs.Ytgmlpmdfkaadhaa.M
open Go.RowKit Go.Shelf Go.Proofs.YtgmlpmdfkaadhaaW.PrintWords Go.Proofs.YtgmlpmdfkaadhaaW.PrintLast Go.Proofs.YtgmlpmdfkaadhaaW.PrintMore Go.Proofs.Ytgmlpmdfkaadhaa.G
attribute [local go_sem] Oper.semAt_some
structure TxX where
 t : TxD
 A2 : Option Addr
 c2 : Nat
 A3 : Option Addr
 c3 : Nat
 A4 : Option Addr
 c4 : Nat
 A5 : Option Addr
 c5 : Nat
def TxX.cs (x : TxX) : Array Value := #[.int .i64 x.t.f0, .int .i64 x.t.f1, .slice x.A2 x.t.f2.length x.c2, .slice x.A3 x.t.f3.length x.c3, .slice x.A4 x.t.f4.length x.c4, .slice x.A5 x.t.f5.length x.c5]
def encX (x : TxX) : Array Value := #[.agg #[.int .i64 x.t.f0, .int .i64 x.t.f1, .slice x.A2 x.t.f2.length x.c2, .slice x.A3 x.t.f3.length x.c3, .slice x.A4 x.t.f4.length x.c4, .slice x.A5 x.t.f5.length x.c5]]
def VX (lo : Nat) (x : TxX) (W : World) : Prop := Kd.R (Kd.int .u8) 5 W lo (fun _ => True) (.slice x.A2 x.t.f2.length x.c2) x.t.f2 ∧ Kd.R (Kd.int .i64) 2 W lo (fun _ => True) (.slice x.A3 x.t.f3.length x.c3) x.t.f3 ∧
 Kd.R G.k54 54 W lo (fun k => some k ≠ (Value.slice x.A5 x.t.f5.length x.c5).ownBlock) (.slice x.A4 x.t.f4.length x.c4) x.t.f4 ∧ Kd.R G.k54 54 W lo (fun k => some k ≠ (Value.slice x.A4 x.t.f4.length x.c4).ownBlock) (.slice x.A5 x.t.f5.length x.c5) x.t.f5
theorem VX.fk {B lo : Nat} {x : TxX} {W : World} (h : VX lo x W) : Kd.FK G.k32 W (Inn B W) x.t [.int .i64 x.t.f0, .int .i64 x.t.f1, .slice x.A2 x.t.f2.length x.c2, .slice x.A3 x.t.f3.length x.c3, .slice x.A4 x.t.f4.length x.c4, .slice x.A5 x.t.f5.length x.c5] :=
 fk_new h.1 h.2.1 h.2.2.1 h.2.2.2
theorem VX.below {lo : Nat} {x : TxX} {W W' : World} (h : VX lo x W) (hb : Below W.heap.size W W') : VX lo x W' :=
 ⟨Kd.R_below h.1 hb, Kd.R_below h.2.1 hb, Kd.R_below h.2.2.1 hb, Kd.R_below h.2.2.2 hb⟩
theorem VX.of {w w' : World} {t : TxD} {e : Ending} {lo : Nat} (h : TxNew w t e w') (hlo : lo ≤ w.heap.size) : ∃ x : TxX, x.t = t ∧ e = .returned (.agg x.cs) ∧ VX lo x w' ∧ Below w.heap.size w w' := by
 obtain ⟨v2, v3, v4, v5, he, h2, h3, h4, h5, hb⟩ := h
 obtain ⟨N2, c2, rfl⟩ := Kd.R_slice h2
 obtain ⟨N3, c3, rfl⟩ := Kd.R_slice h3
 obtain ⟨N4, c4, rfl⟩ := Kd.R_slice h4
 obtain ⟨N5, c5, rfl⟩ := Kd.R_slice h5
 exact ⟨⟨t, N2, c2, N3, c3, N4, c4, N5, c5⟩, rfl, he, ⟨Kd.R_lower h2 hlo, Kd.R_lower h3 hlo, Kd.R_lower h4 hlo, Kd.R_lower h5 hlo⟩, hb⟩
theorem take_snocX {α : Type} {l : List α} {k : Nat} {x : α} (h : l[k]? = some x) : l.take k ++ [x] = l.take (k + 1) := by
 rw [List.take_add_one, h]; rfl
set_option maxHeartbeats 4000000 in
theorem wait1_seq {B : Nat} {w : World} {lb : Nat} {A : Option Addr} {c : Nat} {l : List TxD} (hb0 : w.cell? ⟨lb, 0, none⟩ = some (.slice A l.length c)) (hT : TR B w (.slice A l.length c) l) (ha : ∀ t ∈ l, mayT t = true) :
  SeqV Fence.wide 3 Try.prog 37 #[.pointer (some ⟨lb, 0, none⟩)] encX (VX w.heap.size) (fun xs => xs.map (·.t) = l) l.length w := by
 intro ly J W hW hJ hY h0
 have hlm : l.length ≤ 9223372036854775807 := (hT.reads.2.2).2.1
 have hlb : lb < w.heap.size := World.block_lt_of_cell? _ _ hb0
 have hl0 : W.cell? ⟨lb, 0, none⟩ = some (.slice A l.length c) := (hW.cell (p := ⟨lb, 0, none⟩) hlb).trans hb0
 have HT := Lib.hid hT; have HA := Lib.hid ha; have HW := Lib.hid hW; have HJ := Lib.hid hJ; have HY := Lib.hid hY; have H0 := Lib.hid h0
 clear hT ha hW hb0 hJ hY h0
 refine callsIn_of_wp Try.func37 rfl trivial ?_ rfl
 simp only [Try.ntmps37, List.size_toArray, List.length_cons, List.length_nil, Nat.reduceAdd, Nat.reduceSub, Array.replicate_succ, Array.replicate_zero, List.push_toArray, List.append_toArray, List.nil_append, List.cons_append]
 gi_wp2
 gi_loopw [7] (fun i wr => ∃ (k : Nat) (pre : List TxX), k ≤ l.length ∧ i = .int .i64 (k : Int) ∧ Aside0 (pre.map (·.t) = l.take k ∧ J pre wr ∧ Below w.heap.size w wr)) (fun i _ => l.length - (intOf i).toNat)
 case atStart => exact ⟨0, [], Nat.zero_le _, rfl, ⟨by simp, H0.out, HW.out⟩⟩
 case round =>
  obtain ⟨k, pre, hk, rfl, HR⟩ := hrel
  by_cases hlt : k < l.length
  ·obtain ⟨t, ht⟩ : ∃ t, l[k]? = some t := ⟨_, List.getElem?_eq_getElem hlt⟩
   obtain ⟨ad, A2, c2, A3, c3, A4, c4, A5, c5, hAd, ⟨x0, x1, x2, x3, x4, x5⟩, hX⟩ := tx_get (HT.out.below HR.out.2.2).reads.2.2 ht
   have HX := Lib.hid hX
   have HTK := Lib.hid ht
   have HM := Lib.hid (smT_of (HA.out t (List.mem_of_getElem? ht)))
   have HLT := Lib.hid hlt
   have q1 : decide (k < l.length) = true := decide_eq_true hlt
   subst hAd
   clear ht hX hlt
   gi_wp2_with fail
   have hb1 := (Below.refl wr.heap.size wr).alloc (Nat.le_refl _) (.cells #[.int .i64 t.f0, .int .i64 t.f1, .slice A2 t.f2.length c2, .slice A3 t.f3.length c3, .slice A4 t.f4.length c4, .slice A5 t.f5.length c5] 32)
   refine ⟨trivial, (callsIn_wide.2 (cloneTx_is t (HX.out.below hb1) HM.out)).mono ?_⟩
   intro e w2 hT2
   have HB1 := Lib.hid hb1
   obtain ⟨x, rfl, rfl, hv, hb2⟩ := VX.of (lo := w.heap.size) hT2 (Nat.le_trans HR.out.2.2.size hb1.size)
   have HBW := Lib.hid (HR.out.2.2.trans ((HB1.out.trans (hb2.mono HB1.out.size)).mono HR.out.2.2.size))
   obtain ⟨fn, tmps, assign, body, hy, hR⟩ := HY.out pre x w2 (HJ.out _ _ _ (HJ.out _ _ _ HR.out.2.1 hb1) hb2) hv HBW.out (by have h1 := congrArg List.length HR.out.1; rw [List.length_map, List.length_take] at h1; have := HLT.out; omega)
   simp only [encX] at hy
   simp only [TxX.cs]
   clear hT2 hb1 hv hb2
   gi_wp2_with fail
   refine hR.mono ?_
   rintro e W3 ⟨rfl, hJ3, hk3⟩
   have HJ3 := Lib.hid hJ3; have HK3 := Lib.hid (HBW.out.trans hk3)
   clear hJ3 hk3 hR hy
   gi_wp2_with fail
   go_roundw
   case rel => exact ⟨k + 1, pre ++ [x], HLT.out, by go_num, ⟨by rw [List.map_append, HR.out.1, ← take_snocX HTK.out]; rfl, HJ3.out, HK3.out⟩⟩
   case measure => have := HLT.out; simp [intOf]; omega
  ·obtain rfl : k = l.length := by omega
   have q1 : decide (l.length < l.length) = false := decide_eq_false hlt
   gi_wp2
   go_end0
   exact ⟨⟨_, rfl⟩, _, by rw [HR.out.1, List.take_length], HR.out.2.1⟩
end Go.Proofs.Ytgmlpmdfkaadhaa.M
end

section
/- slices.Collect of what waits. -/
namespace Go.Proofs.Ytgmlpmdfkaadhaa.M
open Go.RowKit Go.Shelf Go.Proofs.YtgmlpmdfkaadhaaW.PrintWords Go.Proofs.YtgmlpmdfkaadhaaW.PrintLast Go.Proofs.YtgmlpmdfkaadhaaW.PrintMore Go.Proofs.Ytgmlpmdfkaadhaa.G
attribute [local go_sem] Oper.semAt_some
theorem tr_append_in {F : Fence} {nF : Nat} {B : Nat} {W : World} {ops : Array Oper} {rest : List Oper} {o : Oper} {a : Act} {Q : Exit → Act → World → Prop} (hgd : o.guard = none) (s x : Operand) (ho : o.op = .call { callee := .builtin .append, args := #[s, x], argTypes := #[22, 22] })
  {v : Value} {l l' : List TxD} {news : List Value} {ad : Addr} {m c : Nat} (hs : a.eval s = v) (hx : a.eval x = .slice (some ad) m c) (h : TR B W v l) (hn : Src B W ad l' news) (hm : m = l'.length) (h0 : 0 < m) (hl : l.length + m ≤ 1048576) (hB : B ≤ W.heap.size)
  (hK : ∀ v' w', TR B w' v' (l ++ l') → W.grownBy w' v.ownBlock → (v'.ownBlock = v.ownBlock ∨ ∃ b, v'.ownBlock = some b ∧ W.heap.size ≤ b) → wpListIn F nF Try.prog ops Q rest (a.put o.dst v') w') : wpListIn F nF Try.prog ops Q (o :: rest) a W := by
 obtain ⟨v', w', hr, h1, h2, h3⟩ := h.append (c := c) o.type hn hm h0 hl hB
 refine wpListIn_plain hgd fun K hK' => ?_
 unfold Oper.wpIn
 refine ⟨by simp [Oper.about, ho, resolve, Target.leads, Sem.run_pure], ?_⟩
 rw [Oper.semAt_plain F _ _ (by rw [ho]; intro c hc'; cases hc')]
 simp [execOp, ho, resolve, invoke, builtin, hs, hx, hr, Result.andThen]
 exact hK' _ _ (hK v' w' h1 h2 h3)
section
variable {B : Nat} {X : World} {k : Nat} {o : Obj}
theorem not_inn_obj (hB : B ≤ k) (h : X.heap[k]? = some o) (ho : o.isCells = false) : ¬ Inn B X k := by
 rintro (h1 | ⟨_, q, hq, cells, hc⟩)
 ·omega
 ·rw [h] at hc
  cases hc
  cases ho
theorem TR.putObj {v : Value} {l : List TxD} (hT : TR B X v l) (hB : B ≤ k) (h : X.heap[k]? = some o) (ho : o.isCells = false) (o' : Obj) : TR B (X.putObj k o') v l :=
 hT.keep (S := fun i => i = k) (keepS_putObj o' rfl) (fun i e => by subst e; exact not_inn_obj hB h ho) (fun i hi e => by
  subst e
  obtain ⟨_, cells, hc⟩ := hT.typed i hi
  rw [h] at hc
  cases hc
  cases ho)
theorem R_putObj {α : Type} {d : Kd α} {e base : Nat} {ok : Nat → Prop} {v : Value} {xs : List α} (hs : Kd.R d e X base ok v xs) (h : X.heap[k]? = some o) (ho : o.isCells = false) (o' : Obj) : Kd.R d e (X.putObj k o') base ok v xs :=
 Kd.R_mono (Kd.R_step (Kd.R_bound hs) (fun i hi _ => World.putObj_heap_other (fun e => by
  subst e
  obtain ⟨_, _, _, q, _, cells, hc⟩ := hi
  rw [h] at hc
  cases hc
  cases ho))) (fun _ hk => hk.1)
theorem VX.putObj {lo : Nat} {x : TxX} (hv : VX lo x X) (h : X.heap[k]? = some o) (ho : o.isCells = false) (o' : Obj) : VX lo x (X.putObj k o') :=
 ⟨R_putObj hv.1 h ho o', R_putObj hv.2.1 h ho o', R_putObj hv.2.2.1 h ho o', R_putObj hv.2.2.2 h ho o'⟩
end
def ApT (B : Nat) (w : World) (pre : List TxX) (W : World) : Prop := ∃ A c, W.heap[w.heap.size]? = some (.cells #[.slice A pre.length c] 22) ∧ TR B W (.slice A pre.length c) (pre.map (·.t)) ∧ (∀ a, A = some a → w.heap.size + 2 < a.block) ∧ Below w.heap.size w W
theorem ApT.below {B : Nat} {w X Y : World} {pre : List TxX} (h : ApT B w pre X) (hb : Below X.heap.size X Y) : ApT B w pre Y := by
 obtain ⟨A, c, h1, h2, h3, h4⟩ := h
 exact ⟨A, c, (hb.block _ (blk_lt h1)).trans h1, h2.below hb, h3, h4.trans (hb.mono h4.size)⟩
theorem ApT.putObj {B : Nat} {w X : World} {pre : List TxX} {k : Nat} {o : Obj} (h : ApT B w pre X) (hB : B ≤ w.heap.size) (hk : w.heap.size < k) (ho : X.heap[k]? = some o) (hc : o.isCells = false) (o' : Obj) : ApT B w pre (X.putObj k o') := by
 obtain ⟨A, c, h1, h2, h3, h4⟩ := h
 exact ⟨A, c, (World.putObj_heap_other (by omega)).trans h1, h2.putObj (by omega) ho hc o', h3, h4.trans ((keepS_putObj (S := fun i => i = k) o' rfl).below h4.size (fun i e => by omega))⟩
set_option maxHeartbeats 4000000 in
theorem appseq_txs {B : Nat} {w : World} {lb : Nat} {A : Option Addr} {c : Nat} {l : List TxD} (hb0 : w.cell? ⟨lb, 0, none⟩ = some (.slice A l.length c)) (hT : TR B w (.slice A l.length c) l) (ha : ∀ t ∈ l, mayT t = true) (hl : l.length ≤ 64) (hB : B ≤ w.heap.size) :
  Calls Try.prog 40 #[.slice none 0 0, .func (.func 37) #[] #[.pointer (some ⟨lb, 0, none⟩)]] w fun e w' => ∃ A' c', e = .returned (.slice A' l.length c') ∧ TR B w' (.slice A' l.length c') l ∧ Below w.heap.size w w' := by
 have HS := Lib.hid (wait1_seq hb0 hT ha)
 have HL := Lib.hid hl; have HB := Lib.hid hB
 have hb4 : Below w.heap.size w (w.alloc (.cells #[.slice none 0 0] 22)) := (Below.refl _ _).alloc (Nat.le_refl _) _
 have HB4 := Lib.hid hb4
 have HSZ := Lib.hid (show (w.alloc (.cells #[.slice none 0 0] 22)).heap.size = w.heap.size + 1 by simp)
 have HBL := Lib.hid (heap_alloc_new w (.cells #[.slice none 0 0] 22))
 clear hb0 hT ha hl hB hb4
 refine (callsIn_wide (n := 4)).1 ?_
 refine callsIn_of_wp_marks Try.func40 rfl trivial ?_ rfl
 simp only [Try.ntmps40, List.size_toArray, List.length_cons, List.length_nil, Nat.reduceAdd, Nat.reduceSub, Array.replicate_succ, Array.replicate_zero, List.push_toArray, List.append_toArray, List.nil_append, List.cons_append]
 gi_wp2_with fail
 obtain ⟨w4, hw4⟩ : ∃ w4, w.alloc (.cells #[.slice none 0 0] 22) = w4 := ⟨_, rfl⟩
 rw [hw4] at HB4 HSZ HBL ⊢
 clear hw4
 refine range_V (w := w4) (w0 := w) rfl (by omega) (gf := 37) (lb := #[.pointer (some ⟨lb, 0, none⟩)]) rfl trivial (enters_of Try.func37 (by kernel_rfl) rfl)
  HS.out HB4.out (fun _ => rfl) (ApT B w) (fun _ _ _ h hb => h.below hb) (fun s X o o' h ho hc => h.putObj HB.out (by rw [HSZ.out]; omega) ho hc o') (fun x X Y h hb => h.below hb) (fun x X o o' h ho hc => h.putObj ho hc o')
  ⟨none, 0, HBL.out, TR.nil _ _, fun a ha => (by cases ha), HB4.out⟩ ?round ?done
 case round =>
  rintro pre x W hi hv hbw hlen hlt K hK
  dsimp only [encX]
  gi_wp2_with fail
  refine hK _ _ ((Below.refl W.heap.size W).alloc (Nat.le_refl _) _) (fun W2 hk2 hi2 hv2 => ?_)
  obtain ⟨A1, c1, h1, h2, h3, h4⟩ := hi2
  have hbl : W2.heap[W.heap.size]? = some (.cells #[.int .i64 x.t.f0, .int .i64 x.t.f1, .slice x.A2 x.t.f2.length x.c2, .slice x.A3 x.t.f3.length x.c3, .slice x.A4 x.t.f4.length x.c4, .slice x.A5 x.t.f5.length x.c5] 32) := (hk2.block W.heap.size (by simp) (by omega)).trans (heap_alloc_new W _)
  have HB1 := Lib.hid h1; have HT1 := Lib.hid h2; have HN1 := Lib.hid h3; have HW1 := Lib.hid h4
  have HTA := Lib.hid (h2.alloc (.cells #[.int .i64 x.t.f0, .int .i64 x.t.f1, .slice x.A2 x.t.f2.length x.c2, .slice x.A3 x.t.f3.length x.c3, .slice x.A4 x.t.f4.length x.c4, .slice x.A5 x.t.f5.length x.c5] 32))
  have HSR := Lib.hid (show Src B (W2.alloc (.cells #[.int .i64 x.t.f0, .int .i64 x.t.f1, .slice x.A2 x.t.f2.length x.c2, .slice x.A3 x.t.f3.length x.c3, .slice x.A4 x.t.f4.length x.c4, .slice x.A5 x.t.f5.length x.c5] 32)) ⟨W2.heap.size, 0, none⟩ [x.t] _ from src_one (e := 32) hv2.fk)
  have HLP := Lib.hid (show pre.length ≤ 64 by have := HL.out; omega)
  have HL4 := Lib.hid (show w.heap.size + 2 < W2.heap.size by have h8 := HSZ.out; have h9 : W.heap.size + 1 ≤ W2.heap.size := (by have := hk2.size; simpa using this); omega)
  have b0 : W2.cell? ⟨w.heap.size, 0, none⟩ = some (.slice A1 pre.length c1) := (blk_cell h1 0).trans rfl
  have z0 : W2.frozen? ⟨w.heap.size, 0, none⟩ = false := blk_frozen h1 0
  have x0 : W2.cell? ⟨W.heap.size, 0, none⟩ = some (.int .i64 x.t.f0) := (blk_cell hbl 0).trans rfl
  have x1 : W2.cell? ⟨W.heap.size, 1, none⟩ = some (.int .i64 x.t.f1) := (blk_cell hbl 1).trans rfl
  have x2 : W2.cell? ⟨W.heap.size, 2, none⟩ = some (.slice x.A2 x.t.f2.length x.c2) := (blk_cell hbl 2).trans rfl
  have x3 : W2.cell? ⟨W.heap.size, 3, none⟩ = some (.slice x.A3 x.t.f3.length x.c3) := (blk_cell hbl 3).trans rfl
  have x4 : W2.cell? ⟨W.heap.size, 4, none⟩ = some (.slice x.A4 x.t.f4.length x.c4) := (blk_cell hbl 4).trans rfl
  have x5 : W2.cell? ⟨W.heap.size, 5, none⟩ = some (.slice x.A5 x.t.f5.length x.c5) := (blk_cell hbl 5).trans rfl
  clear h1 h2 h3 h4 hbl hk2 hv2 hi hv hbw hlen hlt hK
  gi_wp2_with (gi_at_builtin; refine tr_append_in rfl (.tmp 8) (.tmp 10) rfl rfl rfl HTA.out HSR.out rfl (by decide) (by have := HLP.out; simp; omega) (by have := HB.out; have := HW1.out.size; simp; omega) ?_; intro v1 w5 ho hg5 hat; obtain ⟨A5, c5, rfl, _⟩ := ho.slice; have HO5 := Lib.hid ho; have HG5 := Lib.hid hg5; have HA5 := Lib.hid (NewRow.of hat); have HX5 := Lib.hid ((hg5.block w.heap.size (by have := HL4.out; simp; omega) (fun e => by obtain ⟨a, ha, e2⟩ := own_iff.1 e.symm; have := HN1.out a ha; omega)).trans ((Below.heap_alloc W2 _ w.heap.size (by have := HL4.out; omega)).trans HB1.out)); have y0 : w5.cell? ⟨w.heap.size, 0, none⟩ = some (.slice A1 pre.length c1) := (blk_cell HX5.out 0).trans rfl; have y1 : w5.frozen? ⟨w.heap.size, 0, none⟩ = false := blk_frozen HX5.out 0; clear ho hg5 hat b0 z0 x0 x1 x2 x3 x4 x5)
  have hn5 : ∀ a, A5 = some a → w.heap.size + 2 < a.block := fun a ha => by
   rcases HA5.out a ha with ⟨a0, e1, e2⟩ | e
   ·rw [← e2]; exact HN1.out a0 e1
   ·have := HL4.out; simp at e; omega
  have hk5 : KeepS (fun i => w.heap.size ≤ i ∧ i ≠ w4.heap.size ∧ i ≠ w4.heap.size + 1) W2 w5 := (KeepS.of_below _ ((Below.refl W2.heap.size W2).alloc (Nat.le_refl _) _)).trans (KeepS.of_grown HG5.out (fun i hi => by obtain ⟨a, ha, e2⟩ := own_iff.1 hi; have := HN1.out a ha; have := HSZ.out; omega))
  have hk6 := hk5.set (p := ⟨w.heap.size, 0, none⟩) (.inl ⟨Nat.le_refl _, by have := HSZ.out; show w.heap.size ≠ _; omega, by have := HSZ.out; show w.heap.size ≠ _; omega⟩) (.slice A5 (pre.length + 1) c5)
  refine ⟨rfl, ?_, ?_, ⟨A5, c5, ?_, ?_, hn5, ?_⟩⟩
  ·intro k hk
   have h8 := HSZ.out; have h9 := HL4.out
   refine (Below.heap_setCell w5 ⟨w.heap.size, 0, none⟩ _ k (by show k ≠ w.heap.size; omega)).trans (hk5.block k (by omega) (fun e => by omega))
  ·exact hk6.below (by have := HW1.out.size; omega) (fun i e => e.1)
  ·rw [show (pre ++ [x]).length = pre.length + 1 by simp]
   exact blk_put HX5.out 0 _ rfl
  ·have hni : ∀ i, i = w.heap.size → ¬ Inn B w5 i := fun i e => by subst e; exact not_inn HB.out HX5.out (by decide)
   have h7 := HO5.out.keep ((KeepS.refl (fun i => i = w.heap.size) w5).set (p := ⟨w.heap.size, 0, none⟩) (.inl rfl) (.slice A5 (pre.length + 1) c5)) hni (fun k hk e => by obtain ⟨a, ha, e2⟩ := own_iff.1 hk; have := hn5 a ha; omega)
   rw [List.map_append]
   have e1 : (List.map (fun x => x.t) pre ++ [x.t]).length = (pre ++ [x]).length := by simp
   rw [e1] at h7
   exact h7
  ·exact HW1.out.trans (hk6.below (by have := HW1.out.size; omega) (fun i e => e.1))
 case done =>
  rintro xs W hS ⟨A1, c1, h1, h2, h3, h4⟩ hKD
  have hlen : xs.length = l.length := by rw [← hS, List.length_map]
  have HB1 := Lib.hid h1; have HT1 := Lib.hid h2; have HN1 := Lib.hid h3; have HW1 := Lib.hid h4; have HLN := Lib.hid hlen; have HSS := Lib.hid hS
  have b0 : W.cell? ⟨w.heap.size, 0, none⟩ = some (.slice A1 xs.length c1) := (blk_cell h1 0).trans rfl
  clear h1 h2 h3 h4 hlen hS
  gi_wp2_with fail
  refine ⟨by simp, .inl ⟨_, _, rfl, run_takeDeferred hKD, ?_⟩⟩
  refine ⟨_, results_tmp rfl _ _ _, ?_⟩
  have hT := HT1.out.putObj (k := w4.heap.size) (by have := HB.out; have := HSZ.out; omega) hKD rfl (.deferred none)
  rw [HSS.out, HLN.out] at hT
  exact ⟨A1, c1, by rw [HLN.out]; rfl, hT, HW1.out.trans ((keepS_putObj (S := fun i => i = w4.heap.size) (.deferred none) rfl).below HW1.out.size (fun i e => by have := HSZ.out; omega))⟩
theorem collect_txs {B : Nat} {w : World} {lb : Nat} {A : Option Addr} {c : Nat} {l : List TxD} (hb0 : w.cell? ⟨lb, 0, none⟩ = some (.slice A l.length c)) (hT : TR B w (.slice A l.length c) l) (ha : ∀ t ∈ l, mayT t = true) (hl : l.length ≤ 64) (hB : B ≤ w.heap.size) :
  Calls Try.prog 27 #[.func (.func 37) #[] #[.pointer (some ⟨lb, 0, none⟩)]] w fun e w' => ∃ A' c', e = .returned (.slice A' l.length c') ∧ TR B w' (.slice A' l.length c') l ∧ Below w.heap.size w w' := by
 have H := Lib.hid (appseq_txs hb0 hT ha hl hB)
 clear hb0 hT ha hl hB
 go_enter Try.func27, Try.ntmps27
 go_wp2_with fail
 refine H.out.mono ?_
 rintro e w1 ⟨A1, c1, rfl, h1, h2⟩
 have H1 := Lib.hid h1; have H2 := Lib.hid h2
 clear h1 h2
 go_wp2_with fail
 go_ret
 exact ⟨_, _, rfl, H1.out, H2.out⟩
theorem waiting_no {w : World} {v : Value} (h : NoSq w v) : Calls Try.prog 19 #[v] w fun e w' => ∃ lb, e = .returned (.func (.func 37) #[] #[.pointer (some ⟨lb, 0, none⟩)]) ∧ w'.cell? ⟨lb, 0, none⟩ = some (.slice none 0 0) ∧ Below w.heap.size w w' := by
 have hb := (Below.refl w.heap.size w).alloc (Nat.le_refl _) (.cells #[.slice none 0 0] 22)
 have H := Lib.hid (none_no (h.below hb))
 have HX := Lib.hid (heap_alloc_new w (.cells #[.slice none 0 0] 22))
 have HB := Lib.hid hb
 clear h hb
 go_enter Try.func19, Try.ntmps19
 go_wp2_with fail
 refine H.out.mono ?_
 rintro e w' ⟨rfl, rfl⟩
 go_wp2_with fail
 go_ret
 exact ⟨_, rfl, (blk_cell HX.out 0).trans rfl, HB.out⟩
end Go.Proofs.Ytgmlpmdfkaadhaa.M
end

section
/- SequencerNone: the walk. -/
namespace Go.Proofs.Ytgmlpmdfkaadhaa.M
open Go.RowKit Go.Shelf Go.Proofs.YtgmlpmdfkaadhaaW.PrintWords Go.Proofs.YtgmlpmdfkaadhaaW.PrintLast Go.Proofs.YtgmlpmdfkaadhaaW.PrintMore Go.Proofs.Ytgmlpmdfkaadhaa.G
set_option maxHeartbeats 8000000 in
theorem none_walk (w : World) (k0 : Int) (t : TxD) (A2 A3 A4 A5 : Option Addr) (c2 c3 c4 c5 : Nat) :
  Calls Try.prog 7 #[.agg #[.int .i64 k0, .int .i64 t.f0, .int .i64 t.f1, .slice A2 t.f2.length c2, .slice A3 t.f3.length c3, .slice A4 t.f4.length c4, .slice A5 t.f5.length c5]] w fun e w' => e = .returned (.bool true) ∧ Below w.heap.size w w' := by
 go_enter Try.func7, Try.ntmps7
 go_wp2_with fail
 refine (live_is _).mono ?_
 rintro e w2 ⟨rfl, hb⟩
 have HO := Lib.hid ((hb.block w.heap.size (by simp)).trans (heap_alloc_new w (.cells #[.int .i64 k0, .int .i64 t.f0, .int .i64 t.f1, .slice A2 t.f2.length c2, .slice A3 t.f3.length c3, .slice A4 t.f4.length c4, .slice A5 t.f5.length c5] 59)))
 have HB2 := Lib.hid (((Below.refl _ w).alloc (Nat.le_refl _) (.cells #[.int .i64 k0, .int .i64 t.f0, .int .i64 t.f1, .slice A2 t.f2.length c2, .slice A3 t.f3.length c3, .slice A4 t.f4.length c4, .slice A5 t.f5.length c5] 59)).trans (hb.mono (by simp)))
 clear hb
 go_wp2_with fail
 obtain ⟨w3, hw3⟩ : ∃ w3, (w2.alloc (.cells #[.bool false, .int .i64 0, .slice none 0 0, .map none, .int .i64 0, .int .i64 0] 68)).alloc (.cells #[.pointer none, .pointer (some ⟨w2.heap.size, 0, none⟩)] 23) = w3 := ⟨_, rfl⟩
 have HB3 := Lib.hid (show Below w2.heap.size w2 w3 by rw [← hw3]; exact ((Below.refl _ w2).alloc (Nat.le_refl _) _).alloc (by simp) _)
 have HZ3 := Lib.hid (show w3.heap[w2.heap.size]? = some (.cells #[.bool false, .int .i64 0, .slice none 0 0, .map none, .int .i64 0, .int .i64 0] 68) by rw [← hw3, Below.heap_alloc _ _ _ (by simp)]; exact heap_alloc_new w2 _)
 have HS3 := Lib.hid (show w3.heap[w2.heap.size + 1]? = some (.cells #[.pointer none, .pointer (some ⟨w2.heap.size, 0, none⟩)] 23) by
  rw [← hw3]
  have := heap_alloc_new (w2.alloc (.cells #[.bool false, .int .i64 0, .slice none 0 0, .map none, .int .i64 0, .int .i64 0] 68)) (.cells #[.pointer none, .pointer (some ⟨w2.heap.size, 0, none⟩)] 23)
  rw [World.size_alloc] at this
  exact this)
 rw [hw3]
 have HO3 := Lib.hid ((HB3.out.block w.heap.size (blk_lt HO.out)).trans HO.out)
 have HW3 := Lib.hid (HB2.out.trans (HB3.out.mono HB2.out.size))
 clear hw3 HO HB2
 go_loopw [15] (fun i wr => ∃ k : Nat, i = .int .i64 k ∧ k ≤ 2 ∧ Aside0 (Below w3.heap.size w3 wr)) (fun i _ => 2 - (intOf i).toNat)
 case atStart => exact ⟨0, rfl, by omega, ⟨Below.refl _ _⟩⟩
 case round =>
  obtain ⟨k, rfl, hk, HBr⟩ := hrel
  by_cases hlt : k < 2
  ·have hq : ∃ q : Option Addr, wr.cell? ⟨w2.heap.size + 1, k, none⟩ = some (.pointer q) ∧ NoSq wr (.pointer q) := by
    have h1 : wr.heap[w2.heap.size + 1]? = some (.cells #[.pointer none, .pointer (some ⟨w2.heap.size, 0, none⟩)] 23) := (HBr.out.block _ (blk_lt HS3.out)).trans HS3.out
    rcases Nat.lt_or_ge k 1 with h | h
    ·obtain rfl : k = 0 := by omega
     exact ⟨none, by simp [World.cell?, h1], .inl rfl⟩
    ·obtain rfl : k = 1 := by omega
     exact ⟨some ⟨w2.heap.size, 0, none⟩, by simp [World.cell?, h1], .inr ⟨_, rfl, (blk_cell ((HBr.out.block _ (blk_lt HZ3.out)).trans HZ3.out) 0).trans rfl⟩⟩
   obtain ⟨q, hqc, hqn⟩ := hq
   have HLT := Lib.hid hlt
   have q1 : decide (k < 2) = true := decide_eq_true hlt
   have q2 : decide ((k : Int) < 2) = true := decide_eq_true (by omega)
   have HN0 := Lib.hid hqn; have HB0 := Lib.hid (Below.refl wr.heap.size wr); have HO0 := Lib.hid ((HBr.out.block w.heap.size (blk_lt HO3.out)).trans HO3.out)
   have o1 : wr.cell? ⟨w.heap.size, 1, none⟩ = some (.int .i64 t.f0) := (blk_cell HO0.out 1).trans rfl
   have o2 : wr.cell? ⟨w.heap.size, 2, none⟩ = some (.int .i64 t.f1) := (blk_cell HO0.out 2).trans rfl
   have o3 : wr.cell? ⟨w.heap.size, 3, none⟩ = some (.slice A2 t.f2.length c2) := (blk_cell HO0.out 3).trans rfl
   have o4 : wr.cell? ⟨w.heap.size, 4, none⟩ = some (.slice A3 t.f3.length c3) := (blk_cell HO0.out 4).trans rfl
   have o5 : wr.cell? ⟨w.heap.size, 5, none⟩ = some (.slice A4 t.f4.length c4) := (blk_cell HO0.out 5).trans rfl
   have o6 : wr.cell? ⟨w.heap.size, 6, none⟩ = some (.slice A5 t.f5.length c5) := (blk_cell HO0.out 6).trans rfl
   clear hqn
   go_wp2_with fail
   refine (tick_no HN0.out).mono ?_
   rintro e y1 ⟨rfl, hb⟩
   have hb9 := hb
   replace hb := hb.trans ((((Below.refl _ y1).alloc (Nat.le_refl _) (.cells #[.int .i64 0, .int .i64 0, .int .i64 0, .slice none 0 0] 36))).mono hb.size)
   have HB1 := Lib.hid (HB0.out.trans (hb.mono HB0.out.size)); have HN1 := Lib.hid (HN0.out.below hb); have HO1 := Lib.hid ((hb.block w.heap.size (blk_lt HO0.out)).trans HO0.out)
   clear hb o1 o2 o3 o4 o5 o6
   have o1 : y1.cell? ⟨w.heap.size, 1, none⟩ = some (.int .i64 t.f0) := (blk_cell ((hb9.block w.heap.size (blk_lt HO0.out)).trans HO0.out) 1).trans rfl
   have o2 : y1.cell? ⟨w.heap.size, 2, none⟩ = some (.int .i64 t.f1) := (blk_cell ((hb9.block w.heap.size (blk_lt HO0.out)).trans HO0.out) 2).trans rfl
   have o3 : y1.cell? ⟨w.heap.size, 3, none⟩ = some (.slice A2 t.f2.length c2) := (blk_cell ((hb9.block w.heap.size (blk_lt HO0.out)).trans HO0.out) 3).trans rfl
   have o4 : y1.cell? ⟨w.heap.size, 4, none⟩ = some (.slice A3 t.f3.length c3) := (blk_cell ((hb9.block w.heap.size (blk_lt HO0.out)).trans HO0.out) 4).trans rfl
   have o5 : y1.cell? ⟨w.heap.size, 5, none⟩ = some (.slice A4 t.f4.length c4) := (blk_cell ((hb9.block w.heap.size (blk_lt HO0.out)).trans HO0.out) 5).trans rfl
   have o6 : y1.cell? ⟨w.heap.size, 6, none⟩ = some (.slice A5 t.f5.length c5) := (blk_cell ((hb9.block w.heap.size (blk_lt HO0.out)).trans HO0.out) 6).trans rfl
   have zo1 : w.heap.size < y1.heap.size := blk_lt ((hb9.block w.heap.size (blk_lt HO0.out)).trans HO0.out)
   clear hb9
   go_wp2_with fail
   refine (flush_no HN1.out).mono ?_
   rintro e y2 ⟨rfl, hb⟩
   have hb9 := hb
   replace hb := hb.trans ((((Below.refl _ y2).alloc (Nat.le_refl _) (.cells #[.int .i64 0, .int .i64 0, .int .i64 0, .slice none 0 0] 36))).mono hb.size)
   have HB2 := Lib.hid (HB1.out.trans (hb.mono HB1.out.size)); have HN2 := Lib.hid (HN1.out.below hb); have HO2 := Lib.hid ((hb.block w.heap.size (blk_lt HO1.out)).trans HO1.out)
   clear hb o1 o2 o3 o4 o5 o6
   have o1 : y2.cell? ⟨w.heap.size, 1, none⟩ = some (.int .i64 t.f0) := (blk_cell ((hb9.block w.heap.size (blk_lt HO1.out)).trans HO1.out) 1).trans rfl
   have o2 : y2.cell? ⟨w.heap.size, 2, none⟩ = some (.int .i64 t.f1) := (blk_cell ((hb9.block w.heap.size (blk_lt HO1.out)).trans HO1.out) 2).trans rfl
   have o3 : y2.cell? ⟨w.heap.size, 3, none⟩ = some (.slice A2 t.f2.length c2) := (blk_cell ((hb9.block w.heap.size (blk_lt HO1.out)).trans HO1.out) 3).trans rfl
   have o4 : y2.cell? ⟨w.heap.size, 4, none⟩ = some (.slice A3 t.f3.length c3) := (blk_cell ((hb9.block w.heap.size (blk_lt HO1.out)).trans HO1.out) 4).trans rfl
   have o5 : y2.cell? ⟨w.heap.size, 5, none⟩ = some (.slice A4 t.f4.length c4) := (blk_cell ((hb9.block w.heap.size (blk_lt HO1.out)).trans HO1.out) 5).trans rfl
   have o6 : y2.cell? ⟨w.heap.size, 6, none⟩ = some (.slice A5 t.f5.length c5) := (blk_cell ((hb9.block w.heap.size (blk_lt HO1.out)).trans HO1.out) 6).trans rfl
   have zo2 : w.heap.size < y2.heap.size := blk_lt ((hb9.block w.heap.size (blk_lt HO1.out)).trans HO1.out)
   clear hb9
   go_wp2_with fail
   refine (take_no HN2.out t.f0 t.f1 A2 A3 A4 A5 t.f2.length t.f3.length t.f4.length t.f5.length c2 c3 c4 c5).mono ?_
   rintro e y3 ⟨rfl, hb⟩
   have HB3 := Lib.hid (HB2.out.trans (hb.mono HB2.out.size)); have HN3 := Lib.hid (HN2.out.below hb); have HO3 := Lib.hid ((hb.block w.heap.size (blk_lt HO2.out)).trans HO2.out)
   clear hb o1 o2 o3 o4 o5 o6
   have o1 : y3.cell? ⟨w.heap.size, 1, none⟩ = some (.int .i64 t.f0) := (blk_cell HO3.out 1).trans rfl
   have o2 : y3.cell? ⟨w.heap.size, 2, none⟩ = some (.int .i64 t.f1) := (blk_cell HO3.out 2).trans rfl
   have o3 : y3.cell? ⟨w.heap.size, 3, none⟩ = some (.slice A2 t.f2.length c2) := (blk_cell HO3.out 3).trans rfl
   have o4 : y3.cell? ⟨w.heap.size, 4, none⟩ = some (.slice A3 t.f3.length c3) := (blk_cell HO3.out 4).trans rfl
   have o5 : y3.cell? ⟨w.heap.size, 5, none⟩ = some (.slice A4 t.f4.length c4) := (blk_cell HO3.out 5).trans rfl
   have o6 : y3.cell? ⟨w.heap.size, 6, none⟩ = some (.slice A5 t.f5.length c5) := (blk_cell HO3.out 6).trans rfl
   go_wp2_with fail
   refine (len_no HN3.out).mono ?_
   rintro e x0 ⟨rfl, hx⟩
   subst hx
   go_wp2_with fail
   refine (number_no HN3.out).mono ?_
   rintro e x1 ⟨rfl, hx⟩
   subst hx
   go_wp2_with fail
   refine (epoch_no HN3.out).mono ?_
   rintro e x2 ⟨rfl, hx⟩
   subst hx
   go_wp2_with fail
   refine (waiting_no HN3.out).mono ?_
   rintro e y4 ⟨lb, rfl, hlb, hb⟩
   have HLB := Lib.hid hlb
   have HB4 := Lib.hid (HB3.out.trans (hb.mono HB3.out.size)); have HN4 := Lib.hid (HN3.out.below hb); have HO4 := Lib.hid ((hb.block w.heap.size (blk_lt HO3.out)).trans HO3.out)
   clear hb hlb o1 o2 o3 o4 o5 o6
   go_wp2_with fail
   refine (collect_txs (B := 0) (l := []) HLB.out (TR.nil _ _) (fun t ht => by cases ht) (by decide) (Nat.zero_le _)).mono ?_
   rintro e y5 ⟨Z, cz, rfl, hz, hb⟩
   have HB5 := Lib.hid (HB4.out.trans (hb.mono HB4.out.size)); have HN5 := Lib.hid (HN4.out.below hb)
   clear hb hz HLB
   go_wp2_with fail
   refine (clone_no HN5.out).mono ?_
   rintro e x9 ⟨rfl, hx⟩
   subst hx
   go_wp2_with fail
   go_roundw
   case rel => exact ⟨k + 1, by go_num, by have := HLT.out; omega, ⟨HBr.out.trans (HB5.out.mono HBr.out.size)⟩⟩
   case measure => have := HLT.out; simp [intOf]; omega
  ·obtain rfl : k = 2 := by omega
   clear hlt
   go_wp2_with fail
   go_ret
   exact ⟨rfl, HW3.out.trans (HBr.out.mono HW3.out.size)⟩
end Go.Proofs.Ytgmlpmdfkaadhaa.M
end

section
/- An operation of a script, read. -/
namespace Go.Proofs.Ytgmlpmdfkaadhaa.M
open Go.RowKit Go.Proofs.YtgmlpmdfkaadhaaW.PrintWords Go.Proofs.YtgmlpmdfkaadhaaW.PrintLast Go.Proofs.YtgmlpmdfkaadhaaW.PrintMore Go.Proofs.Ytgmlpmdfkaadhaa.G
structure OpQ where
 k : Int
 t : TxD
def opK : Kd OpQ := Kd.iso (Kd.pair (Kd.int .i64) G.k32) (fun o => (o.k, o.t))
def okOp (o : OpQ) : Prop := I64 o.k ∧ okTd o.t
theorem opens_op : Opens Try.prog 59 opK okOp (fun o => 1 + szT o.t + 1) :=
 opens_struct (fun o : OpQ => (o.k, o.t)) (fun x => ⟨x.1, x.2⟩) (fun _ => rfl) Try.underlying59 (by kernel_rfl) (opensL_cons rfl opens_i64 (opensL_one rfl opens_txn))
theorem op_cells {W : World} {ok : Nat → Prop} {o : OpQ} {c : List Value} (h : Kd.FK opK W ok o c) : ∃ A2 c2 A3 c3 A4 c4 A5 c5, c = [.int .i64 o.k, .int .i64 o.t.f0, .int .i64 o.t.f1, .slice A2 o.t.f2.length c2, .slice A3 o.t.f3.length c3, .slice A4 o.t.f4.length c4, .slice A5 o.t.f5.length c5] ∧
  Kd.FK G.k32 W ok o.t [.int .i64 o.t.f0, .int .i64 o.t.f1, .slice A2 o.t.f2.length c2, .slice A3 o.t.f3.length c3, .slice A4 o.t.f4.length c4, .slice A5 o.t.f5.length c5] := by
 obtain ⟨e0, e1, rfl, rfl, h1⟩ := Kd.FK_now h
 obtain ⟨A2, c2, A3, c3, A4, c4, A5, c5, rfl, _⟩ := G.k32_open h1
 refine ⟨A2, c2, A3, c3, A4, c4, A5, c5, rfl, fun W' hW => ?_⟩
 obtain ⟨d0, d1, he, hd0, h2⟩ := h W' hW
 have hd : d0 = [.int .i64 o.k] := hd0
 subst hd
 simp only [List.cons_append, List.nil_append, List.cons.injEq, true_and] at he
 subst he
 exact h2
end Go.Proofs.Ytgmlpmdfkaadhaa.M
end
