/- A flash in memory: its object f, its row g of blocks (4113 cells a block: sixteen pages of a state and 256 bytes, and its wear), and what they hold. -/
import Derived.Test.YtandhpnpodkemaaProg
import Derived.WalkKit
import Derived.WalkLawsBesides
import Derived.WalkSpells
import Derived.KernelRfl
import Derived.Lib.Hide
import Derived.Below
set_option linter.unusedVariables false
set_option linter.unusedSimpArgs false
namespace Go.Proofs.Ytandhpnpodkemaa.M
open Go.RowKit

/-- What a flash holds: how many blocks; the number in each cell; the fuse; what is kept; the power. -/
structure Fl where
  n : Nat
  cap : Nat
  c : Nat → Int
  fuse : Int
  keep : Int
  down : Bool
def blockSz : Nat := 4113
def pageSz : Nat := 257
def stAt (b p : Nat) : Nat := b * 4113 + p * 257
def wearAt (b : Nat) : Nat := b * 4113 + 4112
/-- The kind of the number in a cell. -/
def kdAt (i : Nat) : IntKind := if i % 4113 = 4112 then .i64 else if i % 4113 % 257 = 0 then .i64 else .u8
def updC (c : Nat → Int) (i : Nat) (x : Int) : Nat → Int := fun j => if j = i then x else c j

structure IsF (w : World) (f g : Nat) (fl : Fl) : Prop where
  fh : w.heap[f]? = some (.cells #[.slice (some ⟨g, 0, none⟩) fl.n fl.cap, .int .i64 fl.fuse, .int .i64 fl.keep, .bool fl.down] 47)
  gh : ∃ cur : Array Value, w.heap[g]? = some (.cells cur 79) ∧ cur.size = fl.cap * 4113 ∧ ∀ i, i < fl.n * 4113 → cur[i]? = some (.int (kdAt i) (fl.c i))
  ne : f ≠ g
  n1 : 1 ≤ fl.n
  n2 : fl.n ≤ 1024
  nc : fl.n ≤ fl.cap

namespace IsF
variable {w w' : World} {f g : Nat} {fl : Fl}
theorem flt (h : IsF w f g fl) : f < w.heap.size := (Array.getElem?_eq_some_iff.1 h.fh).1
theorem glt (h : IsF w f g fl) : g < w.heap.size := by obtain ⟨cur, h1, _⟩ := h.gh; exact (Array.getElem?_eq_some_iff.1 h1).1
theorem c0 (h : IsF w f g fl) : w.cell? ⟨f, 0, none⟩ = some (.slice (some ⟨g, 0, none⟩) fl.n fl.cap) := by simp [World.cell?, h.fh]
theorem c1 (h : IsF w f g fl) : w.cell? ⟨f, 1, none⟩ = some (.int .i64 fl.fuse) := by simp [World.cell?, h.fh]
theorem c2 (h : IsF w f g fl) : w.cell? ⟨f, 2, none⟩ = some (.int .i64 fl.keep) := by simp [World.cell?, h.fh]
theorem c3 (h : IsF w f g fl) : w.cell? ⟨f, 3, none⟩ = some (.bool fl.down) := by simp [World.cell?, h.fh]
theorem z (h : IsF w f g fl) (i : Nat) : w.frozen? ⟨f, i, none⟩ = false := by simp [World.frozen?, h.fh]
theorem gc (h : IsF w f g fl) {i : Nat} (hi : i < fl.n * 4113) : w.cell? ⟨g, i, none⟩ = some (.int (kdAt i) (fl.c i)) := by
  obtain ⟨cur, h1, h2, h3⟩ := h.gh
  simp [World.cell?, h1, h3 i hi]
theorem gz (h : IsF w f g fl) (i : Nat) : w.frozen? ⟨g, i, none⟩ = false := by
  obtain ⟨cur, h1, h2, h3⟩ := h.gh
  simp [World.frozen?, h1]
theorem move (h : IsF w f g fl) (hf : w'.heap[f]? = w.heap[f]?) (hg : w'.heap[g]? = w.heap[g]?) : IsF w' f g fl := ⟨hf.trans h.fh, by obtain ⟨cur, h1, h2⟩ := h.gh; exact ⟨cur, hg.trans h1, h2⟩, h.ne, h.n1, h.n2, h.nc⟩
theorem alloc (h : IsF w f g fl) (o : Obj) : IsF (w.alloc o) f g fl := h.move (Below.heap_alloc w o f h.flt) (Below.heap_alloc w o g h.glt)
theorem drew (h : IsF w f g fl) : IsF w.drew f g fl := h.move rfl rfl
theorem below (h : IsF w f g fl) (hb : Below w.heap.size w w') : IsF w' f g fl := h.move (hb.block f h.flt) (hb.block g h.glt)
theorem far (h : IsF w f g fl) {p : Addr} (h1 : p.block ≠ f) (h2 : p.block ≠ g) (v : Value) : IsF (w.setCell p v) f g fl := h.move (Below.heap_setCell w p v f (fun e => h1 e.symm)) (Below.heap_setCell w p v g (fun e => h2 e.symm))
theorem heap_same {W : World} {a : Addr} {v : Value} {cs : Array Value} {e : TypeId} {z : Nat × Nat} (h : W.heap[a.block]? = some (.cells cs e z)) (hs : a.spot = none) : (W.setCell a v).heap[a.block]? = some (.cells (cs.setIfInBounds a.off v) e z) := by
  simp only [World.setCell, Array.getElem?_modify, if_true, h, hs]
  rfl
theorem setFuse (h : IsF w f g fl) (x : Int) : IsF (w.setCell ⟨f, 1, none⟩ (.int .i64 x)) f g { fl with fuse := x } := by
  refine ⟨?_, ?_, h.ne, h.n1, h.n2, h.nc⟩
  · rw [heap_same (a := ⟨f, 1, none⟩) h.fh rfl]; rfl
  · obtain ⟨cur, h1, h2⟩ := h.gh
    exact ⟨cur, (Below.heap_setCell w ⟨f, 1, none⟩ _ g (fun e => h.ne e.symm)).trans h1, h2⟩
theorem setKeep (h : IsF w f g fl) (x : Int) : IsF (w.setCell ⟨f, 2, none⟩ (.int .i64 x)) f g { fl with keep := x } := by
  refine ⟨?_, ?_, h.ne, h.n1, h.n2, h.nc⟩
  · rw [heap_same (a := ⟨f, 2, none⟩) h.fh rfl]; rfl
  · obtain ⟨cur, h1, h2⟩ := h.gh
    exact ⟨cur, (Below.heap_setCell w ⟨f, 2, none⟩ _ g (fun e => h.ne e.symm)).trans h1, h2⟩
theorem setDown (h : IsF w f g fl) (x : Bool) : IsF (w.setCell ⟨f, 3, none⟩ (.bool x)) f g { fl with down := x } := by
  refine ⟨?_, ?_, h.ne, h.n1, h.n2, h.nc⟩
  · rw [heap_same (a := ⟨f, 3, none⟩) h.fh rfl]; rfl
  · obtain ⟨cur, h1, h2⟩ := h.gh
    exact ⟨cur, (Below.heap_setCell w ⟨f, 3, none⟩ _ g (fun e => h.ne e.symm)).trans h1, h2⟩
theorem put (h : IsF w f g fl) {i : Nat} (hi : i < fl.n * 4113) (x : Int) : IsF (w.setCell ⟨g, i, none⟩ (.int (kdAt i) x)) f g { fl with c := updC fl.c i x } := by
  refine ⟨(Below.heap_setCell w ⟨g, i, none⟩ _ f h.ne).trans h.fh, ?_, h.ne, h.n1, h.n2, h.nc⟩
  obtain ⟨cur, h1, h2, h3⟩ := h.gh
  refine ⟨cur.setIfInBounds i (.int (kdAt i) x), heap_same (a := ⟨g, i, none⟩) h1 rfl, by simpa using h2, fun j hj => ?_⟩
  rw [Array.getElem?_setIfInBounds]
  by_cases e : i = j
  · subst e
    rw [if_pos rfl, if_pos (by rw [h2]; exact Nat.lt_of_lt_of_le hi (Nat.mul_le_mul_right _ h.nc))]
    simp [updC]
  · rw [if_neg e, h3 j hj]
    simp [updC, fun e' => e (Eq.symm e')]
    intro e'
    exact absurd e'.symm e
end IsF

/-- Only the blocks f and g, and what is new, have turned. -/
structure KeepF (f g : Nat) (w w' : World) : Prop where
  os : w'.os = w.os
  tape : w'.tape = w.tape
  output : w'.output = w.output
  size : w.heap.size ≤ w'.heap.size
  block : ∀ i, i < w.heap.size → i ≠ f → i ≠ g → w'.heap[i]? = w.heap[i]?
namespace KeepF
variable {x y z : World} {f g : Nat}
theorem refl (f g : Nat) (w : World) : KeepF f g w w := ⟨rfl, rfl, rfl, Nat.le_refl _, fun _ _ _ _ => rfl⟩
theorem trans (h : KeepF f g x y) (k : KeepF f g y z) : KeepF f g x z :=
  ⟨k.os.trans h.os, k.tape.trans h.tape, k.output.trans h.output, Nat.le_trans h.size k.size, fun i hi h1 h2 => (k.block i (Nat.lt_of_lt_of_le hi h.size) h1 h2).trans (h.block i hi h1 h2)⟩
theorem of_below (h : Below x.heap.size x y) : KeepF f g x y := ⟨h.os, h.tape, h.output, h.size, fun i hi _ _ => h.block i hi⟩
theorem setF (h : KeepF f g x y) (i : Nat) (v : Value) : KeepF f g x (y.setCell ⟨f, i, none⟩ v) :=
  ⟨h.os, h.tape, h.output, by simpa [World.setCell] using h.size, fun j hj h1 h2 => (Below.heap_setCell y ⟨f, i, none⟩ v j h1).trans (h.block j hj h1 h2)⟩
theorem setG (h : KeepF f g x y) (i : Nat) (v : Value) : KeepF f g x (y.setCell ⟨g, i, none⟩ v) :=
  ⟨h.os, h.tape, h.output, by simpa [World.setCell] using h.size, fun j hj h1 h2 => (Below.heap_setCell y ⟨g, i, none⟩ v j h2).trans (h.block j hj h1 h2)⟩
theorem setNew (h : KeepF f g x y) {p : Addr} (hp : x.heap.size ≤ p.block) (v : Value) : KeepF f g x (y.setCell p v) :=
  ⟨h.os, h.tape, h.output, by simpa [World.setCell] using h.size, fun j hj h1 h2 => (Below.heap_setCell y p v j (by omega)).trans (h.block j hj h1 h2)⟩
theorem alloc (h : KeepF f g x y) (o : Obj) : KeepF f g x (y.alloc o) := h.trans (of_below ((Below.refl _ y).alloc (Nat.le_refl _) o))
theorem drew (h : KeepF f g x y) : KeepF f g x y.drew := ⟨h.os, h.tape, h.output, h.size, h.block⟩
theorem drewN (h : KeepF f g x y) (n : Nat) : KeepF f g x (y.drewN n) := ⟨h.os, h.tape, h.output, h.size, h.block⟩
theorem cell (h : KeepF f g x y) {p : Addr} (hp : p.block < x.heap.size) (h1 : p.block ≠ f) (h2 : p.block ≠ g) : y.cell? p = x.cell? p := World.cell?_of_block (h.block p.block hp h1 h2)
theorem frozen (h : KeepF f g x y) {p : Addr} (hp : p.block < x.heap.size) (h1 : p.block ≠ f) (h2 : p.block ≠ g) : y.frozen? p = x.frozen? p := World.frozen?_of_block (h.block p.block hp h1 h2)
end KeepF
end Go.Proofs.Ytandhpnpodkemaa.M
