/- FlashDoesSaid: contracts of the functions that the law goes through, put together in build order (part 1 of 2). -/
import Derived.Test.YtandhpnpodkemaaWWords
import Derived.Test.YtandhpnpodkemaaWLast
import Derived.Test.YtandhpnpodkemaaWTab
import Derived.Test.YtandhpnpodkemaaWFour
import Derived.Test.YtandhpnpodkemaaWQPut
import Derived.Test.YtandhpnpodkemaaWApart
import Derived.Test.YtandhpnpodkemaaWArr
import Derived.Test.YtandhpnpodkemaaWZeros
import Derived.Test.YtandhpnpodkemaaWFoot
import Derived.Test.YtandhpnpodkemaaWKept
import Derived.Test.YtandhpnpodkemaaWShare
import Derived.Test.YtandhpnpodkemaaWN
import Derived.Test.YtandhpnpodkemaaWFootNe
import Derived.Test.YtandhpnpodkemaaWAt
import Derived.Test.YtandhpnpodkemaaWEqStruct
import Derived.Test.YtandhpnpodkemaaWRepsOne
import Derived.Test.YtandhpnpodkemaaWInv
import Derived.Test.YtandhpnpodkemaaWInvWords
import Derived.Test.YtandhpnpodkemaaWGuard
import Derived.Test.YtandhpnpodkemaaWNEv
import Derived.Test.YtandhpnpodkemaaWMore
import Derived.Laws.BitsAllLaws
import Derived.Laws.Bits64
import Derived.Test.YtandhpnpodkemaaProg
import Derived.WalkKit
import Derived.WalkLawsBesides
import Derived.WalkSpells
import Derived.KernelRfl
import Derived.Lib.Hide
import Derived.Below
import Derived.Lib.SliceRun
import Derived.Laws.MakeOwn
import Derived.Maps.AppendAt
import Derived.Laws.IdiomCopy
import Derived.Deep.RegionHeld3
import Derived.Test.YtandhpnpodkemaaRows
import Derived.ProofKit
import Derived.OpenShut
import Derived.ShutString
import Derived.ChangeOld
import Derived.SizedLaws
import Derived.Deep.CondSized
import Derived.RangeFuncNested
import Derived.RangeFuncBound
import Derived.RangeFuncCalls
import Derived.RangeFuncLeaves
import Derived.RangeFuncBox
import Derived.Shelf.Abstract
import Derived.OwnWalkIn
import Derived.TacticsInMore
import Derived.LoopNIn
import Derived.LoopIn
import Derived.Lib.SlBytesConst
section
/- Numbers' bytes as lists of whole numbers: what trivet/shape's functions come to. No program here. -/
set_option maxRecDepth 100000
set_option linter.unusedVariables false
set_option linter.unusedSimpArgs false
namespace Go.Proofs.Ytandhpnpodkemaa.M
open Go.RowKit Go.Proofs.YtandhpnpodkemaaW.PrintWords
def isI64 (n : Int) : Prop := -9223372036854775808 ≤ n ∧ n ≤ 9223372036854775807
instance (n : Int) : Decidable (isI64 n) := by unfold isI64; infer_instance
end Go.Proofs.Ytandhpnpodkemaa.M
end

section
/- A flash in memory: its object f, its row g of blocks (4113 cells a block: sixteen pages of a state and 256 bytes, and its wear), and what they hold. -/
set_option linter.unusedVariables false
set_option linter.unusedSimpArgs false
namespace Go.Proofs.Ytandhpnpodkemaa.M
open Go.RowKit
structure Fl where
  n : Nat
  cap : Nat
  c : Nat → Int
  fuse : Int
  keep : Int
  down : Bool
def kdAt (i : Nat) : IntKind := if i % 4113 = 4112 then .i64 else if i % 4113 % 257 = 0 then .i64 else .u8
def updC (c : Nat → Int) (i : Nat) (x : Int) : Nat → Int := fun j => if j = i then x else c j
structure IsF (w : World) (f g : Nat) (fl : Fl) : Prop where
  fh : w.heap[f]? = some (.cells #[.slice (some ⟨g, 0, none⟩) fl.n fl.cap, .int .i64 fl.fuse, .int .i64 fl.keep, .bool fl.down] 47)
  gh : ∃ cur : Array Value, w.heap[g]? = some (.cells cur 79) ∧ cur.size = fl.cap * 4113 ∧ ∀ i, i < fl.n * 4113 → cur[i]? = some (.int (kdAt i) (fl.c i))
  ne : f ≠ g
  n1 : 1 ≤ fl.n
  n2 : fl.n ≤ 1024
  nc : fl.n ≤ fl.cap
namespace IsF
variable {w w' : World} {f g : Nat} {fl : Fl}
theorem flt (h : IsF w f g fl) : f < w.heap.size := (Array.getElem?_eq_some_iff.1 h.fh).1
theorem glt (h : IsF w f g fl) : g < w.heap.size := by obtain ⟨cur, h1, _⟩ := h.gh; exact (Array.getElem?_eq_some_iff.1 h1).1
theorem c0 (h : IsF w f g fl) : w.cell? ⟨f, 0, none⟩ = some (.slice (some ⟨g, 0, none⟩) fl.n fl.cap) := by simp [World.cell?, h.fh]
theorem c1 (h : IsF w f g fl) : w.cell? ⟨f, 1, none⟩ = some (.int .i64 fl.fuse) := by simp [World.cell?, h.fh]
theorem c2 (h : IsF w f g fl) : w.cell? ⟨f, 2, none⟩ = some (.int .i64 fl.keep) := by simp [World.cell?, h.fh]
theorem c3 (h : IsF w f g fl) : w.cell? ⟨f, 3, none⟩ = some (.bool fl.down) := by simp [World.cell?, h.fh]
theorem z (h : IsF w f g fl) (i : Nat) : w.frozen? ⟨f, i, none⟩ = false := by simp [World.frozen?, h.fh]
theorem gc (h : IsF w f g fl) {i : Nat} (hi : i < fl.n * 4113) : w.cell? ⟨g, i, none⟩ = some (.int (kdAt i) (fl.c i)) := by
  obtain ⟨cur, h1, h2, h3⟩ := h.gh
  simp [World.cell?, h1, h3 i hi]
theorem gz (h : IsF w f g fl) (i : Nat) : w.frozen? ⟨g, i, none⟩ = false := by
  obtain ⟨cur, h1, h2, h3⟩ := h.gh
  simp [World.frozen?, h1]
theorem move (h : IsF w f g fl) (hf : w'.heap[f]? = w.heap[f]?) (hg : w'.heap[g]? = w.heap[g]?) : IsF w' f g fl := ⟨hf.trans h.fh, by obtain ⟨cur, h1, h2⟩ := h.gh; exact ⟨cur, hg.trans h1, h2⟩, h.ne, h.n1, h.n2, h.nc⟩
theorem alloc (h : IsF w f g fl) (o : Obj) : IsF (w.alloc o) f g fl := h.move (Below.heap_alloc w o f h.flt) (Below.heap_alloc w o g h.glt)
theorem drew (h : IsF w f g fl) : IsF w.drew f g fl := h.move rfl rfl
theorem below (h : IsF w f g fl) (hb : Below w.heap.size w w') : IsF w' f g fl := h.move (hb.block f h.flt) (hb.block g h.glt)
theorem heap_same {W : World} {a : Addr} {v : Value} {cs : Array Value} {e : TypeId} {z : Nat × Nat} (h : W.heap[a.block]? = some (.cells cs e z)) (hs : a.spot = none) : (W.setCell a v).heap[a.block]? = some (.cells (cs.setIfInBounds a.off v) e z) := by
  simp only [World.setCell, Array.getElem?_modify, if_true, h, hs]
  rfl
theorem setFuse (h : IsF w f g fl) (x : Int) : IsF (w.setCell ⟨f, 1, none⟩ (.int .i64 x)) f g { fl with fuse := x } := by
  refine ⟨?_, ?_, h.ne, h.n1, h.n2, h.nc⟩
  · rw [heap_same (a := ⟨f, 1, none⟩) h.fh rfl]; rfl
  · obtain ⟨cur, h1, h2⟩ := h.gh
    exact ⟨cur, (Below.heap_setCell w ⟨f, 1, none⟩ _ g (fun e => h.ne e.symm)).trans h1, h2⟩
theorem setKeep (h : IsF w f g fl) (x : Int) : IsF (w.setCell ⟨f, 2, none⟩ (.int .i64 x)) f g { fl with keep := x } := by
  refine ⟨?_, ?_, h.ne, h.n1, h.n2, h.nc⟩
  · rw [heap_same (a := ⟨f, 2, none⟩) h.fh rfl]; rfl
  · obtain ⟨cur, h1, h2⟩ := h.gh
    exact ⟨cur, (Below.heap_setCell w ⟨f, 2, none⟩ _ g (fun e => h.ne e.symm)).trans h1, h2⟩
theorem setDown (h : IsF w f g fl) (x : Bool) : IsF (w.setCell ⟨f, 3, none⟩ (.bool x)) f g { fl with down := x } := by
  refine ⟨?_, ?_, h.ne, h.n1, h.n2, h.nc⟩
  · rw [heap_same (a := ⟨f, 3, none⟩) h.fh rfl]; rfl
  · obtain ⟨cur, h1, h2⟩ := h.gh
    exact ⟨cur, (Below.heap_setCell w ⟨f, 3, none⟩ _ g (fun e => h.ne e.symm)).trans h1, h2⟩
theorem put (h : IsF w f g fl) {i : Nat} (hi : i < fl.n * 4113) (x : Int) : IsF (w.setCell ⟨g, i, none⟩ (.int (kdAt i) x)) f g { fl with c := updC fl.c i x } := by
  refine ⟨(Below.heap_setCell w ⟨g, i, none⟩ _ f h.ne).trans h.fh, ?_, h.ne, h.n1, h.n2, h.nc⟩
  obtain ⟨cur, h1, h2, h3⟩ := h.gh
  refine ⟨cur.setIfInBounds i (.int (kdAt i) x), heap_same (a := ⟨g, i, none⟩) h1 rfl, by simpa using h2, fun j hj => ?_⟩
  rw [Array.getElem?_setIfInBounds]
  by_cases e : i = j
  · subst e
    rw [if_pos rfl, if_pos (by rw [h2]; exact Nat.lt_of_lt_of_le hi (Nat.mul_le_mul_right _ h.nc))]
    simp [updC]
  · rw [if_neg e, h3 j hj]
    simp [updC, fun e' => e (Eq.symm e')]
    intro e'
    exact absurd e'.symm e
end IsF
structure KeepF (f g : Nat) (w w' : World) : Prop where
  os : w'.os = w.os
  tape : w'.tape = w.tape
  output : w'.output = w.output
  size : w.heap.size ≤ w'.heap.size
  block : ∀ i, i < w.heap.size → i ≠ f → i ≠ g → w'.heap[i]? = w.heap[i]?
namespace KeepF
variable {x y z : World} {f g : Nat}
theorem refl (f g : Nat) (w : World) : KeepF f g w w := ⟨rfl, rfl, rfl, Nat.le_refl _, fun _ _ _ _ => rfl⟩
theorem trans (h : KeepF f g x y) (k : KeepF f g y z) : KeepF f g x z :=
  ⟨k.os.trans h.os, k.tape.trans h.tape, k.output.trans h.output, Nat.le_trans h.size k.size, fun i hi h1 h2 => (k.block i (Nat.lt_of_lt_of_le hi h.size) h1 h2).trans (h.block i hi h1 h2)⟩
theorem of_below (h : Below x.heap.size x y) : KeepF f g x y := ⟨h.os, h.tape, h.output, h.size, fun i hi _ _ => h.block i hi⟩
theorem setF (h : KeepF f g x y) (i : Nat) (v : Value) : KeepF f g x (y.setCell ⟨f, i, none⟩ v) :=
  ⟨h.os, h.tape, h.output, by simpa [World.setCell] using h.size, fun j hj h1 h2 => (Below.heap_setCell y ⟨f, i, none⟩ v j h1).trans (h.block j hj h1 h2)⟩
theorem setG (h : KeepF f g x y) (i : Nat) (v : Value) : KeepF f g x (y.setCell ⟨g, i, none⟩ v) :=
  ⟨h.os, h.tape, h.output, by simpa [World.setCell] using h.size, fun j hj h1 h2 => (Below.heap_setCell y ⟨g, i, none⟩ v j h2).trans (h.block j hj h1 h2)⟩
theorem alloc (h : KeepF f g x y) (o : Obj) : KeepF f g x (y.alloc o) := h.trans (of_below ((Below.refl _ y).alloc (Nat.le_refl _) o))
theorem drew (h : KeepF f g x y) : KeepF f g x y.drew := ⟨h.os, h.tape, h.output, h.size, h.block⟩
theorem drewN (h : KeepF f g x y) (n : Nat) : KeepF f g x (y.drewN n) := ⟨h.os, h.tape, h.output, h.size, h.block⟩
theorem cell (h : KeepF f g x y) {p : Addr} (hp : p.block < x.heap.size) (h1 : p.block ≠ f) (h2 : p.block ≠ g) : y.cell? p = x.cell? p := World.cell?_of_block (h.block p.block hp h1 h2)
theorem frozen (h : KeepF f g x y) {p : Addr} (hp : p.block < x.heap.size) (h1 : p.block ≠ f) (h2 : p.block ≠ g) : y.frozen? p = x.frozen? p := World.frozen?_of_block (h.block p.block hp h1 h2)
end KeepF
end Go.Proofs.Ytandhpnpodkemaa.M
end

section
/- Contracts of a flash's none, is, place, looks, Down, Blocks, Restart, SetFuse, Crash. -/
set_option linter.unusedVariables false
set_option linter.unusedSimpArgs false
namespace Go.Proofs.Ytandhpnpodkemaa.M
open Go.RowKit
def IsZ (w : World) (f : Nat) : Prop := w.heap[f]? = some (.cells #[.slice none 0 0, .int .i64 0, .int .i64 0, .bool false] 47)
theorem IsZ.c0 {w : World} {f : Nat} (h : IsZ w f) : w.cell? ⟨f, 0, none⟩ = some (.slice none 0 0) := by unfold IsZ at h; simp [World.cell?, h]
theorem IsZ.flt {w : World} {f : Nat} (h : IsZ w f) : f < w.heap.size := (Array.getElem?_eq_some_iff.1 h).1
theorem none_is {w : World} {f g : Nat} {fl : Fl} (h : IsF w f g fl) : Calls Try.prog 41 #[.pointer (some ⟨f, 0, none⟩)] w fun e w' => e = .returned (.bool false) ∧ w = w' := by
  have qT : ∀ (w : World) (a : Option Addr) (n c n' c' : Nat), (binOp .eql 45 (.slice a n c) (.slice none n' c')).run Try.prog w = .ok (.bool a.isNone) w := fun w a n c n' c' => Lib.run_eql_slice_nil w _ _ a n c n' c' Try.underlying45
  have h0 := h.c0
  go_enter Try.func41, Try.ntmps41
  go_wp2
  go_ret
  exact ⟨rfl, rfl⟩
theorem place_calls (p : Int) (w : World) : Calls Try.prog 34 #[.int .i64 p] w fun e w' => e = .returned (.bool (decide (0 ≤ p) && decide (p < 16))) ∧ w = w' := by
  by_cases h0 : 0 ≤ p
  · have g0 : decide (0 ≤ p) = true := decide_eq_true h0
    rw [g0, Bool.true_and]
    obtain ⟨q, hq⟩ : ∃ q, decide (p < 16) = q := ⟨_, rfl⟩
    rw [hq]
    go_enter Try.func34, Try.ntmps34
    go_wp2
    go_ret
    exact ⟨rfl, rfl⟩
  · have g0 : decide (0 ≤ p) = false := decide_eq_false h0
    rw [g0, Bool.false_and]
    go_enter Try.func34, Try.ntmps34
    go_wp2
    go_ret
    exact ⟨rfl, rfl⟩
theorem is_calls {w : World} {f g : Nat} {fl : Fl} (h : IsF w f g fl) (b : Int) : Calls Try.prog 33 #[.pointer (some ⟨f, 0, none⟩), .int .i64 b] w fun e w' => e = .returned (.bool (decide (0 ≤ b) && decide (b < (fl.n : Int)))) ∧ w = w' := by
  have h0 := h.c0
  by_cases hb : 0 ≤ b
  · have g0 : decide (0 ≤ b) = true := decide_eq_true hb
    rw [g0, Bool.true_and]
    obtain ⟨q, hq⟩ : ∃ q, decide (b < (fl.n : Int)) = q := ⟨_, rfl⟩
    rw [hq]
    go_enter Try.func33, Try.ntmps33
    go_wp2
    go_ret
    exact ⟨rfl, rfl⟩
  · have g0 : decide (0 ≤ b) = false := decide_eq_false hb
    rw [g0, Bool.false_and]
    go_enter Try.func33, Try.ntmps33
    go_wp2
    go_ret
    exact ⟨rfl, rfl⟩
end Go.Proofs.Ytandhpnpodkemaa.M
end

section
/- Contracts of a flash's looks, Down, Blocks, Restart, SetFuse, Crash. -/
set_option linter.unusedVariables false
set_option linter.unusedSimpArgs false
namespace Go.Proofs.Ytandhpnpodkemaa.M
open Go.RowKit
theorem enter_any (g : FuncId) (fn : Func) (c : Code) (h : Try.prog.funcs[g]? = some fn) (hb : fn.body = some c) (hn : (fn.name == "runtime.NumGoroutine") = false) (args : Array Value) (W : World) : (callFunc g args).run Try.prog W = .ok (.enter g args) W := by
  have hn' : ¬ fn.name = "runtime.NumGoroutine" := by simpa using hn
  simp [callFunc, go_sem, h, hb, hn']
def looksE (fl : Fl) (r : Bool) : Int := if fl.down = true then 7 else if r = true then 0 else 1
theorem looks_is {w : World} {f g : Nat} {fl : Fl} (h : IsF w f g fl) (gid : FuncId) (cap : Array Value) (r : Bool) (hg : ∀ (args : Array Value) (W : World), (callFunc gid args).run Try.prog W = .ok (.enter gid args) W)
    (hok : Calls Try.prog gid cap w fun e w' => e = .returned (.bool r) ∧ w = w') :
    Calls Try.prog 31 #[.pointer (some ⟨f, 0, none⟩), .func (.func gid) #[] cap] w fun e w' => e = .returned (.int .i64 (looksE fl r)) ∧ w = w' := by
  have HN := Lib.hid (none_is h)
  have h3 := h.c3
  have HOK := Lib.hid hok
  clear h hok
  unfold looksE
  cases hd : fl.down with
  | true =>
    rw [hd] at h3
    simp only [if_true]
    go_enter Try.func31, Try.ntmps31
    go_wp2_with (go_at_call 41; refine HN.out.mono ?_; rintro e w' ⟨rfl, rfl⟩)
    go_ret
    exact ⟨rfl, rfl⟩
  | false =>
    rw [hd] at h3
    cases r with
    | true =>
      simp only [if_true, Bool.false_eq_true, if_false]
      go_enter Try.func31, Try.ntmps31
      go_wp2_with (go_at_call 41; refine HN.out.mono ?_; rintro e w' ⟨rfl, rfl⟩)
      refine HOK.out.mono ?_
      rintro e w' ⟨rfl, rfl⟩
      go_wp2
      go_ret
      exact ⟨rfl, rfl⟩
    | false =>
      simp only [Bool.false_eq_true, if_false]
      go_enter Try.func31, Try.ntmps31
      go_wp2_with (go_at_call 41; refine HN.out.mono ?_; rintro e w' ⟨rfl, rfl⟩)
      refine HOK.out.mono ?_
      rintro e w' ⟨rfl, rfl⟩
      go_wp2
      go_ret
      exact ⟨rfl, rfl⟩
theorem down_is {w : World} {f g : Nat} {fl : Fl} (h : IsF w f g fl) : Calls Try.prog 12 #[.pointer (some ⟨f, 0, none⟩)] w fun e w' => e = .returned (.bool fl.down) ∧ w = w' := by
  have HN := Lib.hid (none_is h)
  have h3 := h.c3
  clear h
  go_enter Try.func12, Try.ntmps12
  go_wp2_with (go_at_call 41; refine HN.out.mono ?_; rintro e w' ⟨rfl, rfl⟩)
  go_ret
  exact ⟨rfl, rfl⟩
theorem blocks_is {w : World} {f g : Nat} {fl : Fl} (h : IsF w f g fl) : Calls Try.prog 20 #[.pointer (some ⟨f, 0, none⟩)] w fun e w' => e = .returned (.int .i64 (fl.n : Int)) ∧ w = w' := by
  have HN := Lib.hid (none_is h)
  have h0 := h.c0
  clear h
  go_enter Try.func20, Try.ntmps20
  go_wp2_with (go_at_call 41; refine HN.out.mono ?_; rintro e w' ⟨rfl, rfl⟩)
  go_ret
  exact ⟨rfl, rfl⟩
def restartE (fl : Fl) : Int := if fl.down = true then 0 else 1
def restartF (fl : Fl) : Fl := { fl with down := false }
theorem restart_is {w : World} {f g : Nat} {fl : Fl} (h : IsF w f g fl) : Calls Try.prog 15 #[.pointer (some ⟨f, 0, none⟩)] w fun e w' => e = .returned (.int .i64 (restartE fl)) ∧ IsF w' f g (restartF fl) ∧ KeepF f g w w' := by
  have HN := Lib.hid (none_is h)
  have h3 := h.c3
  have z3 := h.z 3
  have HI := Lib.hid h
  clear h
  obtain ⟨R, HR⟩ : ∃ R, RowKit.Hid (restartF fl = R) := ⟨_, Lib.hid rfl⟩
  rw [HR.out]
  unfold restartE
  cases hd : fl.down with
  | true =>
    rw [hd] at h3
    simp only [if_true]
    go_enter Try.func15, Try.ntmps15
    go_wp2_with (go_at_call 41; refine HN.out.mono ?_; rintro e w' ⟨rfl, rfl⟩)
    go_ret
    exact ⟨rfl, by rw [← HR.out]; exact HI.out.setDown false, (KeepF.refl _ _ _).setF _ _⟩
  | false =>
    rw [hd] at h3
    simp only [Bool.false_eq_true, if_false]
    have HS := Lib.hid (show fl = R by rw [← HR.out]; unfold restartF; rw [← hd])
    go_enter Try.func15, Try.ntmps15
    go_wp2_with (go_at_call 41; refine HN.out.mono ?_; rintro e w' ⟨rfl, rfl⟩)
    go_ret
    exact ⟨rfl, by rw [← HS.out]; exact HI.out, KeepF.refl _ _ _⟩
end Go.Proofs.Ytandhpnpodkemaa.M
end

section
/- Contracts of a flash's SetFuse, Crash and change. -/
set_option linter.unusedVariables false
set_option linter.unusedSimpArgs false
namespace Go.Proofs.Ytandhpnpodkemaa.M
open Go.RowKit
def keepV (k : Int) : Int := Int.tmod (Int.tmod k 3 + 3) 3
def setFuseE (fl : Fl) (n : Int) : Int := looksE fl (decide (1 ≤ n))
def setFuseF (fl : Fl) (n k : Int) : Fl := if setFuseE fl n = 0 then { fl with fuse := n, keep := keepV k } else fl
theorem setfuse1 (w : World) (b : Nat) (n : Int) (h : w.cell? ⟨b, 0, none⟩ = some (.int .i64 n)) : Calls Try.prog 42 #[.pointer (some ⟨b, 0, none⟩)] w fun e w' => e = .returned (.bool (decide (1 ≤ n))) ∧ w = w' := by
  obtain ⟨q, hq⟩ : ∃ q, decide (1 ≤ n) = q := ⟨_, rfl⟩
  rw [hq]
  go_enter Try.func42, Try.ntmps42
  go_wp2
  go_ret
  exact ⟨rfl, rfl⟩
theorem setfuse_is {w : World} {f g : Nat} {fl : Fl} (h : IsF w f g fl) (n k : Int) :
    Calls Try.prog 13 #[.pointer (some ⟨f, 0, none⟩), .int .i64 n, .int .i64 k] w fun e w' => e = .returned (.int .i64 (setFuseE fl n)) ∧ IsF w' f g (setFuseF fl n k) ∧ KeepF f g w w' := by
  have hmf : ∀ (fn : Fn) (first cap : Array Value) (w : World), (Instr.makeFunc fn first cap).run Try.prog w = .ok (.func fn first cap) w := fun _ _ _ _ => rfl
  have HI := Lib.hid h
  have h2 := h.flt
  have hL := Lib.hid (looks_is (h.alloc (.cells #[.int .i64 n] 3)) 42 #[.pointer (some ⟨w.heap.size, 0, none⟩)] (decide (1 ≤ n)) (enter_any _ _ _ Try.func42 rfl (by kernel_rfl)) (setfuse1 _ _ n (by simp [go_sem])))
  obtain ⟨er, her⟩ : ∃ er, setFuseE fl n = er := ⟨_, rfl⟩
  obtain ⟨R, HR⟩ : ∃ R, RowKit.Hid (setFuseF fl n k = R) := ⟨_, Lib.hid rfl⟩
  rw [her, HR.out]
  have HER := Lib.hid her
  unfold setFuseE at her
  rw [her] at hL
  have hne : f ≠ w.heap.size := by omega
  have e1 := h.c1
  have e2 := h.c2
  have z1 := h.z 1
  have z2 := h.z 2
  clear h her
  by_cases hz : er = 0
  · subst hz
    have HF := Lib.hid (show { fl with fuse := n, keep := keepV k } = R by rw [← HR.out]; unfold setFuseF; rw [if_pos HER.out])
    have hk1 := Int.tmod_lt_of_pos k (show (0 : Int) < 3 by decide)
    have hk2 := Int.lt_tmod_of_pos k (show (0 : Int) < 3 by decide)
    have hw : IntKind.i64.wrap (Int.tmod k 3 + 3) = Int.tmod k 3 + 3 := by rw [IntKind.wrap_i64]; omega
    obtain ⟨kv, hkv⟩ : ∃ kv, Int.tmod (Int.tmod k 3 + 3) 3 = kv := ⟨_, rfl⟩
    have HKV := Lib.hid (show keepV k = kv from hkv)
    clear hk1 hk2
    go_enter Try.func13, Try.ntmps13
    go_wp2_with (go_at_call 31; refine hL.out.mono ?_; rintro e w' ⟨rfl, rfl⟩)
    go_ret
    refine ⟨rfl, ?_, (((KeepF.refl _ _ _).setF _ _).setF _ _).alloc _⟩
    rw [← HF.out, HKV.out]
    exact ((HI.out.setFuse n).setKeep kv).alloc _
  · have HF := Lib.hid (show fl = R by rw [← HR.out]; unfold setFuseF; rw [if_neg (by rw [HER.out]; exact hz)])
    have hne2 : (er != 0) = true := bne_iff_ne.2 hz
    clear hz
    go_enter Try.func13, Try.ntmps13
    go_wp2_with (go_at_call 31; refine hL.out.mono ?_; rintro e w' ⟨rfl, rfl⟩)
    go_ret
    refine ⟨rfl, ?_, (KeepF.refl _ _ _).alloc _⟩
    rw [← HF.out]
    exact HI.out.alloc _
def crashE (fl : Fl) : Int := looksE fl true
def crashF (fl : Fl) : Fl := if crashE fl = 0 then { fl with down := true, fuse := 0 } else fl
theorem crash1 (w : World) : Calls Try.prog 43 #[] w fun e w' => e = .returned (.bool true) ∧ w = w' := by
  go_enter Try.func43, Try.ntmps43
  go_wp2
  go_ret
  exact ⟨rfl, rfl⟩
theorem crash_is {w : World} {f g : Nat} {fl : Fl} (h : IsF w f g fl) :
    Calls Try.prog 14 #[.pointer (some ⟨f, 0, none⟩)] w fun e w' => e = .returned (.int .i64 (crashE fl)) ∧ IsF w' f g (crashF fl) ∧ KeepF f g w w' := by
  have HI := Lib.hid h
  have hL := Lib.hid (looks_is h 43 #[] true (enter_any _ _ _ Try.func43 rfl (by kernel_rfl)) (crash1 _))
  obtain ⟨er, her⟩ : ∃ er, crashE fl = er := ⟨_, rfl⟩
  obtain ⟨R, HR⟩ : ∃ R, RowKit.Hid (crashF fl = R) := ⟨_, Lib.hid rfl⟩
  rw [her, HR.out]
  have HER := Lib.hid her
  unfold crashE at her
  rw [her] at hL
  have e1 := h.c1
  have e3 := h.c3
  have z1 := h.z 1
  have z3 := h.z 3
  clear h her
  by_cases hz : er = 0
  · subst hz
    have HF := Lib.hid (show { fl with down := true, fuse := 0 } = R by rw [← HR.out]; unfold crashF; rw [if_pos HER.out])
    go_enter Try.func14, Try.ntmps14
    go_wp2_with (go_at_call 31; refine hL.out.mono ?_; rintro e w' ⟨rfl, rfl⟩)
    go_ret
    refine ⟨rfl, ?_, ((KeepF.refl _ _ _).setF _ _).setF _ _⟩
    rw [← HF.out]
    exact (HI.out.setDown true).setFuse 0
  · have HF := Lib.hid (show fl = R by rw [← HR.out]; unfold crashF; rw [if_neg (by rw [HER.out]; exact hz)])
    have hne2 : (er != 0) = true := bne_iff_ne.2 hz
    clear hz
    go_enter Try.func14, Try.ntmps14
    go_wp2_with (go_at_call 31; refine hL.out.mono ?_; rintro e w' ⟨rfl, rfl⟩)
    go_ret
    refine ⟨rfl, ?_, KeepF.refl _ _ _⟩
    rw [← HF.out]
    exact HI.out
end Go.Proofs.Ytandhpnpodkemaa.M
end

section
/- Contract of a flash's change, over what its two functions do to the cells. -/
set_option linter.unusedVariables false
set_option linter.unusedSimpArgs false
namespace Go.Proofs.Ytandhpnpodkemaa.M
open Go.RowKit
def changeE (fl : Fl) : Int := if fl.fuse = 1 then 7 else 0
def changeF (fl : Fl) (cW cT : Nat → Int) : Fl :=
  if fl.fuse = 1 then { fl with c := if fl.keep = 1 then cT else if fl.keep = 2 then cW else fl.c, down := true, fuse := 0 }
  else { fl with fuse := max (fl.fuse - 1) 0, c := cW }
def Makes (w : World) (f g : Nat) (fl : Fl) (id : FuncId) (cap : Array Value) (c : Nat → Int) : Prop :=
  ∀ (w' : World) (fl' : Fl), KeepF f g w w' → IsF w' f g fl' → fl'.c = fl.c → fl'.n = fl.n →
    Calls Try.prog id cap w' fun e w'' => e = .returned (.tuple #[]) ∧ IsF w'' f g { fl' with c := c } ∧ KeepF f g w' w''
theorem change_is {w : World} {f g : Nat} {fl : Fl} (h : IsF w f g fl) (hfu : 0 ≤ fl.fuse ∧ fl.fuse ≤ 9223372036854775807) (wid tid : FuncId) (wcap tcap : Array Value) (cW cT : Nat → Int)
    (hw : ∀ (args : Array Value) (W : World), (callFunc wid args).run Try.prog W = .ok (.enter wid args) W) (ht : ∀ (args : Array Value) (W : World), (callFunc tid args).run Try.prog W = .ok (.enter tid args) W)
    (HW : Makes w f g fl wid wcap cW) (HT : Makes w f g fl tid tcap cT) :
    Calls Try.prog 35 #[.pointer (some ⟨f, 0, none⟩), .func (.func wid) #[] wcap, .func (.func tid) #[] tcap] w fun e w' => e = .returned (.int .i64 (changeE fl)) ∧ IsF w' f g (changeF fl cW cT) ∧ KeepF f g w w' := by
  have HI := Lib.hid h
  have HWW := Lib.hid HW
  have HTT := Lib.hid HT
  have e1 := h.c1
  have e2 := h.c2
  have e3 := h.c3
  have z1 := h.z 1
  have z3 := h.z 3
  obtain ⟨er, her⟩ : ∃ er, changeE fl = er := ⟨_, rfl⟩
  obtain ⟨R, HR⟩ : ∃ R, RowKit.Hid (changeF fl cW cT = R) := ⟨_, Lib.hid rfl⟩
  rw [her, HR.out]
  clear h HW HT
  by_cases h1 : fl.fuse = 1
  · have hq : (fl.fuse != 1) = false := bne_eq_false_iff_eq.2 h1
    unfold changeE at her
    rw [if_pos h1] at her
    subst her
    have H1 := Lib.hid h1
    by_cases k1 : fl.keep = 1
    · have g1 : (fl.keep == 1) = true := beq_iff_eq.2 k1
      have HF := Lib.hid (show { fl with c := cT, down := true, fuse := 0 } = R by rw [← HR.out]; unfold changeF; rw [if_pos h1, if_pos k1])
      clear h1 k1 hfu
      go_enter Try.func35, Try.ntmps35
      go_wp2_with fail
      refine (HTT.out _ fl (KeepF.refl _ _ _) HI.out rfl rfl).mono ?_
      rintro e w1 ⟨rfl, hI1, hk1⟩
      have d1 := hI1.c1
      have d3 := hI1.c3
      have y1 := hI1.z 1
      have y3 := hI1.z 3
      have HI1 := Lib.hid hI1
      have HK1 := Lib.hid hk1
      clear hI1 hk1 e1 e2 e3 z1 z3
      go_wp2
      go_ret
      refine ⟨rfl, ?_, (HK1.out.setF _ _).setF _ _⟩
      rw [← HF.out]
      exact (HI1.out.setDown true).setFuse 0
    · have g1 : (fl.keep == 1) = false := beq_eq_false_iff_ne.2 k1
      by_cases k2 : fl.keep = 2
      · have g2 : (fl.keep == 2) = true := beq_iff_eq.2 k2
        have HF := Lib.hid (show { fl with c := cW, down := true, fuse := 0 } = R by rw [← HR.out]; unfold changeF; rw [if_pos h1, if_neg k1, if_pos k2])
        clear h1 k1 k2 hfu
        go_enter Try.func35, Try.ntmps35
        go_wp2_with fail
        refine (HWW.out _ fl (KeepF.refl _ _ _) HI.out rfl rfl).mono ?_
        rintro e w1 ⟨rfl, hI1, hk1⟩
        have d1 := hI1.c1
        have d3 := hI1.c3
        have y1 := hI1.z 1
        have y3 := hI1.z 3
        have HI1 := Lib.hid hI1
        have HK1 := Lib.hid hk1
        clear hI1 hk1 e1 e2 e3 z1 z3
        go_wp2
        go_ret
        refine ⟨rfl, ?_, (HK1.out.setF _ _).setF _ _⟩
        rw [← HF.out]
        exact (HI1.out.setDown true).setFuse 0
      · have g2 : (fl.keep == 2) = false := beq_eq_false_iff_ne.2 k2
        have HF := Lib.hid (show { fl with down := true, fuse := 0 } = R by rw [← HR.out]; unfold changeF; rw [if_pos h1, if_neg k1, if_neg k2])
        clear h1 k1 k2 hfu
        go_enter Try.func35, Try.ntmps35
        go_wp2
        go_ret
        refine ⟨rfl, ?_, ((KeepF.refl _ _ _).setF _ _).setF _ _⟩
        rw [← HF.out]
        exact (HI.out.setDown true).setFuse 0
  · have hq : (fl.fuse != 1) = true := bne_iff_ne.2 h1
    unfold changeE at her
    rw [if_neg h1] at her
    subst her
    have HF := Lib.hid (show ∀ x : Int, max (fl.fuse - 1) 0 = x → { fl with fuse := x, c := cW } = R by intro x hx; rw [← HR.out]; unfold changeF; rw [if_neg h1, hx])
    have hs : IntKind.i64.wrap (fl.fuse - 1) = fl.fuse - 1 := by rw [IntKind.wrap_i64]; omega
    clear h1 hfu
    go_enter Try.func35, Try.ntmps35
    go_wp2_with fail
    all_goals
      first
        | refine (HWW.out _ _ ((KeepF.refl _ _ _).setF 1 (.int .i64 0)) (HI.out.setFuse 0) rfl rfl).mono ?_
        | refine (HWW.out _ _ ((KeepF.refl _ _ _).setF 1 (.int .i64 (fl.fuse - 1))) (HI.out.setFuse (fl.fuse - 1)) rfl rfl).mono ?_
      rintro e w1 ⟨rfl, hI1, hk1⟩
      have HI1 := Lib.hid hI1
      have HK1 := Lib.hid (((KeepF.refl f g w).setF 1 _).trans hk1)
      clear hI1 hk1 e1 e2 e3 z1 z3
      go_wp2
      go_ret
      first
        | exact ⟨rfl, by rw [← HF.out 0 (by omega)]; exact HI1.out, HK1.out⟩
        | exact ⟨rfl, by rw [← HF.out (fl.fuse - 1) (by omega)]; exact HI1.out, HK1.out⟩
end Go.Proofs.Ytandhpnpodkemaa.M
end

section
/- Contract of flash.New. -/
set_option linter.unusedVariables false
set_option linter.unusedSimpArgs false
namespace Go.Proofs.Ytandhpnpodkemaa.M
open Go.RowKit
theorem infoB : (Try.prog.info? 79).map (fun i => (i.size, i.bytes)) = some (4113, 4232) := by kernel_rfl
theorem infoBz : (Try.prog.info? 79).bind (fun i => i.zero.map fun z => z.cells.toList) = some ((List.range 4113).map fun j => Value.int (kdAt j) 0) := by kernel_rfl
theorem zeroB : ∃ (i : TypeInfo) (z : Value), Try.prog.info? 79 = some i ∧ i.zero = some z ∧ i.size = 4113 ∧ i.bytes = 4232 ∧ z.cells.toList = (List.range 4113).map fun j => Value.int (kdAt j) 0 := by
  obtain ⟨i, hi, h⟩ := Option.bind_eq_some_iff.1 infoBz
  obtain ⟨z, hz, h2⟩ := Option.map_eq_some_iff.1 h
  have h3 := infoB
  rw [hi] at h3
  simp only [Option.map_some, Option.some.injEq, Prod.mk.injEq] at h3
  exact ⟨i, z, hi, hz, h3.1, h3.2, h2⟩
theorem kdAt_mod (i : Nat) : kdAt (i % 4113) = kdAt i := by unfold kdAt; rw [Nat.mod_mod]
def newF (n : Nat) : Fl := { n := n, cap := n, c := fun _ => 0, fuse := 0, keep := 0, down := false }
theorem made_at {Z : Array Value} (hz : Z.toList = (List.range 4113).map fun j => Value.int (kdAt j) 0) (m i : Nat) (hi : i < m) : (madeCells Z m)[i]? = some (.int (kdAt i) 0) := by
  have hl : Z.size = 4113 := by rw [← Array.length_toList, hz]; simp
  have hm : i % 4113 < 4113 := Nat.mod_lt _ (by omega)
  have h0 : Z[i % 4113]! = .int (kdAt i) 0 := by
    rw [getElem!_pos Z (i % 4113) (by omega), ← Array.getElem_toList]
    simp [hz, kdAt_mod]
  unfold madeCells
  rw [hl, Array.getElem?_map, Array.getElem?_range, if_pos hi]
  simp [h0]
theorem new_bad (n : Int) (w : World) (h : n < 1 ∨ 1024 < n) : Calls Try.prog 7 #[.int .i64 n] w fun e w' => e = .returned (.tuple #[.pointer none, .int .i64 1]) ∧ w = w' := by
  by_cases h1 : n < 1
  · have g1 : decide (n < 1) = true := decide_eq_true h1
    clear h h1
    go_enter Try.func7, Try.ntmps7
    go_wp2
    go_ret2
    exact ⟨rfl, rfl⟩
  · have g1 : decide (n < 1) = false := decide_eq_false h1
    have g2 : decide (1024 < n) = true := decide_eq_true (by omega)
    clear h h1
    go_enter Try.func7, Try.ntmps7
    go_wp2
    go_ret2
    exact ⟨rfl, rfl⟩
theorem new_is (n : Nat) (w : World) (h1 : 1 ≤ n) (h2 : n ≤ 1024) : Calls Try.prog 7 #[.int .i64 (n : Int)] w fun e w' => e = .returned (.tuple #[.pointer (some ⟨w.heap.size + 1, 0, none⟩), .int .i64 0]) ∧ IsF w' (w.heap.size + 1) w.heap.size (newF n) ∧ Below w.heap.size w w' := by
  obtain ⟨i0, z, hi, hz, hs, hb, hc⟩ := zeroB
  have hmk : ∀ u : World, (Instr.makeSlice 45 (.int .i64 (n : Int)) (.int .i64 (n : Int))).run Try.prog u = .ok (.slice (some ⟨u.heap.size, 0, none⟩) n n) (u.alloc (.cells (madeCells z.cells (n * 4113)) 79)) := fun u => by
    have h := run_make (P := Try.prog) u 45 79 i0 z Try.underlying45 hi hz .i64 .i64 (n : Int) (n : Int) (by omega) (Int.le_refl _) (by rw [hb]; omega) (by omega)
    rw [Int.toNat_natCast, hs] at h
    exact h
  obtain ⟨Z, hZ⟩ : ∃ Z, z.cells = Z := ⟨_, rfl⟩
  rw [hZ] at hmk hc
  have HC := Lib.hid hc
  have g1 : decide ((n : Int) < 1) = false := decide_eq_false (by omega)
  have g2 : decide (1024 < (n : Int)) = false := decide_eq_false (by omega)
  have H1 := Lib.hid h1
  have H2 := Lib.hid h2
  clear hi hz hs hb hc h1 h2 hZ
  go_enter Try.func7, Try.ntmps7
  go_wp2
  go_ret2
  refine ⟨rfl, ⟨?_, ?_, by omega, H1.out, H2.out, Nat.le_refl _⟩, ((Below.refl _ _).alloc (Nat.le_refl _) _).alloc (by simp) _⟩
  · show ((w.heap.push _).push _)[w.heap.size + 1]? = _
    rw [Array.getElem?_push, if_pos (by simp)]
    rfl
  · refine ⟨madeCells Z (n * 4113), ?_, by simp [newF, size_madeCells], fun i hi => made_at HC.out _ i hi⟩
    show ((w.heap.push _).push _)[w.heap.size]? = _
    rw [Array.getElem?_push, if_neg (by simp), Array.getElem?_push, if_pos rfl]
end Go.Proofs.Ytandhpnpodkemaa.M
end

section
/- Contracts of a flash's at, Read and Wear. -/
set_option linter.unusedVariables false
set_option linter.unusedSimpArgs false
set_option maxRecDepth 100000
namespace Go.Proofs.Ytandhpnpodkemaa.M
open Go.RowKit
theorem kdAt_st {b p : Nat} (hp : p < 16) : kdAt (b * 4113 + p * 257) = .i64 := by
  have h1 : (b * 4113 + p * 257) % 4113 = p * 257 := by omega
  unfold kdAt
  rw [h1, if_neg (by omega), if_pos (by omega)]
theorem kdAt_data {b p i : Nat} (hp : p < 16) (hi : i < 256) : kdAt (b * 4113 + p * 257 + 1 + i) = .u8 := by
  have h1 : (b * 4113 + p * 257 + 1 + i) % 4113 = p * 257 + 1 + i := by omega
  unfold kdAt
  rw [h1, if_neg (by omega), if_neg (by omega)]
theorem kdAt_wear (b : Nat) : kdAt (b * 4113 + 4112) = .i64 := by
  have h1 : (b * 4113 + 4112) % 4113 = 4112 := by omega
  unfold kdAt
  rw [if_pos h1]
namespace IsF
variable {w w' : World} {f g : Nat} {fl : Fl}
theorem st (h : IsF w f g fl) {b p : Nat} (hb : b < fl.n) (hp : p < 16) : w.cell? ⟨g, b * 4113 + p * 257, none⟩ = some (.int .i64 (fl.c (b * 4113 + p * 257))) := by
  have := h.gc (i := b * 4113 + p * 257) (by omega)
  rw [kdAt_st hp] at this
  exact this
theorem data (h : IsF w f g fl) {b p i : Nat} (hb : b < fl.n) (hp : p < 16) (hi : i < 256) : w.cell? ⟨g, b * 4113 + p * 257 + 1 + i, none⟩ = some (.int .u8 (fl.c (b * 4113 + p * 257 + 1 + i))) := by
  have := h.gc (i := b * 4113 + p * 257 + 1 + i) (by omega)
  rw [kdAt_data hp hi] at this
  exact this
theorem wear (h : IsF w f g fl) {b : Nat} (hb : b < fl.n) : w.cell? ⟨g, b * 4113 + 4112, none⟩ = some (.int .i64 (fl.c (b * 4113 + 4112))) := by
  have := h.gc (i := b * 4113 + 4112) (by omega)
  rw [kdAt_wear] at this
  exact this
end IsF
def atE (fl : Fl) (b p : Nat) : Int := if fl.c (b * 4113 + p * 257) = 0 then 21 else if fl.c (b * 4113 + p * 257) = 1 then 22 else 0
def atP (fl : Fl) (g b p : Nat) : Value := if atE fl b p = 0 then .pointer (some ⟨g, b * 4113 + p * 257, none⟩) else .pointer none
theorem at_is {w : World} {f g : Nat} {fl : Fl} (h : IsF w f g fl) {b p : Nat} (hb : b < fl.n) (hp : p < 16) :
    Calls Try.prog 45 #[.pointer (some ⟨f, 0, none⟩), .int .i64 (b : Int), .int .i64 (p : Int)] w fun e w' => e = .returned (.tuple #[atP fl g b p, .int .i64 (atE fl b p)]) ∧ w = w' := by
  have h0 := h.c0
  have hs := h.st hb hp
  have hb0 : (0 : Int) ≤ (b : Int) := by omega
  have hb1 : (b : Int) < (fl.n : Int) := by omega
  have hp0 : (0 : Int) ≤ (p : Int) := by omega
  have hp1 : (p : Int) < 16 := by omega
  obtain ⟨s, hss⟩ : ∃ s, fl.c (b * 4113 + p * 257) = s := ⟨_, rfl⟩
  rw [hss] at hs
  obtain ⟨P, HP⟩ : ∃ P, RowKit.Hid (atP fl g b p = P) := ⟨_, Lib.hid rfl⟩
  obtain ⟨E, HE⟩ : ∃ E, RowKit.Hid (atE fl b p = E) := ⟨_, Lib.hid rfl⟩
  rw [HP.out, HE.out]
  by_cases s0 : s = 0
  · subst s0
    have he : atE fl b p = 21 := by unfold atE; rw [if_pos hss]
    have e1 : E = 21 := by rw [← HE.out]; exact he
    have e2 : P = .pointer none := by rw [← HP.out]; unfold atP; rw [if_neg (by rw [he]; decide)]
    subst e1 e2
    clear hss HP HE he
    go_enter Try.func45, Try.ntmps45
    go_wp2
    go_ret2
    exact ⟨rfl, rfl⟩
  · have g0 : (s == 0) = false := beq_eq_false_iff_ne.2 s0
    by_cases s1 : s = 1
    · subst s1
      have he : atE fl b p = 22 := by unfold atE; rw [hss]; rfl
      have e1 : E = 22 := by rw [← HE.out]; exact he
      have e2 : P = .pointer none := by rw [← HP.out]; unfold atP; rw [if_neg (by rw [he]; decide)]
      subst e1 e2
      clear hss HP HE he s0
      go_enter Try.func45, Try.ntmps45
      go_wp2
      go_ret2
      exact ⟨rfl, rfl⟩
    · have g1 : (s == 1) = false := beq_eq_false_iff_ne.2 s1
      have he : atE fl b p = 0 := by unfold atE; rw [hss, if_neg s0, if_neg s1]
      have e1 : E = 0 := by rw [← HE.out]; exact he
      have e2 : P = .pointer (some ⟨g, b * 4113 + p * 257, none⟩) := by rw [← HP.out]; unfold atP; rw [if_pos he]
      subst e1 e2
      clear hss HP HE he s0 s1
      go_enter Try.func45, Try.ntmps45
      go_wp2
      go_ret2
      exact ⟨rfl, rfl⟩
end Go.Proofs.Ytandhpnpodkemaa.M
end

section
/- Contract of bytes.Clone. -/
set_option linter.unusedVariables false
set_option linter.unusedSimpArgs false
namespace Go.Proofs.Ytandhpnpodkemaa.M
open Go.RowKit Go.Proofs.YtandhpnpodkemaaW.PrintWords Go.Proofs.YtandhpnpodkemaaW.PrintLast Go.Proofs.YtandhpnpodkemaaW.PrintMore
theorem infoU8 : (Try.prog.info? 5).map (fun i => (i.zero, i.size, i.bytes)) = some (some (.int .u8 0), 1, 1) := by kernel_rfl
theorem C_none {w : World} {k : IntKind} {n : Nat} {xs : List Int} (h : Kd.C (Kd.int k) w none n xs) : n = 0 ∧ xs = [] := by
  have hn : n = 0 := by
    rcases Nat.eq_zero_or_pos n with h0 | h0
    · exact h0
    · obtain ⟨ad, e, _⟩ := h.2.2 h0
      cases e
  exact ⟨hn, List.eq_nil_of_length_eq_zero (h.1.trans hn)⟩
def Own (w : World) (base : Nat) (v : Value) (l : List Int) : Prop := Kd.R (Kd.int .u8) 5 w base (fun _ => True) v l
theorem own_empty (w : World) : Own (w.alloc (.cells #[] 5)) w.heap.size (.slice (some ⟨w.heap.size, 0, none⟩) 0 0) [] :=
  Kd.R_of_own (by
    exact ⟨rfl, .inr ⟨w.heap.size, 0, #[], rfl, Nat.le_refl _, heap_alloc_new w _, Nat.le_refl _, Nat.zero_le _, rfl, rfl⟩⟩) (fun _ _ => trivial)
theorem bclone_calls (A : Option Addr) (c : Nat) (l : List Int) (w : World) (hr : Kd.C (Kd.int .u8) w A l.length l) (hc : l.length ≤ c) (hl : l.length < 140737488355328) :
    Calls Try.prog 10 #[.slice A l.length c] w fun e w' => ∃ v0_ : Value, e = .returned v0_ ∧ Own w' w.heap.size v0_ l ∧ Below w.heap.size w w' := by
  have qT : ∀ (w : World) (a : Option Addr) (n c n' c' : Nat), (binOp .eql 29 (.slice a n c) (.slice none n' c')).run Try.prog w = .ok (.bool a.isNone) w := fun w a n c n' c' => Lib.run_eql_slice_nil w _ _ a n c n' c' Try.underlying29
  have HR := Aside0.mk hr
  have HL := Aside0.mk hl
  clear hr hl
  rcases A with _ | ad
  · obtain ⟨_, rfl⟩ := C_none HR.out
    go_enter Try.func10, Try.ntmps10
    go_wp2
    go_ret
    exact ⟨_, rfl, Kd.R_nil _ _ _ _ _, Below.refl _ _⟩
  · go_enter Try.func10, Try.ntmps10
    have HE := Aside0.mk (show Own (w.alloc (.cells #[] 5)) w.heap.size (.slice (some ⟨w.heap.size, 0, none⟩) 0 0) [] from own_empty w)
    go_wp2_with ((with_reducible refine gate_builtin (b := .append) (xs := #[.tmp 5, .tmp 6]) rfl ?_); at_builtin; refine Kd.R_append_rows (Kd.int .u8) (w0 := w) w.heap.size rfl (.tmp 5) (.tmp 6) 29 5 (.int .u8 0) 1 rfl Try.underlying29 infoU8 rfl (by decide) (by omega) _ ([] : List Int) l _ _ _ (fun _ => True) (fun _ => False) rfl rfl HE.out (Kd.C_alloc HR.out _) (fun _ _ h => h) (fun _ h => h.elim) (fun _ _ => trivial) ((Below.refl _ _).alloc (Nat.le_refl _) _) (by simp) (by have := HL.out; simp; omega) ?_; intro v1 w1 ho hb _ _)
    go_ret
    exact ⟨_, rfl, ho, hb⟩
end Go.Proofs.Ytandhpnpodkemaa.M
end

section
/- Contract of a flash's Read. -/
set_option linter.unusedVariables false
set_option linter.unusedSimpArgs false
set_option maxRecDepth 100000
namespace Go.Proofs.Ytandhpnpodkemaa.M
open Go.RowKit Go.Proofs.YtandhpnpodkemaaW.PrintWords
def okAt (fl : Fl) (b p : Int) : Bool := (decide (0 ≤ b) && decide (b < (fl.n : Int))) && (decide (0 ≤ p) && decide (p < 16))
def pgL (fl : Fl) (b p : Nat) : List Int := (List.range 256).map fun i => fl.c (b * 4113 + p * 257 + 1 + i)
def readE (fl : Fl) (b p : Int) : Int := if looksE fl (okAt fl b p) = 0 then atE fl b.toNat p.toNat else looksE fl (okAt fl b p)
def readL (fl : Fl) (b p : Int) : List Int := if readE fl b p = 0 then pgL fl b.toNat p.toNat else []
theorem okAt_of {fl : Fl} {b p : Int} (h : looksE fl (okAt fl b p) = 0) : 0 ≤ b ∧ b < (fl.n : Int) ∧ 0 ≤ p ∧ p < 16 := by
  unfold looksE at h
  split at h
  · omega
  · split at h
    · rename_i h2
      unfold okAt at h2
      simp only [Bool.and_eq_true, decide_eq_true_eq] at h2
      exact ⟨h2.1.1, h2.1.2, h2.2.1, h2.2.2⟩
    · omega
theorem IsF.pg {w : World} {f g : Nat} {fl : Fl} (h : IsF w f g fl) {b p : Nat} (hb : b < fl.n) (hp : p < 16) : Kd.C (Kd.int .u8) w (some ⟨g, b * 4113 + p * 257 + 1, none⟩) (pgL fl b p).length (pgL fl b p) := by
  refine Kd.C_of_reads (d := (0 : Int)) (h1 := fun _ => rfl) ⟨rfl, by simp [pgL], fun hl => ⟨_, rfl, fun j hj => ?_⟩⟩
  have hj' : j < 256 := by simpa [pgL] using hj
  have := h.data hb hp hj'
  rw [show (⟨g, b * 4113 + p * 257 + 1, none⟩ : Addr).add j = ⟨g, b * 4113 + p * 257 + 1 + j, none⟩ from by simp [Addr.add], this]
  simp [pgL, List.getD_eq_getElem?_getD, List.getElem?_range hj']
theorem Own.lower {W : World} {base base' : Nat} {v : Value} {l : List Int} (h : Own W base v l) (hb : base' ≤ base) : Own W base' v l := Kd.R_lower h hb
theorem read1 {w : World} {f g : Nat} {fl : Fl} (h : IsF w f g fl) (B : Nat) (b p : Int) (h0 : w.cell? ⟨B, 0, none⟩ = some (.pointer (some ⟨f, 0, none⟩))) (h1 : w.cell? ⟨B + 1, 0, none⟩ = some (.int .i64 b)) (h2 : w.cell? ⟨B + 1 + 1, 0, none⟩ = some (.int .i64 p)) :
    Calls Try.prog 44 #[.pointer (some ⟨B, 0, none⟩), .pointer (some ⟨B + 1, 0, none⟩), .pointer (some ⟨B + 1 + 1, 0, none⟩)] w fun e w' => e = .returned (.bool (okAt fl b p)) ∧ w = w' := by
  have HI := Lib.hid (is_calls h b)
  have HP := Lib.hid (place_calls p w)
  obtain ⟨r, hr⟩ : ∃ r, RowKit.Hid (okAt fl b p = r) := ⟨_, Lib.hid rfl⟩
  rw [hr.out]
  cases hq : (decide (0 ≤ b) && decide (b < (fl.n : Int))) with
  | true =>
    obtain ⟨s, hs⟩ : ∃ s, (decide (0 ≤ p) && decide (p < 16)) = s := ⟨_, rfl⟩
    rw [hq] at HI
    rw [hs] at HP
    have HRS := Lib.hid (show s = r by rw [← hr.out]; unfold okAt; rw [hq, hs]; rfl)
    clear hq hs h
    go_enter Try.func44, Try.ntmps44
    go_wp2_with (first | (go_at_call 33; refine HI.out.mono ?_; rintro e w' ⟨rfl, rfl⟩) | (go_at_call 34; refine HP.out.mono ?_; rintro e w' ⟨rfl, rfl⟩))
    go_ret
    exact ⟨by rw [← HRS.out]; rfl, rfl⟩
  | false =>
    rw [hq] at HI
    have HRS := Lib.hid (show false = r by rw [← hr.out]; unfold okAt; rw [hq]; rfl)
    clear hq h
    go_enter Try.func44, Try.ntmps44
    go_wp2_with (first | (go_at_call 33; refine HI.out.mono ?_; rintro e w' ⟨rfl, rfl⟩) | (go_at_call 34; refine HP.out.mono ?_; rintro e w' ⟨rfl, rfl⟩))
    go_ret
    exact ⟨by rw [← HRS.out]; rfl, rfl⟩
theorem read_is {w : World} {f g : Nat} {fl : Fl} (h : IsF w f g fl) (b p : Int) :
    Calls Try.prog 16 #[.pointer (some ⟨f, 0, none⟩), .int .i64 b, .int .i64 p] w fun e w' => ∃ v, e = .returned (.tuple #[v, .int .i64 (readE fl b p)]) ∧ Own w' w.heap.size v (readL fl b p) ∧ Below w.heap.size w w' := by
  have hmf : ∀ (fn : Fn) (first cap : Array Value) (w : World), (Instr.makeFunc fn first cap).run Try.prog w = .ok (.func fn first cap) w := fun _ _ _ _ => rfl
  have hI3 := ((h.alloc (.cells #[.pointer (some ⟨f, 0, none⟩)] 23)).alloc (.cells #[.int .i64 b] 3)).alloc (.cells #[.int .i64 p] 3)
  have HI3 := Lib.hid hI3
  have hL := Lib.hid (looks_is hI3 44 #[.pointer (some ⟨w.heap.size, 0, none⟩), .pointer (some ⟨w.heap.size + 1, 0, none⟩), .pointer (some ⟨w.heap.size + 1 + 1, 0, none⟩)] (okAt fl b p) (enter_any _ _ _ Try.func44 rfl (by kernel_rfl)) (read1 hI3 w.heap.size b p (by simp [go_sem]) (by simp [go_sem]) (by simp [go_sem])))
  have HBL := Lib.hid (show Below w.heap.size w (((w.alloc (.cells #[.pointer (some ⟨f, 0, none⟩)] 23)).alloc (.cells #[.int .i64 b] 3)).alloc (.cells #[.int .i64 p] 3)) from (((Below.refl _ _).alloc (Nat.le_refl _) _).alloc (by simp) _).alloc (by simp; omega) _)
  obtain ⟨E, HE⟩ : ∃ E, RowKit.Hid (readE fl b p = E) := ⟨_, Lib.hid rfl⟩
  obtain ⟨L, HL⟩ : ∃ L, RowKit.Hid (readL fl b p = L) := ⟨_, Lib.hid rfl⟩
  rw [HE.out, HL.out]
  clear h hI3
  by_cases hz : looksE fl (okAt fl b p) = 0
  · obtain ⟨b0, b1, p0, p1⟩ := okAt_of hz
    obtain ⟨b, rfl⟩ := Int.eq_ofNat_of_zero_le b0
    obtain ⟨p, rfl⟩ := Int.eq_ofNat_of_zero_le p0
    have hb : b < fl.n := by omega
    have hp : p < 16 := by omega
    have HA := Lib.hid (at_is HI3.out hb hp)
    have he : readE fl (b : Int) (p : Int) = atE fl b p := by unfold readE; rw [if_pos hz]; simp
    rw [hz] at hL
    by_cases ha : atE fl b p = 0
    · have HC := Lib.hid (HI3.out.pg hb hp)
      have HE0 := Lib.hid (show E = 0 by rw [← HE.out, he, ha])
      have HLL := Lib.hid (show L = pgL fl b p by rw [← HL.out]; unfold readL; rw [if_pos (by rw [he, ha])]; simp)
      have hlen : (pgL fl b p).length = 256 := by simp [pgL]
      unfold atP at HA
      rw [if_pos ha, ha] at HA
      rw [HE0.out, HLL.out]
      have HLN := Lib.hid hlen
      obtain ⟨q, HQ⟩ : ∃ q, RowKit.Hid (b * 4113 + p * 257 = q) := ⟨_, Lib.hid rfl⟩
      rw [HQ.out] at HA HC
      clear he ha hz b0 b1 p0 p1 hb hp hlen
      go_enter Try.func16, Try.ntmps16
      go_wp2_with (first | (go_at_call 31; refine hL.out.mono ?_; rintro e w' ⟨rfl, rfl⟩) | (go_at_call 45; refine HA.out.mono ?_; rintro e w' ⟨rfl, rfl⟩) | (go_at_call 10; refine ((HLN.out ▸ bclone_calls (some ⟨g, q + 1, none⟩) 256 (pgL fl b p) _ HC.out (by rw [HLN.out]; omega) (by rw [HLN.out]; omega))).mono ?_; rintro e w' ⟨v, rfl, ho, hbl⟩; have HO := Lib.hid ho; have HB2 := Lib.hid hbl; clear ho hbl))
      go_ret2
      exact ⟨_, rfl, HO.out.lower HBL.out.size, HBL.out.trans (HB2.out.mono HBL.out.size)⟩
    · have HEE := Lib.hid (show E = atE fl b p by rw [← HE.out, he])
      have HLL := Lib.hid (show L = [] by rw [← HL.out]; unfold readL; rw [if_neg (by rw [he]; exact ha)])
      unfold atP at HA
      rw [if_neg ha] at HA
      obtain ⟨x, hx⟩ : ∃ x, atE fl b p = x := ⟨_, rfl⟩
      rw [hx] at HA HEE ha
      have hne : (x != 0) = true := bne_iff_ne.2 ha
      rw [HEE.out, HLL.out]
      clear he ha hz b0 b1 p0 p1 hb hp hx
      go_enter Try.func16, Try.ntmps16
      go_wp2_with (first | (go_at_call 31; refine hL.out.mono ?_; rintro e w' ⟨rfl, rfl⟩) | (go_at_call 45; refine HA.out.mono ?_; rintro e w' ⟨rfl, rfl⟩))
      go_ret2
      exact ⟨_, rfl, Kd.R_nil _ _ _ _ _, HBL.out⟩
  · have he : readE fl b p = looksE fl (okAt fl b p) := by unfold readE; rw [if_neg hz]
    have HEE := Lib.hid (show E = looksE fl (okAt fl b p) by rw [← HE.out, he])
    have HLL := Lib.hid (show L = [] by rw [← HL.out]; unfold readL; rw [if_neg (by rw [he]; exact hz)])
    obtain ⟨x, hx⟩ : ∃ x, looksE fl (okAt fl b p) = x := ⟨_, rfl⟩
    rw [hx] at hL HEE hz
    have hne : (x != 0) = true := bne_iff_ne.2 hz
    rw [HEE.out, HLL.out]
    clear he hz hx
    go_enter Try.func16, Try.ntmps16
    go_wp2_with (go_at_call 31; refine hL.out.mono ?_; rintro e w' ⟨rfl, rfl⟩)
    go_ret2
    exact ⟨_, rfl, Kd.R_nil _ _ _ _ _, HBL.out⟩
end Go.Proofs.Ytandhpnpodkemaa.M
end

section
/- What has turned lies in the blocks of S, or is new. -/
set_option linter.unusedVariables false
set_option linter.unusedSimpArgs false
namespace Go.Proofs.Ytandhpnpodkemaa.M
open Go.RowKit Go.Proofs.YtandhpnpodkemaaW.PrintWords
structure KeepS (S : Nat → Prop) (w w' : World) : Prop where
  os : w'.os = w.os
  tape : w'.tape = w.tape
  output : w'.output = w.output
  size : w.heap.size ≤ w'.heap.size
  block : ∀ i, i < w.heap.size → ¬ S i → w'.heap[i]? = w.heap[i]?
namespace KeepS
variable {S S' : Nat → Prop} {x y z : World}
theorem refl (S : Nat → Prop) (w : World) : KeepS S w w := ⟨rfl, rfl, rfl, Nat.le_refl _, fun _ _ _ => rfl⟩
theorem trans (h : KeepS S x y) (k : KeepS S y z) : KeepS S x z :=
  ⟨k.os.trans h.os, k.tape.trans h.tape, k.output.trans h.output, Nat.le_trans h.size k.size, fun i hi hs => (k.block i (Nat.lt_of_lt_of_le hi h.size) hs).trans (h.block i hi hs)⟩
theorem mono (h : KeepS S x y) (hs : ∀ i, S i → S' i) : KeepS S' x y := ⟨h.os, h.tape, h.output, h.size, fun i hi hn => h.block i hi (fun e => hn (hs i e))⟩
theorem of_below (S : Nat → Prop) (h : Below x.heap.size x y) : KeepS S x y := ⟨h.os, h.tape, h.output, h.size, fun i hi _ => h.block i hi⟩
theorem then_below (h : KeepS S x y) (k : Below y.heap.size y z) : KeepS S x z := h.trans (of_below S k)
theorem then_base (h : KeepS S x y) (k : Below x.heap.size y z) : KeepS S x z :=
  ⟨k.os.trans h.os, k.tape.trans h.tape, k.output.trans h.output, Nat.le_trans h.size k.size, fun i hi hs => (k.block i hi).trans (h.block i hi hs)⟩
theorem set (h : KeepS S x y) {p : Addr} (hp : S p.block ∨ x.heap.size ≤ p.block) (v : Value) : KeepS S x (y.setCell p v) :=
  ⟨h.os, h.tape, h.output, by simpa [World.setCell] using h.size, fun i hi hn => (Below.heap_setCell y p v i (by rcases hp with hp | hp; exact fun e => hn (e ▸ hp); exact fun e => by omega)).trans (h.block i hi hn)⟩
theorem alloc (h : KeepS S x y) (o : Obj) : KeepS S x (y.alloc o) := h.then_below ((Below.refl _ y).alloc (Nat.le_refl _) o)
theorem drew (h : KeepS S x y) : KeepS S x y.drew := ⟨h.os, h.tape, h.output, h.size, h.block⟩
theorem drewN (h : KeepS S x y) (n : Nat) : KeepS S x (y.drewN n) := ⟨h.os, h.tape, h.output, h.size, h.block⟩
theorem cell (h : KeepS S x y) {p : Addr} (hp : p.block < x.heap.size) (hs : ¬ S p.block) : y.cell? p = x.cell? p := World.cell?_of_block (h.block p.block hp hs)
theorem frozen (h : KeepS S x y) {p : Addr} (hp : p.block < x.heap.size) (hs : ¬ S p.block) : y.frozen? p = x.frozen? p := World.frozen?_of_block (h.block p.block hp hs)
theorem below (h : KeepS S x y) {B : Nat} (hB : B ≤ x.heap.size) (hs : ∀ i, S i → B ≤ i) : Below B x y :=
  ⟨h.os, h.tape, h.output, h.size, fun i hi => h.block i (Nat.lt_of_lt_of_le hi hB) (fun e => by have := hs i e; omega)⟩
theorem foot (h : KeepS S x y) {α : Type} {d : Kd α} {ok : Nat → Prop} {A : Option Addr} {n : Nat} {xs : List α} (hf : Kd.F d x ok A n xs) (hok : ∀ i, ok i → ¬ S i) : Kd.F d y ok A n xs := Kd.F_step hf (fun i hi hlt => h.block i hlt (hok i hi))
end KeepS
end Go.Proofs.Ytandhpnpodkemaa.M
end

section
/- The reference's flash in memory: its object q, its row ob of the blocks' rows of pages, its row wb of wear. -/
set_option linter.unusedVariables false
set_option linter.unusedSimpArgs false
namespace Go.Proofs.Ytandhpnpodkemaa.M
open Go.RowKit Go.Proofs.YtandhpnpodkemaaW.PrintWords
structure PgD where
  has : Bool
  torn : Bool
  b : List Int
def BRow (w : World) (bv : Value) (l : List Int) : Prop := (bv = .slice none 0 0 ∧ l = []) ∨ ∃ (bb cb : Nat) (cur : Array Value), bv = .slice (some ⟨bb, 0, none⟩) l.length cb ∧ l.length ≤ cb ∧ l.length ≤ 256 ∧ w.heap[bb]? = some (.cells cur 5 (0, 0)) ∧ ∀ (i : Nat) (x : Int), l[i]? = some x → cur[i]? = some (.int .u8 x)
def PgRow (w : World) (v : Value) (L : Nat → PgD) : Prop := ∃ (g cap : Nat) (cur : Array Value), v = .slice (some ⟨g, 0, none⟩) 16 cap ∧ 16 ≤ cap ∧ w.heap[g]? = some (.cells cur 90 (0, 0)) ∧ ∀ p, p < 16 → cur[p * 3]? = some (.bool (L p).has) ∧ cur[p * 3 + 1]? = some (.bool (L p).torn) ∧ ∃ bv, cur[p * 3 + 2]? = some bv ∧ BRow w bv (L p).b
def pgOf (fl : Fl) (b p : Nat) : PgD := ⟨decide (fl.c (b * 4113 + p * 257) ≠ 0), decide (fl.c (b * 4113 + p * 257) = 1), if fl.c (b * 4113 + p * 257) = 0 ∨ fl.c (b * 4113 + p * 257) = 1 then [] else pgL fl b p⟩
structure IsR (w : World) (q ob wb : Nat) (fl : Fl) : Prop where
  y : ∃ (kr : Int) (co : Nat), w.heap[q]? = some (.cells #[.slice (some ⟨ob, 0, none⟩) fl.n co, .slice (some ⟨wb, 0, none⟩) fl.n fl.n, .int .i64 fl.fuse, .int .i64 kr, .bool fl.down] 67 (0, 0)) ∧ keepV kr = fl.keep ∧ fl.n ≤ co
  o : ∃ cur : Array Value, w.heap[ob]? = some (.cells cur 91 (0, 0)) ∧ ∀ b, b < fl.n → ∃ v, cur[b]? = some v ∧ PgRow w v (pgOf fl b)
  wr : ∃ cur : Array Value, w.heap[wb]? = some (.cells cur 2 (0, 0)) ∧ ∀ b, b < fl.n → cur[b]? = some (.int .i64 (fl.c (b * 4113 + 4112)))
  n1 : 1 ≤ fl.n
  n2 : fl.n ≤ 1024
def Tp (w : World) (k : Nat) : Prop := ∃ (cur : Array Value) (t : TypeId), w.heap[k]? = some (.cells cur t (0, 0)) ∧ (t = 90 ∨ t = 5)
theorem not_tp {w : World} {k : Nat} {cur : Array Value} {t : TypeId} (h : w.heap[k]? = some (.cells cur t (0, 0))) (h1 : t ≠ 90) (h2 : t ≠ 5) : ¬ Tp w k := by
  rintro ⟨cur', t', h', ht⟩
  rw [h] at h'
  injection h' with h'
  injection h' with _ h'
  subst h'
  rcases ht with ht | ht
  · exact h1 ht
  · exact h2 ht
theorem heap_ltc {w : World} {k : Nat} {o : Obj} (h : w.heap[k]? = some o) : k < w.heap.size := (Array.getElem?_eq_some_iff.1 h).1
section
variable {w w' : World} {v bv : Value} {l : List Int} {L : Nat → PgD} {S : Nat → Prop} {q ob wb : Nat} {fl : Fl}
theorem BRow.keep (h : BRow w bv l) (hk : KeepS S w w') (hs : ∀ k, S k → ¬ Tp w k) : BRow w' bv l := by
  rcases h with h | ⟨bb, cb, cur, e, h1, h2, h3, h4⟩
  · exact .inl h
  · exact .inr ⟨bb, cb, cur, e, h1, h2, (hk.block bb (heap_ltc h3) (fun e => hs bb e ⟨cur, _, h3, .inr rfl⟩)).trans h3, h4⟩
theorem PgRow.keep (h : PgRow w v L) (hk : KeepS S w w') (hs : ∀ k, S k → ¬ Tp w k) : PgRow w' v L := by
  obtain ⟨g, cap, cur, e, h1, h2, h3⟩ := h
  refine ⟨g, cap, cur, e, h1, (hk.block g (heap_ltc h2) (fun e => hs g e ⟨cur, _, h2, .inl rfl⟩)).trans h2, fun p hp => ?_⟩
  obtain ⟨a, b, bv, c, d⟩ := h3 p hp
  exact ⟨a, b, bv, c, d.keep hk hs⟩
theorem PgRow.below (h : PgRow w v L) (hb : Below w.heap.size w w') : PgRow w' v L := h.keep (KeepS.of_below (fun _ => False) hb) (fun _ e => e.elim)
theorem BRow.below (h : BRow w bv l) (hb : Below w.heap.size w w') : BRow w' bv l := h.keep (KeepS.of_below (fun _ => False) hb) (fun _ e => e.elim)
theorem IsR.keep (h : IsR w q ob wb fl) (hk : KeepS S w w') (hs : ∀ k, S k → ¬ Tp w k) (h1 : ¬ S q) (h2 : ¬ S ob) (h3 : ¬ S wb) : IsR w' q ob wb fl := by
  obtain ⟨⟨kr, co, hy, hkr, hco⟩, ⟨cur, ho, ho2⟩, ⟨cw, hw, hw2⟩, n1, n2⟩ := h
  refine ⟨⟨kr, co, (hk.block q (heap_ltc hy) h1).trans hy, hkr, hco⟩, ⟨cur, (hk.block ob (heap_ltc ho) h2).trans ho, fun b hb => ?_⟩, ⟨cw, (hk.block wb (heap_ltc hw) h3).trans hw, hw2⟩, n1, n2⟩
  obtain ⟨v, hv, hp⟩ := ho2 b hb
  exact ⟨v, hv, hp.keep hk hs⟩
theorem IsR.below (h : IsR w q ob wb fl) (hb : Below w.heap.size w w') : IsR w' q ob wb fl := h.keep (KeepS.of_below (fun _ => False) hb) (fun _ e => e.elim) (fun e => e) (fun e => e) (fun e => e)
theorem IsR.qlt (h : IsR w q ob wb fl) : q < w.heap.size := by obtain ⟨kr, co, hy, _⟩ := h.y; exact heap_ltc hy
theorem IsR.olt (h : IsR w q ob wb fl) : ob < w.heap.size := by obtain ⟨cur, ho, _⟩ := h.o; exact heap_ltc ho
theorem IsR.wlt (h : IsR w q ob wb fl) : wb < w.heap.size := by obtain ⟨cur, ho, _⟩ := h.wr; exact heap_ltc ho
theorem blk_ne {w : World} {a b : Nat} {x y : Array Value} {s t : TypeId} (h : w.heap[a]? = some (.cells x s (0, 0))) (k : w.heap[b]? = some (.cells y t (0, 0))) (hne : s ≠ t) : a ≠ b := by
  rintro rfl
  rw [h] at k
  injection k with k
  injection k with _ k
  exact hne k
theorem IsR.apart (h : IsR w q ob wb fl) : q ≠ ob ∧ q ≠ wb ∧ ob ≠ wb ∧ ¬ Tp w q ∧ ¬ Tp w ob ∧ ¬ Tp w wb := by
  obtain ⟨kr, co, hy, _⟩ := h.y
  obtain ⟨cur, ho, _⟩ := h.o
  obtain ⟨cw, hw, _⟩ := h.wr
  exact ⟨blk_ne hy ho (by decide), blk_ne hy hw (by decide), blk_ne ho hw (by decide), not_tp hy (by decide) (by decide), not_tp ho (by decide) (by decide), not_tp hw (by decide) (by decide)⟩
theorem BRow.reads (h : BRow w bv l) : ∃ A c, bv = .slice A l.length c ∧ l.length ≤ c ∧ l.length ≤ 256 ∧ Kd.C (Kd.int .u8) w A l.length l := by
  rcases h with ⟨rfl, rfl⟩ | ⟨bb, cb, cur, rfl, h1, h2, h3, h4⟩
  · exact ⟨none, 0, rfl, Nat.le_refl _, by simp, Kd.C_of_reads (d := (0 : Int)) (h1 := fun _ => rfl) ⟨rfl, by simp, fun h => absurd h (Nat.lt_irrefl 0)⟩⟩
  · refine ⟨_, cb, rfl, h1, h2, Kd.C_of_reads (d := (0 : Int)) (h1 := fun _ => rfl) ⟨rfl, by omega, fun hl => ⟨_, rfl, fun j hj => ?_⟩⟩⟩
    rw [add_at, Nat.zero_add, cell_of_row w bb _ cur _ (0, 0) h3]
    have := h4 j l[j] (List.getElem?_eq_getElem hj)
    rw [this]
    simp [List.getD_eq_getElem?_getD, List.getElem?_eq_getElem hj]
theorem BRow.of {base : Nat} (h : Own w base bv l) (h0 : 0 < l.length) (h1 : l.length ≤ 256) : BRow w bv l := by
  obtain ⟨g, cap, rfl, hg, hl, cells, hc⟩ := Kd.R_form h h0
  obtain ⟨_, hcap, _⟩ := Kd.R_reads' h
  refine .inr ⟨g, cap, cells, rfl, hcap, h1, hc, fun i x hx => ?_⟩
  have hi := (List.getElem?_eq_some_iff.1 hx).1
  obtain ⟨c, _, hM, hcc, _⟩ := Kd.R_elem h (0 : Int) (i : Int) (by omega) (by omega)
  have hM' : c = [.int .u8 (l.getD (i : Int).toNat 0)] := hM
  have h2 := hcc 0 _ (by rw [hM']; rfl)
  rw [show (Kd.int .u8).sz = 1 from rfl, Int.toNat_natCast, Nat.mul_one, Nat.add_zero, cell_of_row w g _ cells _ (0, 0) hc] at h2
  rw [h2, List.getD_eq_getElem?_getD, hx]
  rfl
theorem PgRow.slice (h : PgRow w v L) : ∃ g cap, v = .slice (some ⟨g, 0, none⟩) 16 cap ∧ 16 ≤ cap ∧ Tp w g ∧ ∀ p, p < 16 → w.cell? ⟨g, p * 3, none⟩ = some (.bool (L p).has) ∧ w.cell? ⟨g, p * 3 + 1, none⟩ = some (.bool (L p).torn) ∧ ∃ bv, w.cell? ⟨g, p * 3 + 2, none⟩ = some bv ∧ BRow w bv (L p).b := by
  obtain ⟨g, cap, cur, e, h1, h2, h3⟩ := h
  refine ⟨g, cap, e, h1, ⟨cur, _, h2, .inl rfl⟩, fun p hp => ?_⟩
  obtain ⟨a, b, bv, c, d⟩ := h3 p hp
  simp only [cell_of_row w g _ cur _ (0, 0) h2]
  exact ⟨a, b, bv, c, d⟩
theorem pgInfo : (Try.prog.info? 90).map (fun i => (i.zero, i.size, i.bytes)) = some (some (.agg #[.bool false, .bool false, .slice none 0 0]), 3, 32) := by kernel_rfl
theorem pg_copied (h : PgRow w v L) (ty : TypeId) : ∃ g' cap' w', (Builtin.append_ #[91, 91] ty #[.slice none 0 0, v]).run Try.prog w = .ok (.slice (some ⟨g', 0, none⟩) 16 cap') w' ∧ PgRow w' (.slice (some ⟨g', 0, none⟩) 16 cap') L ∧ w.heap.size ≤ g' ∧ Below w.heap.size w w' := by
  obtain ⟨i0, hi, hzz⟩ := Option.map_eq_some_iff.1 pgInfo
  simp only [Prod.mk.injEq] at hzz
  obtain ⟨hz0, hz1, hz2⟩ := hzz
  have h' := h
  obtain ⟨g, cap, cur, rfl, h1, h2, h3⟩ := h
  have hcur : ∀ j, j < 48 → ∃ u, cur[j]? = some u ∧ u.oneCell' = true := fun j hj => by
    obtain ⟨a, b, bv, c, d⟩ := h3 (j / 3) (by omega)
    have hr : j % 3 = 0 ∨ j % 3 = 1 ∨ j % 3 = 2 := by omega
    rcases hr with hr | hr | hr
    · rw [show j / 3 * 3 = j by omega] at a; exact ⟨_, a, rfl⟩
    · rw [show j / 3 * 3 + 1 = j by omega] at b; exact ⟨_, b, rfl⟩
    · rw [show j / 3 * 3 + 2 = j by omega] at c
      refine ⟨_, c, ?_⟩
      rcases d with ⟨rfl, _⟩ | ⟨bb, cb, _, rfl, _⟩ <;> rfl
  have hsz : 48 ≤ cur.size := by
    obtain ⟨u, hu, _⟩ := hcur 47 (by omega)
    have := (Array.getElem?_eq_some_iff.1 hu).1
    omega
  have hnl : (cur.toList.take 48).length = 1 * 16 * 3 := by rw [List.length_take, Array.length_toList]; omega
  obtain ⟨v', w', hr, ho, hg, _, hat⟩ := run_append_own_at (P := Try.prog) (w := w) 0 91 ty 90 i0 _ 3 32 Try.underlying91 hi hz0 hz1 hz2 rfl (by decide) (.slice none 0 0) 0 [] (own_nil _ _ _ _) ⟨g, 0, none⟩ 16 cap (cur.toList.take 48) (by rw [hnl])
    (fun j u hu => by
      rw [add_at, Nat.zero_add, cell_of_row w g _ cur _ (0, 0) h2]
      rw [List.getElem?_take] at hu
      split at hu
      · rw [← Array.getElem?_toList]; exact hu
      · cases hu)
    (fun u hu => by
      obtain ⟨i, hi'⟩ := List.getElem?_of_mem hu
      rw [List.getElem?_take] at hi'
      split at hi'
      · next hlt =>
        obtain ⟨u', hu', h1'⟩ := hcur i hlt
        rw [← Array.getElem?_toList] at hu'
        rw [hu'] at hi'
        injection hi' with hi'
        exact hi' ▸ h1'
      · cases hi')
    (by simp only [maxLen]; omega) (by omega) (Nat.zero_le _)
  have hb : Below w.heap.size w w' := ⟨hg.os, hg.tape, hg.output, hg.size, fun k hk => hg.block k hk (by simp [Value.ownBlock])⟩
  rcases ho.2 with ⟨h0, _⟩ | ⟨g', cap', cur', rfl, _, hh, hnc, _, _, ht⟩
  · omega
  · have hge : w.heap.size ≤ g' := by
      rcases hat with hat | hat
      · simp [Value.ownBlock] at hat
      · simp [Value.ownBlock] at hat; omega
    refine ⟨g', cap', w', hr, ⟨g', cap', cur', rfl, by simpa using hnc, hh, fun p hp => ?_⟩, hge, hb⟩
    have hcc : ∀ j, j < 48 → cur'[j]? = cur[j]? := fun j hj => by
      have e1 := congrArg (fun l => l[j]?) ht
      simp only [List.nil_append] at e1
      rw [List.getElem?_take, if_pos (by omega), List.getElem?_take, if_pos hj, Array.getElem?_toList, Array.getElem?_toList] at e1
      exact e1
    obtain ⟨a, b, bv, c, d⟩ := h3 p hp
    rw [hcc _ (by omega), hcc _ (by omega), hcc _ (by omega)]
    exact ⟨a, b, bv, c, d.below hb⟩
end
end Go.Proofs.Ytandhpnpodkemaa.M
end

section
/- Rows of pages made and written; what stands in the reference's object, turned. -/
set_option linter.unusedVariables false
set_option linter.unusedSimpArgs false
namespace Go.Proofs.Ytandhpnpodkemaa.M
open Go.RowKit Go.Proofs.YtandhpnpodkemaaW.PrintWords
def zPg : PgD := ⟨false, false, []⟩
def updP (L : Nat → PgD) (p : Nat) (x : PgD) : Nat → PgD := fun i => if i = p then x else L i
theorem PgRow.congr {w : World} {v : Value} {L L' : Nat → PgD} (h : PgRow w v L) (he : ∀ p, p < 16 → L' p = L p) : PgRow w v L' := by
  obtain ⟨g, cap, cur, e, h1, h2, h3⟩ := h
  exact ⟨g, cap, cur, e, h1, h2, fun p hp => by rw [he p hp]; exact h3 p hp⟩
theorem pg_made : ∃ Z : Array Value, (∀ u : World, (Instr.makeSlice 91 (.int .i64 16) (.int .i64 16)).run Try.prog u = .ok (.slice (some ⟨u.heap.size, 0, none⟩) 16 16) (u.alloc (.cells Z 90))) ∧ ∀ u : World, PgRow (u.alloc (.cells Z 90)) (.slice (some ⟨u.heap.size, 0, none⟩) 16 16) (fun _ => zPg) := by
  obtain ⟨i0, hi, hzz⟩ := Option.map_eq_some_iff.1 pgInfo
  simp only [Prod.mk.injEq] at hzz
  obtain ⟨hz0, hz1, hz2⟩ := hzz
  refine ⟨madeCells (Value.cells (.agg #[.bool false, .bool false, .slice none 0 0])) 48, fun u => ?_, fun u => ?_⟩
  · have h := run_make (P := Try.prog) u 91 90 i0 _ Try.underlying91 hi hz0 .i64 .i64 (16 : Int) (16 : Int) (by omega) (Int.le_refl _) (by rw [hz2]; omega) (by omega)
    rw [hz1] at h
    exact h
  · refine ⟨_, 16, _, rfl, Nat.le_refl _, heap_alloc_new u _, fun p hp => ?_⟩
    have hz : ∀ (i : Nat), i < 48 → (madeCells (Value.cells (.agg #[.bool false, .bool false, .slice none 0 0])) 48)[i]? = some ((#[Value.bool false, .bool false, .slice none 0 0] : Array Value)[i % 3]!) := fun i hi => by
      simp only [madeCells, Array.getElem?_map, Value.cells]
      rw [Array.getElem?_range]
      simp [hi]
    refine ⟨?_, ?_, .slice none 0 0, ?_, .inl ⟨rfl, rfl⟩⟩
    · rw [hz _ (by omega), show p * 3 % 3 = 0 by omega]; rfl
    · rw [hz _ (by omega), show (p * 3 + 1) % 3 = 1 by omega]; rfl
    · rw [hz _ (by omega), show (p * 3 + 2) % 3 = 2 by omega]; rfl
theorem put_heap {W : World} {g i : Nat} {v : Value} {cs : Array Value} {e : TypeId} {z : Nat × Nat} (h : W.heap[g]? = some (.cells cs e z)) : (W.setCell ⟨g, i, none⟩ v).heap[g]? = some (.cells (cs.setIfInBounds i v) e z) := IsF.heap_same (a := ⟨g, i, none⟩) h rfl
theorem PgRow.put {w : World} {g cap p : Nat} {L : Nat → PgD} (h : PgRow w (.slice (some ⟨g, 0, none⟩) 16 cap) L) (hp : p < 16) {x : PgD} {bv : Value} (hb : BRow w bv x.b) :
    PgRow (((w.setCell ⟨g, p * 3, none⟩ (.bool x.has)).setCell ⟨g, p * 3 + 1, none⟩ (.bool x.torn)).setCell ⟨g, p * 3 + 2, none⟩ bv) (.slice (some ⟨g, 0, none⟩) 16 cap) (updP L p x) := by
  obtain ⟨g', cap', cur, e, h1, h2, h3⟩ := h
  injection e with e1 e2 e3
  injection e1 with e1
  injection e1 with e1
  subst e1; subst e3
  have hsz : 48 ≤ cur.size := by
    obtain ⟨_, _, u, hu, _⟩ := h3 15 (by omega)
    have := (Array.getElem?_eq_some_iff.1 hu).1
    omega
  have hk : KeepS (fun k => k = g) w (((w.setCell ⟨g, p * 3, none⟩ (.bool x.has)).setCell ⟨g, p * 3 + 1, none⟩ (.bool x.torn)).setCell ⟨g, p * 3 + 2, none⟩ bv) :=
    (((KeepS.refl (fun k => k = g) w).set (p := ⟨g, p * 3, none⟩) (.inl rfl) _).set (p := ⟨g, p * 3 + 1, none⟩) (.inl rfl) _).set (p := ⟨g, p * 3 + 2, none⟩) (.inl rfl) _
  have hB : ∀ {bv : Value} {l : List Int}, BRow w bv l → BRow (((w.setCell ⟨g, p * 3, none⟩ (.bool x.has)).setCell ⟨g, p * 3 + 1, none⟩ (.bool x.torn)).setCell ⟨g, p * 3 + 2, none⟩ bv) bv l := fun {bv l} hb => by
    rcases hb with hb | ⟨bb, cb, cu, e, k1, k2, k3, k4⟩
    · exact .inl hb
    · have hne : bb ≠ g := blk_ne k3 h2 (by decide)
      refine .inr ⟨bb, cb, cu, e, k1, k2, ?_, k4⟩
      rw [Below.heap_setCell _ _ _ bb hne, Below.heap_setCell _ _ _ bb hne, Below.heap_setCell _ _ _ bb hne]
      exact k3
  refine ⟨g, cap, _, rfl, h1, put_heap (put_heap (put_heap h2)), fun i hi => ?_⟩
  by_cases hip : i = p
  · subst hip
    simp only [updP, if_pos]
    refine ⟨?_, ?_, bv, ?_, ?_⟩
    · rw [Array.getElem?_setIfInBounds_ne (by omega), Array.getElem?_setIfInBounds_ne (by omega), Array.getElem?_setIfInBounds_self_of_lt (by omega)]
    · rw [Array.getElem?_setIfInBounds_ne (by omega), Array.getElem?_setIfInBounds_self_of_lt (by simp; omega)]
    · rw [Array.getElem?_setIfInBounds_self_of_lt (by simp; omega)]
    · exact hB hb
  · simp only [updP, if_neg hip]
    obtain ⟨a, b, u, c, d⟩ := h3 i hi
    refine ⟨?_, ?_, u, ?_, ?_⟩
    · rw [Array.getElem?_setIfInBounds_ne (by omega), Array.getElem?_setIfInBounds_ne (by omega), Array.getElem?_setIfInBounds_ne (by omega)]; exact a
    · rw [Array.getElem?_setIfInBounds_ne (by omega), Array.getElem?_setIfInBounds_ne (by omega), Array.getElem?_setIfInBounds_ne (by omega)]; exact b
    · rw [Array.getElem?_setIfInBounds_ne (by omega), Array.getElem?_setIfInBounds_ne (by omega), Array.getElem?_setIfInBounds_ne (by omega)]; exact c
    · rcases d with d | ⟨bb, cb, cu, e, k1, k2, k3, k4⟩
      · exact .inl d
      · have hne : bb ≠ g := blk_ne k3 h2 (by decide)
        refine .inr ⟨bb, cb, cu, e, k1, k2, ?_, k4⟩
        rw [Below.heap_setCell _ _ _ bb hne, Below.heap_setCell _ _ _ bb hne, Below.heap_setCell _ _ _ bb hne]
        exact k3
section
variable {w : World} {q ob wb : Nat} {fl : Fl}
theorem IsR.cells (h : IsR w q ob wb fl) : ∃ (kr : Int) (co : Nat), (w.cell? ⟨q, 0, none⟩ = some (.slice (some ⟨ob, 0, none⟩) fl.n co) ∧ w.cell? ⟨q, 1, none⟩ = some (.slice (some ⟨wb, 0, none⟩) fl.n fl.n) ∧ w.cell? ⟨q, 2, none⟩ = some (.int .i64 fl.fuse) ∧ w.cell? ⟨q, 3, none⟩ = some (.int .i64 kr) ∧ w.cell? ⟨q, 4, none⟩ = some (.bool fl.down)) ∧ keepV kr = fl.keep ∧ fl.n ≤ co := by
  obtain ⟨kr, co, hy, hkr, hco⟩ := h.y
  exact ⟨kr, co, ⟨(blk_cell hy 0).trans rfl, (blk_cell hy 1).trans rfl, (blk_cell hy 2).trans rfl, (blk_cell hy 3).trans rfl, (blk_cell hy 4).trans rfl⟩, hkr, hco⟩
theorem IsR.fz (h : IsR w q ob wb fl) (i : Nat) : w.frozen? ⟨q, i, none⟩ = false ∧ w.frozen? ⟨ob, i, none⟩ = false ∧ w.frozen? ⟨wb, i, none⟩ = false := by
  obtain ⟨kr, co, hy, _⟩ := h.y
  obtain ⟨cur, ho, _⟩ := h.o
  obtain ⟨cw, hw, _⟩ := h.wr
  exact ⟨blk_frozen hy i, blk_frozen ho i, blk_frozen hw i⟩
theorem IsR.row (h : IsR w q ob wb fl) {b : Nat} (hb : b < fl.n) : ∃ v, w.cell? ⟨ob, b, none⟩ = some v ∧ PgRow w v (pgOf fl b) := by
  obtain ⟨cur, ho, h2⟩ := h.o
  obtain ⟨v, hv, hp⟩ := h2 b hb
  exact ⟨v, (blk_cell ho b).trans hv, hp⟩
theorem IsR.worn (h : IsR w q ob wb fl) {b : Nat} (hb : b < fl.n) : w.cell? ⟨wb, b, none⟩ = some (.int .i64 (fl.c (b * 4113 + 4112))) := by
  obtain ⟨cw, hw, h2⟩ := h.wr
  exact (blk_cell hw b).trans (h2 b hb)
theorem IsR.objq (h : IsR w q ob wb fl) {w' : World} {fl' : Fl} (hk : KeepS (fun k => k = q) w w') (hn : fl'.n = fl.n) (hc : ∀ b, b < fl.n → (∀ p, p < 16 → pgOf fl' b p = pgOf fl b p) ∧ fl'.c (b * 4113 + 4112) = fl.c (b * 4113 + 4112))
    (hy : ∃ (kr : Int) (co : Nat), w'.heap[q]? = some (.cells #[.slice (some ⟨ob, 0, none⟩) fl.n co, .slice (some ⟨wb, 0, none⟩) fl.n fl.n, .int .i64 fl'.fuse, .int .i64 kr, .bool fl'.down] 67 (0, 0)) ∧ keepV kr = fl'.keep ∧ fl.n ≤ co) : IsR w' q ob wb fl' := by
  obtain ⟨a1, a2, a3, a4, a5, a6⟩ := h.apart
  obtain ⟨cur, ho, ho2⟩ := h.o
  obtain ⟨cw, hw, hw2⟩ := h.wr
  refine ⟨by rw [hn]; exact hy, ⟨cur, (hk.block ob h.olt (fun e => a1 e.symm)).trans ho, fun b hb => ?_⟩, ⟨cw, (hk.block wb h.wlt (fun e => a2 e.symm)).trans hw, fun b hb => ?_⟩, by rw [hn]; exact h.n1, by rw [hn]; exact h.n2⟩
  · rw [hn] at hb
    obtain ⟨v, hv, hp⟩ := ho2 b hb
    exact ⟨v, hv, (hp.keep hk (fun k e => by subst e; exact a4)).congr (hc b hb).1⟩
  · rw [hn] at hb
    rw [(hc b hb).2]
    exact hw2 b hb
theorem IsR.setRow (h : IsR w q ob wb fl) {b : Nat} (hb : b < fl.n) {v : Value} {c' : Nat → Int} (hv : PgRow w v (pgOf { fl with c := c' } b)) (hs : ∀ b', b' < fl.n → b' ≠ b → ∀ p, p < 16 → pgOf { fl with c := c' } b' p = pgOf fl b' p) (hw : ∀ b', b' < fl.n → c' (b' * 4113 + 4112) = fl.c (b' * 4113 + 4112)) :
    IsR (w.setCell ⟨ob, b, none⟩ v) q ob wb { fl with c := c' } := by
  obtain ⟨a1, a2, a3, a4, a5, a6⟩ := h.apart
  have hk : KeepS (fun k => k = ob) w (w.setCell ⟨ob, b, none⟩ v) := (KeepS.refl (fun k => k = ob) w).set (p := ⟨ob, b, none⟩) (.inl rfl) v
  obtain ⟨kr, co, hy, hkr, hco⟩ := h.y
  obtain ⟨cur, ho, ho2⟩ := h.o
  obtain ⟨cw, hcw, hw2⟩ := h.wr
  have hbs : b < cur.size := by obtain ⟨u, hu, _⟩ := ho2 b hb; exact (Array.getElem?_eq_some_iff.1 hu).1
  refine ⟨⟨kr, co, (hk.block q h.qlt a1).trans hy, hkr, hco⟩, ⟨_, put_heap ho, fun b' hb' => ?_⟩, ⟨cw, (hk.block wb h.wlt (fun e => a3 e.symm)).trans hcw, fun b' hb' => ?_⟩, h.n1, h.n2⟩
  · by_cases e : b' = b
    · subst e
      exact ⟨v, by rw [Array.getElem?_setIfInBounds_self_of_lt hbs], hv.keep hk (fun k e => by subst e; exact a5)⟩
    · obtain ⟨u, hu, hp⟩ := ho2 b' hb'
      exact ⟨u, by rw [Array.getElem?_setIfInBounds_ne (fun x => e x.symm)]; exact hu, (hp.keep hk (fun k e => by subst e; exact a5)).congr (hs b' hb' e)⟩
  · show cw[b']? = some (.int .i64 (c' (b' * 4113 + 4112)))
    rw [hw b' hb']
    exact hw2 b' hb'
theorem IsR.setWear (h : IsR w q ob wb fl) {b : Nat} (hb : b < fl.n) (x : Int) : IsR (w.setCell ⟨wb, b, none⟩ (.int .i64 x)) q ob wb { fl with c := updC fl.c (b * 4113 + 4112) x } := by
  obtain ⟨a1, a2, a3, a4, a5, a6⟩ := h.apart
  have hk : KeepS (fun k => k = wb) w (w.setCell ⟨wb, b, none⟩ (.int .i64 x)) := (KeepS.refl (fun k => k = wb) w).set (p := ⟨wb, b, none⟩) (.inl rfl) _
  obtain ⟨kr, co, hy, hkr, hco⟩ := h.y
  obtain ⟨cur, ho, ho2⟩ := h.o
  obtain ⟨cw, hcw, hw2⟩ := h.wr
  have hbs : b < cw.size := by exact (Array.getElem?_eq_some_iff.1 (hw2 b hb)).1
  have hpg : ∀ b' p, p < 16 → pgOf { fl with c := updC fl.c (b * 4113 + 4112) x } b' p = pgOf fl b' p := fun b' p hp => by
    have e1 : updC fl.c (b * 4113 + 4112) x (b' * 4113 + p * 257) = fl.c (b' * 4113 + p * 257) := by unfold updC; rw [if_neg (by omega)]
    have e2 : pgL { fl with c := updC fl.c (b * 4113 + 4112) x } b' p = pgL fl b' p := by
      unfold pgL
      refine List.map_congr_left (fun i hi => ?_)
      have := List.mem_range.1 hi
      show updC fl.c (b * 4113 + 4112) x _ = _
      unfold updC
      rw [if_neg (by rcases Nat.lt_trichotomy b b' with h | h | h <;> omega)]
    simp only [pgOf, e1, e2]
  refine ⟨⟨kr, co, (hk.block q h.qlt a2).trans hy, hkr, hco⟩, ⟨cur, (hk.block ob h.olt a3).trans ho, fun b' hb' => ?_⟩, ⟨_, put_heap hcw, fun b' hb' => ?_⟩, h.n1, h.n2⟩
  · obtain ⟨u, hu, hp⟩ := ho2 b' hb'
    exact ⟨u, hu, (hp.keep hk (fun k e => by subst e; exact a6)).congr (hpg b')⟩
  · by_cases e : b' = b
    · subst e
      rw [Array.getElem?_setIfInBounds_self_of_lt hbs]
      simp [updC]
    · rw [Array.getElem?_setIfInBounds_ne (fun x => e x.symm), hw2 b' hb']
      simp only [updC]
      rw [if_neg (by omega)]
end
end Go.Proofs.Ytandhpnpodkemaa.M
end

section
/- Program's first and third inner functions; Wear; what looks, SetFuse, Crash, Read say of a flash that no call made. -/
set_option linter.unusedVariables false
set_option linter.unusedSimpArgs false
set_option maxRecDepth 100000
namespace Go.Proofs.Ytandhpnpodkemaa.M
open Go.RowKit Go.Proofs.YtandhpnpodkemaaW.PrintWords
def okP (fl : Fl) (b p : Int) (n : Nat) : Bool := okAt fl b p && decide ((n : Int) ≤ 256)
theorem prog1 {w : World} {f g : Nat} {fl : Fl} (h : IsF w f g fl) (B : Nat) (b p : Int) (A : Option Addr) (n c : Nat) (h0 : w.cell? ⟨B, 0, none⟩ = some (.pointer (some ⟨f, 0, none⟩))) (h1 : w.cell? ⟨B + 1, 0, none⟩ = some (.int .i64 b)) (h2 : w.cell? ⟨B + 1 + 1, 0, none⟩ = some (.int .i64 p)) (h3 : w.cell? ⟨B + 1 + 1 + 1, 0, none⟩ = some (.slice A n c)) :
    Calls Try.prog 32 #[.pointer (some ⟨B, 0, none⟩), .pointer (some ⟨B + 1, 0, none⟩), .pointer (some ⟨B + 1 + 1, 0, none⟩), .pointer (some ⟨B + 1 + 1 + 1, 0, none⟩)] w fun e w' => e = .returned (.bool (okP fl b p n)) ∧ w = w' := by
  have HI := Lib.hid (is_calls h b)
  have HP := Lib.hid (place_calls p w)
  obtain ⟨r, hr⟩ : ∃ r, RowKit.Hid (okP fl b p n = r) := ⟨_, Lib.hid rfl⟩
  rw [hr.out]
  cases hq : (decide (0 ≤ b) && decide (b < (fl.n : Int))) with
  | true =>
    rw [hq] at HI
    cases hs : (decide (0 ≤ p) && decide (p < 16)) with
    | true =>
      rw [hs] at HP
      obtain ⟨t, ht⟩ : ∃ t, decide ((n : Int) ≤ 256) = t := ⟨_, rfl⟩
      have HRS := Lib.hid (show t = r by rw [← hr.out]; unfold okP okAt; rw [hq, hs, ht]; rfl)
      clear hq hs h
      go_enter Try.func32, Try.ntmps32
      go_wp2_with (first | (go_at_call 33; refine HI.out.mono ?_; rintro e w' ⟨rfl, rfl⟩) | (go_at_call 34; refine HP.out.mono ?_; rintro e w' ⟨rfl, rfl⟩))
      go_ret
      exact ⟨by rw [← HRS.out]; rfl, rfl⟩
    | false =>
      rw [hs] at HP
      have HRS := Lib.hid (show false = r by rw [← hr.out]; unfold okP okAt; rw [hq, hs]; rfl)
      clear hq hs h
      go_enter Try.func32, Try.ntmps32
      go_wp2_with (first | (go_at_call 33; refine HI.out.mono ?_; rintro e w' ⟨rfl, rfl⟩) | (go_at_call 34; refine HP.out.mono ?_; rintro e w' ⟨rfl, rfl⟩))
      go_ret
      exact ⟨by rw [← HRS.out]; rfl, rfl⟩
  | false =>
    rw [hq] at HI
    have HRS := Lib.hid (show false = r by rw [← hr.out]; unfold okP okAt; rw [hq]; rfl)
    clear hq h
    go_enter Try.func32, Try.ntmps32
    go_wp2_with (first | (go_at_call 33; refine HI.out.mono ?_; rintro e w' ⟨rfl, rfl⟩) | (go_at_call 34; refine HP.out.mono ?_; rintro e w' ⟨rfl, rfl⟩))
    go_ret
    exact ⟨by rw [← HRS.out]; rfl, rfl⟩
theorem prog3 {w : World} {f g : Nat} {fl : Fl} {b p X : Nat} (hb : b < fl.n) (hp : p < 16) (hX : w.cell? ⟨X, 0, none⟩ = some (.pointer (some ⟨g, b * 4113 + p * 257, none⟩))) (hXl : X < w.heap.size) (hXf : X ≠ f) (hXg : X ≠ g) :
    Makes w f g fl 37 #[.pointer (some ⟨X, 0, none⟩)] (updC fl.c (b * 4113 + p * 257) 1) := by
  intro w' fl' hk hI hc hn
  have x0 : w'.cell? ⟨X, 0, none⟩ = some (.pointer (some ⟨g, b * 4113 + p * 257, none⟩)) := (hk.cell hXl hXf hXg).trans hX
  have hs := hI.st (b := b) (p := p) (by omega) hp
  have hz := hI.gz (b * 4113 + p * 257)
  have hput := Lib.hid (hI.put (i := b * 4113 + p * 257) (by omega) 1)
  rw [kdAt_st hp, hc] at hput
  obtain ⟨q, hq⟩ : ∃ q, b * 4113 + p * 257 = q := ⟨_, rfl⟩
  rw [hq] at x0 hs hz hput ⊢
  clear hX hk hI hc hn hq hb hp
  go_enter Try.func37, Try.ntmps37
  go_wp2
  go_end0
  exact ⟨rfl, hput.out, (KeepF.refl _ _ _).setG _ _⟩
end Go.Proofs.Ytandhpnpodkemaa.M
end

section
/- Program's second inner function: the page is full. -/
set_option linter.unusedVariables false
set_option linter.unusedSimpArgs false
set_option maxRecDepth 100000
namespace Go.Proofs.Ytandhpnpodkemaa.M
open Go.RowKit Go.Proofs.YtandhpnpodkemaaW.PrintWords Go.Proofs.YtandhpnpodkemaaW.PrintLast
def putL (c : Nat → Int) (o : Nat) (l : List Int) : Nat → Int := fun j => if o ≤ j ∧ j < o + l.length then l.getD (j - o) 0 else c j
theorem putL_nil (c : Nat → Int) (o : Nat) : putL c o [] = c := by
  funext j
  unfold putL
  rw [if_neg]
  simp
theorem putL_cons (c : Nat → Int) (o : Nat) (x : Int) (l : List Int) : putL c o (x :: l) = putL (updC c o x) (o + 1) l := by
  funext j
  unfold putL updC
  simp only [List.length_cons]
  by_cases h1 : j = o
  · subst h1
    rw [if_pos (by omega), if_neg (by omega), if_pos rfl, Nat.sub_self]
    rfl
  · by_cases h2 : o ≤ j ∧ j < o + (l.length + 1)
    · rw [if_pos h2, if_pos (by omega), show j - o = (j - (o + 1)) + 1 from by omega, List.getD_cons_succ]
    · rw [if_neg h2, if_neg (by omega), if_neg h1]
theorem IsF.puts {f g : Nat} (l : List Int) : ∀ {w : World} {fl : Fl} (o : Nat), IsF w f g fl → (∀ j, j < l.length → kdAt (o + j) = .u8) → o + l.length ≤ fl.n * 4113 →
    IsF (w.setCells g o (l.map fun x => .int .u8 x)) f g { fl with c := putL fl.c o l } ∧ KeepF f g w (w.setCells g o (l.map fun x => .int .u8 x)) := by
  induction l with
  | nil => intro w fl o h _ _; rw [putL_nil]; exact ⟨h, KeepF.refl _ _ _⟩
  | cons x l ih =>
    intro w fl o h hk hl
    simp only [List.length_cons] at hl hk
    have h0 := hk 0 (by omega)
    rw [Nat.add_zero] at h0
    have h1 := h.put (i := o) (by omega) x
    rw [h0] at h1
    have h2 := ih (fl := { fl with c := updC fl.c o x }) (o + 1) h1 (fun j hj => by rw [Nat.add_assoc, Nat.add_comm 1 j]; exact hk (j + 1) (by omega)) (by show o + 1 + l.length ≤ fl.n * 4113; omega)
    simp only [List.map_cons, World.setCells]
    rw [putL_cons]
    exact ⟨h2.1, ((KeepF.refl _ _ _).setG _ _).trans h2.2⟩
theorem copy_pg {w : World} {f g : Nat} {fl : Fl} (h : IsF w f g fl) {b p : Nat} (hb : b < fl.n) (hp : p < 16) (A : Option Addr) (c : Nat) (l : List Int) (hr : Kd.C (Kd.int .u8) w A l.length l) (hl : l.length ≤ 256) (ty : TypeId) :
    ∃ W, (Builtin.copy_ #[29, 29] ty #[.slice (some ⟨g, b * 4113 + p * 257 + 1, none⟩) 256 256, .slice A l.length c]).run Try.prog w = .ok (goInt (l.length : Int)) W ∧ IsF W f g { fl with c := putL fl.c (b * 4113 + p * 257 + 1) l } ∧ KeepF f g w W := by
  have hs : (Try.prog.info? 5).map (·.size) = some 1 := by kernel_rfl
  cases A with
  | none =>
    obtain ⟨h0, rfl⟩ := C_none hr
    exact ⟨w, by have := run_copy_none (P := Try.prog) w 29 29 ty 5 (some ⟨g, b * 4113 + p * 257 + 1, none⟩) none 256 256 0 c Try.underlying29 hs rfl; exact this, by rw [putL_nil]; exact h, KeepF.refl _ _ _⟩
  | some ad =>
    obtain ⟨r1, r2⟩ := h.puts l (b * 4113 + p * 257 + 1) (fun j hj => kdAt_data hp (by omega)) (by omega)
    refine ⟨_, ?_, r1, r2⟩
    have hrun := run_copy_cells (P := Try.prog) w 29 29 ty 5 g (b * 4113 + p * 257 + 1) 256 256 ad l.length c (l.map fun x => .int .u8 x) Try.underlying29 hs (by rw [List.length_map]; exact (Nat.min_eq_left hl).symm)
      (fun j v hv => by
        rw [List.getElem?_map] at hv
        obtain ⟨x, hx, rfl⟩ := Option.map_eq_some_iff.1 hv
        obtain ⟨hj, hx'⟩ := List.getElem?_eq_some_iff.1 hx
        obtain ⟨_, _, h3⟩ := Kd.reads_of_C (enc := Value.int .u8) (d := (0 : Int)) (h1 := fun _ => rfl) hr
        obtain ⟨ad', e, hc⟩ := h3 (by omega)
        injection e with e
        subst e
        rw [hc j hj, List.getD_eq_getElem?_getD, hx]
        rfl)
      (fun j hj => by rw [h.data hb hp (by simp at hj; omega)]; rfl) (fun j hj => h.gz _) (by intro v hv; rw [List.mem_map] at hv; obtain ⟨x, _, rfl⟩ := hv; rfl)
    rw [List.length_map] at hrun
    exact hrun
end Go.Proofs.Ytandhpnpodkemaa.M
end

section
/- Contract of Program's second inner function. -/
set_option linter.unusedVariables false
set_option linter.unusedSimpArgs false
set_option maxRecDepth 100000
namespace Go.Proofs.Ytandhpnpodkemaa.M
open Go.RowKit Go.Proofs.YtandhpnpodkemaaW.PrintWords Go.Proofs.YtandhpnpodkemaaW.PrintLast
def fullC (c : Nat → Int) (q : Nat) (l : List Int) : Nat → Int := putL (putL (updC c q 2) (q + 1) l) (q + 1 + l.length) (List.replicate (256 - l.length) 255)
theorem putL_snoc (c : Nat → Int) (o : Nat) (l : List Int) (x : Int) : putL c o (l ++ [x]) = updC (putL c o l) (o + l.length) x := by
  induction l generalizing c o with
  | nil => rw [List.nil_append, putL_cons, putL_nil, putL_nil]; simp
  | cons y l ih => rw [List.cons_append, putL_cons, putL_cons, ih, List.length_cons]; congr 1; omega
set_option maxHeartbeats 1000000 in
theorem prog2 {w : World} {f g : Nat} {fl : Fl} {b p X D : Nat} (hb : b < fl.n) (hp : p < 16) (hX : w.cell? ⟨X, 0, none⟩ = some (.pointer (some ⟨g, b * 4113 + p * 257, none⟩))) (hXl : X < w.heap.size) (hXf : X ≠ f) (hXg : X ≠ g)
    (A : Option Addr) (c : Nat) (l : List Int) (hD : w.cell? ⟨D, 0, none⟩ = some (.slice A l.length c)) (hDl : D < w.heap.size) (hDf : D ≠ f) (hDg : D ≠ g) (hr : Kd.F (Kd.int .u8) w (fun k => k ≠ f ∧ k ≠ g) A l.length l) (hl : l.length ≤ 256) :
    Makes w f g fl 36 #[.pointer (some ⟨X, 0, none⟩), .pointer (some ⟨D, 0, none⟩)] (fullC fl.c (b * 4113 + p * 257) l) := by
  intro w' fl' hk hI hc hn
  have x0 : w'.cell? ⟨X, 0, none⟩ = some (.pointer (some ⟨g, b * 4113 + p * 257, none⟩)) := (hk.cell hXl hXf hXg).trans hX
  have d0 : w'.cell? ⟨D, 0, none⟩ = some (.slice A l.length c) := (hk.cell hDl hDf hDg).trans hD
  have hs := hI.st (b := b) (p := p) (by omega) hp
  have hz := hI.gz (b * 4113 + p * 257)
  have hput := hI.put (i := b * 4113 + p * 257) (by omega) 2
  rw [kdAt_st hp, hc] at hput
  have hF : Kd.F (Kd.int .u8) w' (fun k => k ≠ f ∧ k ≠ g) A l.length l := Kd.F_step hr (fun k hk' hlt => hk.block k hlt hk'.1 hk'.2)
  have hF1 : Kd.F (Kd.int .u8) (w'.setCell ⟨g, b * 4113 + p * 257, none⟩ (.int .i64 2)) (fun k => k ≠ f ∧ k ≠ g) A l.length l := Kd.F_far hF (fun k hk => hk.2) _
  obtain ⟨W, hrun, hIW, hkW⟩ := copy_pg (hput.drew) (b := b) (p := p) (by show b < fl'.n; omega) hp A c l (Kd.F_now (Kd.F_drew hF1)) hl 3
  have HIW := Lib.hid hIW
  have HKW := Lib.hid (show KeepF f g w' W from (((KeepF.refl f g w').setG _ _).drew).trans hkW)
  obtain ⟨q, HQ⟩ : ∃ q, RowKit.Hid (b * 4113 + p * 257 = q) := ⟨_, Lib.hid rfl⟩
  rw [HQ.out] at x0 hs hz hrun
  go_enter Try.func36, Try.ntmps36
  go_wp2
  go_region
  have hXl' : X < w'.heap.size := Nat.lt_of_lt_of_le hXl hk.size
  have HX0 := Lib.hid x0
  have HN := Lib.hid hn
  have HB := Lib.hid hb
  have HP := Lib.hid hp
  have HLL := Lib.hid hl
  obtain ⟨C0, HC0⟩ : ∃ C0, RowKit.Hid (putL (updC fl.c q 2) (q + 1) l = C0) := ⟨_, Lib.hid rfl⟩
  have HI0 := Lib.hid (show IsF W f g { fl' with c := C0 } by have := HIW.out; rw [HQ.out, HC0.out] at this; exact this)
  clear hX hD hr hs hz hput hF hF1 hrun hI hk d0 hc hn x0 hIW hkW hb hp
  go_wp2
  go_loopw [3] (fun i wr => ∃ j : Nat, i = .int .i64 (j : Int) ∧ RowKit.Hid (l.length ≤ j ∧ j ≤ 256) ∧ RowKit.Hid (IsF wr f g { fl' with c := putL C0 (q + 1 + l.length) (List.replicate (j - l.length) 255) }) ∧ RowKit.Hid (KeepF f g w' wr)) (fun i _ => 256 - (intOf i).toNat)
  case atStart => exact ⟨l.length, rfl, Lib.hid ⟨Nat.le_refl _, hl⟩, Lib.hid (by rw [Nat.sub_self, List.replicate_zero, putL_nil]; exact HI0.out), HKW⟩
  case round =>
    obtain ⟨j, rfl, HJ, HI, HK⟩ := hrel
    have x0 : wr.cell? ⟨X, 0, none⟩ = some (.pointer (some ⟨g, q, none⟩)) := (HK.out.cell hXl' hXf hXg).trans HX0.out
    by_cases hlt : j < 256
    · have hlt0 : (j : Int) < 256 := by omega
      have hj0 : (0 : Int) ≤ (j : Int) := by omega
      have hd := HI.out.data (b := b) (p := p) (i := j) (by show b < fl'.n; have := HB.out; have := HN.out; omega) HP.out hlt
      have hz := HI.out.gz (q + 1 + j)
      have HPUT := Lib.hid (HI.out.put (i := q + 1 + j) (by show q + 1 + j < fl'.n * 4113; have := HB.out; have := HN.out; have := HP.out; have := HQ.out; omega) 255)
      rw [HQ.out] at hd
      have hkd : kdAt (q + 1 + j) = .u8 := by rw [← HQ.out]; exact kdAt_data HP.out hlt
      rw [hkd] at HPUT
      have hj1 : IntKind.i64.wrap ((j : Int) + 1) = ((j + 1 : Nat) : Int) := by rw [IntKind.wrap_i64]; omega
      clear hkd
      go_wp2
      go_roundw
      case rel =>
        refine ⟨j + 1, by first | rfl | (congr 1), Lib.hid ⟨by have := HJ.out.1; omega, by omega⟩, Lib.hid ?_, Lib.hid (HK.out.setG _ _)⟩
        have e : putL C0 (q + 1 + l.length) (List.replicate (j + 1 - l.length) 255) = updC (putL C0 (q + 1 + l.length) (List.replicate (j - l.length) 255)) (q + 1 + j) 255 := by
          have h1 := HJ.out.1
          rw [show j + 1 - l.length = (j - l.length) + 1 from by omega, List.replicate_succ', putL_snoc]
          congr 1
          simp
          omega
        rw [e]
        exact HPUT.out
      case measure => simp [intOf]; omega
    · have hje : j = 256 := by have := HJ.out.2; omega
      subst hje
      clear hlt
      go_wp2
      go_end0
      refine ⟨rfl, ?_, HK.out⟩
      have := HI.out
      unfold fullC
      rw [HQ.out, HC0.out]
      exact this
end Go.Proofs.Ytandhpnpodkemaa.M
end

section
/- Contract of a flash's Program. -/
set_option linter.unusedVariables false
set_option linter.unusedSimpArgs false
set_option maxRecDepth 100000
namespace Go.Proofs.Ytandhpnpodkemaa.M
open Go.RowKit Go.Proofs.YtandhpnpodkemaaW.PrintWords Go.Proofs.YtandhpnpodkemaaW.PrintLast
def progE (fl : Fl) (b p : Int) (n : Nat) : Int := if looksE fl (okP fl b p n) = 0 then (if fl.c (b.toNat * 4113 + p.toNat * 257) = 0 then changeE fl else 20) else looksE fl (okP fl b p n)
def progF (fl : Fl) (b p : Int) (l : List Int) : Fl :=
  if looksE fl (okP fl b p l.length) = 0 ∧ fl.c (b.toNat * 4113 + p.toNat * 257) = 0 then changeF fl (fullC fl.c (b.toNat * 4113 + p.toNat * 257) l) (updC fl.c (b.toNat * 4113 + p.toNat * 257) 1) else fl
theorem okP_of {fl : Fl} {b p : Int} {n : Nat} (h : looksE fl (okP fl b p n) = 0) : 0 ≤ b ∧ b < (fl.n : Int) ∧ 0 ≤ p ∧ p < 16 ∧ n ≤ 256 := by
  unfold looksE at h
  split at h
  · omega
  · split at h
    · rename_i h2
      unfold okP okAt at h2
      simp only [Bool.and_eq_true, decide_eq_true_eq] at h2
      exact ⟨h2.1.1.1, h2.1.1.2, h2.1.2.1, h2.1.2.2, by omega⟩
    · omega
set_option maxHeartbeats 1000000 in
theorem program_is {w : World} {f g : Nat} {fl : Fl} (h : IsF w f g fl) (hfu : 0 ≤ fl.fuse ∧ fl.fuse ≤ 9223372036854775807) (b p : Int) (A : Option Addr) (c : Nat) (l : List Int) (hr : Kd.F (Kd.int .u8) w (fun k => k ≠ f ∧ k ≠ g) A l.length l) :
    Calls Try.prog 9 #[.pointer (some ⟨f, 0, none⟩), .int .i64 b, .int .i64 p, .slice A l.length c] w fun e w' => e = .returned (.int .i64 (progE fl b p l.length)) ∧ IsF w' f g (progF fl b p l) ∧ KeepF f g w w' := by
  have hmf : ∀ (fn : Fn) (first cap : Array Value) (w : World), (Instr.makeFunc fn first cap).run Try.prog w = .ok (.func fn first cap) w := fun _ _ _ _ => rfl
  have hflt := h.flt
  have hglt := h.glt
  have hI4 := (((h.alloc (.cells #[.pointer (some ⟨f, 0, none⟩)] 23)).alloc (.cells #[.int .i64 b] 3)).alloc (.cells #[.int .i64 p] 3)).alloc (.cells #[.slice A l.length c] 29)
  have hk4 := ((((KeepF.refl f g w).alloc (.cells #[.pointer (some ⟨f, 0, none⟩)] 23)).alloc (.cells #[.int .i64 b] 3)).alloc (.cells #[.int .i64 p] 3)).alloc (.cells #[.slice A l.length c] 29)
  have HI4 := Lib.hid hI4
  have HK4 := Lib.hid hk4
  have hL := Lib.hid (looks_is hI4 32 #[.pointer (some ⟨w.heap.size, 0, none⟩), .pointer (some ⟨w.heap.size + 1, 0, none⟩), .pointer (some ⟨w.heap.size + 1 + 1, 0, none⟩), .pointer (some ⟨w.heap.size + 1 + 1 + 1, 0, none⟩)] (okP fl b p l.length) (enter_any _ _ _ Try.func32 rfl (by kernel_rfl)) (prog1 hI4 w.heap.size b p A l.length c (by simp [go_sem]) (by simp [go_sem]) (by simp [go_sem]) (by simp [go_sem])))
  obtain ⟨E, HE⟩ : ∃ E, RowKit.Hid (progE fl b p l.length = E) := ⟨_, Lib.hid rfl⟩
  obtain ⟨R, HR⟩ : ∃ R, RowKit.Hid (progF fl b p l = R) := ⟨_, Lib.hid rfl⟩
  rw [HE.out, HR.out]
  by_cases hz : looksE fl (okP fl b p l.length) = 0
  · obtain ⟨b0, b1, p0, p1, hl⟩ := okP_of hz
    obtain ⟨b, rfl⟩ := Int.eq_ofNat_of_zero_le b0
    obtain ⟨p, rfl⟩ := Int.eq_ofNat_of_zero_le p0
    have hb : b < fl.n := by omega
    have hp : p < 16 := by omega
    have hI5 := hI4.alloc (.cells #[.pointer none] 73)
    have hI6 := hI4.alloc (.cells #[.pointer (some ⟨g, b * 4113 + p * 257, none⟩)] 73)
    have HI6 := Lib.hid hI6.drew
    have HK6 := Lib.hid (hk4.alloc (.cells #[.pointer (some ⟨g, b * 4113 + p * 257, none⟩)] 73)).drew
    have e0 := hI5.c0
    have e04 := hI4.c0
    have es := hI6.st hb hp
    have g0 : (0 : Int) ≤ (b : Int) := by omega
    have g1 : (b : Int) < (fl.n : Int) := by omega
    have g2 : (0 : Int) ≤ (p : Int) := by omega
    have g3 : (p : Int) < 16 := by omega
    rw [hz] at hL
    by_cases hs : fl.c (b * 4113 + p * 257) = 0
    · rw [hs] at es
      have HEE := Lib.hid (show E = changeE fl by rw [← HE.out]; unfold progE; rw [if_pos hz, Int.toNat_natCast, Int.toNat_natCast, if_pos hs])
      have HRR := Lib.hid (show R = changeF fl (fullC fl.c (b * 4113 + p * 257) l) (updC fl.c (b * 4113 + p * 257) 1) by rw [← HR.out]; unfold progF; rw [Int.toNat_natCast, Int.toNat_natCast, if_pos ⟨hz, hs⟩])
      rw [HEE.out, HRR.out]
      have HCH := Lib.hid (change_is HI6.out hfu 36 37 #[.pointer (some ⟨w.heap.size + 1 + 1 + 1 + 1, 0, none⟩), .pointer (some ⟨w.heap.size + 1 + 1 + 1, 0, none⟩)] #[.pointer (some ⟨w.heap.size + 1 + 1 + 1 + 1, 0, none⟩)]
        (fullC fl.c (b * 4113 + p * 257) l) (updC fl.c (b * 4113 + p * 257) 1) (enter_any _ _ _ Try.func36 rfl (by kernel_rfl)) (enter_any _ _ _ Try.func37 rfl (by kernel_rfl))
        (prog2 hb hp (by simp [go_sem]) (by simp [go_sem]) (by omega) (by omega) A c l (by simp [go_sem]) (by simp [go_sem]) (by omega) (by omega) (Kd.F_drew (Kd.F_alloc (Kd.F_alloc (Kd.F_alloc (Kd.F_alloc (Kd.F_alloc hr _) _) _) _) _)) hl)
        (prog3 hb hp (by simp [go_sem]) (by simp [go_sem]) (by omega) (by omega)))
      clear hz hs HE HR HEE HRR h hI4 hk4 hI5 hI6 hr hfu b0 b1 p0 p1
      go_enter Try.func9, Try.ntmps9
      go_wp2_with (go_at_call 31; refine hL.out.mono ?_; rintro e w' ⟨rfl, rfl⟩)
      go_region
      go_wp2_with (go_at_call 35; refine HCH.out.mono ?_; rintro e w' ⟨rfl, hI', hK'⟩; have HI' := Lib.hid hI'; have HK' := Lib.hid (HK6.out.trans hK'); clear hI' hK')
      go_ret
      exact ⟨rfl, HI'.out, HK'.out⟩
    · obtain ⟨x, hx⟩ : ∃ x, fl.c (b * 4113 + p * 257) = x := ⟨_, rfl⟩
      rw [hx] at es
      have hne : (x != 0) = true := bne_iff_ne.2 (by rw [← hx]; exact hs)
      have HEE := Lib.hid (show E = 20 by rw [← HE.out]; unfold progE; rw [if_pos hz, Int.toNat_natCast, Int.toNat_natCast, if_neg hs])
      have HRR := Lib.hid (show R = fl by rw [← HR.out]; unfold progF; rw [Int.toNat_natCast, Int.toNat_natCast, if_neg (fun e => hs e.2)])
      rw [HEE.out, HRR.out]
      clear hz hs hx HE HR HEE HRR h hI4 hk4 hI5 hI6 hr hfu b0 b1 p0 p1
      go_enter Try.func9, Try.ntmps9
      go_wp2_with (go_at_call 31; refine hL.out.mono ?_; rintro e w' ⟨rfl, rfl⟩)
      go_region
      go_wp2
      go_ret
      exact ⟨rfl, HI6.out, HK6.out⟩
  · obtain ⟨x, hx⟩ : ∃ x, looksE fl (okP fl b p l.length) = x := ⟨_, rfl⟩
    have HEE := Lib.hid (show E = x by rw [← HE.out]; unfold progE; rw [if_neg hz, hx])
    have HRR := Lib.hid (show R = fl by rw [← HR.out]; unfold progF; rw [if_neg (fun e => hz e.1)])
    rw [HEE.out, HRR.out]
    rw [hx] at hL hz
    have hne : (x != 0) = true := bne_iff_ne.2 hz
    clear hz hx HE HR HEE HRR h hI4 hk4 hr hfu
    go_enter Try.func9, Try.ntmps9
    go_wp2_with (go_at_call 31; refine hL.out.mono ?_; rintro e w' ⟨rfl, rfl⟩)
    go_ret
    exact ⟨rfl, HI4.out, HK4.out⟩
end Go.Proofs.Ytandhpnpodkemaa.M
end

section
/- Contracts of a flash's Wear, of Erase's first two inner functions, and of Program, Erase, SetFuse, Crash, Read, Wear of a flash that no call made. -/
set_option linter.unusedVariables false
set_option linter.unusedSimpArgs false
set_option maxRecDepth 100000
namespace Go.Proofs.Ytandhpnpodkemaa.M
open Go.RowKit Go.Proofs.YtandhpnpodkemaaW.PrintWords
def wearV (fl : Fl) (b : Int) : Int := if 0 ≤ b ∧ b < (fl.n : Int) then fl.c (b.toNat * 4113 + 4112) else 0
theorem wear_is {w : World} {f g : Nat} {fl : Fl} (h : IsF w f g fl) (b : Int) : Calls Try.prog 21 #[.pointer (some ⟨f, 0, none⟩), .int .i64 b] w fun e w' => e = .returned (.int .i64 (wearV fl b)) ∧ w = w' := by
  have HN := Lib.hid (none_is h)
  have HI := Lib.hid (is_calls h b)
  obtain ⟨E, HE⟩ : ∃ E, RowKit.Hid (wearV fl b = E) := ⟨_, Lib.hid rfl⟩
  rw [HE.out]
  by_cases hb : 0 ≤ b ∧ b < (fl.n : Int)
  · obtain ⟨b0, b1⟩ := hb
    have hq : (decide (0 ≤ b) && decide (b < (fl.n : Int))) = true := by rw [decide_eq_true b0, decide_eq_true b1]; rfl
    rw [hq] at HI
    obtain ⟨b, rfl⟩ := Int.eq_ofNat_of_zero_le b0
    have e0 := h.c0
    have ew := h.wear (b := b) (by omega)
    have HEE := Lib.hid (show E = fl.c (b * 4113 + 4112) by rw [← HE.out]; unfold wearV; rw [if_pos ⟨b0, b1⟩]; simp)
    rw [HEE.out]
    clear h hq HE HEE
    go_enter Try.func21, Try.ntmps21
    go_wp2_with (first | (go_at_call 41; refine HN.out.mono ?_; rintro e w' ⟨rfl, rfl⟩) | (go_at_call 33; refine HI.out.mono ?_; rintro e w' ⟨rfl, rfl⟩))
    go_ret
    exact ⟨rfl, rfl⟩
  · have hq : (decide (0 ≤ b) && decide (b < (fl.n : Int))) = false := by
      by_cases b0 : 0 ≤ b
      · rw [decide_eq_true b0, decide_eq_false (fun b1 => hb ⟨b0, b1⟩)]; rfl
      · rw [decide_eq_false b0]; rfl
    rw [hq] at HI
    have HEE := Lib.hid (show E = 0 by rw [← HE.out]; unfold wearV; rw [if_neg hb])
    rw [HEE.out]
    clear h hq HE HEE hb
    go_enter Try.func21, Try.ntmps21
    go_wp2_with (first | (go_at_call 41; refine HN.out.mono ?_; rintro e w' ⟨rfl, rfl⟩) | (go_at_call 33; refine HI.out.mono ?_; rintro e w' ⟨rfl, rfl⟩))
    go_ret
    exact ⟨rfl, rfl⟩
theorem erase1 {w : World} {f g : Nat} {fl : Fl} (h : IsF w f g fl) (B : Nat) (b : Int) (h0 : w.cell? ⟨B, 0, none⟩ = some (.pointer (some ⟨f, 0, none⟩))) (h1 : w.cell? ⟨B + 1, 0, none⟩ = some (.int .i64 b)) :
    Calls Try.prog 38 #[.pointer (some ⟨B, 0, none⟩), .pointer (some ⟨B + 1, 0, none⟩)] w fun e w' => e = .returned (.bool (decide (0 ≤ b) && decide (b < (fl.n : Int)))) ∧ w = w' := by
  have HI := Lib.hid (is_calls h b)
  obtain ⟨r, hr⟩ : ∃ r, (decide (0 ≤ b) && decide (b < (fl.n : Int))) = r := ⟨_, rfl⟩
  rw [hr] at HI ⊢
  clear h hr
  go_enter Try.func38, Try.ntmps38
  go_wp2_with (go_at_call 33; refine HI.out.mono ?_; rintro e w' ⟨rfl, rfl⟩)
  go_ret
  exact ⟨rfl, rfl⟩
theorem erase2 (s : Int) (F B : Value) (w : World) : Calls Try.prog 39 #[.int .i64 s, F, B] w fun e w' => e = .returned (.func (.func 40) #[] #[F, B, .pointer (some ⟨w.heap.size, 0, none⟩)]) ∧ w' = w.alloc (.cells #[.int .i64 s] 3) := by
  have hmf : ∀ (fn : Fn) (first cap : Array Value) (w : World), (Instr.makeFunc fn first cap).run Try.prog w = .ok (.func fn first cap) w := fun _ _ _ _ => rfl
  go_enter Try.func39, Try.ntmps39
  go_wp2
  go_ret
  exact ⟨rfl, rfl⟩
end Go.Proofs.Ytandhpnpodkemaa.M
end

section
/- (under way) Contract of Erase's inner function. -/
set_option linter.unusedVariables false
set_option linter.unusedSimpArgs false
set_option maxRecDepth 100000
namespace Go.Proofs.Ytandhpnpodkemaa.M
open Go.RowKit Go.Proofs.YtandhpnpodkemaaW.PrintWords Go.Proofs.YtandhpnpodkemaaW.PrintLast
theorem infoPz : (Try.prog.info? 76).bind (fun i => i.zero.map fun z => z.cells.toList) = some (.int .i64 0 :: List.replicate 256 (.int .u8 0)) := by kernel_rfl
theorem infoPa : (Try.prog.info? 76).bind (fun i => i.zero.map fun z => match z with | .agg _ => true | _ => false) = some true := by kernel_rfl
theorem zeroP : ∃ Z : Array Value, (∀ W : World, (zeroValue 76).run Try.prog W = .ok (.agg Z) W) ∧ Z.toList = .int .i64 0 :: List.replicate 256 (.int .u8 0) := by
  obtain ⟨i, hi, h⟩ := Option.bind_eq_some_iff.1 infoPz
  obtain ⟨z, hz, h2⟩ := Option.map_eq_some_iff.1 h
  have h3 := infoPa
  rw [hi] at h3
  simp only [Option.bind_some, hz, Option.map_some, Option.some.injEq] at h3
  cases z with
  | agg Z =>
    refine ⟨Z, fun W => ?_, by simpa [Value.cells] using h2⟩
    simp [zeroValue, typeInfo, hi, hz]
  | _ => simp at h3
def eraseC1 (c : Nat → Int) (q : Nat) (s : Int) : Nat → Int := putL (updC c q s) (q + 1) (List.replicate 256 0)
def eraseC (c : Nat → Int) (b : Nat) (s : Int) : Nat → (Nat → Int)
  | 0 => updC c (b * 4113 + 4112) (wrap64 (c (b * 4113 + 4112) + 1))
  | j + 1 => eraseC1 (eraseC c b s j) (b * 4113 + j * 257) s
theorem store_pg {w : World} {f g : Nat} {fl : Fl} (h : IsF w f g fl) {b p : Nat} (hb : b < fl.n) (hp : p < 16) (s : Int) {Z : Array Value} (hZ : Z.toList = .int .i64 0 :: List.replicate 256 (.int .u8 0)) :
    ∃ W, (storeCells ⟨g, b * 4113 + p * 257, none⟩ (Z.toList.set 0 (.int .i64 s))).run Try.prog w = .ok () W ∧ IsF W f g { fl with c := eraseC1 fl.c (b * 4113 + p * 257) s } ∧ KeepF f g w W := by
  have e1 : Z.toList.set 0 (.int .i64 s) = .int .i64 s :: (List.replicate 256 (0 : Int)).map fun x => .int .u8 x := by rw [hZ]; simp
  have h1 := h.put (i := b * 4113 + p * 257) (by omega) s
  rw [kdAt_st hp] at h1
  rw [e1]
  unfold eraseC1
  obtain ⟨zs, hzs, hzl⟩ : ∃ zs, List.replicate 256 (0 : Int) = zs ∧ zs.length = 256 := ⟨_, rfl, by simp⟩
  rw [hzs]
  clear e1 hzs hZ
  obtain ⟨r1, r2⟩ := h1.puts zs (b * 4113 + p * 257 + 1) (fun j hj => kdAt_data hp (by omega)) (by show _ ≤ fl.n * 4113; omega)
  have hrun := run_storeCells_cells (P := Try.prog) g (b * 4113 + p * 257) (.int .i64 s :: zs.map fun x => .int .u8 x) 0 w
    (fun j hj => by simp only [List.length_cons, List.length_map] at hj; rw [Nat.add_zero, h.gc (by omega)]; rfl) (fun j hj => h.gz _)
    (by intro v hv; rcases List.mem_cons.1 hv with e | e
        · rw [e]; rfl
        · obtain ⟨x, _, rfl⟩ := List.mem_map.1 e; rfl)
  simp only [World.setCells, Nat.add_zero] at hrun
  exact ⟨_, hrun, r1, ((KeepF.refl _ _ _).setG _ _).trans r2⟩
set_option maxHeartbeats 1000000 in
theorem erase3 {w : World} {f g : Nat} {fl : Fl} {b F B S : Nat} (s : Int) (hb : b < fl.n) (hF : w.cell? ⟨F, 0, none⟩ = some (.pointer (some ⟨f, 0, none⟩))) (hB : w.cell? ⟨B, 0, none⟩ = some (.int .i64 (b : Int))) (hS : w.cell? ⟨S, 0, none⟩ = some (.int .i64 s))
    (lF : F < w.heap.size ∧ F ≠ f ∧ F ≠ g) (lB : B < w.heap.size ∧ B ≠ f ∧ B ≠ g) (lS : S < w.heap.size ∧ S ≠ f ∧ S ≠ g) :
    Makes w f g fl 40 #[.pointer (some ⟨F, 0, none⟩), .pointer (some ⟨B, 0, none⟩), .pointer (some ⟨S, 0, none⟩)] (eraseC fl.c b s 16) := by
  intro w' fl' hk hI hc hn
  obtain ⟨Z, hzv, hZ⟩ := zeroP
  have hZn : ¬ Z = #[] := by intro e; subst e; simp at hZ
  have hZs : Z.size = 257 := by rw [← Array.length_toList, hZ]; simp
  have HZ := Lib.hid hZ
  clear hZ
  have HN := Lib.hid hn
  have HBN := Lib.hid hb
  have x1 : w'.cell? ⟨F, 0, none⟩ = some (.pointer (some ⟨f, 0, none⟩)) := (hk.cell lF.1 lF.2.1 lF.2.2).trans hF
  have x2 : w'.cell? ⟨B, 0, none⟩ = some (.int .i64 (b : Int)) := (hk.cell lB.1 lB.2.1 lB.2.2).trans hB
  have x3 : w'.cell? ⟨S, 0, none⟩ = some (.int .i64 s) := (hk.cell lS.1 lS.2.1 lS.2.2).trans hS
  have HX1 := Lib.hid x1
  have HX2 := Lib.hid x2
  have HX3 := Lib.hid x3
  have HSZ := Lib.hid hk.size
  have HLF := Lib.hid lF
  have HLB := Lib.hid lB
  have HLS := Lib.hid lS
  have e0 := hI.c0
  have g0 : (0 : Int) ≤ (b : Int) := by omega
  have g1 : (b : Int) < (fl'.n : Int) := by omega
  have ew := hI.wear (b := b) (by omega)
  have hz := hI.gz (b * 4113 + 4112)
  have HP := Lib.hid (hI.put (i := b * 4113 + 4112) (by omega) (IntKind.i64.wrap (fl'.c (b * 4113 + 4112) + 1)))
  rw [kdAt_wear] at HP
  have HC := Lib.hid hc
  clear hF hB hS hk hI hc hn lF lB lS hb
  go_enter Try.func40, Try.ntmps40
  go_wp2
  go_region
  clear e0 ew hz x1 x2 x3
  go_wp2
  go_loopw [15] (fun i wr => ∃ j : Nat, i = .int .i64 (j : Int) ∧ j ≤ 16 ∧ RowKit.Hid (IsF wr f g { fl' with c := eraseC fl.c b s j }) ∧ RowKit.Hid (KeepF f g w' wr)) (fun i _ => 16 - (intOf i).toNat)
  case atStart =>
    refine ⟨0, rfl, Nat.zero_le _, Lib.hid ?_, Lib.hid ?_⟩
    · have := HP.out
      have e : eraseC fl.c b s 0 = updC fl'.c (b * 4113 + 4112) (wrap64 (fl'.c (b * 4113 + 4112) + 1)) := by rw [HC.out]; rfl
      rw [e]
      rw [i64_w] at this
      first | exact this.drew | exact this
    · first | exact ((KeepF.refl _ _ _).setG _ _).drew | exact (KeepF.refl _ _ _).setG _ _
  case round =>
    obtain ⟨j, rfl, hj, HI, HK⟩ := hrel
    have hsz : w.heap.size ≤ w'.heap.size := HSZ.out
    have x1 : wr.cell? ⟨F, 0, none⟩ = some (.pointer (some ⟨f, 0, none⟩)) := (HK.out.cell (p := ⟨F, 0, none⟩) (Nat.lt_of_lt_of_le HLF.out.1 hsz) HLF.out.2.1 HLF.out.2.2).trans HX1.out
    have x2 : wr.cell? ⟨B, 0, none⟩ = some (.int .i64 (b : Int)) := (HK.out.cell (p := ⟨B, 0, none⟩) (Nat.lt_of_lt_of_le HLB.out.1 hsz) HLB.out.2.1 HLB.out.2.2).trans HX2.out
    have x3 : wr.cell? ⟨S, 0, none⟩ = some (.int .i64 s) := (HK.out.cell (p := ⟨S, 0, none⟩) (Nat.lt_of_lt_of_le HLS.out.1 hsz) HLS.out.2.1 HLS.out.2.2).trans HX3.out
    by_cases hlt : j < 16
    · have hlt0 : (j : Int) < 16 := by omega
      have j0 : (0 : Int) ≤ (j : Int) := by omega
      have e1 := HI.out.c0
      obtain ⟨W, hrun, hIW, hKW⟩ := store_pg HI.out.drew (b := b) (p := j) (by show b < fl'.n; omega) hlt s HZ.out
      have HIW := Lib.hid hIW
      have HKW := Lib.hid (HK.out.drew.trans hKW)
      have hj1 : IntKind.i64.wrap ((j : Int) + 1) = ((j + 1 : Nat) : Int) := by rw [IntKind.wrap_i64]; omega
      clear hIW hKW
      go_wp2
      go_region
      go_wp2
      go_roundw
      case rel => exact ⟨j + 1, by first | rfl | (congr 1), by omega, Lib.hid (by rw [eraseC]; exact HIW.out), HKW⟩
      case measure => simp [intOf]; omega
    · have hje : j = 16 := by omega
      subst hje
      clear hlt
      go_wp2
      go_end0
      exact ⟨rfl, HI.out, HK.out⟩
end Go.Proofs.Ytandhpnpodkemaa.M
end

section
/- Contract of a flash's Erase. -/
set_option linter.unusedVariables false
set_option linter.unusedSimpArgs false
set_option maxRecDepth 100000
namespace Go.Proofs.Ytandhpnpodkemaa.M
open Go.RowKit Go.Proofs.YtandhpnpodkemaaW.PrintWords Go.Proofs.YtandhpnpodkemaaW.PrintLast
def isB (fl : Fl) (b : Int) : Bool := decide (0 ≤ b) && decide (b < (fl.n : Int))
def eraseE (fl : Fl) (b : Int) : Int := if looksE fl (isB fl b) = 0 then changeE fl else looksE fl (isB fl b)
def eraseF (fl : Fl) (b : Int) : Fl := if looksE fl (isB fl b) = 0 then changeF fl (eraseC fl.c b.toNat 0 16) (eraseC fl.c b.toNat 1 16) else fl
theorem isB_of {fl : Fl} {b : Int} (h : looksE fl (isB fl b) = 0) : 0 ≤ b ∧ b < (fl.n : Int) := by
  unfold looksE at h
  split at h
  · omega
  · split at h
    · rename_i h2
      unfold isB at h2
      simp only [Bool.and_eq_true, decide_eq_true_eq] at h2
      exact h2
    · omega
set_option maxHeartbeats 1000000 in
theorem erase_is {w : World} {f g : Nat} {fl : Fl} (h : IsF w f g fl) (hfu : 0 ≤ fl.fuse ∧ fl.fuse ≤ 9223372036854775807) (b : Int) :
    Calls Try.prog 11 #[.pointer (some ⟨f, 0, none⟩), .int .i64 b] w fun e w' => e = .returned (.int .i64 (eraseE fl b)) ∧ IsF w' f g (eraseF fl b) ∧ KeepF f g w w' := by
  have hmf : ∀ (fn : Fn) (first cap : Array Value) (w : World), (Instr.makeFunc fn first cap).run Try.prog w = .ok (.func fn first cap) w := fun _ _ _ _ => rfl
  have hflt := h.flt
  have hglt := h.glt
  have hI2 := (h.alloc (.cells #[.pointer (some ⟨f, 0, none⟩)] 23)).alloc (.cells #[.int .i64 b] 3)
  have hk2 := ((KeepF.refl f g w).alloc (.cells #[.pointer (some ⟨f, 0, none⟩)] 23)).alloc (.cells #[.int .i64 b] 3)
  have HI2 := Lib.hid hI2
  have HK2 := Lib.hid hk2
  have hL := Lib.hid (looks_is hI2 38 #[.pointer (some ⟨w.heap.size, 0, none⟩), .pointer (some ⟨w.heap.size + 1, 0, none⟩)] (isB fl b) (enter_any _ _ _ Try.func38 rfl (by kernel_rfl)) (erase1 hI2 w.heap.size b (by simp [go_sem]) (by simp [go_sem])))
  obtain ⟨E, HE⟩ : ∃ E, RowKit.Hid (eraseE fl b = E) := ⟨_, Lib.hid rfl⟩
  obtain ⟨R, HR⟩ : ∃ R, RowKit.Hid (eraseF fl b = R) := ⟨_, Lib.hid rfl⟩
  rw [HE.out, HR.out]
  by_cases hz : looksE fl (isB fl b) = 0
  · obtain ⟨b0, b1⟩ := isB_of hz
    obtain ⟨b, rfl⟩ := Int.eq_ofNat_of_zero_le b0
    have hb : b < fl.n := by omega
    have HEE := Lib.hid (show E = changeE fl by rw [← HE.out]; unfold eraseE; rw [if_pos hz])
    have HRR := Lib.hid (show R = changeF fl (eraseC fl.c b 0 16) (eraseC fl.c b 1 16) by rw [← HR.out]; unfold eraseF; rw [if_pos hz]; simp)
    rw [HEE.out, HRR.out]
    rw [hz] at hL
    have HCA := Lib.hid (change_is (w := (((((w.alloc (.cells #[.pointer (some ⟨f, 0, none⟩)] 23)).alloc (.cells #[.int .i64 (b : Int)] 3)).alloc (.cells #[.int .i64 0] 3)).alloc (.cells #[.int .i64 1] 3)).drew)) (((hI2.alloc (.cells #[.int .i64 0] 3)).alloc (.cells #[.int .i64 1] 3)).drew) hfu 40 40 #[.pointer (some ⟨w.heap.size, 0, none⟩), .pointer (some ⟨w.heap.size + 1, 0, none⟩), .pointer (some ⟨w.heap.size + 1 + 1, 0, none⟩)] #[.pointer (some ⟨w.heap.size, 0, none⟩), .pointer (some ⟨w.heap.size + 1, 0, none⟩), .pointer (some ⟨w.heap.size + 1 + 1 + 1, 0, none⟩)] (eraseC fl.c b 0 16) (eraseC fl.c b 1 16) (enter_any _ _ _ Try.func40 rfl (by kernel_rfl)) (enter_any _ _ _ Try.func40 rfl (by kernel_rfl))
      (erase3 0 hb (by simp [go_sem]) (by simp [go_sem]) (by simp [go_sem]) ⟨by simp [go_sem]; try omega, by omega, by omega⟩ ⟨by simp [go_sem]; try omega, by omega, by omega⟩ ⟨by simp [go_sem]; try omega, by omega, by omega⟩)
      (erase3 1 hb (by simp [go_sem]) (by simp [go_sem]) (by simp [go_sem]) ⟨by simp [go_sem]; try omega, by omega, by omega⟩ ⟨by simp [go_sem]; try omega, by omega, by omega⟩ ⟨by simp [go_sem]; try omega, by omega, by omega⟩))
    have HCB := Lib.hid (change_is (w := (((((w.alloc (.cells #[.pointer (some ⟨f, 0, none⟩)] 23)).alloc (.cells #[.int .i64 (b : Int)] 3)).alloc (.cells #[.int .i64 1] 3)).alloc (.cells #[.int .i64 0] 3)).drew)) (((hI2.alloc (.cells #[.int .i64 1] 3)).alloc (.cells #[.int .i64 0] 3)).drew) hfu 40 40 #[.pointer (some ⟨w.heap.size, 0, none⟩), .pointer (some ⟨w.heap.size + 1, 0, none⟩), .pointer (some ⟨w.heap.size + 1 + 1 + 1, 0, none⟩)] #[.pointer (some ⟨w.heap.size, 0, none⟩), .pointer (some ⟨w.heap.size + 1, 0, none⟩), .pointer (some ⟨w.heap.size + 1 + 1, 0, none⟩)] (eraseC fl.c b 0 16) (eraseC fl.c b 1 16) (enter_any _ _ _ Try.func40 rfl (by kernel_rfl)) (enter_any _ _ _ Try.func40 rfl (by kernel_rfl))
      (erase3 0 hb (by simp [go_sem]) (by simp [go_sem]) (by simp [go_sem]) ⟨by simp [go_sem]; try omega, by omega, by omega⟩ ⟨by simp [go_sem]; try omega, by omega, by omega⟩ ⟨by simp [go_sem]; try omega, by omega, by omega⟩)
      (erase3 1 hb (by simp [go_sem]) (by simp [go_sem]) (by simp [go_sem]) ⟨by simp [go_sem]; try omega, by omega, by omega⟩ ⟨by simp [go_sem]; try omega, by omega, by omega⟩ ⟨by simp [go_sem]; try omega, by omega, by omega⟩))
    have HKA := Lib.hid (((hk2.alloc (.cells #[.int .i64 0] 3)).alloc (.cells #[.int .i64 1] 3)).drew)
    have HKB := Lib.hid (((hk2.alloc (.cells #[.int .i64 1] 3)).alloc (.cells #[.int .i64 0] 3)).drew)
    clear hz HE HR HEE HRR h hI2 hk2 hfu b0 b1 hb
    go_enter Try.func11, Try.ntmps11
    go_wp2_with (go_at_call 31; refine hL.out.mono ?_; rintro e w' ⟨rfl, rfl⟩)
    go_region_held3 (fun w' => w'.cell? ⟨w.heap.size, 0, none⟩ = some (.pointer (some ⟨f, 0, none⟩))) (go_keep) (first
      | (go_at_call 39; refine (erase2 _ _ _ _).mono ?_; rintro e w' ⟨rfl, rfl⟩)
      | (go_at_call 35; first
          | (refine HCA.out.mono ?_; rintro e w' ⟨rfl, hI', hK'⟩; have qh : w'.cell? ⟨w.heap.size, 0, none⟩ = some (.pointer (some ⟨f, 0, none⟩)) := (hK'.cell (by simp [go_sem]; try omega) (by show w.heap.size ≠ f; omega) (by show w.heap.size ≠ g; omega)).trans (by simp [go_sem]); have HI' := Lib.hid hI'; have HK' := Lib.hid (HKA.out.trans hK'); clear hI' hK')
          | (refine HCB.out.mono ?_; rintro e w' ⟨rfl, hI', hK'⟩; have qh : w'.cell? ⟨w.heap.size, 0, none⟩ = some (.pointer (some ⟨f, 0, none⟩)) := (hK'.cell (by simp [go_sem]; try omega) (by show w.heap.size ≠ f; omega) (by show w.heap.size ≠ g; omega)).trans (by simp [go_sem]); have HI' := Lib.hid hI'; have HK' := Lib.hid (HKB.out.trans hK'); clear hI' hK')))
    all_goals
      go_wp2
      go_ret
      exact ⟨rfl, HI'.out, HK'.out⟩
  · obtain ⟨x, hx⟩ : ∃ x, looksE fl (isB fl b) = x := ⟨_, rfl⟩
    have HEE := Lib.hid (show E = x by rw [← HE.out]; unfold eraseE; rw [if_neg hz, hx])
    have HRR := Lib.hid (show R = fl by rw [← HR.out]; unfold eraseF; rw [if_neg hz])
    rw [HEE.out, HRR.out]
    rw [hx] at hL hz
    have hne : (x != 0) = true := bne_iff_ne.2 hz
    clear hz hx HE HR HEE HRR h hI2 hk2 hfu
    go_enter Try.func11, Try.ntmps11
    go_wp2_with (go_at_call 31; refine hL.out.mono ?_; rintro e w' ⟨rfl, rfl⟩)
    go_ret
    exact ⟨rfl, HI2.out, HK2.out⟩
end Go.Proofs.Ytandhpnpodkemaa.M
end

section
/- The reference's small functions: how, look, burn, at, SetFuse, Crash, Restart, Wear. -/
set_option linter.unusedVariables false
set_option linter.unusedSimpArgs false
set_option maxRecDepth 100000
namespace Go.Proofs.Ytandhpnpodkemaa.M
open Go.RowKit Go.Proofs.YtandhpnpodkemaaW.PrintWords
theorem how_is (k : Int) (w : World) : Calls Try.prog 60 #[.int .i64 k] w fun e w' => e = .returned (.int .i64 (keepV k)) ∧ w' = w := by
  have hk1 := Int.tmod_lt_of_pos k (show (0 : Int) < 3 by decide)
  have hk2 := Int.lt_tmod_of_pos k (show (0 : Int) < 3 by decide)
  have hw : IntKind.i64.wrap (Int.tmod k 3 + 3) = Int.tmod k 3 + 3 := by rw [IntKind.wrap_i64]; omega
  obtain ⟨kv, hkv⟩ : ∃ kv, Int.tmod (Int.tmod k 3 + 3) 3 = kv := ⟨_, rfl⟩
  rw [show keepV k = kv from hkv]
  clear hk1 hk2
  go_enter Try.func60, Try.ntmps60
  go_wp2_with fail
  go_ret
  exact ⟨rfl, rfl⟩
theorem rlook_is {w : World} {q ob wb : Nat} {fl : Fl} (h : IsR w q ob wb fl) (b p : Int) :
    Calls Try.prog 58 #[.pointer (some ⟨q, 0, none⟩), .int .i64 b, .int .i64 p] w fun e w' => e = .returned (.int .i64 (looksE fl (okAt fl b p))) ∧ w' = w := by
  obtain ⟨kr, co, ⟨c0, c1, c2, c3, c4⟩, hkr, hco⟩ := h.cells
  obtain ⟨x, hx⟩ : ∃ x, looksE fl (okAt fl b p) = x := ⟨_, rfl⟩
  have HX := Lib.hid hx
  rw [hx]
  clear hx h c1 c2 c3
  by_cases hd : fl.down = true
  · obtain rfl : 7 = x := by rw [← HX.out]; unfold looksE; rw [if_pos hd]
    rw [hd] at c4
    clear hd HX
    go_enter Try.func58, Try.ntmps58
    go_wp2_with fail
    go_ret
    exact ⟨rfl, rfl⟩
  · have hd' : fl.down = false := by simpa using hd
    rw [hd'] at c4
    by_cases h0 : b < 0
    · obtain rfl : 1 = x := by rw [← HX.out]; unfold looksE okAt; rw [if_neg hd, if_neg (by simp; omega)]
      have q0 : decide (b < 0) = true := decide_eq_true h0
      clear hd hd' HX h0
      go_enter Try.func58, Try.ntmps58
      go_wp2_with fail
      go_ret
      exact ⟨rfl, rfl⟩
    · have q0 : decide (b < 0) = false := decide_eq_false h0
      by_cases h1 : (fl.n : Int) ≤ b
      · obtain rfl : 1 = x := by rw [← HX.out]; unfold looksE okAt; rw [if_neg hd, if_neg (by simp; omega)]
        have q1 : decide ((fl.n : Int) ≤ b) = true := decide_eq_true h1
        clear hd hd' HX h0 h1
        go_enter Try.func58, Try.ntmps58
        go_wp2_with fail
        go_ret
        exact ⟨rfl, rfl⟩
      · have q1 : decide ((fl.n : Int) ≤ b) = false := decide_eq_false h1
        by_cases h2 : p < 0
        · obtain rfl : 1 = x := by rw [← HX.out]; unfold looksE okAt; rw [if_neg hd, if_neg (by simp; omega)]
          have q2 : decide (p < 0) = true := decide_eq_true h2
          clear hd hd' HX h0 h1 h2
          go_enter Try.func58, Try.ntmps58
          go_wp2_with fail
          go_ret
          exact ⟨rfl, rfl⟩
        · have q2 : decide (p < 0) = false := decide_eq_false h2
          by_cases h3 : 16 ≤ p
          · obtain rfl : 1 = x := by rw [← HX.out]; unfold looksE okAt; rw [if_neg hd, if_neg (by simp; omega)]
            have q3 : decide (16 ≤ p) = true := decide_eq_true h3
            clear hd hd' HX h0 h1 h2 h3
            go_enter Try.func58, Try.ntmps58
            go_wp2_with fail
            go_ret
            exact ⟨rfl, rfl⟩
          · have q3 : decide (16 ≤ p) = false := decide_eq_false h3
            obtain rfl : 0 = x := by rw [← HX.out]; unfold looksE okAt; rw [if_neg hd, if_pos (by simp; omega)]
            clear hd hd' HX h0 h1 h2 h3
            go_enter Try.func58, Try.ntmps58
            go_wp2_with fail
            go_ret
            exact ⟨rfl, rfl⟩
def burnF (fl : Fl) : Fl := if fl.fuse = 1 then { fl with fuse := 0, down := true } else { fl with fuse := max (fl.fuse - 1) 0 }
theorem burn_is {w : World} {q ob wb : Nat} {fl : Fl} (h : IsR w q ob wb fl) (hf : 0 ≤ fl.fuse ∧ fl.fuse ≤ 9223372036854775807) :
    Calls Try.prog 59 #[.pointer (some ⟨q, 0, none⟩)] w fun e w' => e = .returned (.bool (decide (fl.fuse = 1))) ∧ IsR w' q ob wb (burnF fl) ∧ KeepS (fun k => k = q) w w' := by
  obtain ⟨kr, co, hy, hkr, hco⟩ := h.y
  have HY := Lib.hid hy; have HR := Lib.hid h; have HK := Lib.hid (And.intro hkr hco)
  have c2 : w.cell? ⟨q, 2, none⟩ = some (.int .i64 fl.fuse) := (blk_cell hy 2).trans rfl
  have c4 : w.cell? ⟨q, 4, none⟩ = some (.bool fl.down) := (blk_cell hy 4).trans rfl
  have z2 : w.frozen? ⟨q, 2, none⟩ = false := blk_frozen hy 2
  have z4 : w.frozen? ⟨q, 4, none⟩ = false := blk_frozen hy 4
  clear h hy hkr hco
  by_cases h0 : fl.fuse = 0
  · have q0 : (fl.fuse == 0) = true := by rw [h0]; rfl
    have HB := Lib.hid (show burnF fl = fl ∧ decide (fl.fuse = 1) = false by
      constructor
      · unfold burnF; rw [if_neg (by omega), show max (fl.fuse - 1) 0 = fl.fuse by omega]
      · rw [h0]; rfl)
    clear h0 hf
    rw [HB.out.2]
    go_enter Try.func59, Try.ntmps59
    go_wp2_with fail
    go_ret
    exact ⟨rfl, by rw [HB.out.1]; exact HR.out, KeepS.refl _ _⟩
  · have q0 : (fl.fuse == 0) = false := beq_eq_false_iff_ne.2 h0
    have hw : IntKind.i64.wrap (fl.fuse - 1) = fl.fuse - 1 := by rw [IntKind.wrap_i64]; omega
    by_cases h1 : fl.fuse = 1
    · have HB := Lib.hid (show burnF fl = { fl with fuse := 0, down := true } ∧ decide (fl.fuse = 1) = true by
        constructor
        · unfold burnF; rw [if_pos h1]
        · rw [h1]; rfl)
      rw [HB.out.2]
      rw [h1] at c2 q0 hw
      clear h0 h1 hf
      go_enter Try.func59, Try.ntmps59
      go_wp2_with fail
      go_ret
      rw [HB.out.1]
      have hk := ((KeepS.refl (fun k => k = q) w).set (p := ⟨q, 2, none⟩) (.inl rfl) (.int .i64 0)).set (p := ⟨q, 4, none⟩) (.inl rfl) (.bool true)
      exact ⟨rfl, HR.out.objq hk rfl (fun b hb => ⟨fun p hp => rfl, rfl⟩) ⟨kr, co, blk_put (blk_put HY.out 2 _ rfl) 4 _ rfl, HK.out⟩, hk⟩
    · have q1 : decide (0 < fl.fuse - 1) = true := decide_eq_true (by omega)
      have q2 : decide (1 < fl.fuse) = true := decide_eq_true (by omega)
      have HB := Lib.hid (show burnF fl = { fl with fuse := fl.fuse - 1 } ∧ decide (fl.fuse = 1) = false by
        constructor
        · unfold burnF; rw [if_neg h1, Int.max_eq_left (by omega)]
        · exact decide_eq_false h1)
      rw [HB.out.2]
      clear h0 h1 hf
      go_enter Try.func59, Try.ntmps59
      go_wp2_with fail
      go_ret
      rw [HB.out.1]
      have hk := (KeepS.refl (fun k => k = q) w).set (p := ⟨q, 2, none⟩) (.inl rfl) (.int .i64 (fl.fuse - 1))
      exact ⟨rfl, HR.out.objq hk rfl (fun b hb => ⟨fun p hp => rfl, rfl⟩) ⟨kr, co, blk_put HY.out 2 _ rfl, HK.out⟩, hk⟩
end Go.Proofs.Ytandhpnpodkemaa.M
end

section
/- What a law is handed: any type of numbers, bools, slices and structs, opened as Lean data (its kind 'Kd'), with its bounds; the row's frame. -/
set_option linter.unusedVariables false
set_option linter.unusedSimpArgs false
namespace Go.Proofs.Ytandhpnpodkemaa.M
open Go.RowKit Go.ChangeShapes Go.WideShapes Go.ChangeAt Go.Proofs.YtandhpnpodkemaaW.PrintWords
structure Opens {α : Type} (P : Program) (T : TypeId) (d : Kd α) (ok : α → Prop) (sz : α → Nat) : Prop where
  cells : P.cellsOf T = d.sz
  heap : Kd.Heap d
  open_ : ∀ {H : Type} {enc : TypeId × Value → H} {W : World} {base : Nat} {spare : Nat → Bool} {held : Bool} {fuel : Nat} {cs : List Value} {x : DataW H × List MemPlace},
    DataW.trod enc P W base spare held fuel T cs = some x → ∃ y, d.K W y cs ∧ ok y ∧ sz y ≤ Rows.uptoBulk x.1
theorem opens_int {P : Program} {T : TypeId} {k : IntKind} (ht : P.underlying T = some (.int k)) (hc : P.cellsOf T = 1) : Opens P T (Kd.int k) (fun x => (Lit.int k x).wf = true) (fun _ => 1) :=
  ⟨hc, Kd.heap_int k, fun h => by
    obtain ⟨n, rfl, rfl, hw⟩ := DataW.trod_int ht h
    exact ⟨n, rfl, hw, Nat.le_refl _⟩⟩
theorem exists_list {α : Type} (p : Nat → α → Prop) : ∀ n, (∀ i, i < n → ∃ y, p i y) → ∃ l : List α, l.length = n ∧ ∀ i y, l[i]? = some y → p i y
  | 0, _ => ⟨[], rfl, fun i y h => by simp at h⟩
  | n + 1, h => by
    obtain ⟨l, hl, hp⟩ := exists_list p n (fun i hi => h i (by omega))
    obtain ⟨y, hy⟩ := h n (by omega)
    refine ⟨l ++ [y], by simp [hl], fun i z hz => ?_⟩
    rcases Nat.lt_or_ge i l.length with hi | hi
    · rw [List.getElem?_append_left hi] at hz; exact hp i z hz
    · have : i = l.length := by have := (List.getElem?_eq_some_iff.1 hz).1; simp at this; omega
      subst this
      simp at hz
      subst hz
      rw [hl]; exact hy
def szL {α : Type} (sz : α → Nat) (l : List α) : Nat := (l.map sz).sum + 1
theorem sum_le {α H : Type} (sz : α → Nat) : ∀ (l : List α) (ds : List (DataW H)), l.length = ds.length → (∀ (i : Nat) y d, l[i]? = some y → ds[i]? = some d → sz y ≤ Rows.uptoBulk d) → (l.map sz).sum ≤ Rows.uptoBulkAll ds
  | [], _, _, _ => by simp
  | y :: l, [], h, _ => by simp at h
  | y :: l, d :: ds, h, hp => by
    have h1 := hp 0 y d rfl rfl
    have h2 := sum_le sz l ds (by simpa using h) (fun i y' d' h3 h4 => hp (i + 1) y' d' (by simpa using h3) (by simpa using h4))
    simp only [List.map_cons, List.sum_cons, Rows.uptoBulkAll]
    omega
theorem opens_slice {α : Type} {P : Program} {T e : TypeId} {d : Kd α} {ok : α → Prop} {sz : α → Nat} (ht : P.underlying T = some (.slice e)) (hc : P.cellsOf T = 1) (he : Opens P e d ok sz) :
    Opens P T (Kd.slice e d) (fun l => l.length ≤ 9223372036854775807 ∧ ∀ x ∈ l, ok x) (szL sz) :=
  ⟨hc, Kd.heap_slice e he.heap, fun {H enc W base spare held fuel cs x} h => by
    rcases DataW.trod_slice ht h with ⟨rfl, rfl⟩ | ⟨a, len, cap, elems, rest, n, rfl, rfl, rfl, hb, hl, hm, hlen, hel, hsp, hns⟩
    · exact ⟨[], ⟨none, 0, rfl, Nat.le_refl _, Kd.C_nil d W⟩, ⟨by simp, by simp⟩, by simp [szL, Rows.uptoBulk]⟩
    · have each : ∀ i, i < len → ∃ y, (∃ c, c.length = d.sz ∧ d.K W y c ∧ ∀ j u, c[j]? = some u → W.cell? (a.add (i * d.sz + j)) = some u) ∧ ok y ∧ ∀ z, elems[i]? = some z → sz y ≤ Rows.uptoBulk z.1 := by
        intro i hi
        have h1 := hel i hi
        have h2 : elems[i]? = some (elems[i]'(by omega)) := List.getElem?_eq_getElem _
        rw [h2, Option.bind_eq_some_iff] at h1
        obtain ⟨c, h3, h4⟩ := h1
        obtain ⟨_, h5, h6⟩ := World.cells?_some h3
        obtain ⟨y, h7, h8, h9⟩ := he.open_ h4
        refine ⟨y, ⟨c, by rw [h5, he.cells], h7, fun j u hj => ?_⟩, h8, fun z hz => by rw [h2] at hz; cases hz; exact h9⟩
        have hjl : j < c.length := (List.getElem?_eq_some_iff.1 hj).1
        have := h6 j (by omega)
        rw [add_add, he.cells] at this
        rw [this, hj]
      obtain ⟨l, h1, h2⟩ := exists_list _ len each
      have hm2 : len ≤ 9223372036854775807 := by simp only [maxLen] at hm; omega
      refine ⟨l, ⟨some a, cap, by rw [h1], by omega, h1 ▸ ⟨h1, by omega, fun _ => ⟨a, rfl, fun j p hj => (h2 j p hj).1⟩⟩⟩, ⟨by omega, fun y hy => ?_⟩, ?_⟩
      · obtain ⟨i, hi⟩ := List.getElem?_of_mem hy
        exact (h2 i y hi).2.1
      · have h3 := sum_le sz l (elems.map (·.1)) (by simp; omega) (fun i y z hy hz => by
          rw [List.getElem?_map, Option.map_eq_some_iff] at hz
          obtain ⟨q, hq, rfl⟩ := hz
          exact (h2 i y hy).2.2 q hq)
        simp only [szL, Rows.uptoBulk]
        omega⟩
structure OpensL {α : Type} (P : Program) (fs : List Field) (off : Nat) (d : Kd α) (ok : α → Prop) (sz : α → Nat) : Prop where
  heap : Kd.Heap d
  open_ : ∀ {H : Type} {enc : TypeId × Value → H} {W : World} {base : Nat} {spare : Nat → Bool} {held : Bool} {fuel : Nat} {cs : List Value} {xs : List (DataW H × List MemPlace)},
    cs.length = off + d.sz → xs.length = fs.length → (∀ (i : Nat) (f : Field), fs[i]? = some f → DataW.trod enc P W base spare held fuel f.type ((cs.drop f.offset).take (P.cellsOf f.type)) = xs[i]?) →
    ∃ y, d.K W y (cs.drop off) ∧ ok y ∧ sz y ≤ Rows.uptoBulkAll (xs.map (·.1))
theorem opensL_one {α : Type} {P : Program} {f : Field} {off : Nat} {d : Kd α} {ok : α → Prop} {sz : α → Nat} (hf : f.offset = off) (he : Opens P f.type d ok sz) : OpensL P [f] off d ok sz :=
  ⟨he.heap, fun {H enc W base spare held fuel cs xs} hcs hxs h => by
    match xs, hxs with
    | [x], _ =>
      have h1 := h 0 f rfl
      rw [he.cells, hf, List.take_of_length_le (by simp; omega)] at h1
      obtain ⟨y, h2, h3, h4⟩ := he.open_ h1
      exact ⟨y, h2, h3, by simp [Rows.uptoBulkAll]; exact h4⟩⟩
theorem opensL_cons {α β : Type} {P : Program} {f : Field} {fs : List Field} {off : Nat} {a : Kd α} {b : Kd β} {oka : α → Prop} {okb : β → Prop} {sza : α → Nat} {szb : β → Nat} (hf : f.offset = off) (he : Opens P f.type a oka sza) (hl : OpensL P fs (off + a.sz) b okb szb) :
    OpensL P (f :: fs) off (Kd.pair a b) (fun x => oka x.1 ∧ okb x.2) (fun x => sza x.1 + szb x.2) :=
  ⟨Kd.heap_pair he.heap hl.heap, fun {H enc W base spare held fuel cs xs} hcs hxs h => by
    have hcs' : cs.length = off + (a.sz + b.sz) := hcs
    match xs, hxs with
    | x :: xs, hxs =>
      have h1 := h 0 f rfl
      rw [he.cells, hf] at h1
      obtain ⟨y, h2, h3, h4⟩ := he.open_ h1
      obtain ⟨z, h5, h6, h7⟩ := hl.open_ (cs := cs) (xs := xs) (by omega) (by simpa using hxs) (fun i f hi => h (i + 1) f (by simpa using hi))
      refine ⟨(y, z), ⟨_, _, ?_, h2, h5⟩, ⟨h3, h6⟩, ?_⟩
      · rw [← List.drop_drop, List.take_append_drop]
      · simp only [List.map_cons, Rows.uptoBulkAll]
        omega⟩
theorem opens_struct {α β : Type} {P : Program} {T : TypeId} {fs : Array Field} {d : Kd α} {ok : α → Prop} {sz : α → Nat} (f : β → α) (g : α → β) (hfg : ∀ a, f (g a) = a) (ht : P.underlying T = some (.struct fs)) (hc : P.cellsOf T = d.sz) (hl : OpensL P fs.toList 0 d ok sz) :
    Opens P T (Kd.iso d f) (fun y => ok (f y)) (fun y => sz (f y) + 1) :=
  ⟨hc, Kd.heap_iso f hl.heap, fun {H enc W base spare held fuel cs x} h => by
    obtain ⟨xs, n, rfl, rfl, h1, h2, h3⟩ := DataW.trod_struct ht h
    obtain ⟨y, h4, h5, h6⟩ := hl.open_ (cs := cs) (xs := xs) (by omega) (by simpa using h2) (fun i f hi => h3 i f (by simpa using hi))
    rw [List.drop_zero] at h4
    exact ⟨g y, by show d.K W (f (g y)) cs; rw [hfg]; exact h4, by rw [hfg]; exact h5, by rw [hfg]; simp only [Rows.uptoBulk]; omega⟩⟩
theorem F_of_C {α : Type} {d : Kd α} (hd : Kd.Heap d) {W : World} {A : Option Addr} {n : Nat} {xs : List α} (h : d.C W A n xs) : Kd.F d W (fun k => k < W.heap.size) A n xs :=
  fun W' hW => hd.C (fun k hk => hW k hk hk) h
section
variable {H : Type} {enc : TypeId × Value → H} {P : Program} {W : World} {base b0 : Nat} {spare : Nat → Bool} {held : Bool} {r : Reach} {t : TypeId} {v : Value} {x : DataW H} {ps : List MemPlace}
theorem arg_slice {α : Type} {e : TypeId} {d : Kd α} {ok : α → Prop} {sz : List α → Nat} (he : Opens P t (Kd.slice e d) (fun l => l.length ≤ 9223372036854775807 ∧ ∀ x ∈ l, ok x) sz) (hd : Kd.Heap d) (ht : P.underlying t = some (.slice e)) (hv : Value.okWide P W r b0 t v) (h : DataW.Trod enc P W base spare held t v x ps) :
    ∃ (A : Option Addr) (c : Nat) (l : List α), v = .slice A l.length c ∧ l.length ≤ c ∧ Kd.F d W (fun k => k < W.heap.size) A l.length l ∧ (∀ y ∈ l, ok y) ∧ sz l ≤ Rows.uptoBulk x := by
  obtain ⟨a, len, cap, rfl⟩ := okWide_slice ht hv
  obtain ⟨fuel, hf⟩ := h
  obtain ⟨l, ⟨A, c, h1, h2, h3⟩, h4, h5⟩ := he.open_ hf
  simp only [Value.cells, Array.toList, List.cons.injEq, Value.slice.injEq, and_true] at h1
  obtain ⟨rfl, rfl, rfl⟩ := h1
  exact ⟨_, _, l, rfl, h2, F_of_C hd h3, h4.2, h5⟩
end
theorem own : ownKnob Try.prog.godebug = none := by kernel_rfl
theorem laidOut : laidOutB Try.prog = true := by kernel_rfl
end Go.Proofs.Ytandhpnpodkemaa.M
end

section
/- The iterator of a flash's pages: its contract. -/
set_option linter.unusedVariables false
set_option linter.unusedSimpArgs false
set_option maxRecDepth 100000
namespace Go.Proofs.Ytandhpnpodkemaa.M
open Go.RowKit Go.Shelf Go.Proofs.YtandhpnpodkemaaW.PrintWords
attribute [local go_sem] Oper.semAt_some
def KeepT (T : Nat → Prop) (W W' : World) : Prop := ∀ i, T i → i < W.heap.size → W'.heap[i]? = W.heap[i]?
theorem KeepT.refl (T : Nat → Prop) (W : World) : KeepT T W W := fun _ _ _ => rfl
theorem KeepT.trans {T : Nat → Prop} {A B C : World} (h : KeepT T A B) (k : KeepT T B C) : KeepT T A C := fun i hi hl => (k i hi (heap_lt (h i hi hl) hl)).trans (h i hi hl)
theorem KeepT.of_below {T : Nat → Prop} {A B : World} (h : Below A.heap.size A B) : KeepT T A B := fun i _ hl => h.block i hl
theorem KeepT.foot {T : Nat → Prop} {W W' : World} (h : KeepT T W W') {α : Type} {d : Kd α} {A : Option Addr} {n : Nat} {xs : List α} (hf : Kd.F d W T A n xs) : Kd.F d W' T A n xs := Kd.F_step hf (fun i hi hlt => h i hi hlt)
theorem keepT_b {T : Nat → Prop} {w : World} (hT : ∀ i, T i → i < w.heap.size) (W : World) (l : Nat) (o o' : Obj) (hl : w.heap.size ≤ l) (h : W.heap[l]? = some o) (_ : o.isCells = false) (_ : o.isWalk = false) : KeepT T W (W.putObj l o') :=
  fun i hi _ => World.putObj_heap_other (fun e => by have := hT i hi; omega)
def pairK : Kd (Int × Int) := Kd.pair (Kd.int .i64) (Kd.int .i64)
theorem pair_get {W : World} {A : Option Addr} {n : Nat} {l : List (Int × Int)} (h : Kd.C pairK W A n l) {k : Nat} {x : Int × Int} (hk : l[k]? = some x) :
    ∃ ad, A = some ad ∧ W.cell? (ad.add (k * 2)) = some (.int .i64 x.1) ∧ W.cell? ⟨(ad.add (k * 2)).block, (ad.add (k * 2)).off + 1, none⟩ = some (.int .i64 x.2) := by
  have hlt : k < n := by
    have := (List.getElem?_eq_some_iff.1 hk).1
    have := h.1
    omega
  obtain ⟨ad, c, rfl, hcl, hK, hcc⟩ := Kd.C_get h (0, 0) (k : Int) (by omega) (by omega)
  have e : l.getD (k : Int).toNat (0, 0) = x := by rw [Int.toNat_natCast, List.getD_eq_getElem?_getD, hk]; rfl
  rw [e] at hK
  rw [Int.toNat_natCast] at hcc
  obtain ⟨c0, c1, rfl, rfl, rfl⟩ := hK
  have hs : pairK.sz = 2 := rfl
  rw [hs] at hcc
  refine ⟨ad, rfl, by simpa using hcc 0 _ rfl, ?_⟩
  rw [← add_field ad (k * 2) 1 (by omega)]
  exact hcc 1 _ rfl
theorem take_snoc' {α : Type} {l : List α} {k : Nat} {x : α} (h : l[k]? = some x) : l.take k ++ [x] = l.take (k + 1) := by
  rw [List.take_add_one, h]; rfl
def encP (x : Int × Int) : Array Value := #[.int .i64 x.1, .int .i64 x.2]
set_option maxHeartbeats 2000000 in
theorem all1_in (F : Fence) (n : Nat) (hf : F.fn 48) (hro : F.round = none) (hn : 1 ≤ n) (l Bs : Nat) (T : Nat → Prop) (hTB : T Bs) (A : Option Addr) (c : Nat) (xs : List (Int × Int)) (J Jx : List (Int × Int) → World → Prop) (W : World) (hJ : AbidesFrom W.heap.size J)
    (hY : ∀ pre x W1, J pre W1 → pre.length < xs.length → YieldAt F (n - 1) Try.prog l (encP x) W1 fun e W' =>
      (e = .returned (.bool true) ∧ J (pre ++ [x]) W' ∧ KeepT T W1 W') ∨ (e = .returned (.bool false) ∧ Jx (pre ++ [x]) W'))
    (hBs : W.cell? ⟨Bs, 0, none⟩ = some (.slice A xs.length c)) (hF : Kd.F pairK W T A xs.length xs) (h0 : J [] W) :
    CallsIn F n Try.prog 48 #[.func (.yield l) #[] #[], .pointer (some ⟨Bs, 0, none⟩)] W fun e W' => (∃ v, e = .returned v) ∧ ((∃ ys, ys = xs ∧ J ys W') ∨ (∃ pre, pre <+: xs ∧ Jx pre W')) := by
  have hlm : xs.length ≤ 9223372036854775807 := Kd.F_max hF
  have HF := Lib.hid hF
  clear hF
  refine callsIn_of_wp Try.func48 rfl hf ?_ hro
  simp only [Try.ntmps48, List.size_toArray, List.length_cons, List.length_nil, Nat.reduceAdd, Nat.reduceSub, Array.replicate_succ, Array.replicate_zero, List.push_toArray, List.append_toArray, List.nil_append, List.cons_append]
  gi_wp2
  gi_loopw [7] (fun i wr => ∃ k : Nat, k ≤ xs.length ∧ i = .int .i64 k ∧ J (xs.take k) wr ∧ Aside0 (KeepT T W wr)) (fun i _ => xs.length - (intOf i).toNat)
  case atStart => exact ⟨0, Nat.zero_le _, rfl, by simpa using h0, ⟨KeepT.refl _ _⟩⟩
  case round =>
    obtain ⟨k, hk, rfl, hJs, HK⟩ := hrel
    by_cases hlt : k < xs.length
    · obtain ⟨x, hx⟩ : ∃ x, xs[k]? = some x := ⟨_, List.getElem?_eq_getElem hlt⟩
      obtain ⟨ad, rfl, hc0, hc1⟩ := pair_get (Kd.F_now (HK.out.foot HF.out)) hx
      have HX := Lib.hid hx
      clear hx
      have hJa : J (xs.take k) (wr.alloc (.cells #[.int .i64 x.1, .int .i64 x.2] 34)) := hJ _ _ _ none hJs (World.grownBy_alloc _ _ _) (by simp)
      obtain ⟨fn, tmps, assign, body, hy, hR⟩ := hY _ x _ hJa (by rw [List.length_take]; omega)
      simp only [encP] at hy
      gi_wp2
      refine hR.mono ?_
      rintro e W3 (⟨rfl, hJ3, hk3⟩ | ⟨rfl, hJx3⟩)
      · have HK3 := Lib.hid (HK.out.trans ((KeepT.of_below ((Below.refl _ _).alloc (Nat.le_refl _) _)).trans hk3))
        clear hk3
        gi_wp2
        go_roundw
        case rel => exact ⟨k + 1, by omega, by simp, by rw [← take_snoc' HX.out]; exact hJ3, ⟨HK3.out⟩⟩
        case measure => simp [intOf]; omega
      · gi_wp2
        refine bodyPost_ret (results_none rfl _ _ _) rfl ?_
        exact ⟨⟨_, rfl⟩, .inr ⟨_, by rw [take_snoc' HX.out]; exact List.take_prefix _ _, hJx3⟩⟩
    · obtain rfl : k = xs.length := by omega
      gi_wp2
      go_end0
      exact ⟨⟨_, rfl⟩, .inl ⟨_, rfl, by simpa using hJs⟩⟩
end Go.Proofs.Ytandhpnpodkemaa.M
end

section
/- Contract of a flash's Spoil. -/
set_option linter.unusedVariables false
set_option linter.unusedSimpArgs false
set_option maxRecDepth 100000
namespace Go.Proofs.Ytandhpnpodkemaa.M
open Go.RowKit Go.Proofs.YtandhpnpodkemaaW.PrintWords Go.Proofs.YtandhpnpodkemaaW.PrintLast
def okS (fl : Fl) (b p i : Int) : Bool := okAt fl b p && (decide (0 ≤ i) && decide (i < 256))
theorem spoil1 {w : World} {f g : Nat} {fl : Fl} (h : IsF w f g fl) (B : Nat) (b p i : Int) (h0 : w.cell? ⟨B, 0, none⟩ = some (.pointer (some ⟨f, 0, none⟩))) (h1 : w.cell? ⟨B + 1, 0, none⟩ = some (.int .i64 b)) (h2 : w.cell? ⟨B + 1 + 1, 0, none⟩ = some (.int .i64 p)) (h3 : w.cell? ⟨B + 1 + 1 + 1, 0, none⟩ = some (.int .i64 i)) :
    Calls Try.prog 47 #[.pointer (some ⟨B, 0, none⟩), .pointer (some ⟨B + 1, 0, none⟩), .pointer (some ⟨B + 1 + 1, 0, none⟩), .pointer (some ⟨B + 1 + 1 + 1, 0, none⟩)] w fun e w' => e = .returned (.bool (okS fl b p i)) ∧ w = w' := by
  have HI := Lib.hid (is_calls h b)
  have HP := Lib.hid (place_calls p w)
  obtain ⟨r, hr⟩ : ∃ r, RowKit.Hid (okS fl b p i = r) := ⟨_, Lib.hid rfl⟩
  rw [hr.out]
  clear h
  obtain ⟨x, hx⟩ : ∃ x, (decide (0 ≤ b) && decide (b < (fl.n : Int))) = x := ⟨_, rfl⟩
  obtain ⟨y, hy⟩ : ∃ y, (decide (0 ≤ p) && decide (p < 16)) = y := ⟨_, rfl⟩
  obtain ⟨s, hs⟩ : ∃ s, decide (0 ≤ i) = s := ⟨_, rfl⟩
  obtain ⟨t, ht⟩ : ∃ t, decide (i < 256) = t := ⟨_, rfl⟩
  have HRS := Lib.hid (show ((x && y) && (s && t)) = r by rw [← hr.out]; unfold okS okAt; rw [hx, hy, hs, ht])
  rw [hx] at HI
  rw [hy] at HP
  clear hx hy
  cases x <;> cases y <;> cases s <;> cases t <;> clear hr
  all_goals
    go_enter Try.func47, Try.ntmps47
    go_wp2_with (first | (go_at_call 33; refine HI.out.mono ?_; rintro e w' ⟨rfl, rfl⟩) | (go_at_call 34; refine HP.out.mono ?_; rintro e w' ⟨rfl, rfl⟩))
    go_ret
    exact ⟨by rw [← HRS.out]; rfl, rfl⟩
def spoilE (fl : Fl) (b p i : Int) : Int := if looksE fl (okS fl b p i) = 0 then atE fl b.toNat p.toNat else looksE fl (okS fl b p i)
def spoilF (fl : Fl) (b p i x : Int) : Fl :=
  if spoilE fl b p i = 0 then { fl with c := updC fl.c (b.toNat * 4113 + p.toNat * 257 + 1 + i.toNat) (Go.bits .xor .u8 (fl.c (b.toNat * 4113 + p.toNat * 257 + 1 + i.toNat)) x) } else fl
theorem okS_of {fl : Fl} {b p i : Int} (h : looksE fl (okS fl b p i) = 0) : 0 ≤ b ∧ b < (fl.n : Int) ∧ 0 ≤ p ∧ p < 16 ∧ 0 ≤ i ∧ i < 256 := by
  unfold looksE at h
  split at h
  · omega
  · split at h
    · rename_i h2
      unfold okS okAt at h2
      simp only [Bool.and_eq_true, decide_eq_true_eq] at h2
      exact ⟨h2.1.1.1, h2.1.1.2, h2.1.2.1, h2.1.2.2, h2.2.1, h2.2.2⟩
    · omega
set_option maxHeartbeats 1000000 in
theorem spoil_is {w : World} {f g : Nat} {fl : Fl} (h : IsF w f g fl) (b p i x : Int) :
    Calls Try.prog 19 #[.pointer (some ⟨f, 0, none⟩), .int .i64 b, .int .i64 p, .int .i64 i, .int .u8 x] w fun e w' => e = .returned (.int .i64 (spoilE fl b p i)) ∧ IsF w' f g (spoilF fl b p i x) ∧ KeepF f g w w' := by
  have hmf : ∀ (fn : Fn) (first cap : Array Value) (w : World), (Instr.makeFunc fn first cap).run Try.prog w = .ok (.func fn first cap) w := fun _ _ _ _ => rfl
  have hI4 := (((h.alloc (.cells #[.pointer (some ⟨f, 0, none⟩)] 23)).alloc (.cells #[.int .i64 b] 3)).alloc (.cells #[.int .i64 p] 3)).alloc (.cells #[.int .i64 i] 3)
  have hk4 := ((((KeepF.refl f g w).alloc (.cells #[.pointer (some ⟨f, 0, none⟩)] 23)).alloc (.cells #[.int .i64 b] 3)).alloc (.cells #[.int .i64 p] 3)).alloc (.cells #[.int .i64 i] 3)
  have HI4 := Lib.hid hI4
  have HK4 := Lib.hid hk4
  have hglt := h.glt
  have hL := Lib.hid (looks_is hI4 47 #[.pointer (some ⟨w.heap.size, 0, none⟩), .pointer (some ⟨w.heap.size + 1, 0, none⟩), .pointer (some ⟨w.heap.size + 1 + 1, 0, none⟩), .pointer (some ⟨w.heap.size + 1 + 1 + 1, 0, none⟩)] (okS fl b p i) (enter_any _ _ _ Try.func47 rfl (by kernel_rfl)) (spoil1 hI4 w.heap.size b p i (by simp [go_sem]) (by simp [go_sem]) (by simp [go_sem]) (by simp [go_sem])))
  obtain ⟨E, HE⟩ : ∃ E, RowKit.Hid (spoilE fl b p i = E) := ⟨_, Lib.hid rfl⟩
  obtain ⟨R, HR⟩ : ∃ R, RowKit.Hid (spoilF fl b p i x = R) := ⟨_, Lib.hid rfl⟩
  rw [HE.out, HR.out]
  by_cases hz : looksE fl (okS fl b p i) = 0
  · obtain ⟨b0, b1, p0, p1, i0, i1⟩ := okS_of hz
    obtain ⟨b, rfl⟩ := Int.eq_ofNat_of_zero_le b0
    obtain ⟨p, rfl⟩ := Int.eq_ofNat_of_zero_le p0
    obtain ⟨i, rfl⟩ := Int.eq_ofNat_of_zero_le i0
    have hb : b < fl.n := by omega
    have hp : p < 16 := by omega
    have hi : i < 256 := by omega
    have HA := Lib.hid (at_is HI4.out hb hp)
    have he : spoilE fl (b : Int) (p : Int) (i : Int) = atE fl b p := by unfold spoilE; rw [if_pos hz]; simp
    rw [hz] at hL
    by_cases ha : atE fl b p = 0
    · have ed := hI4.data hb hp hi
      have ez := hI4.gz (b * 4113 + p * 257 + 1 + i)
      have HP := Lib.hid (hI4.put (i := b * 4113 + p * 257 + 1 + i) (by omega) (Go.bits .xor .u8 (fl.c (b * 4113 + p * 257 + 1 + i)) x))
      rw [kdAt_data hp hi] at HP
      have HE0 := Lib.hid (show E = 0 by rw [← HE.out, he, ha])
      have HRR := Lib.hid (show R = { fl with c := updC fl.c (b * 4113 + p * 257 + 1 + i) (Go.bits .xor .u8 (fl.c (b * 4113 + p * 257 + 1 + i)) x) } by rw [← HR.out]; unfold spoilF; rw [if_pos (by rw [he, ha])]; simp)
      unfold atP at HA
      rw [if_pos ha, ha] at HA
      rw [HE0.out, HRR.out]
      obtain ⟨q, hq⟩ : ∃ q, b * 4113 + p * 257 = q := ⟨_, rfl⟩
      rw [hq] at HA HP ed ez ⊢
      clear he ha hz b0 b1 p0 p1 hb hp hq HE HR HE0 HRR h hI4 hk4
      go_enter Try.func19, Try.ntmps19
      go_wp2_with (first | (go_at_call 31; refine hL.out.mono ?_; rintro e w' ⟨rfl, rfl⟩) | (go_at_call 45; refine HA.out.mono ?_; rintro e w' ⟨rfl, rfl⟩))
      go_region
      all_goals
        go_wp2
        go_ret
        refine ⟨rfl, ?_, ?_⟩
        · exact HP.out.drew
        · exact (HK4.out.setG _ _).drew
    · obtain ⟨y, hy⟩ : ∃ y, atE fl b p = y := ⟨_, rfl⟩
      have HEE := Lib.hid (show E = y by rw [← HE.out, he, hy])
      have HRR := Lib.hid (show R = fl by rw [← HR.out]; unfold spoilF; rw [if_neg (by rw [he]; exact ha)])
      unfold atP at HA
      rw [if_neg ha, hy] at HA
      rw [HEE.out, HRR.out]
      rw [hy] at ha
      have hne : (y == 0) = false := beq_eq_false_iff_ne.2 ha
      clear he ha hz hy b0 b1 p0 p1 hb hp HE HR HEE HRR h hI4 hk4
      go_enter Try.func19, Try.ntmps19
      go_wp2_with (first | (go_at_call 31; refine hL.out.mono ?_; rintro e w' ⟨rfl, rfl⟩) | (go_at_call 45; refine HA.out.mono ?_; rintro e w' ⟨rfl, rfl⟩))
      go_ret
      exact ⟨rfl, HI4.out, HK4.out⟩
  · obtain ⟨y, hy⟩ : ∃ y, looksE fl (okS fl b p i) = y := ⟨_, rfl⟩
    have HEE := Lib.hid (show E = y by rw [← HE.out]; unfold spoilE; rw [if_neg hz, hy])
    have HRR := Lib.hid (show R = fl by rw [← HR.out]; unfold spoilF spoilE; rw [if_neg hz, if_neg hz])
    rw [HEE.out, HRR.out]
    rw [hy] at hL hz
    have hne : (y != 0) = true := bne_iff_ne.2 hz
    clear hz hy HE HR HEE HRR h hI4 hk4
    go_enter Try.func19, Try.ntmps19
    go_wp2_with (go_at_call 31; refine hL.out.mono ?_; rintro e w' ⟨rfl, rfl⟩)
    go_ret
    exact ⟨rfl, HI4.out, HK4.out⟩
end Go.Proofs.Ytandhpnpodkemaa.M
end

section
/- What a flash that no call made (nil, or its zero) answers: v is its pointer. -/
set_option linter.unusedVariables false
set_option linter.unusedSimpArgs false
set_option maxRecDepth 100000
namespace Go.Proofs.Ytandhpnpodkemaa.M
open Go.RowKit Go.Proofs.YtandhpnpodkemaaW.PrintWords
end Go.Proofs.Ytandhpnpodkemaa.M
end

section
/- Contracts of slices.Clone of blocks and of a flash's Clone. -/
set_option linter.unusedVariables false
set_option linter.unusedSimpArgs false
set_option maxRecDepth 100000
namespace Go.Proofs.Ytandhpnpodkemaa.M
open Go.RowKit Go.Proofs.YtandhpnpodkemaaW.PrintWords
def IsG (w : World) (g n cap : Nat) (c : Nat → Int) : Prop := ∃ cur : Array Value, w.heap[g]? = some (.cells cur 79) ∧ cur.size = cap * 4113 ∧ ∀ i, i < n * 4113 → cur[i]? = some (.int (kdAt i) (c i))
theorem sclone_is {w : World} {f g : Nat} {fl : Fl} (h : IsF w f g fl) : Calls Try.prog 46 #[.slice (some ⟨g, 0, none⟩) fl.n fl.cap] w fun e w' => ∃ g' cap', e = .returned (.slice (some ⟨g', 0, none⟩) fl.n cap') ∧ (fl.n ≤ cap' ∧ w.heap.size ≤ g') ∧ IsG w' g' fl.n cap' fl.c ∧ Below w.heap.size w w' := by
  have qT : ∀ (w : World) (a : Option Addr) (n c n' c' : Nat), (binOp .eql 45 (.slice a n c) (.slice none n' c')).run Try.prog w = .ok (.bool a.isNone) w := fun w a n c n' c' => Lib.run_eql_slice_nil w _ _ a n c n' c' Try.underlying45
  obtain ⟨cur, hg, hs, hc⟩ := h.gh
  obtain ⟨i0, z, hi, hz, hsz, hby, hzc⟩ := zeroB
  have hz4 : z.cells.size = 4113 := by rw [← Array.length_toList, hzc]; simp
  have hnc := h.nc
  have hn2 := h.n2
  have hglt := h.glt
  have hn1 := h.n1
  have hlen : (cur.toList.take (fl.n * 4113)).length = fl.n * 4113 := by
    rw [List.length_take, Array.length_toList, hs]
    exact Nat.min_eq_left (Nat.mul_le_mul_right _ hnc)
  have HNW := Lib.hid (show ∀ j u, (cur.toList.take (fl.n * 4113))[j]? = some u → (w.alloc (.cells #[] 79)).cell? ((⟨g, 0, none⟩ : Addr).add j) = some u from fun j u hj => by
    have hj2 : j < fl.n * 4113 := by
      rcases Nat.lt_or_ge j (fl.n * 4113) with h1 | h1
      · exact h1
      · rw [List.getElem?_eq_none (by rw [hlen]; exact h1)] at hj; cases hj
    rw [List.getElem?_take_of_lt hj2, Array.getElem?_toList] at hj
    rw [add_plain]
    have : (w.alloc (.cells #[] 79)).heap[g]? = some (.cells cur 79) := (Below.heap_alloc w _ g hglt).trans hg
    simp [World.cell?, this, hj])
  have HON := Lib.hid (show ∀ u ∈ cur.toList.take (fl.n * 4113), u.oneCell' = true from fun u hu => by
    obtain ⟨j, hj, e⟩ := List.getElem_of_mem hu
    rw [hlen] at hj
    have := hc j hj
    rw [List.getElem_take, Array.getElem_toList] at e
    rw [Array.getElem?_eq_getElem (by rw [hs]; exact Nat.lt_of_lt_of_le hj (Nat.mul_le_mul_right _ hnc)), e] at this
    injection this with this
    rw [this]
    rfl)
  obtain ⟨news, hnews⟩ : ∃ news, cur.toList.take (fl.n * 4113) = news := ⟨_, rfl⟩
  have HC := Lib.hid (show ∀ i, i < fl.n * 4113 → news[i]? = some (.int (kdAt i) (fl.c i)) from fun i hi' => by
    rw [← hnews, List.getElem?_take_of_lt hi', Array.getElem?_toList]; exact hc i hi')
  rw [hnews] at HNW HON hlen
  have HLEN := Lib.hid hlen
  have HW : (w.alloc (.cells #[] 79)).ownsRow w.heap.size 79 4113 (.slice (some ⟨w.heap.size, 0, none⟩) 0 0) 0 [] :=
    World.ownsRow_made w #[] 0 (Nat.le_refl _) (by decide) rfl
  have HOW := Lib.hid HW
  obtain ⟨n, hn⟩ : ∃ n, fl.n = n := ⟨_, rfl⟩
  obtain ⟨cap, hcap⟩ : ∃ cap, fl.cap = cap := ⟨_, rfl⟩
  have HI := Lib.hid hi; have HZ := Lib.hid hz; have HSZ := Lib.hid hsz; have HBY := Lib.hid hby; have HZ4 := Lib.hid hz4
  rw [hn] at HLEN HC hn1 hn2 ⊢
  rw [hcap]
  clear h hg hs hc hi hz hsz hby hzc hz4 hnc hlen hnews HW hn hcap hglt
  go_enter Try.func46, Try.ntmps46
  go_wp2_with ((with_reducible refine gate_builtin (b := .append) (xs := #[.tmp 5, .tmp 6]) rfl ?_); at_builtin; refine wpList_append_own _ rfl (.tmp 5) (.tmp 6) 45 rfl w.heap.size 79 i0 z 4113 4232 Try.underlying45 HI.out HZ.out HSZ.out HBY.out HZ4.out (by decide) _ 0 [] rfl HOW.out ⟨g, 0, none⟩ n cap news rfl HLEN.out HNW.out HON.out (by simp only [maxLen]; omega) (by omega) (by simp) ?_; intro v1 w1 hown hgr hnil; have HOWN := Lib.hid hown; have HGR := Lib.hid hgr; have HNIL := Lib.hid hnil; clear hown hgr hnil)
  go_ret
  obtain ⟨h1, h2⟩ := HOWN.out
  rcases h2 with ⟨rfl, h2⟩ | ⟨g', cap', cur', rfl, h3, h4, h5, h6, h7, h8⟩
  · exact absurd h2 (by omega)
  · refine ⟨g', cap', by rw [Nat.zero_add]; rfl, ⟨by omega, h3⟩, ⟨cur', h4, h7, fun i hi' => ?_⟩, ?_⟩
    · have h9 := HC.out i hi'
      rw [List.nil_append, Nat.zero_add] at h8
      rw [← h8, List.getElem?_take_of_lt hi', Array.getElem?_toList] at h9
      exact h9
    · exact ((Below.refl _ _).alloc (Nat.le_refl _) _).grown HGR.out (by simp) (fun k hk => by cases hk; exact Nat.le_refl _)
def cloneF (fl : Fl) (cap : Nat) : Fl := { fl with cap := cap }
theorem clone_is {w : World} {f g : Nat} {fl : Fl} (h : IsF w f g fl) : Calls Try.prog 18 #[.pointer (some ⟨f, 0, none⟩)] w fun e w' => ∃ f' g' cap, e = .returned (.pointer (some ⟨f', 0, none⟩)) ∧ (w.heap.size ≤ f' ∧ w.heap.size ≤ g') ∧ IsF w' f' g' (cloneF fl cap) ∧ Below w.heap.size w w' := by
  have HN := Lib.hid (none_is h)
  have h0 := h.c0
  have h1 := h.c1
  have h2 := h.c2
  have h3 := h.c3
  have HI := Lib.hid h
  have HS := Lib.hid (sclone_is (h.alloc (.cells #[.slice (some ⟨g, 0, none⟩) fl.n fl.cap, .int .i64 fl.fuse, .int .i64 fl.keep, .bool fl.down] 47)))
  have h0' := (h.alloc (.cells #[.slice (some ⟨g, 0, none⟩) fl.n fl.cap, .int .i64 fl.fuse, .int .i64 fl.keep, .bool fl.down] 47)).c0
  have hfl := h.flt
  clear h
  go_enter Try.func18, Try.ntmps18
  go_wp2_with (go_at_call 41; refine HN.out.mono ?_; rintro e w' ⟨rfl, rfl⟩)
  refine HS.out.mono ?_
  rintro e w2 ⟨g', cap', rfl, ⟨hcn, hg'⟩, hG, hb⟩
  have HG := Lib.hid hG; have HB := Lib.hid hb
  have hz : w.heap.size < w2.heap.size := by have := hb.size; simp at this; omega
  have hblk : w2.heap[w.heap.size]? = some (.cells #[.slice (some ⟨g, 0, none⟩) fl.n fl.cap, .int .i64 fl.fuse, .int .i64 fl.keep, .bool fl.down] 47) := (hb.block w.heap.size (by simp)).trans (heap_alloc_new w _)
  have HBLK := Lib.hid hblk
  have hy0 : w2.cell? ⟨w.heap.size, 0, none⟩ = some (.slice (some ⟨g, 0, none⟩) fl.n fl.cap) := by simp [World.cell?, hblk]
  have hy1 : w2.frozen? ⟨w.heap.size, 0, none⟩ = false := by simp [World.frozen?, hblk]
  clear hG hb hblk
  go_wp2_with fail
  go_ret
  refine ⟨w.heap.size, g', cap', rfl, ⟨Nat.le_refl _, by simp at hg'; omega⟩, ⟨?_, ?_, by simp at hg'; omega, HI.out.n1, HI.out.n2, hcn⟩, ?_⟩
  · have := IsF.heap_same (a := ⟨w.heap.size, 0, none⟩) (v := .slice (some ⟨g', 0, none⟩) fl.n cap') HBLK.out rfl
    exact this
  · obtain ⟨cur, e1, e2⟩ := HG.out
    exact ⟨cur, (Below.heap_setCell w2 ⟨w.heap.size, 0, none⟩ _ g' (by simp at hg' ⊢; omega)).trans e1, e2⟩
  · exact ((Below.refl _ _).alloc (Nat.le_refl _) _ |>.trans (HB.out.mono (by simp))).setCell (by simp) _
end Go.Proofs.Ytandhpnpodkemaa.M
end

section
/- A flash's All: the pages that are not blank, in order. -/
set_option linter.unusedVariables false
set_option linter.unusedSimpArgs false
set_option maxRecDepth 100000
namespace Go.Proofs.Ytandhpnpodkemaa.M
open Go.RowKit Go.Proofs.YtandhpnpodkemaaW.PrintWords
def usedL (c : Nat → Int) : Nat → List (Int × Int)
  | 0 => []
  | q + 1 => usedL c q ++ (if c (q / 16 * 4113 + q % 16 * 257) ≠ 0 then [(((q / 16 : Nat) : Int), ((q % 16 : Nat) : Int))] else [])
theorem usedL_len (c : Nat → Int) : ∀ q, (usedL c q).length ≤ q
  | 0 => Nat.le_refl _
  | q + 1 => by
    have := usedL_len c q
    unfold usedL
    rw [List.length_append]
    split <;> simp <;> omega
theorem usedL_yes (c : Nat → Int) {b p : Nat} (hp : p < 16) (h : c (b * 4113 + p * 257) ≠ 0) : usedL c (b * 16 + (p + 1)) = usedL c (b * 16 + p) ++ [((b : Int), (p : Int))] := by
  have e1 : (b * 16 + p) / 16 = b := by omega
  have e2 : (b * 16 + p) % 16 = p := by omega
  rw [show b * 16 + (p + 1) = (b * 16 + p) + 1 from rfl]
  simp only [usedL]
  rw [e1, e2, if_pos h]
theorem usedL_no (c : Nat → Int) {b p : Nat} (hp : p < 16) (h : c (b * 4113 + p * 257) = 0) : usedL c (b * 16 + (p + 1)) = usedL c (b * 16 + p) := by
  have e1 : (b * 16 + p) / 16 = b := by omega
  have e2 : (b * 16 + p) % 16 = p := by omega
  rw [show b * 16 + (p + 1) = (b * 16 + p) + 1 from rfl]
  simp only [usedL]
  rw [e1, e2, if_neg (by simpa using h), List.append_nil]
theorem info2 : (Try.prog.info? 34).map (fun i => (i.zero, i.size, i.bytes)) = some (some (.agg #[.int .i64 0, .int .i64 0]), 2, 16) := by kernel_rfl
def AllL (c : Nat → Int) (B : Nat) (w1 : World) (q : Nat) (wr : World) : Prop :=
  ∃ (A : Option Addr) (cc : Nat), wr.heap[B]? = some (.cells #[.slice A (usedL c q).length cc] 68) ∧ Kd.R pairK 34 wr w1.heap.size (fun _ => True) (.slice A (usedL c q).length cc) (usedL c q) ∧ KeepS (fun i => i = B) w1 wr
set_option maxHeartbeats 4000000 in
theorem all_is {w : World} {f g : Nat} {fl : Fl} (h : IsF w f g fl) : Calls Try.prog 24 #[.pointer (some ⟨f, 0, none⟩)] w fun e w' => e = .returned (.func (.func 48) #[] #[.pointer (some ⟨w.heap.size, 0, none⟩)]) ∧
    (∃ (A : Option Addr) (cc : Nat), w'.cell? ⟨w.heap.size, 0, none⟩ = some (.slice A (usedL fl.c (fl.n * 16)).length cc) ∧ Kd.F pairK w' (fun i => w.heap.size ≤ i ∧ i < w'.heap.size) A (usedL fl.c (fl.n * 16)).length (usedL fl.c (fl.n * 16))) ∧ Below w.heap.size w w' := by
  have hmf : ∀ (fn : Fn) (first cap : Array Value) (w : World), (Instr.makeFunc fn first cap).run Try.prog w = .ok (.func fn first cap) w := fun _ _ _ _ => rfl
  have HA := Lib.hid (none_is (h.alloc (.cells #[.slice none 0 0] 68)))
  have hI1 := h.alloc (.cells #[.slice none 0 0] 68)
  have hB1 : (w.alloc (.cells #[.slice none 0 0] 68)).heap[w.heap.size]? = some (.cells #[.slice none 0 0] 68) := heap_alloc_new w _
  have hs1 : (w.alloc (.cells #[.slice none 0 0] 68)).heap.size = w.heap.size + 1 := by simp
  have hbel : Below w.heap.size w (w.alloc (.cells #[.slice none 0 0] 68)) := (Below.refl _ _).alloc (Nat.le_refl _) _
  have HBEL := Lib.hid hbel
  have hn2 := h.n2
  obtain ⟨nn, hnn⟩ : ∃ nn, fl.n = nn := ⟨_, rfl⟩
  have HNN := Lib.hid hnn
  have hfB : f ≠ w.heap.size := by have := h.flt; omega
  have hgB : g ≠ w.heap.size := by have := h.glt; omega
  rw [hnn] at hn2
  clear hnn
  go_enter Try.func24, Try.ntmps24
  go_wp2_with fail
  obtain ⟨w1, hw1⟩ : ∃ w1, w.alloc (.cells #[.slice none 0 0] 68) = w1 := ⟨_, rfl⟩
  obtain ⟨Bx, hBx⟩ : ∃ Bx, Bx = w.heap.size := ⟨_, rfl⟩
  have HBx := Lib.hid hBx
  rw [hw1] at HA hI1 hB1 hs1 HBEL ⊢
  rw [← hBx] at hB1 hs1 HBEL hfB hgB ⊢
  have HI1 := Lib.hid hI1; have HB1 := Lib.hid hB1; have HS1 := Lib.hid hs1
  clear hBx hw1 h hI1 hB1 hs1 hbel
  refine HA.out.mono ?_
  rintro e w' ⟨rfl, rfl⟩
  have hc0 := HI1.out.c0
  rw [HNN.out] at hc0
  go_wp2_with fail
  go_loopw [14] (fun i wr => ∃ b : Nat, i = .int .i64 b ∧ b ≤ nn ∧ AllL fl.c Bx w1 (b * 16) wr) (fun i _ => nn - (intOf i).toNat)
  case atStart => exact ⟨0, rfl, by omega, none, 0, by rw [Nat.zero_mul]; exact HB1.out, by rw [Nat.zero_mul]; exact Kd.R_nil _ _ _ _ _, KeepS.refl _ _⟩
  case round =>
    obtain ⟨b, rfl, hb, hL⟩ := hrel
    have HL := Lib.hid hL
    clear hL
    by_cases hlt : b < nn
    · have hbd : decide ((b : Int) < (nn : Int)) = true := decide_eq_true (by omega)
      go_wp2_with fail
      go_loopw [17] (fun i wr => ∃ p : Nat, i = .int .i64 p ∧ p ≤ 16 ∧ AllL fl.c Bx w1 (b * 16 + p) wr) (fun i _ => 16 - (intOf i).toNat)
      case atStart => exact ⟨0, rfl, by omega, HL.out⟩
      case round =>
        obtain ⟨p, rfl, hp, hL⟩ := hrel
        clear HL
        obtain ⟨A, cc, hbx, hR, hK⟩ := hL
        have HBXc := Lib.hid hbx; have HR := Lib.hid hR; have HK := Lib.hid hK
        have hxc : wr.cell? ⟨Bx, 0, none⟩ = some (.slice A (usedL fl.c (b * 16 + p)).length cc) := by simp [World.cell?, hbx]
        have hxf : wr.frozen? ⟨Bx, 0, none⟩ = false := by simp [World.frozen?, hbx]
        have HIr := Lib.hid (HI1.out.move (hK.block f HI1.out.flt hfB) (hK.block g HI1.out.glt hgB))
        clear hbx hR hK
        by_cases hp16 : p < 16
        · have hc0r := HIr.out.c0
          rw [HNN.out] at hc0r
          have hst := HIr.out.st (b := b) (p := p) (by rw [HNN.out]; exact hlt) hp16
          obtain ⟨s, hs⟩ : ∃ s, fl.c (b * 4113 + p * 257) = s := ⟨_, rfl⟩
          rw [hs] at hst
          have hpd : decide ((p : Int) < 16) = true := decide_eq_true (by omega)
          by_cases h0 : s = 0
          · have HU := Lib.hid (usedL_no fl.c hp16 (hs.trans h0))
            have hs0 : (s != 0) = false := by simp [h0]
            clear h0 hs
            go_wp2_with fail
            go_roundw
            case rel => exact ⟨p + 1, by go_num, by omega, A, cc, by rw [HU.out]; exact HBXc.out, by rw [HU.out]; exact HR.out, HK.out⟩
            case measure => simp [intOf]; omega
          · have HU := Lib.hid (usedL_yes fl.c hp16 (by rw [hs]; exact h0))
            have hs0 : (s != 0) = true := by simp [h0]
            have hln := usedL_len fl.c (b * 16 + p)
            clear h0 hs
            obtain ⟨U, hU⟩ : ∃ U, usedL fl.c (b * 16 + p) = U := ⟨_, rfl⟩
            rw [hU] at HBXc HR hxc hln
            have HUU := Lib.hid hU
            clear hU
            go_wp2_with ((with_reducible refine gate_builtin (b := .append) (xs := #[.tmp 32, .tmp 36]) rfl ?_); at_builtin; refine Kd.R_append pairK (w0 := wr) w1.heap.size rfl (.tmp 32) (.tmp 36) 68 34 _ 16 rfl Try.underlying68 info2 rfl (by decide) (by omega) _ U ((b : Int), (p : Int)) [.int .i64 b, .int .i64 p] (fun _ => True) (fun _ => False) rfl rfl ⟨_, _, rfl, rfl, rfl⟩ (fun _ hk => hk.elim) (fun _ _ => trivial) HR.out (Below.refl _ _) HK.out.size (by omega) ?_; intro v1 w5 ho hb5 hg5 hat; obtain ⟨A5, c5, rfl⟩ := Kd.R_slice ho; have HO5 := Lib.hid ho; have HB5 := Lib.hid hb5; have HX5 := Lib.hid ((hb5.block Bx (by have := HS1.out; omega)).trans HBXc.out); have hy0 : w5.cell? ⟨Bx, 0, none⟩ = some (.slice A U.length cc) := (by simp [World.cell?, HX5.out]); have hy1 : w5.frozen? ⟨Bx, 0, none⟩ = false := (by simp [World.frozen?, HX5.out]); clear ho hb5 hg5 hat)
            go_roundw
            case rel =>
              refine ⟨p + 1, by go_num, by omega, A5, c5, ?_, ?_, (HK.out.then_base HB5.out).set (.inl rfl) _⟩
              · have := IsF.heap_same (a := ⟨Bx, 0, none⟩) (v := .slice A5 (U ++ [((b : Int), (p : Int))]).length c5) HX5.out rfl
                rw [HU.out, HUU.out]
                simpa using this
              · rw [HU.out, HUU.out]
                have h1 := Kd.R_mono (Kd.R_bound HO5.out) (fun k hk => (hk.2.1 : w1.heap.size ≤ k))
                exact Kd.R_mono (Kd.R_far (p := ⟨Bx, 0, none⟩) h1 (fun k hk => by show k ≠ Bx; have := HS1.out; omega) _) (fun _ _ => trivial)
            case measure => simp [intOf]; omega
        · have hpd : decide ((p : Int) < 16) = false := decide_eq_false (by omega)
          have HP := Lib.hid (show p = 16 by omega)
          go_wp2_with fail
          go_roundw
          case rel => exact ⟨b + 1, by go_num, by omega, A, cc, by rw [show (b + 1) * 16 = b * 16 + p by rw [HP.out]; omega]; exact HBXc.out, by rw [show (b + 1) * 16 = b * 16 + p by rw [HP.out]; omega]; exact HR.out, HK.out⟩
          case measure => simp [intOf]; omega
    · have hbd : decide ((b : Int) < (nn : Int)) = false := decide_eq_false (by omega)
      have HBN := Lib.hid (show b = nn by omega)
      go_wp2_with fail
      go_ret
      obtain ⟨A, cc, hbx, hR, hK⟩ := HL.out
      rw [HBN.out] at hbx hR
      rw [HBx.out] at hbx
      refine ⟨by rw [HBx.out]; rfl, ⟨A, cc, by rw [HNN.out]; simp [World.cell?, hbx], ?_⟩, ?_⟩
      · have h1 := Kd.R_mono (Kd.R_bound hR) (fun k hk => (⟨by have := hk.2.1; have := HS1.out; have := HBx.out; omega, hk.2.2.1⟩ : w.heap.size ≤ k ∧ k < _))
        obtain ⟨A', c', e1, _, hF⟩ := Kd.R_V (base' := 0) h1
        simp only [Value.slice.injEq] at e1
        obtain ⟨rfl, _, rfl⟩ := e1
        rw [HNN.out]
        exact hF
      · have h1 := HBEL.out.trans (hK.below (B := Bx) (by have := HS1.out; omega) (by intro i hi; omega))
        rw [HBx.out] at h1
        exact h1
end Go.Proofs.Ytandhpnpodkemaa.M
end

section
/- A flash's Used; told. -/
set_option linter.unusedVariables false
set_option linter.unusedSimpArgs false
set_option maxRecDepth 100000
namespace Go.Proofs.Ytandhpnpodkemaa.M
open Go.RowKit Go.Shelf Go.Proofs.YtandhpnpodkemaaW.PrintWords
attribute [local go_sem] Oper.semAt_some
theorem all1_stops (F : Fence) (n : Nat) (hf : F.fn 48) (hro : F.round = none) (hn : 1 ≤ n) (Bs : Nat) (T : Nat → Prop) (hTB : T Bs) (A : Option Addr) (c : Nat) (xs : List (Int × Int)) (w : World) (hT : ∀ i, T i → i < w.heap.size)
    (hBs : w.cell? ⟨Bs, 0, none⟩ = some (.slice A xs.length c)) (hF : Kd.F pairK w T A xs.length xs) :
    SeqStopsK F n Try.prog 48 #[.pointer (some ⟨Bs, 0, none⟩)] encP (KeepT T) (fun ys => ys = xs) (fun pre => pre <+: xs) xs.length w := fun l J Jx W hW hJ _ hY h0 =>
  all1_in F n hf hro hn l Bs T hTB A c xs J Jx W hJ hY ((hW.cell (p := ⟨Bs, 0, none⟩) (hT Bs hTB)).trans hBs) (Kd.F_below hF hW) h0
theorem ownFrom_keepS {β : Type} (S : Nat → Prop) (w3 : World) : OwnFrom w3.heap.size (fun (_ : β) W => KeepS S w3 W) := fun s A B row hs hg hr =>
  ⟨hg.os.trans hs.os, hg.tape.trans hs.tape, hg.output.trans hs.output, Nat.le_trans hs.size hg.size, fun i hi hn => (hg.block i (Nat.lt_of_lt_of_le hi hs.size) (fun e => by have := (hr i e.symm).1; omega)).trans (hs.block i hi hn)⟩
def cntB (b : Int) (xs : List (Int × Int)) : Nat := xs.countP (fun x => x.1 == b)
theorem cntB_snoc (b : Int) (xs : List (Int × Int)) (x : Int × Int) : cntB b (xs ++ [x]) = cntB b xs + (if x.1 = b then 1 else 0) := by
  unfold cntB
  rw [List.countP_append]
  by_cases h : x.1 = b <;> simp [h]
def IsSeq (w' : World) (lo B : Nat) (xs : List (Int × Int)) : Prop := ∃ (A : Option Addr) (cc : Nat), w'.cell? ⟨B, 0, none⟩ = some (.slice A xs.length cc) ∧ Kd.F pairK w' (fun i => lo ≤ i ∧ i < w'.heap.size) A xs.length xs
theorem used_any {w : World} {v : Value} {q : Option Addr} (hv : v = .pointer q) (b : Int) (xs : List (Int × Int)) (hxl : xs.length ≤ 1000000)
    (hall : ∀ w1, Below w.heap.size w w1 → Calls Try.prog 24 #[v] w1 fun e w' => e = .returned (.func (.func 48) #[] #[.pointer (some ⟨w1.heap.size, 0, none⟩)]) ∧ IsSeq w' w1.heap.size w1.heap.size xs ∧ Below w1.heap.size w1 w') :
    Calls Try.prog 22 #[v, .int .i64 b] w fun e w' => e = .returned (.int .i64 (cntB b xs)) ∧ Below w.heap.size w w' := by
  subst hv
  have hB0 : Below w.heap.size w ((w.alloc (.cells #[.int .i64 b] 3)).alloc (.cells #[.int .i64 0] 3)) := ((Below.refl _ w).alloc (Nat.le_refl _) _).alloc (by simp) _
  have HA := Lib.hid (hall _ hB0)
  have bB := (Boxed.new w 3 (.int .i64 b)).alloc (.cells #[.int .i64 0] 3)
  have bN := Boxed.new (w.alloc (.cells #[.int .i64 b] 3)) 3 (.int .i64 0)
  obtain ⟨w2, hw2⟩ : ∃ w2, (w.alloc (.cells #[.int .i64 b] 3)).alloc (.cells #[.int .i64 0] 3) = w2 := ⟨_, rfl⟩
  have hs2 : w2.heap.size = w.heap.size + 2 := by rw [← hw2]; simp
  refine (callsIn_wide (n := 4)).1 ?_
  refine callsIn_of_wp_marks Try.func22 rfl trivial ?_ rfl
  simp only [Try.ntmps22, List.size_toArray, List.length_cons, List.length_nil, Nat.reduceAdd, Nat.reduceSub, Array.replicate_succ, Array.replicate_zero, List.push_toArray, List.append_toArray, List.nil_append, List.cons_append]
  have HW2 := Lib.hid hw2; have HS2 := Lib.hid hs2; have HB0 := Lib.hid hB0; have HBB := Lib.hid bB; have HBN := Lib.hid bN
  clear hw2 hs2 hB0 bB bN hall
  gi_wp2_with fail
  refine ⟨trivial, ?_⟩
  rw [HW2.out] at HA HB0 ⊢
  refine (callsIn_wide.2 HA.out).mono ?_
  rintro e w3 ⟨rfl, ⟨A, cc, hcl, hF⟩, hb3⟩
  have hbB := HBB.out; have hbN := HBN.out
  rw [World.size_alloc] at hbN
  rw [HW2.out] at hbB hbN
  have hz3 : w2.heap.size ≤ w3.heap.size := hb3.size
  have hz2 := HS2.out
  have HCL := Lib.hid hcl; have HF := Lib.hid hF; have HB3 := Lib.hid hb3
  have hcB : w3.cell? ⟨w.heap.size, 0, none⟩ = some (.int .i64 b) := (hb3.cell (p := ⟨w.heap.size, 0, none⟩) (by show w.heap.size < _; omega)).trans hbB.cell
  have hcN : w3.cell? ⟨w.heap.size + 1, 0, none⟩ = some (.int .i64 0) := (hb3.cell (p := ⟨w.heap.size + 1, 0, none⟩) (by show w.heap.size + 1 < _; omega)).trans hbN.cell
  have hfN : w3.frozen? ⟨w.heap.size + 1, 0, none⟩ = false := (hb3.frozen (p := ⟨w.heap.size + 1, 0, none⟩) (by show w.heap.size + 1 < _; omega)).trans hbN.frozen
  have HC := Lib.hid (show _ ∧ _ ∧ _ from ⟨hcB, hcN, hfN⟩)
  have Hz2 := Lib.hid hz2
  clear hcl hF hb3 hbB hbN hcB hcN hfN hz2
  gi_wp2_with fail
  have hlt3 : w2.heap.size < w3.heap.size := by
    have := World.block_lt_of_cell? _ _ HCL.out
    exact this
  refine wpIn_rangeFunc_ownG (w := w3) rfl (by omega) (gf := 48) (lb := #[.pointer (some ⟨w2.heap.size, 0, none⟩)]) rfl trivial (enters_of Try.func48 (by kernel_rfl) rfl)
    (all1_stops Fence.wide (4 - 1) trivial rfl (by omega) w2.heap.size (fun i => w2.heap.size ≤ i ∧ i < w3.heap.size) ⟨Nat.le_refl _, hlt3⟩ A cc xs w3 (fun i hi => hi.2) HCL.out HF.out) (fun h k => h.trans k) (keepT_b (fun i hi => hi.2)) (Below.refl _ _) (fun _ => rfl)
    (fun pre W => (W.cell? ⟨w.heap.size + 1, 0, none⟩ = some (.int .i64 (cntB b pre)) ∧ W.frozen? ⟨w.heap.size + 1, 0, none⟩ = false ∧ W.cell? ⟨w.heap.size, 0, none⟩ = some (.int .i64 b)) ∧ KeepS (fun i => i = w.heap.size + 1) w3 W)
    (fun _ _ _ => False)
    (OwnFrom.and (Own.from (fun s A B row hs hg hr => ⟨cell_kept hs.1 hg hr, (frozen_kept hs.1 hg hr).trans hs.2.1, cell_kept hs.2.2 hg hr⟩) _) (ownFrom_keepS _ _))
    (fun _ _ _ _ _ hs _ _ => hs)
    ⟨⟨HC.out.2.1, HC.out.2.2, HC.out.1⟩, KeepS.refl _ _⟩
    (fun x => { tmps := #[.pointer q, .int .i64 b, undef, .pointer (some ⟨w.heap.size, 0, none⟩), .int .i64 0, .pointer (some ⟨w.heap.size + 1, 0, none⟩), .int .i64 x.1, .pointer q, .func (.func 48) #[] #[.pointer (some ⟨w2.heap.size, 0, none⟩)], .int .i64 x.1, .int .i64 x.2, undef, undef, undef, undef, undef, undef], defers := [] }) ?assign ?body ?done ?stop
  case assign =>
    intro l x W K hK
    dsimp only [encP]
    gi_wp2
    exact hK
  case body =>
    rintro l pre x W ⟨⟨hc, hf, hb⟩, hK⟩ hlen
    have hcnt : cntB b pre ≤ pre.length := List.countP_le_length
    by_cases hx : x.1 = b
    · have hxb : (x.1 == b) = true := by simp [hx]
      have HS := Lib.hid (cntB_snoc b pre x)
      rw [if_pos hx] at HS
      have HK := Lib.hid hK
      clear hx hK
      gi_wp2
      refine ⟨(KeepsOthers.setCell _ _ _).from _, fun i hi _ => Below.heap_setCell W ⟨w.heap.size + 1, 0, none⟩ _ i (by show i ≠ w.heap.size + 1; have := Hz2.out; omega), ⟨?_, by rw [World.frozen?_setCell]; exact hf, ?_⟩, HK.out.set (.inl rfl) _⟩
      · rw [HS.out]; exact World.cell?_setCell_same' _ _ _ (by rw [hc]; rfl)
      · rw [World.cell?_setCell_other _ _ _ _ (by simp)]; exact hb
    · have hxb : (x.1 == b) = false := by simp [hx]
      have HS := Lib.hid (cntB_snoc b pre x)
      rw [if_neg hx] at HS
      have HK := Lib.hid hK
      clear hx hK
      gi_wp2
      exact ⟨KeepsFrom.refl _ _, KeepT.refl _ _, ⟨by rw [HS.out]; exact hc, hf, hb⟩, HK.out⟩
  case done =>
    rintro D ys W hD rfl ⟨⟨hc, hf, hb⟩, hK⟩ hKD
    have HK := Lib.hid hK
    clear hK
    gi_wp2
    refine ⟨by simp, .inl ⟨_, _, rfl, run_takeDeferred hKD, ?_⟩⟩
    refine ⟨_, results_tmp rfl _ _ _, rfl, ?_⟩
    have h1 : Below w.heap.size w w3 := HB0.out.trans (HB3.out.mono (by have := Hz2.out; omega))
    have h2 := h1.trans (HK.out.below (B := w.heap.size) h1.size (by rintro i rfl; omega))
    exact h2.trans (belowK_b (w := w) (Nat.le_refl _) W D _ _ (by have := h1.size; omega) hKD rfl rfl)
  case stop =>
    rintro D c pre W _ _ h _
    exact h.elim
end Go.Proofs.Ytandhpnpodkemaa.M
end

section
/- The reference's SetFuse, Crash, Restart, Wear, at, Read, Used. -/
set_option linter.unusedVariables false
set_option linter.unusedSimpArgs false
set_option maxRecDepth 100000
namespace Go.Proofs.Ytandhpnpodkemaa.M
open Go.RowKit Go.Proofs.YtandhpnpodkemaaW.PrintWords
section
variable {w : World} {q ob wb : Nat} {fl : Fl}
theorem rsetfuse_is (h : IsR w q ob wb fl) (n k : Int) :
    Calls Try.prog 54 #[.pointer (some ⟨q, 0, none⟩), .int .i64 n, .int .i64 k] w fun e w' => e = .returned (.int .i64 (setFuseE fl n)) ∧ IsR w' q ob wb (setFuseF fl n k) ∧ KeepS (fun k => k = q) w w' := by
  obtain ⟨kr, co, hy, hkr, hco⟩ := h.y
  have HY := Lib.hid hy; have HR := Lib.hid h; have HK := Lib.hid hco
  have c2 : w.cell? ⟨q, 2, none⟩ = some (.int .i64 fl.fuse) := (blk_cell hy 2).trans rfl
  have c3 : w.cell? ⟨q, 3, none⟩ = some (.int .i64 kr) := (blk_cell hy 3).trans rfl
  have c4 : w.cell? ⟨q, 4, none⟩ = some (.bool fl.down) := (blk_cell hy 4).trans rfl
  have z2 : w.frozen? ⟨q, 2, none⟩ = false := blk_frozen hy 2
  have z3 : w.frozen? ⟨q, 3, none⟩ = false := blk_frozen hy 3
  clear h hy hkr hco
  by_cases hd : fl.down = true
  · have HB := Lib.hid (show setFuseE fl n = 7 ∧ setFuseF fl n k = fl by
      have e1 : setFuseE fl n = 7 := by unfold setFuseE looksE; rw [if_pos hd]
      exact ⟨e1, by unfold setFuseF; rw [if_neg (by rw [e1]; decide)]⟩)
    rw [hd] at c4
    rw [HB.out.1, HB.out.2]
    clear hd
    go_enter Try.func54, Try.ntmps54
    go_wp2_with fail
    go_ret
    exact ⟨rfl, HR.out, KeepS.refl _ _⟩
  · have hd' : fl.down = false := by simpa using hd
    rw [hd'] at c4
    by_cases h1 : n < 1
    · have HB := Lib.hid (show setFuseE fl n = 1 ∧ setFuseF fl n k = fl by
        have e1 : setFuseE fl n = 1 := by unfold setFuseE looksE; rw [if_neg hd, if_neg (by simp; omega)]
        exact ⟨e1, by unfold setFuseF; rw [if_neg (by rw [e1]; decide)]⟩)
      rw [HB.out.1, HB.out.2]
      have q1 : decide (n < 1) = true := decide_eq_true h1
      clear hd hd' h1
      go_enter Try.func54, Try.ntmps54
      go_wp2_with fail
      go_ret
      exact ⟨rfl, HR.out, KeepS.refl _ _⟩
    · have HB := Lib.hid (show setFuseE fl n = 0 ∧ setFuseF fl n k = { fl with fuse := n, keep := keepV k } by
        have e1 : setFuseE fl n = 0 := by unfold setFuseE looksE; rw [if_neg hd, if_pos (by simp; omega)]
        exact ⟨e1, by unfold setFuseF; rw [if_pos e1]⟩)
      have HD := Lib.hid hd'
      rw [HB.out.1, HB.out.2]
      have q1 : decide (n < 1) = false := decide_eq_false h1
      clear hd hd' h1
      go_enter Try.func54, Try.ntmps54
      go_wp2_with fail
      go_ret
      have hk := ((KeepS.refl (fun k => k = q) w).set (p := ⟨q, 2, none⟩) (.inl rfl) (.int .i64 n)).set (p := ⟨q, 3, none⟩) (.inl rfl) (.int .i64 k)
      exact ⟨rfl, HR.out.objq hk rfl (fun b hb => ⟨fun p hp => rfl, rfl⟩) ⟨k, co, blk_put (blk_put HY.out 2 _ rfl) 3 _ rfl, rfl, HK.out⟩, hk⟩
theorem rcrash_is (h : IsR w q ob wb fl) :
    Calls Try.prog 55 #[.pointer (some ⟨q, 0, none⟩)] w fun e w' => e = .returned (.int .i64 (crashE fl)) ∧ IsR w' q ob wb (crashF fl) ∧ KeepS (fun k => k = q) w w' := by
  obtain ⟨kr, co, hy, hkr, hco⟩ := h.y
  have HY := Lib.hid hy; have HR := Lib.hid h; have HK := Lib.hid (And.intro hkr hco)
  have c2 : w.cell? ⟨q, 2, none⟩ = some (.int .i64 fl.fuse) := (blk_cell hy 2).trans rfl
  have c4 : w.cell? ⟨q, 4, none⟩ = some (.bool fl.down) := (blk_cell hy 4).trans rfl
  have z2 : w.frozen? ⟨q, 2, none⟩ = false := blk_frozen hy 2
  have z4 : w.frozen? ⟨q, 4, none⟩ = false := blk_frozen hy 4
  clear h hy hkr hco
  by_cases hd : fl.down = true
  · have HB := Lib.hid (show crashE fl = 7 ∧ crashF fl = fl by
      have e1 : crashE fl = 7 := by unfold crashE looksE; rw [if_pos hd]
      exact ⟨e1, by unfold crashF; rw [if_neg (by rw [e1]; decide)]⟩)
    rw [hd] at c4
    rw [HB.out.1, HB.out.2]
    clear hd
    go_enter Try.func55, Try.ntmps55
    go_wp2_with fail
    go_ret
    exact ⟨rfl, HR.out, KeepS.refl _ _⟩
  · have hd' : fl.down = false := by simpa using hd
    rw [hd'] at c4
    have HB := Lib.hid (show crashE fl = 0 ∧ crashF fl = { fl with down := true, fuse := 0 } by
      have e1 : crashE fl = 0 := by unfold crashE looksE; rw [if_neg hd, if_pos rfl]
      exact ⟨e1, by unfold crashF; rw [if_pos e1]⟩)
    rw [HB.out.1, HB.out.2]
    clear hd hd'
    go_enter Try.func55, Try.ntmps55
    go_wp2_with fail
    go_ret
    have hk := ((KeepS.refl (fun k => k = q) w).set (p := ⟨q, 4, none⟩) (.inl rfl) (.bool true)).set (p := ⟨q, 2, none⟩) (.inl rfl) (.int .i64 0)
    exact ⟨rfl, HR.out.objq hk rfl (fun b hb => ⟨fun p hp => rfl, rfl⟩) ⟨kr, co, blk_put (blk_put HY.out 4 _ rfl) 2 _ rfl, HK.out⟩, hk⟩
theorem rrestart_is (h : IsR w q ob wb fl) :
    Calls Try.prog 56 #[.pointer (some ⟨q, 0, none⟩)] w fun e w' => e = .returned (.int .i64 (restartE fl)) ∧ IsR w' q ob wb (restartF fl) ∧ KeepS (fun k => k = q) w w' := by
  obtain ⟨kr, co, hy, hkr, hco⟩ := h.y
  have HY := Lib.hid hy; have HR := Lib.hid h; have HK := Lib.hid (And.intro hkr hco)
  have c4 : w.cell? ⟨q, 4, none⟩ = some (.bool fl.down) := (blk_cell hy 4).trans rfl
  have z4 : w.frozen? ⟨q, 4, none⟩ = false := blk_frozen hy 4
  clear h hy hkr hco
  by_cases hd : fl.down = true
  · have HB := Lib.hid (show restartE fl = 0 by unfold restartE; rw [if_pos hd])
    rw [hd] at c4
    rw [HB.out]
    clear hd
    go_enter Try.func56, Try.ntmps56
    go_wp2_with fail
    go_ret
    have hk := (KeepS.refl (fun k => k = q) w).set (p := ⟨q, 4, none⟩) (.inl rfl) (.bool false)
    exact ⟨rfl, HR.out.objq hk rfl (fun b hb => ⟨fun p hp => rfl, rfl⟩) ⟨kr, co, blk_put HY.out 4 _ rfl, HK.out⟩, hk⟩
  · have hd' : fl.down = false := by simpa using hd
    have HB := Lib.hid (show restartE fl = 1 ∧ restartF fl = fl by
      constructor
      · unfold restartE; rw [if_neg hd]
      · unfold restartF; rw [← hd'])
    rw [hd'] at c4
    rw [HB.out.1, HB.out.2]
    clear hd hd'
    go_enter Try.func56, Try.ntmps56
    go_wp2_with fail
    go_ret
    exact ⟨rfl, HR.out, KeepS.refl _ _⟩
theorem rwear_is (h : IsR w q ob wb fl) (b : Int) : Calls Try.prog 28 #[.pointer (some ⟨q, 0, none⟩), .int .i64 b] w fun e w' => e = .returned (.int .i64 (wearV fl b)) ∧ w' = w := by
  obtain ⟨kr, co, ⟨c0, c1, c2, c3, c4⟩, hkr, hco⟩ := h.cells
  have HR := Lib.hid h
  have hn : fl.n ≤ 1024 := h.n2
  clear h c0 c2 c3 c4
  by_cases h0 : b < 0
  · have HB := Lib.hid (show wearV fl b = 0 by unfold wearV; rw [if_neg (by omega)])
    rw [HB.out]
    have q0 : decide (b < 0) = true := decide_eq_true h0
    clear h0
    go_enter Try.func28, Try.ntmps28
    go_wp2_with fail
    go_ret
    exact ⟨rfl, rfl⟩
  · have q0 : decide (b < 0) = false := decide_eq_false h0
    by_cases h1 : (fl.n : Int) ≤ b
    · have HB := Lib.hid (show wearV fl b = 0 by unfold wearV; rw [if_neg (by omega)])
      rw [HB.out]
      have q1 : decide ((fl.n : Int) ≤ b) = true := decide_eq_true h1
      clear h0 h1
      go_enter Try.func28, Try.ntmps28
      go_wp2_with fail
      go_ret
      exact ⟨rfl, rfl⟩
    · have q1 : decide ((fl.n : Int) ≤ b) = false := decide_eq_false h1
      obtain ⟨k, rfl⟩ : ∃ k : Nat, b = (k : Int) := ⟨b.toNat, by omega⟩
      have hk : k < fl.n := by omega
      have e1 := HR.out.worn hk
      obtain ⟨x, hx⟩ : ∃ x, fl.c (k * 4113 + 4112) = x := ⟨_, rfl⟩
      have HB := Lib.hid (show wearV fl (k : Int) = x by unfold wearV; rw [if_pos (by omega), Int.toNat_natCast]; exact hx)
      rw [HB.out]
      rw [hx] at e1
      have i1 : (k : Int) < (fl.n : Int) := by omega
      have i0 : (0 : Int) ≤ (k : Int) := by omega
      clear h0 h1 hx
      go_enter Try.func28, Try.ntmps28
      go_wp2_with fail
      go_ret
      exact ⟨rfl, rfl⟩
theorem IsR.page (h : IsR w q ob wb fl) {b p : Nat} (hb : b < fl.n) (hp : p < 16) : ∃ (g cap : Nat) (bv : Value), w.cell? ⟨ob, b, none⟩ = some (.slice (some ⟨g, 0, none⟩) 16 cap) ∧ 16 ≤ cap ∧ PgRow w (.slice (some ⟨g, 0, none⟩) 16 cap) (pgOf fl b) ∧ w.cell? ⟨g, p * 3, none⟩ = some (.bool (pgOf fl b p).has) ∧ w.cell? ⟨g, p * 3 + 1, none⟩ = some (.bool (pgOf fl b p).torn) ∧ w.cell? ⟨g, p * 3 + 2, none⟩ = some bv ∧ BRow w bv (pgOf fl b p).b := by
  obtain ⟨v, hv, hr⟩ := h.row hb
  obtain ⟨g, cap, rfl, hc, _, hx⟩ := hr.slice
  obtain ⟨x, y, bv, z, hB⟩ := hx p hp
  exact ⟨g, cap, bv, hv, hc, hr, x, y, z, hB⟩
theorem rat_is (h : IsR w q ob wb fl) {b p : Nat} (hb : b < fl.n) (hp : p < 16) :
    Calls Try.prog 62 #[.pointer (some ⟨q, 0, none⟩), .int .i64 (b : Int), .int .i64 (p : Int)] w fun e w' => e = .returned (.int .i64 (atE fl b p)) ∧ Below w.heap.size w w' := by
  obtain ⟨kr, co, ⟨c0, c1, c2, c3, c4⟩, hkr, hco⟩ := h.cells
  have hn : fl.n ≤ 1024 := h.n2
  obtain ⟨g, cap, bv, r0, hcap, hr, p0, p1, p2, hB⟩ := h.page hb hp
  obtain ⟨A, c, rfl, _, _, _⟩ := hB.reads
  obtain ⟨m, hm⟩ : ∃ m, (pgOf fl b p).b.length = m := ⟨_, rfl⟩
  rw [hm] at p2
  have i1 : (b : Int) < (fl.n : Int) := by omega
  have i0 : (0 : Int) ≤ (b : Int) := by omega
  have i2 : (p : Int) < 16 := by omega
  have i3 : (0 : Int) ≤ (p : Int) := by omega
  have hb1 : ∀ (x y : Bool), Below w.heap.size w (w.alloc (.cells #[.bool x, .bool y, .slice A m c] 90)) := fun x y => (Below.refl _ w).alloc (Nat.le_refl _) _
  have HB1 := Lib.hid hb1
  clear h c1 c2 c3 c4 hr hB hm hb1
  have HP := Lib.hid (show pgOf fl b p = ⟨decide (fl.c (b * 4113 + p * 257) ≠ 0), decide (fl.c (b * 4113 + p * 257) = 1), (pgOf fl b p).b⟩ from rfl)
  obtain ⟨x, hx⟩ : ∃ x, (pgOf fl b p).has = x := ⟨_, rfl⟩
  obtain ⟨y, hy⟩ : ∃ y, (pgOf fl b p).torn = y := ⟨_, rfl⟩
  rw [hx] at p0
  rw [hy] at p1
  have HX := Lib.hid (show x = decide (fl.c (b * 4113 + p * 257) ≠ 0) from hx.symm)
  have HY := Lib.hid (show y = decide (fl.c (b * 4113 + p * 257) = 1) from hy.symm)
  clear hx hy HP
  obtain ⟨r, hr⟩ : ∃ r, atE fl b p = r := ⟨_, rfl⟩
  have HR := Lib.hid hr
  rw [hr]
  clear hr
  cases x with
  | false =>
    obtain rfl : 21 = r := (by rw [← HR.out]; unfold atE; rw [if_pos (by have := HX.out; simpa using this.symm)])
    go_enter Try.func62, Try.ntmps62
    go_wp2_with fail
    go_ret
    exact ⟨rfl, HB1.out _ _⟩
  | true =>
    have HN := Lib.hid (show fl.c (b * 4113 + p * 257) ≠ 0 by have := HX.out; simpa using this.symm)
    cases y with
    | true =>
      obtain rfl : 22 = r := (by rw [← HR.out]; unfold atE; rw [if_neg HN.out, if_pos (by have := HY.out; simpa using this.symm)])
      go_enter Try.func62, Try.ntmps62
      go_wp2_with fail
      go_ret
      exact ⟨rfl, HB1.out _ _⟩
    | false =>
      obtain rfl : 0 = r := (by rw [← HR.out]; unfold atE; rw [if_neg HN.out, if_neg (by have := HY.out; simpa using this.symm)])
      go_enter Try.func62, Try.ntmps62
      go_wp2_with fail
      go_ret
      exact ⟨rfl, HB1.out _ _⟩
theorem pgOf_b {b p : Nat} (h : atE fl b p = 0) : (pgOf fl b p).b = pgL fl b p := by
  unfold atE at h
  by_cases h0 : fl.c (b * 4113 + p * 257) = 0
  · rw [if_pos h0] at h; cases h
  · by_cases h1 : fl.c (b * 4113 + p * 257) = 1
    · rw [if_neg h0, if_pos h1] at h; cases h
    · simp only [pgOf]; rw [if_neg (by simp [h0, h1])]
set_option maxHeartbeats 1000000 in
theorem rread_is (h : IsR w q ob wb fl) (b p : Int) :
    Calls Try.prog 52 #[.pointer (some ⟨q, 0, none⟩), .int .i64 b, .int .i64 p] w fun e w' => ∃ v, e = .returned (.tuple #[v, .int .i64 (readE fl b p)]) ∧ BRow w' v (readL fl b p) ∧ Below w.heap.size w w' := by
  have HL := Lib.hid (rlook_is h b p)
  have HR := Lib.hid h
  have hn : fl.n ≤ 1024 := h.n2
  obtain ⟨kr, co, ⟨c0, c1, c2, c3, c4⟩, hkr, hco⟩ := h.cells
  clear h c1 c2 c3 c4
  obtain ⟨x, hx⟩ : ∃ x, looksE fl (okAt fl b p) = x := ⟨_, rfl⟩
  rw [hx] at HL
  by_cases h0 : x = 0
  · subst h0
    obtain ⟨b0, b1, b2, b3⟩ := okAt_of hx
    obtain ⟨b, rfl⟩ : ∃ k : Nat, b = (k : Int) := ⟨b.toNat, by omega⟩
    obtain ⟨p, rfl⟩ : ∃ k : Nat, p = (k : Int) := ⟨p.toNat, by omega⟩
    have HB := Lib.hid (show b < fl.n ∧ p < 16 by omega)
    have HA := Lib.hid (rat_is HR.out HB.out.1 HB.out.2)
    obtain ⟨r, hr⟩ : ∃ r, atE fl b p = r := ⟨_, rfl⟩
    rw [hr] at HA
    have HE := Lib.hid (show readE fl (b : Int) (p : Int) = r ∧ (r = 0 → readL fl (b : Int) (p : Int) = (pgOf fl b p).b) ∧ (r ≠ 0 → readL fl (b : Int) (p : Int) = []) by
      have e1 : readE fl (b : Int) (p : Int) = r := by unfold readE; rw [if_pos hx, Int.toNat_natCast, Int.toNat_natCast]; exact hr
      refine ⟨e1, fun h => ?_, fun h => ?_⟩
      · unfold readL; rw [if_pos (by rw [e1]; exact h), Int.toNat_natCast, Int.toNat_natCast, pgOf_b (by rw [hr]; exact h)]
      · unfold readL; rw [if_neg (by rw [e1]; exact h)])
    clear hx hr
    rw [HE.out.1]
    by_cases hr0 : r = 0
    · subst hr0
      go_enter Try.func52, Try.ntmps52
      go_wp2_with fail
      refine HL.out.mono ?_
      rintro e w1 ⟨rfl, rfl⟩
      go_wp2_with fail
      refine HA.out.mono ?_
      rintro e w2 ⟨rfl, hb⟩
      have HB2 := Lib.hid hb
      obtain ⟨kr', co', ⟨d0, _, _, _, _⟩, _, hco'⟩ := (HR.out.below hb).cells
      obtain ⟨g, cap, bv, r0, hcap, hr, p0, p1, p2, hB⟩ := (HR.out.below hb).page HB.out.1 HB.out.2
      have HBR := Lib.hid hB
      clear hb hr p0 p1 hB c0 hco hkr
      obtain ⟨A, c, rfl, _, _, _⟩ := HBR.out.reads
      go_wp2_with fail
      go_ret2
      refine ⟨_, rfl, ?_, HB2.out⟩
      rw [HE.out.2.1 (by trivial)]
      exact HBR.out
    · have q1 : (r != 0) = true := bne_iff_ne.2 hr0
      go_enter Try.func52, Try.ntmps52
      go_wp2_with fail
      refine HL.out.mono ?_
      rintro e w1 ⟨rfl, rfl⟩
      go_wp2_with fail
      refine HA.out.mono ?_
      rintro e w2 ⟨rfl, hb⟩
      have HB2 := Lib.hid hb
      clear hb
      go_wp2_with fail
      go_ret2
      refine ⟨_, rfl, ?_, HB2.out⟩
      rw [HE.out.2.2 hr0]
      exact .inl ⟨rfl, rfl⟩
  · have HE := Lib.hid (show readE fl b p = x ∧ readL fl b p = [] by
      have e1 : readE fl b p = x := by unfold readE; rw [if_neg (by rw [hx]; exact h0)]; exact hx
      exact ⟨e1, by unfold readL; rw [if_neg (by rw [e1]; exact h0)]⟩)
    have q1 : (x != 0) = true := bne_iff_ne.2 h0
    have q2 : (x == 0) = false := beq_eq_false_iff_ne.2 h0
    clear hx h0
    rw [HE.out.1]
    go_enter Try.func52, Try.ntmps52
    go_wp2_with fail
    refine HL.out.mono ?_
    rintro e w1 ⟨rfl, rfl⟩
    go_wp2_with fail
    go_ret2
    exact ⟨_, rfl, by rw [HE.out.2]; exact .inl ⟨rfl, rfl⟩, Below.refl _ _⟩
end
end Go.Proofs.Ytandhpnpodkemaa.M
end

section
/- The reference's Full: bytes, and 255 behind them; and its Used. -/
set_option linter.unusedVariables false
set_option linter.unusedSimpArgs false
set_option maxRecDepth 100000
namespace Go.Proofs.Ytandhpnpodkemaa.M
open Go.RowKit Go.Proofs.YtandhpnpodkemaaW.PrintWords
def fullB (l : List Int) : List Int := l ++ List.replicate (256 - l.length) 255
set_option maxHeartbeats 1000000 in
theorem full_is {w : World} {A : Option Addr} {c : Nat} {l : List Int} (hr : Kd.C (Kd.int .u8) w A l.length l) (hl : l.length ≤ 256) :
    Calls Try.prog 61 #[.slice A l.length c] w fun e w' => ∃ v, e = .returned v ∧ Own w' w.heap.size v (fullB l) ∧ Below w.heap.size w w' := by
  have HR := Lib.hid hr; have HL := Lib.hid hl
  have hlm : l.length ≤ 9223372036854775807 := hr.2.1
  clear hr hl
  go_enter Try.func61, Try.ntmps61
  go_wp2_with ((with_reducible refine gate_builtin (b := .append) (xs := #[.const (.slice none 0 0), .tmp 4]) rfl ?_); at_builtin; refine Kd.R_append_rows (Kd.int .u8) (w0 := w) w.heap.size rfl (.const (.slice none 0 0)) (.tmp 4) 29 5 (.int .u8 0) 1 rfl Try.underlying29 infoU8 rfl (by decide) (by omega) _ ([] : List Int) l _ _ _ (fun _ => True) (fun _ => False) rfl rfl (Kd.R_nil _ _ _ _ _) HR.out (fun _ _ h => h) (fun _ h => h.elim) (fun _ _ => trivial) (Below.refl _ _) (Nat.le_refl _) (by have := HL.out; simp; omega) ?_; intro v1 w1 ho hb _ _; obtain ⟨A1, c1, rfl⟩ := Kd.R_slice ho; have HO1 := Lib.hid (show Own w1 w.heap.size (.slice A1 l.length c1) l from ho); have HB1 := Lib.hid hb; clear ho hb)
  go_loopw [3] (fun v W => ∃ (k : Nat) (A' : Option Addr) (c' m : Nat), v = .slice A' m c' ∧ m = l.length + k ∧ m ≤ 256 ∧ Own W w.heap.size (.slice A' m c') (l ++ List.replicate k 255) ∧ Below w.heap.size w W) (fun v _ => match v with | .slice _ m _ => 256 - m | _ => 0)
  case atStart => exact ⟨0, A1, c1, l.length, rfl, rfl, HL.out, by simpa using HO1.out, HB1.out⟩
  case round =>
    obtain ⟨k, A', c', m, rfl, hm, hm2, hO, hb⟩ := hrel
    have HO := Lib.hid hO; have HB := Lib.hid hb; have HM := Lib.hid hm
    clear hO hb
    by_cases hlt : m < 256
    · have q1 : decide (m < 256) = true := decide_eq_true hlt
      have q2 : decide ((m : Int) < 256) = true := decide_eq_true (by omega)
      have HLT := Lib.hid hlt
      clear hlt hm
      go_wp2_with ((with_reducible refine gate_builtin (b := .append) (xs := #[.tmp 9, .tmp 10]) rfl ?_); at_builtin; refine Kd.R_append (Kd.int .u8) (w0 := w) w.heap.size rfl (.tmp 9) (.tmp 10) 29 5 (.int .u8 0) 1 rfl Try.underlying29 infoU8 rfl (by decide) (by omega) _ (l ++ List.replicate k 255) (255 : Int) [.int .u8 255] (fun _ => True) (fun _ => False) rfl rfl rfl (fun _ hk => hk.elim) (fun _ _ => trivial) HO.out HB.out HB.out.size (by have := HM.out; have := HLT.out; rw [List.length_append, List.length_replicate]; omega) ?_; intro v1 w2 ho hb hg hat; obtain ⟨A2, c2, rfl⟩ := Kd.R_slice ho; have HO2 := Lib.hid ho; have HB2 := Lib.hid hb; clear ho hb hg hat)
      go_roundw
      case rel =>
        have h9 := HO2.out
        rw [List.append_assoc, ← List.replicate_succ', List.length_append, List.length_replicate] at h9
        exact ⟨k + 1, A2, c2, _, rfl, rfl, by have := HM.out; have := HLT.out; omega, h9, HB2.out⟩
      case measure => have := HLT.out; have := HM.out; show 256 - (l.length + (k + 1)) < 256 - m; omega
    · have q1 : decide (m < 256) = false := decide_eq_false hlt
      have q2 : decide ((m : Int) < 256) = false := decide_eq_false (by omega)
      have HE := Lib.hid (show fullB l = l ++ List.replicate k 255 by unfold fullB; rw [show 256 - l.length = k by omega])
      clear hlt hm
      go_wp2_with fail
      go_ret
      refine ⟨_, rfl, ?_, HB.out⟩
      rw [HE.out]
      exact HO.out
end Go.Proofs.Ytandhpnpodkemaa.M
end

section
/- begun's states and answers, in plain Lean. -/
set_option linter.unusedVariables false
set_option linter.unusedSimpArgs false
set_option maxRecDepth 100000
namespace Go.Proofs.Ytandhpnpodkemaa.M
open Go.RowKit
def bg0 : Fl := newF 2
def bg1 : Fl := progF bg0 1 3 [97]
def bg2 : Fl := progF bg1 1 3 []
def bg3 : Fl := setFuseF bg2 1 1
def bg4 : Fl := eraseF bg3 1
def bg5 : Fl := restartF bg4
theorem bg_p1 : progE bg0 1 3 1 = 0 := by decide +kernel
theorem bg_p2 : progE bg1 1 3 0 = 20 := by decide +kernel
theorem bg_r1 : readE bg2 1 3 = 0 := by decide +kernel
theorem bg_l1 : readL bg2 1 3 = 97 :: List.replicate 255 255 := by decide +kernel
theorem bg_f1 : setFuseE bg2 1 = 0 := by decide +kernel
theorem bg_e1 : eraseE bg3 1 = 7 := by decide +kernel
theorem bg_s1 : restartE bg4 = 0 := by decide +kernel
theorem bg_r2 : readE bg5 1 0 = 22 := by decide +kernel
theorem bg_u0 : 0 ≤ bg0.fuse ∧ bg0.fuse ≤ 9223372036854775807 := by decide +kernel
theorem bg_u1 : 0 ≤ bg1.fuse ∧ bg1.fuse ≤ 9223372036854775807 := by decide +kernel
theorem bg_u3 : 0 ≤ bg3.fuse ∧ bg3.fuse ≤ 9223372036854775807 := by decide +kernel
end Go.Proofs.Ytandhpnpodkemaa.M
end

section
/- (under way: does not build whole) Contract of begun. -/
set_option linter.unusedVariables false
set_option linter.unusedSimpArgs false
set_option maxRecDepth 100000
namespace Go.Proofs.Ytandhpnpodkemaa.M
open Go.RowKit Go.Proofs.YtandhpnpodkemaaW.PrintWords Go.Proofs.YtandhpnpodkemaaW.PrintLast
theorem F_const (w : World) (x : Int) (z : Nat × Nat) : Kd.F (Kd.int .u8) (w.alloc (.cells #[.int .u8 x] 5 z)) (fun k => k = w.heap.size) (some ⟨w.heap.size, 0, none⟩) [x].length [x] := by
  intro W' hW
  refine Kd.C_of_reads (d := (0 : Int)) (h1 := fun _ => rfl) ⟨rfl, by simp, fun _ => ⟨_, rfl, fun j hj => ?_⟩⟩
  obtain rfl : j = 0 := by simpa using hj
  rw [Addr.add_zero']
  have h1 := hW w.heap.size rfl (by simp)
  have h2 : (w.alloc (.cells #[.int .u8 x] 5 z)).heap[w.heap.size]? = some (.cells #[.int .u8 x] 5 z) := by
    show (w.heap.push _)[w.heap.size]? = _
    simp
  rw [h2] at h1
  simp [World.cell?, h1]
section
variable {w : World} {f g : Nat}
theorem bgc1 (h : IsF w f g bg0) (A : Option Addr) (hr : Kd.F (Kd.int .u8) w (fun k => k ≠ f ∧ k ≠ g) A [(97 : Int)].length [97]) : Calls Try.prog 9 #[.pointer (some ⟨f, 0, none⟩), .int .i64 1, .int .i64 3, .slice A 1 1] w fun e w' => e = .returned (.int .i64 0) ∧ IsF w' f g bg1 ∧ KeepF f g w w' := by
  have h2 := program_is h bg_u0 1 3 A 1 [97] hr
  rw [show progE bg0 1 3 [(97 : Int)].length = 0 from bg_p1] at h2
  exact h2
theorem bgc2 (h : IsF w f g bg1) : Calls Try.prog 9 #[.pointer (some ⟨f, 0, none⟩), .int .i64 1, .int .i64 3, .slice none 0 0] w fun e w' => e = .returned (.int .i64 20) ∧ IsF w' f g bg2 ∧ KeepF f g w w' := by
  have h2 := program_is h bg_u1 1 3 none 0 [] (Kd.F_nil _ _ _)
  rw [show progE bg1 1 3 ([] : List Int).length = 20 from bg_p2] at h2
  exact h2
theorem bgc4 (h : IsF w f g bg2) : Calls Try.prog 13 #[.pointer (some ⟨f, 0, none⟩), .int .i64 1, .int .i64 1] w fun e w' => e = .returned (.int .i64 0) ∧ IsF w' f g bg3 ∧ KeepF f g w w' := by
  have h2 := setfuse_is h 1 1
  rw [bg_f1] at h2
  exact h2
theorem bgc5 (h : IsF w f g bg3) : Calls Try.prog 11 #[.pointer (some ⟨f, 0, none⟩), .int .i64 1] w fun e w' => e = .returned (.int .i64 7) ∧ IsF w' f g bg4 ∧ KeepF f g w w' := by
  have h2 := erase_is h bg_u3 1
  rw [bg_e1] at h2
  exact h2
theorem bgc6 (h : IsF w f g bg4) : Calls Try.prog 15 #[.pointer (some ⟨f, 0, none⟩)] w fun e w' => e = .returned (.int .i64 0) ∧ IsF w' f g bg5 ∧ KeepF f g w w' := by
  have h2 := restart_is h
  rw [bg_s1] at h2
  exact h2
theorem bgc7 (h : IsF w f g bg5) : Calls Try.prog 16 #[.pointer (some ⟨f, 0, none⟩), .int .i64 1, .int .i64 0] w fun e w' => ∃ v, e = .returned (.tuple #[v, .int .i64 22]) ∧ Below w.heap.size w w' := by
  refine (read_is h 1 0).mono ?_
  rintro e w' ⟨v, rfl, ho, hb⟩
  exact ⟨v, by rw [bg_r2], hb⟩
end
end Go.Proofs.Ytandhpnpodkemaa.M
end

section
/- begun answers true. -/
set_option linter.unusedVariables false
set_option linter.unusedSimpArgs false
set_option maxRecDepth 100000
namespace Go.Proofs.Ytandhpnpodkemaa.M
open Go.RowKit Go.Proofs.YtandhpnpodkemaaW.PrintWords Go.Proofs.YtandhpnpodkemaaW.PrintLast
theorem KeepF.below_then {B f g : Nat} {w w1 w2 : World} (h : Below B w w1) (k : KeepF f g w1 w2) (hB : B ≤ w1.heap.size) (hf : B ≤ f) (hg : B ≤ g) : Below B w w2 :=
  ⟨k.os.trans h.os, k.tape.trans h.tape, k.output.trans h.output, Nat.le_trans h.size k.size, fun i hi => (k.block i (Nat.lt_of_lt_of_le hi hB) (by omega) (by omega)).trans (h.block i hi)⟩
theorem bgc3' {w : World} {f g : Nat} (h : IsF w f g bg2) : Calls Try.prog 16 #[.pointer (some ⟨f, 0, none⟩), .int .i64 1, .int .i64 3] w fun e w' => ∃ b c, e = .returned (.tuple #[.slice (some ⟨b, 0, none⟩) 256 c, .int .i64 0]) ∧ (w.heap.size ≤ b ∧ b < w'.heap.size) ∧ (256 ≤ c ∧ w'.cell? ⟨b, 0, none⟩ = some (.int .u8 97) ∧ w'.cell? ⟨b, 1, none⟩ = some (.int .u8 255)) ∧ Below w.heap.size w w' := by
  refine (read_is h 1 3).mono ?_
  rintro e w' ⟨v, rfl, ho, hb⟩
  rw [bg_l1] at ho
  have hl2 : ((97 : Int) :: List.replicate 255 255).length = 256 := by simp
  obtain ⟨b, c, rfl, hb1, hb2, _⟩ := Kd.R_form ho (by rw [hl2]; omega)
  have e0 := (Kd.R_celln (0 : Int) ho 0 (by omega) (by rw [hl2]; omega)).1
  have e1 := (Kd.R_celln (0 : Int) ho 1 (by omega) (by rw [hl2]; omega)).1
  have hc := (Kd.R_reads' ho).2.1
  rw [hl2] at hc
  exact ⟨b, c, by rw [bg_r1, hl2], ⟨hb1, hb2⟩, ⟨hc, by simpa [rdOf] using e0, by simpa [rdOf] using e1⟩, hb⟩
theorem bgcN (w : World) : Calls Try.prog 7 #[.int .i64 2] w fun e w' => e = .returned (.tuple #[.pointer (some ⟨w.heap.size + 1, 0, none⟩), .int .i64 0]) ∧ IsF w' (w.heap.size + 1) w.heap.size bg0 ∧ Below w.heap.size w w' := new_is 2 w (by omega) (by omega)
set_option maxHeartbeats 4000000 in
theorem begun_is (w : World) : Calls Try.prog 8 #[] w fun e w' => e = .returned (.bool true) ∧ Below w.heap.size w w' := by
  have kc := fun (w : World) (C : Array Value) (n c : Nat) => Lib.run_convert_bytes_const (P := Try.prog) w 29 5 C n c Try.underlying29 Try.underlying5
  go_enter Try.func8, Try.ntmps8
  go_wp2_with fail
  refine (bgcN w).mono ?_
  rintro e w1 ⟨rfl, hI0, hb0⟩
  have HI0 := Lib.hid hI0; have HB0 := Lib.hid hb0; have L1 := Lib.hid hI0.flt; clear hI0 hb0
  obtain ⟨fp, hfp⟩ : ∃ fp, fp = w.heap.size + 1 := ⟨_, rfl⟩
  obtain ⟨gp, hgp⟩ : ∃ gp, gp = w.heap.size := ⟨_, rfl⟩
  rw [← hfp] at HI0 ⊢
  rw [← hfp] at L1
  rw [← hgp] at HI0 HB0
  have Hf := Lib.hid hfp; have Hg := Lib.hid hgp; clear hfp hgp
  go_wp2_with fail
  refine (bgc1 (HI0.out.alloc _) _ (Kd.F_mono (F_const _ _ _) (fun k hk => ⟨by have := L1.out; omega, by have := L1.out; have := Hf.out; have := Hg.out; omega⟩))).mono ?_
  rintro e w2 ⟨rfl, hI1, hk1⟩
  have HI1 := Lib.hid hI1; have HK1 := Lib.hid (((KeepF.refl fp gp w1).alloc _).trans hk1); clear hI1 hk1
  go_wp2_with fail
  refine (bgc2 HI1.out).mono ?_
  rintro e w3 ⟨rfl, hI2, hk2⟩
  have HI2 := Lib.hid hI2; have HK2 := Lib.hid (HK1.out.trans hk2); clear hI2 hk2
  go_wp2_with fail
  refine (bgc3' HI2.out).mono ?_
  rintro e w4 ⟨b, c, rfl, ⟨hb1, hb2⟩, ⟨hc, hc0, hc1⟩, hb⟩
  have hbf : b ≠ fp := by have := HI2.out.flt; omega
  have hbg : b ≠ gp := by have := HI2.out.glt; omega
  have HI3 := Lib.hid (HI2.out.below hb); have HK3 := Lib.hid (HK2.out.trans (KeepF.of_below hb))
  have HC0 := Lib.hid hc0; have HC1 := Lib.hid hc1; clear hb hc0 hc1
  go_wp2_with fail
  refine (bgc4 HI3.out).mono ?_
  rintro e w5 ⟨rfl, hI4, hk4⟩
  have HI4 := Lib.hid hI4; have HK4 := Lib.hid hk4; clear hI4 hk4
  go_wp2_with fail
  refine (bgc5 HI4.out).mono ?_
  rintro e w6 ⟨rfl, hI5, hk5⟩
  have HI5 := Lib.hid hI5; have HK5 := Lib.hid (HK4.out.trans hk5); clear hI5 hk5
  go_wp2_with fail
  refine (bgc6 HI5.out).mono ?_
  rintro e w7 ⟨rfl, hI6, hk6⟩
  have HI6 := Lib.hid hI6; have HK6 := Lib.hid (HK5.out.trans hk6); clear hI6 hk6
  go_wp2_with fail
  refine (bgc7 HI6.out).mono ?_
  rintro e w8 ⟨v, rfl, hb⟩
  have HK8 := Lib.hid (HK6.out.trans (KeepF.of_below hb)); clear hb
  have hx0 : w8.cell? ⟨b, 0, none⟩ = some (.int .u8 97) := (HK8.out.cell (p := ⟨b, 0, none⟩) hb2 hbf hbg).trans HC0.out
  have hx1 : w8.cell? ⟨b, 1, none⟩ = some (.int .u8 255) := (HK8.out.cell (p := ⟨b, 1, none⟩) hb2 hbf hbg).trans HC1.out
  go_wp2_with fail
  go_ret
  refine ⟨rfl, ?_⟩
  have h1 := HB0.out
  rw [Hg.out] at h1
  have h2 := KeepF.below_then h1 (HK3.out.trans HK8.out)
  exact h2 h1.size (by have := Hf.out; omega) (by have := Hg.out; omega)
end Go.Proofs.Ytandhpnpodkemaa.M
end

section
/- An operation of a script, read. -/
set_option linter.unusedVariables false
set_option linter.unusedSimpArgs false
set_option maxRecDepth 100000
namespace Go.Proofs.Ytandhpnpodkemaa.M
open Go.RowKit Go.Proofs.YtandhpnpodkemaaW.PrintWords
structure OpD where
  Do : Int
  Block : Int
  Page : Int
  At : Int
  Keep : Int
  B : List Int
def OpD.t (o : OpD) : Int × Int × Int × Int × Int × List Int := (o.Do, o.Block, o.Page, o.At, o.Keep, o.B)
def opT : Kd (Int × Int × Int × Int × Int × List Int) := Kd.pair (Kd.int .i64) (Kd.pair (Kd.int .i64) (Kd.pair (Kd.int .i64) (Kd.pair (Kd.int .i64) (Kd.pair (Kd.int .i64) (Kd.slice 5 (Kd.int .u8))))))
def opK : Kd OpD := Kd.iso opT OpD.t
abbrev I64 (x : Int) : Prop := (Lit.int .i64 x).wf = true
def okL (l : List Int) : Prop := l.length ≤ 9223372036854775807 ∧ ∀ x ∈ l, (Lit.int .u8 x).wf = true
def okOp (o : OpD) : Prop := I64 o.Do ∧ I64 o.Block ∧ I64 o.Page ∧ I64 o.At ∧ I64 o.Keep ∧ okL o.B
theorem opens_i64 : Opens Try.prog 3 (Kd.int .i64) I64 (fun _ => 1) := opens_int Try.underlying3 (by kernel_rfl)
theorem opens_u8 : Opens Try.prog 5 (Kd.int .u8) (fun x => (Lit.int .u8 x).wf = true) (fun _ => 1) := opens_int Try.underlying5 (by kernel_rfl)
theorem opens_bytes : Opens Try.prog 29 (Kd.slice 5 (Kd.int .u8)) okL (szL (fun _ => 1)) := opens_slice Try.underlying29 (by kernel_rfl) opens_u8
theorem opens_op : Opens Try.prog 31 opK okOp (fun o => 1 + (1 + (1 + (1 + (1 + szL (fun _ => 1) o.B)))) + 1) :=
  opens_struct (d := opT) OpD.t (fun x => ⟨x.1, x.2.1, x.2.2.1, x.2.2.2.1, x.2.2.2.2.1, x.2.2.2.2.2⟩) (fun _ => rfl) Try.underlying31 (by kernel_rfl)
    (opensL_cons rfl opens_i64 (opensL_cons rfl opens_i64 (opensL_cons rfl opens_i64 (opensL_cons rfl opens_i64 (opensL_cons rfl opens_i64 (opensL_one rfl opens_bytes))))))
theorem opens_ops : Opens Try.prog 22 (Kd.slice 31 opK) (fun l => l.length ≤ 9223372036854775807 ∧ ∀ x ∈ l, okOp x) (szL (fun o => 1 + (1 + (1 + (1 + (1 + szL (fun _ => 1) o.B)))) + 1)) := opens_slice Try.underlying22 (by kernel_rfl) opens_op
def zOp : OpD := ⟨0, 0, 0, 0, 0, []⟩
theorem op_cells {W : World} {ok : Nat → Prop} {o : OpD} {c : List Value} (h : Kd.FK opK W ok o c) : ∃ B cb, c = [.int .i64 o.Do, .int .i64 o.Block, .int .i64 o.Page, .int .i64 o.At, .int .i64 o.Keep, .slice B o.B.length cb] ∧ Kd.F (Kd.int .u8) W ok B o.B.length o.B ∧ o.B.length ≤ cb := by
  have cell : ∀ {W' : World}, opK.K W' o c → ∃ B cb, c = [.int .i64 o.Do, .int .i64 o.Block, .int .i64 o.Page, .int .i64 o.At, .int .i64 o.Keep, .slice B o.B.length cb] ∧ (Kd.int .u8).C W' B o.B.length o.B ∧ o.B.length ≤ cb := by
    rintro W' ⟨c0, d0, rfl, rfl, c1, d1, rfl, rfl, c2, d2, rfl, rfl, c3, d3, rfl, rfl, c4, d4, rfl, rfl, B, cb, rfl, hl, hc⟩
    exact ⟨B, cb, rfl, hc, hl⟩
  obtain ⟨B, cb, rfl, h1, h2⟩ := cell (Foot.now h)
  refine ⟨B, cb, rfl, fun W' hW => ?_, h2⟩
  obtain ⟨B', cb', he, h3, h4⟩ := cell (h W' hW)
  simp only [List.cons.injEq, Value.slice.injEq, and_true, true_and] at he
  obtain ⟨rfl, rfl⟩ := he
  exact h3
theorem op_get {W : World} {ok : Nat → Prop} {A : Option Addr} {n : Nat} {l : List OpD} (h : Kd.F opK W ok A n l) {k : Nat} {o : OpD} (hk : l[k]? = some o) :
    ∃ ad B cb, A = some ad ∧ (W.cell? (ad.add (k * 6)) = some (.int .i64 o.Do) ∧ W.cell? ⟨(ad.add (k * 6)).block, (ad.add (k * 6)).off + 1, none⟩ = some (.int .i64 o.Block) ∧ W.cell? ⟨(ad.add (k * 6)).block, (ad.add (k * 6)).off + 2, none⟩ = some (.int .i64 o.Page) ∧
      W.cell? ⟨(ad.add (k * 6)).block, (ad.add (k * 6)).off + 3, none⟩ = some (.int .i64 o.At) ∧ W.cell? ⟨(ad.add (k * 6)).block, (ad.add (k * 6)).off + 4, none⟩ = some (.int .i64 o.Keep) ∧ W.cell? ⟨(ad.add (k * 6)).block, (ad.add (k * 6)).off + 5, none⟩ = some (.slice B o.B.length cb)) ∧
      Kd.F (Kd.int .u8) W ok B o.B.length o.B ∧ o.B.length ≤ cb := by
  have hlt : k < n := by
    have := (List.getElem?_eq_some_iff.1 hk).1
    have := Kd.F_len h
    omega
  obtain ⟨ad, c, rfl, hcl, hK, hcc, _⟩ := Kd.F_get h zOp (k : Int) (by omega) (by omega)
  have e : l.getD (k : Int).toNat zOp = o := by rw [Int.toNat_natCast, List.getD_eq_getElem?_getD, hk]; rfl
  rw [e] at hK
  rw [Int.toNat_natCast] at hcc
  obtain ⟨B, cb, rfl, h1, h2⟩ := op_cells hK
  have hs : opK.sz = 6 := rfl
  rw [hs] at hcc
  refine ⟨ad, B, cb, rfl, ⟨by simpa using hcc 0 _ rfl, ?_, ?_, ?_, ?_, ?_⟩, h1, h2⟩
  · rw [← add_field ad (k * 6) 1 (by omega)]; exact hcc 1 _ rfl
  · rw [← add_field ad (k * 6) 2 (by omega)]; exact hcc 2 _ rfl
  · rw [← add_field ad (k * 6) 3 (by omega)]; exact hcc 3 _ rfl
  · rw [← add_field ad (k * 6) 4 (by omega)]; exact hcc 4 _ rfl
  · rw [← add_field ad (k * 6) 5 (by omega)]; exact hcc 5 _ rfl
end Go.Proofs.Ytandhpnpodkemaa.M
end

section
/- FlashOne, in plain Lean: what a change leaves of the other pages. -/
set_option linter.unusedVariables false
set_option linter.unusedSimpArgs false
set_option maxRecDepth 100000
namespace Go.Proofs.Ytandhpnpodkemaa.M
open Go.RowKit
structure Quiet (n : Nat) (fl : Fl) : Prop where
  n : fl.n = n
  fuse : fl.fuse = 0
  down : fl.down = false
theorem Quiet.fu {n : Nat} {fl : Fl} (h : Quiet n fl) : 0 ≤ fl.fuse ∧ fl.fuse ≤ 9223372036854775807 := by rw [h.fuse]; omega
theorem Quiet.change {n : Nat} {fl : Fl} (h : Quiet n fl) (cW cT : Nat → Int) : Quiet n (changeF fl cW cT) := by
  unfold changeF
  rw [if_neg (by rw [h.fuse]; omega)]
  exact ⟨h.n, by show max (fl.fuse - 1) 0 = 0; rw [h.fuse]; rfl, h.down⟩
theorem Quiet.prog {n : Nat} {fl : Fl} (h : Quiet n fl) (b p : Int) (l : List Int) : Quiet n (progF fl b p l) := by
  unfold progF
  split
  · exact h.change _ _
  · exact h
theorem putL_far {c : Nat → Int} {o : Nat} {l : List Int} {j : Nat} (h : j < o ∨ o + l.length ≤ j) : putL c o l j = c j := by
  unfold putL
  rw [if_neg (by omega)]
theorem updC_far {c : Nat → Int} {i j : Nat} (x : Int) (h : j ≠ i) : updC c i x j = c j := by unfold updC; rw [if_neg h]
theorem updC_same {c : Nat → Int} {i : Nat} (x : Int) : updC c i x i = x := by unfold updC; rw [if_pos rfl]
theorem fullC_far {c : Nat → Int} {q : Nat} {l : List Int} {j : Nat} (hl : l.length ≤ 256) (h : j < q ∨ q + 257 ≤ j) : fullC c q l j = c j := by
  unfold fullC
  rw [putL_far (by simp; omega), putL_far (by omega), updC_far _ (by omega)]
theorem eraseC_far {c : Nat → Int} {b : Nat} {s : Int} {j : Nat} (h : j < b * 4113 ∨ b * 4113 + 4113 ≤ j) : ∀ k, k ≤ 16 → eraseC c b s k j = c j
  | 0, _ => by unfold eraseC; exact updC_far _ (by omega)
  | k + 1, hk => by
    unfold eraseC eraseC1
    rw [putL_far (by simp; omega), updC_far _ (by omega), eraseC_far h k (by omega)]
theorem changeF_n (fl : Fl) (cW cT : Nat → Int) : (changeF fl cW cT).n = fl.n := by unfold changeF; split <;> rfl
theorem progF_n (fl : Fl) (b p : Int) (l : List Int) : (progF fl b p l).n = fl.n := by unfold progF; split; exact changeF_n _ _ _; rfl
theorem eraseF_n (fl : Fl) (b : Int) : (eraseF fl b).n = fl.n := by unfold eraseF; split; exact changeF_n _ _ _; rfl
def SameAt (fl fl' : Fl) (b p : Nat) : Prop := ∀ i, i < 257 → fl'.c (b * 4113 + p * 257 + i) = fl.c (b * 4113 + p * 257 + i)
theorem SameAt.at_ {fl fl' : Fl} {b p : Nat} (h : SameAt fl fl' b p) : atE fl' b p = atE fl b p := by
  have := h 0 (by omega)
  simp only [Nat.add_zero] at this
  unfold atE
  rw [this]
theorem looks_same {fl fl' : Fl} (hd : fl'.down = fl.down) (r : Bool) : looksE fl' r = looksE fl r := by unfold looksE; rw [hd]
theorem okAt_same {fl fl' : Fl} (hn : fl'.n = fl.n) (b p : Int) : okAt fl' b p = okAt fl b p := by unfold okAt; rw [hn]
theorem SameAt.readE {fl fl' : Fl} {b p : Nat} (h : SameAt fl fl' b p) (hn : fl'.n = fl.n) (hd : fl'.down = fl.down) : readE fl' (b : Int) (p : Int) = readE fl (b : Int) (p : Int) := by
  unfold M.readE
  rw [okAt_same hn, looks_same hd, Int.toNat_natCast, Int.toNat_natCast, h.at_]
theorem SameAt.readL {fl fl' : Fl} {b p : Nat} (h : SameAt fl fl' b p) (hn : fl'.n = fl.n) (hd : fl'.down = fl.down) : readL fl' (b : Int) (p : Int) = readL fl (b : Int) (p : Int) := by
  unfold M.readL
  rw [h.readE hn hd, Int.toNat_natCast, Int.toNat_natCast]
  split
  · unfold pgL
    refine List.map_congr_left fun i hi => ?_
    have := h (i + 1) (by have := List.mem_range.1 hi; omega)
    rw [show b * 4113 + p * 257 + 1 + i = b * 4113 + p * 257 + (i + 1) from by omega]
    exact this
  · rfl
end Go.Proofs.Ytandhpnpodkemaa.M
end

section
/- What a change makes of a block's pages, in plain Lean. -/
set_option linter.unusedVariables false
set_option linter.unusedSimpArgs false
namespace Go.Proofs.Ytandhpnpodkemaa.M
open Go.RowKit
theorem pgOf_congr {fl fl' : Fl} {b p b' p' : Nat} (h : ∀ i, i < 257 → fl'.c (b' * 4113 + p' * 257 + i) = fl.c (b * 4113 + p * 257 + i)) : pgOf fl' b' p' = pgOf fl b p := by
  have h0 := h 0 (by omega)
  rw [Nat.add_zero, Nat.add_zero] at h0
  have h1 : pgL fl' b' p' = pgL fl b p := by
    unfold pgL
    refine List.map_congr_left (fun i hi => ?_)
    have := List.mem_range.1 hi
    rw [Nat.add_assoc, Nat.add_assoc (b * 4113 + p * 257)]
    exact h (1 + i) (by omega)
  simp only [pgOf, h0, h1]
theorem pg_far {fl : Fl} {c' : Nat → Int} {b p : Nat} (h : ∀ i, b * 4113 + p * 257 ≤ i → i < b * 4113 + p * 257 + 257 → c' i = fl.c i) : pgOf { fl with c := c' } b p = pgOf fl b p :=
  pgOf_congr (fun i hi => h _ (by omega) (by omega))
theorem st_ne {b b' p p' : Nat} (hp : p < 16) (hp' : p' < 16) (h : b' ≠ b ∨ p' ≠ p) : b' * 4113 + p' * 257 + 257 ≤ b * 4113 + p * 257 ∨ b * 4113 + p * 257 + 257 ≤ b' * 4113 + p' * 257 := by
  rcases Nat.lt_trichotomy b b' with e | e | e
  · right; omega
  · subst e
    rcases Nat.lt_trichotomy p p' with e | e | e
    · right; omega
    · omega
    · left; omega
  · left; omega
theorem wear_ne {b b' p : Nat} (hp : p < 16) : b' * 4113 + 4112 < b * 4113 + p * 257 ∨ b * 4113 + p * 257 + 257 ≤ b' * 4113 + 4112 := by
  rcases Nat.lt_trichotomy b b' with e | e | e
  · right; omega
  · subst e; right; omega
  · left; omega
theorem fullC_st {c : Nat → Int} {q : Nat} {l : List Int} : fullC c q l q = 2 := by
  unfold fullC
  rw [putL_far (by left; omega), putL_far (by left; omega), updC_same]
theorem fullC_at {c : Nat → Int} {q : Nat} {l : List Int} (hl : l.length ≤ 256) {i : Nat} (hi : i < 256) : fullC c q l (q + 1 + i) = (fullB l).getD i 0 := by
  unfold fullC fullB
  by_cases h : i < l.length
  · rw [putL_far (by left; omega)]
    unfold putL
    rw [if_pos (by omega), show q + 1 + i - (q + 1) = i by omega]
    simp only [List.getD_eq_getElem?_getD]
    rw [List.getElem?_append_left h]
  · unfold putL
    rw [if_pos (by simp; omega), show q + 1 + i - (q + 1 + l.length) = i - l.length by omega]
    simp only [List.getD_eq_getElem?_getD]
    rw [List.getElem?_append_right (by omega)]
theorem fullB_len {l : List Int} (hl : l.length ≤ 256) : (fullB l).length = 256 := by unfold fullB; simp; omega
theorem pgL_full {fl : Fl} {b p : Nat} {l : List Int} (hl : l.length ≤ 256) : pgL { fl with c := fullC fl.c (b * 4113 + p * 257) l } b p = fullB l := by
  apply List.ext_getElem?
  intro i
  unfold pgL
  rw [List.getElem?_map]
  by_cases hi : i < 256
  · rw [List.getElem?_range hi, Option.map_some]
    show some (fullC fl.c (b * 4113 + p * 257) l (b * 4113 + p * 257 + 1 + i)) = _
    rw [fullC_at hl hi, List.getD_eq_getElem?_getD]
    have : i < (fullB l).length := by rw [fullB_len hl]; exact hi
    rw [List.getElem?_eq_getElem this]
    rfl
  · rw [List.getElem?_eq_none (by simp; omega), List.getElem?_eq_none (by rw [fullB_len hl]; omega)]
    rfl
theorem pg_full {fl : Fl} {b p : Nat} (hp : p < 16) {l : List Int} (hl : l.length ≤ 256) : ∀ p', p' < 16 → pgOf { fl with c := fullC fl.c (b * 4113 + p * 257) l } b p' = updP (pgOf fl b) p ⟨true, false, fullB l⟩ p' := fun p' hp' => by
  unfold updP
  by_cases e : p' = p
  · subst e
    rw [if_pos rfl]
    simp only [pgOf, fullC_st, pgL_full hl]
    simp
  · rw [if_neg e]
    exact pg_far (fun i h1 h2 => fullC_far hl (by have := st_ne (b := b) (b' := b) hp hp' (.inr e); omega))
theorem pg_torn {fl : Fl} {b p : Nat} (hp : p < 16) : ∀ p', p' < 16 → pgOf { fl with c := updC fl.c (b * 4113 + p * 257) 1 } b p' = updP (pgOf fl b) p ⟨true, true, []⟩ p' := fun p' hp' => by
  unfold updP
  by_cases e : p' = p
  · subst e
    rw [if_pos rfl]
    simp only [pgOf, updC_same]
    simp
  · rw [if_neg e]
    exact pg_far (fun i h1 h2 => updC_far _ (by have := st_ne (b := b) (b' := b) hp hp' (.inr e); omega))
theorem pg_other {fl : Fl} {b p : Nat} (hp : p < 16) {l : List Int} (hl : l.length ≤ 256) : ∀ b', b' ≠ b → ∀ p', p' < 16 → pgOf { fl with c := fullC fl.c (b * 4113 + p * 257) l } b' p' = pgOf fl b' p' ∧ pgOf { fl with c := updC fl.c (b * 4113 + p * 257) 1 } b' p' = pgOf fl b' p' := fun b' hb p' hp' => by
  have := st_ne (b := b) (b' := b') hp hp' (.inl hb)
  exact ⟨pg_far (fun i h1 h2 => fullC_far hl (by omega)), pg_far (fun i h1 h2 => updC_far _ (by omega))⟩
theorem wear_full {fl : Fl} {b p : Nat} (hp : p < 16) {l : List Int} (hl : l.length ≤ 256) (b' : Nat) : fullC fl.c (b * 4113 + p * 257) l (b' * 4113 + 4112) = fl.c (b' * 4113 + 4112) ∧ updC fl.c (b * 4113 + p * 257) 1 (b' * 4113 + 4112) = fl.c (b' * 4113 + 4112) := by
  have := wear_ne (b := b) (b' := b') hp
  exact ⟨fullC_far hl (by omega), updC_far _ (by omega)⟩
theorem changeF_burn (fl : Fl) (cW cT : Nat → Int) : changeF fl cW cT = { burnF fl with c := if fl.fuse = 1 then (if fl.keep = 1 then cT else if fl.keep = 2 then cW else fl.c) else cW } := by
  unfold changeF burnF
  by_cases h : fl.fuse = 1
  · simp [h]
  · simp [h]
end Go.Proofs.Ytandhpnpodkemaa.M
end

section
/- The reference's Program. -/
set_option linter.unusedVariables false
set_option linter.unusedSimpArgs false
set_option maxRecDepth 100000
namespace Go.Proofs.Ytandhpnpodkemaa.M
open Go.RowKit Go.Proofs.YtandhpnpodkemaaW.PrintWords Go.Proofs.YtandhpnpodkemaaW.PrintLast
theorem pg_append {W : World} {ops : Array Oper} {rest : List Oper} {o : Oper} {a : Act} {Q : Exit → Act → World → Prop} (hgd : o.guard = none) (x : Operand) (ho : o.op = .call { callee := .builtin .append, args := #[.const (.slice none 0 0), x], argTypes := #[91, 91] })
    {v : Value} {L : Nat → PgD} (hx : a.eval x = v) (h : PgRow W v L)
    (hK : ∀ g' cap' w', PgRow w' (.slice (some ⟨g', 0, none⟩) 16 cap') L → 16 ≤ cap' → W.heap.size ≤ g' → Below W.heap.size W w' → wpList Try.prog ops Q rest (a.put o.dst (.slice (some ⟨g', 0, none⟩) 16 cap')) w') : wpList Try.prog ops Q (o :: rest) a W := by
  obtain ⟨g', cap', w', hr, h1, h2, h3⟩ := pg_copied h o.type
  have hc : 16 ≤ cap' := by obtain ⟨g2, c2, _, e, hc, _⟩ := h1; injection e with _ _ e; subst e; exact hc
  refine wpList_plain hgd fun K hK' => ?_
  unfold Oper.wp execOp
  simp only [ho, resolve, invoke, builtin, Sem.run_bind, Sem.run_pure, Result.andThen_ok, List.map_toArray, List.map_cons, List.map_nil, Act.eval, hr] at hK' hx ⊢
  rw [hx, hr]
  exact hK' _ _ (hK g' cap' w' h1 hc h2 h3)
set_option maxHeartbeats 4000000 in
theorem rprog_ok {w : World} {q ob wb : Nat} {fl : Fl} (h : IsR w q ob wb fl) (hf : 0 ≤ fl.fuse ∧ fl.fuse ≤ 9223372036854775807) {b p : Nat} (hb : b < fl.n) (hp : p < 16) (hd : looksE fl (okAt fl b p) = 0) (hc : fl.c (b * 4113 + p * 257) = 0) (A : Option Addr) (c : Nat) (l : List Int) (hl : l.length ≤ 256) (hr : Kd.F (Kd.int .u8) w (fun k => k ≠ q ∧ k ≠ ob ∧ k ≠ wb) A l.length l) :
    Calls Try.prog 51 #[.pointer (some ⟨q, 0, none⟩), .int .i64 (b : Int), .int .i64 (p : Int), .slice A l.length c] w fun e w' => e = .returned (.int .i64 (changeE fl)) ∧ IsR w' q ob wb (changeF fl (fullC fl.c (b * 4113 + p * 257) l) (updC fl.c (b * 4113 + p * 257) 1)) ∧ KeepS (fun k => k = q ∨ k = ob ∨ k = wb) w w' := by
  have HL := Lib.hid (rlook_is h b p)
  rw [hd] at HL
  have HR := Lib.hid h; have HBU := Lib.hid (burn_is h hf); have HBB := Lib.hid (And.intro hb hp); have HFR := Lib.hid hr; have HLL := Lib.hid hl
  have hn : fl.n ≤ 1024 := h.n2
  obtain ⟨kr, co, ⟨c0, c1, c2, c3, c4⟩, hkr, hco⟩ := h.cells
  obtain ⟨g, cap, bv, r0, hcap, hpr, p0, p1, p2, hB⟩ := h.page hb hp
  have p0' : w.cell? ⟨g, p * 3, none⟩ = some (.bool false) := by rw [p0]; simp [pgOf, hc]
  have i1 : (b : Int) < (fl.n : Int) := by omega
  have i0 : (0 : Int) ≤ (b : Int) := by omega
  have i2 : (p : Int) < 16 := by omega
  have i3 : (0 : Int) ≤ (p : Int) := by omega
  have q1 : decide (256 < l.length) = false := decide_eq_false (by omega)
  have q2 : decide (256 < (l.length : Int)) = false := decide_eq_false (by omega)
  have HAP := Lib.hid h.apart
  clear h c1 c2 c3 c4 p0 p1 p2 hB hpr hkr hd hc hr hb hp hl
  obtain ⟨wt, hwt⟩ : ∃ wt, decide (fl.fuse = 1) = wt := ⟨_, rfl⟩
  rw [hwt] at HBU
  have HWT := Lib.hid hwt
  clear hwt hf
  go_enter Try.func51, Try.ntmps51
  go_wp2_with fail
  refine HL.out.mono ?_
  rintro e w0 ⟨rfl, rfl⟩
  go_wp2_with fail
  refine HBU.out.mono ?_
  rintro e w1 ⟨rfl, hI, hk⟩
  have HI1 := Lib.hid hI; have HK1 := Lib.hid hk
  have HF1 := Lib.hid (Kd.F_step HFR.out (fun k hk' hlt => hk.block k hlt hk'.1))
  have HN1 := Lib.hid (show (burnF fl).n = fl.n ∧ (burnF fl).c = fl.c ∧ (burnF fl).keep = fl.keep by unfold burnF; split <;> exact ⟨rfl, rfl, rfl⟩)
  obtain ⟨kr1, co1, ⟨d0, _, _, d3, _⟩, hkr1, hco1⟩ := hI.cells
  obtain ⟨g1, cap1, bv1, s0, hcap1, hpr1, _, _, _, _⟩ := hI.page (b := b) (p := p) (by rw [HN1.out.1]; exact HBB.out.1) HBB.out.2
  have HP1 := Lib.hid hpr1; have HKR := Lib.hid hkr1
  rw [HN1.out.1] at d0 hco1
  clear hI hk hpr1 hkr1 c0 r0 p0' hco HL HBU
  go_upto_region 10 with ((with_reducible refine gate_builtin (b := .append) (xs := #[.const (.slice none 0 0), .tmp 41]) rfl ?_); at_builtin; refine pg_append rfl (.tmp 41) rfl rfl HP1.out ?_; intro g2 cap2 w2 hP hc2 hg2 hb2; have HP2 := Lib.hid hP; have HG2 := Lib.hid hg2; have HB2 := Lib.hid hb2; clear hP hg2 hb2)
  have HI2 := Lib.hid (HI1.out.below HB2.out); have HF2 := Lib.hid (Kd.F_below HF1.out HB2.out)
  obtain ⟨kr2, co2, ⟨e0, _, _, e3, _⟩, hkr2, hco2⟩ := HI2.out.cells
  have HKR2 := Lib.hid hkr2
  rw [HN1.out.1] at e0 hco2
  clear hkr2 d0 d3 s0 hco1 hcap1
  have HHW := Lib.hid (how_is kr2 w2)
  rw [HKR2.out, HN1.out.2.2] at HHW
  cases wt with
  | false =>
    have HFE := Lib.hid (show ¬ fl.fuse = 1 from of_decide_eq_false HWT.out)
    have HFU := Lib.hid (full_is (w := w2) (c := c) (Kd.F_now HF2.out) HLL.out)
    go_wp2_with fail
    refine HFU.out.mono ?_
    rintro e w3 ⟨v3, rfl, hO, hb3⟩
    have HBR := Lib.hid (BRow.of hO (by rw [fullB_len HLL.out]; decide) (by rw [fullB_len HLL.out]; exact Nat.le_refl _))
    obtain ⟨A3, c3', rfl, _, _, _⟩ := HBR.out.reads
    have HB3 := Lib.hid (HB2.out.trans (hb3.mono HB2.out.size))
    have HP3 := Lib.hid (HP2.out.below hb3)
    have HI3 := Lib.hid (HI1.out.below HB3.out)
    obtain ⟨g2', cap2', curx, hex, _, hhx, hcx⟩ := HP3.out
    have hgx : w3.heap[g2]? = some (.cells curx 90 (0, 0)) := by injection hex with e1 _ _; injection e1 with e1; injection e1 with e1; subst e1; exact hhx
    obtain ⟨x0, x1, bx, x2, _⟩ := hcx p HBB.out.2
    have y0 : w3.cell? ⟨g2, p * 3, none⟩ = some _ := (blk_cell hgx (p * 3)).trans x0
    have y1 : w3.cell? ⟨g2, p * 3 + 1, none⟩ = some _ := (blk_cell hgx (p * 3 + 1)).trans x1
    have y2 : w3.cell? ⟨g2, p * 3 + 2, none⟩ = some _ := (blk_cell hgx (p * 3 + 2)).trans x2
    have z0 := blk_frozen hgx (p * 3); have z1 := blk_frozen hgx (p * 3 + 1); have z2 := blk_frozen hgx (p * 3 + 2)
    clear hO hb3 hex hhx hcx x0 x1 x2 hgx e0 e3
    go_upto_region 14 with fail
    have hPz := HP3.out.put HBB.out.2 (x := ⟨true, false, fullB l⟩) HBR.out
    have hBz : Below w1.heap.size w1 _ := (((HB3.out.setCell (p := ⟨g2, p * 3, none⟩) HG2.out (.bool true)).setCell (p := ⟨g2, p * 3 + 1, none⟩) HG2.out (.bool false)).setCell (p := ⟨g2, p * 3 + 2, none⟩) HG2.out (.slice A3 (fullB l).length c3'))
    dsimp only at hPz
    obtain ⟨w4, hw4⟩ : ∃ V, (((w3.setCell ⟨g2, p * 3, none⟩ (.bool true)).setCell ⟨g2, p * 3 + 1, none⟩ (.bool false)).setCell ⟨g2, p * 3 + 2, none⟩ (.slice A3 (fullB l).length c3')) = V := ⟨_, rfl⟩
    rw [hw4] at hPz hBz ⊢
    have HP4 := Lib.hid hPz; have HB4 := Lib.hid hBz; have HI4 := Lib.hid (HI1.out.below hBz)
    clear hPz hBz hw4 y0 y1 y2 z0 z1 z2
    obtain ⟨kr4, co4, ⟨f0, _, _, _, _⟩, _, hco4⟩ := HI4.out.cells
    obtain ⟨v4, f1, _⟩ := HI4.out.row (b := b) (by rw [HN1.out.1]; exact HBB.out.1)
    have f2 := (HI4.out.fz b).2.1
    rw [HN1.out.1] at f0 hco4
    go_wp2_with fail
    go_ret
    have hz := HI4.out.setRow (b := b) (c' := fullC fl.c (b * 4113 + p * 257) l) (by rw [HN1.out.1]; exact HBB.out.1) (HP4.out.congr (fun p' hp' => by have e2 : pgOf (burnF fl) b = pgOf fl b := (by funext i; unfold pgOf pgL; rw [HN1.out.2.1]); rw [e2, ← pg_full (fl := fl) (b := b) HBB.out.2 HLL.out p' hp']; rfl)) (fun b' _ hb' p' hp' => by
      have e : pgOf (burnF fl) b' p' = pgOf fl b' p' := by unfold pgOf pgL; rw [HN1.out.2.1]
      rw [e]
      exact (pg_other HBB.out.2 HLL.out b' hb' p' hp').1) (fun b' _ => by rw [HN1.out.2.1]; exact (wear_full HBB.out.2 HLL.out b').1)
    refine ⟨?_, ?_, ?_⟩
    · rw [show changeE fl = 0 by unfold changeE; rw [if_neg HFE.out]]
      try rfl
    · rw [changeF_burn, if_neg HFE.out]
      exact hz
    · exact ((HK1.out.mono (fun _ e => .inl e)).then_below HB4.out).set (p := ⟨ob, b, none⟩) (.inl (.inr (.inl rfl))) _
  | true =>
    have HFE := Lib.hid (show fl.fuse = 1 from of_decide_eq_true HWT.out)
    by_cases hk2 : fl.keep = 2
    · skip
      have HFU := Lib.hid (full_is (w := w2) (c := c) (Kd.F_now HF2.out) HLL.out)
      have HKP := Lib.hid hk2
      rw [hk2] at HHW
      go_wp2_with fail
      refine HHW.out.mono ?_
      rintro e w2' ⟨rfl, rfl⟩
      go_wp2_with fail
      refine HFU.out.mono ?_
      rintro e w3 ⟨v3, rfl, hO, hb3⟩
      have HBR := Lib.hid (BRow.of hO (by rw [fullB_len HLL.out]; decide) (by rw [fullB_len HLL.out]; exact Nat.le_refl _))
      obtain ⟨A3, c3', rfl, _, _, _⟩ := HBR.out.reads
      have HB3 := Lib.hid (HB2.out.trans (hb3.mono HB2.out.size))
      have HP3 := Lib.hid (HP2.out.below hb3)
      have HI3 := Lib.hid (HI1.out.below HB3.out)
      obtain ⟨g2', cap2', curx, hex, _, hhx, hcx⟩ := HP3.out
      have hgx : w3.heap[g2]? = some (.cells curx 90 (0, 0)) := by injection hex with e1 _ _; injection e1 with e1; injection e1 with e1; subst e1; exact hhx
      obtain ⟨x0, x1, bx, x2, _⟩ := hcx p HBB.out.2
      have y0 : w3.cell? ⟨g2, p * 3, none⟩ = some _ := (blk_cell hgx (p * 3)).trans x0
      have y1 : w3.cell? ⟨g2, p * 3 + 1, none⟩ = some _ := (blk_cell hgx (p * 3 + 1)).trans x1
      have y2 : w3.cell? ⟨g2, p * 3 + 2, none⟩ = some _ := (blk_cell hgx (p * 3 + 2)).trans x2
      have z0 := blk_frozen hgx (p * 3); have z1 := blk_frozen hgx (p * 3 + 1); have z2 := blk_frozen hgx (p * 3 + 2)
      clear hO hb3 hex hhx hcx x0 x1 x2 hgx e0 e3
      go_upto_region 14 with fail
      have hPz := HP3.out.put HBB.out.2 (x := ⟨true, false, fullB l⟩) HBR.out
      have hBz : Below w1.heap.size w1 _ := (((HB3.out.setCell (p := ⟨g2, p * 3, none⟩) HG2.out (.bool true)).setCell (p := ⟨g2, p * 3 + 1, none⟩) HG2.out (.bool false)).setCell (p := ⟨g2, p * 3 + 2, none⟩) HG2.out (.slice A3 (fullB l).length c3'))
      dsimp only at hPz
      obtain ⟨w4, hw4⟩ : ∃ V, (((w3.setCell ⟨g2, p * 3, none⟩ (.bool true)).setCell ⟨g2, p * 3 + 1, none⟩ (.bool false)).setCell ⟨g2, p * 3 + 2, none⟩ (.slice A3 (fullB l).length c3')) = V := ⟨_, rfl⟩
      rw [hw4] at hPz hBz ⊢
      have HP4 := Lib.hid hPz; have HB4 := Lib.hid hBz; have HI4 := Lib.hid (HI1.out.below hBz)
      clear hPz hBz hw4 y0 y1 y2 z0 z1 z2
      obtain ⟨kr4, co4, ⟨f0, _, _, _, _⟩, _, hco4⟩ := HI4.out.cells
      obtain ⟨v4, f1, _⟩ := HI4.out.row (b := b) (by rw [HN1.out.1]; exact HBB.out.1)
      have f2 := (HI4.out.fz b).2.1
      rw [HN1.out.1] at f0 hco4
      go_wp2_with fail
      go_ret
      have hz := HI4.out.setRow (b := b) (c' := fullC fl.c (b * 4113 + p * 257) l) (by rw [HN1.out.1]; exact HBB.out.1) (HP4.out.congr (fun p' hp' => by have e2 : pgOf (burnF fl) b = pgOf fl b := (by funext i; unfold pgOf pgL; rw [HN1.out.2.1]); rw [e2, ← pg_full (fl := fl) (b := b) HBB.out.2 HLL.out p' hp']; rfl)) (fun b' _ hb' p' hp' => by
        have e : pgOf (burnF fl) b' p' = pgOf fl b' p' := by unfold pgOf pgL; rw [HN1.out.2.1]
        rw [e]
        exact (pg_other HBB.out.2 HLL.out b' hb' p' hp').1) (fun b' _ => by rw [HN1.out.2.1]; exact (wear_full HBB.out.2 HLL.out b').1)
      refine ⟨?_, ?_, ?_⟩
      · rw [show changeE fl = 7 by unfold changeE; rw [if_pos HFE.out]]
        try rfl
      · rw [changeF_burn, if_pos HFE.out, if_neg (by rw [HKP.out]; decide), if_pos HKP.out]
        exact hz
      · exact ((HK1.out.mono (fun _ e => .inl e)).then_below HB4.out).set (p := ⟨ob, b, none⟩) (.inl (.inr (.inl rfl))) _
    · by_cases hk1 : fl.keep = 1
      · have HKP := Lib.hid hk1
        rw [hk1] at HHW
        clear hk2
        go_wp2_with fail
        refine HHW.out.mono ?_
        rintro e w2' ⟨rfl, rfl⟩
        go_wp2_with fail
        refine HHW.out.mono ?_
        rintro e w2'' ⟨rfl, rfl⟩
        obtain ⟨g2', cap2', curx, hex, _, hhx, hcx⟩ := HP2.out
        have hgx : w2''.heap[g2]? = some (.cells curx 90 (0, 0)) := by injection hex with e1 _ _; injection e1 with e1; injection e1 with e1; subst e1; exact hhx
        obtain ⟨x0, x1, bx, x2, _⟩ := hcx p HBB.out.2
        have y0 : w2''.cell? ⟨g2, p * 3, none⟩ = some _ := (blk_cell hgx (p * 3)).trans x0
        have y1 : w2''.cell? ⟨g2, p * 3 + 1, none⟩ = some _ := (blk_cell hgx (p * 3 + 1)).trans x1
        have y2 : w2''.cell? ⟨g2, p * 3 + 2, none⟩ = some _ := (blk_cell hgx (p * 3 + 2)).trans x2
        have z0 := blk_frozen hgx (p * 3); have z1 := blk_frozen hgx (p * 3 + 1); have z2 := blk_frozen hgx (p * 3 + 2)
        clear hex hhx hcx x0 x1 x2 hgx e0 e3
        go_upto_region 14 with fail
        have hPz := HP2.out.put HBB.out.2 (x := ⟨true, true, []⟩) (bv := .slice none 0 0) (.inl ⟨rfl, rfl⟩)
        have hBz : Below w1.heap.size w1 _ := (((HB2.out.setCell (p := ⟨g2, p * 3, none⟩) HG2.out (.bool true)).setCell (p := ⟨g2, p * 3 + 1, none⟩) HG2.out (.bool true)).setCell (p := ⟨g2, p * 3 + 2, none⟩) HG2.out (.slice none 0 0))
        dsimp only at hPz
        obtain ⟨w4, hw4⟩ : ∃ V, (((w2''.setCell ⟨g2, p * 3, none⟩ (.bool true)).setCell ⟨g2, p * 3 + 1, none⟩ (.bool true)).setCell ⟨g2, p * 3 + 2, none⟩ (.slice none 0 0)) = V := ⟨_, rfl⟩
        rw [hw4] at hPz hBz ⊢
        have HP4 := Lib.hid hPz; have HB4 := Lib.hid hBz; have HI4 := Lib.hid (HI1.out.below hBz)
        clear hPz hBz hw4 y0 y1 y2 z0 z1 z2
        obtain ⟨kr4, co4, ⟨f0, _, _, _, _⟩, _, hco4⟩ := HI4.out.cells
        obtain ⟨v4, f1, _⟩ := HI4.out.row (b := b) (by rw [HN1.out.1]; exact HBB.out.1)
        have f2 := (HI4.out.fz b).2.1
        rw [HN1.out.1] at f0 hco4
        go_wp2_with fail
        go_ret
        have hz := HI4.out.setRow (b := b) (c' := updC fl.c (b * 4113 + p * 257) 1) (by rw [HN1.out.1]; exact HBB.out.1) (HP4.out.congr (fun p' hp' => by have e2 : pgOf (burnF fl) b = pgOf fl b := (by funext i; unfold pgOf pgL; rw [HN1.out.2.1]); rw [e2, ← pg_torn (fl := fl) (b := b) HBB.out.2 p' hp']; rfl)) (fun b' _ hb' p' hp' => by
          have e : pgOf (burnF fl) b' p' = pgOf fl b' p' := by unfold pgOf pgL; rw [HN1.out.2.1]
          rw [e]
          exact (pg_other HBB.out.2 HLL.out b' hb' p' hp').2) (fun b' _ => by rw [HN1.out.2.1]; exact (wear_full HBB.out.2 HLL.out b').2)
        refine ⟨?_, ?_, ?_⟩
        · rw [show changeE fl = 7 by unfold changeE; rw [if_pos HFE.out]]
          try rfl
        · rw [changeF_burn, if_pos HFE.out, if_pos HKP.out]
          exact hz
        · exact ((HK1.out.mono (fun _ e => .inl e)).then_below HB4.out).set (p := ⟨ob, b, none⟩) (.inl (.inr (.inl rfl))) _
      · have HKN := Lib.hid (And.intro hk1 hk2)
        have q5 : (fl.keep == 2) = false := beq_eq_false_iff_ne.2 hk2
        have q6 : (fl.keep == 1) = false := beq_eq_false_iff_ne.2 hk1
        clear hk1 hk2
        go_wp2_with fail
        refine HHW.out.mono ?_
        rintro e w2' ⟨rfl, rfl⟩
        go_wp2_with fail
        refine HHW.out.mono ?_
        rintro e w2'' ⟨rfl, rfl⟩
        clear e0 e3
        obtain ⟨kr4, co4, ⟨f0, _, _, _, _⟩, _, hco4⟩ := HI2.out.cells
        obtain ⟨v4, f1, _⟩ := HI2.out.row (b := b) (by rw [HN1.out.1]; exact HBB.out.1)
        have f2 := (HI2.out.fz b).2.1
        rw [HN1.out.1] at f0 hco4
        go_wp2_with fail
        go_ret
        have hz := HI2.out.setRow (b := b) (c' := fl.c) (by rw [HN1.out.1]; exact HBB.out.1) (HP2.out.congr (fun p' hp' => by unfold pgOf pgL; rw [HN1.out.2.1])) (fun b' _ hb' p' hp' => by
          have e : pgOf (burnF fl) b' p' = pgOf fl b' p' := by unfold pgOf pgL; rw [HN1.out.2.1]
          exact e.symm ▸ rfl) (fun b' _ => by rw [HN1.out.2.1])
        refine ⟨?_, ?_, ?_⟩
        · rw [show changeE fl = 7 by unfold changeE; rw [if_pos HFE.out]]
          try rfl
        · rw [changeF_burn, if_pos HFE.out, if_neg HKN.out.1, if_neg HKN.out.2]
          exact hz
        · exact ((HK1.out.mono (fun _ e => .inl e)).then_below HB2.out).set (p := ⟨ob, b, none⟩) (.inl (.inr (.inl rfl))) _
end Go.Proofs.Ytandhpnpodkemaa.M
end

section
/- The reference's Program, all cases. -/
set_option linter.unusedVariables false
set_option linter.unusedSimpArgs false
set_option maxRecDepth 100000
namespace Go.Proofs.Ytandhpnpodkemaa.M
open Go.RowKit Go.Proofs.YtandhpnpodkemaaW.PrintWords Go.Proofs.YtandhpnpodkemaaW.PrintLast
theorem rprogram_is {w : World} {q ob wb : Nat} {fl : Fl} (h : IsR w q ob wb fl) (hf : 0 ≤ fl.fuse ∧ fl.fuse ≤ 9223372036854775807) (b p : Int) (A : Option Addr) (c : Nat) (l : List Int) (hr : Kd.F (Kd.int .u8) w (fun k => k ≠ q ∧ k ≠ ob ∧ k ≠ wb) A l.length l) :
    Calls Try.prog 51 #[.pointer (some ⟨q, 0, none⟩), .int .i64 b, .int .i64 p, .slice A l.length c] w fun e w' => e = .returned (.int .i64 (progE fl b p l.length)) ∧ IsR w' q ob wb (progF fl b p l) ∧ KeepS (fun k => k = q ∨ k = ob ∨ k = wb) w w' := by
  have HL := Lib.hid (rlook_is h b p)
  have HR := Lib.hid h
  have hn : fl.n ≤ 1024 := h.n2
  have hlm : l.length ≤ 9223372036854775807 := Kd.F_max hr
  obtain ⟨x, hx⟩ : ∃ x, looksE fl (okAt fl b p) = x := ⟨_, rfl⟩
  rw [hx] at HL
  by_cases h0 : x = 0
  · subst h0
    by_cases hl : l.length ≤ 256
    · have hokp : looksE fl (okP fl b p l.length) = 0 := by
        have : okP fl b p l.length = okAt fl b p := by unfold okP; rw [decide_eq_true (by omega : (l.length : Int) ≤ 256), Bool.and_true]
        rw [this]; exact hx
      obtain ⟨b0, b1, b2, b3⟩ := okAt_of hx
      obtain ⟨b, rfl⟩ : ∃ k : Nat, b = (k : Int) := ⟨b.toNat, by omega⟩
      obtain ⟨p, rfl⟩ : ∃ k : Nat, p = (k : Int) := ⟨p.toNat, by omega⟩
      have hb : b < fl.n := by omega
      have hp : p < 16 := by omega
      by_cases hc : fl.c (b * 4113 + p * 257) = 0
      · have e1 : progE fl (b : Int) (p : Int) l.length = changeE fl := by unfold progE; rw [if_pos hokp, if_pos (by rw [Int.toNat_natCast, Int.toNat_natCast]; exact hc)]
        have e2 : progF fl (b : Int) (p : Int) l = changeF fl (fullC fl.c (b * 4113 + p * 257) l) (updC fl.c (b * 4113 + p * 257) 1) := by unfold progF; rw [Int.toNat_natCast, Int.toNat_natCast, if_pos ⟨hokp, hc⟩]
        rw [e1, e2]
        exact rprog_ok h hf hb hp hx hc A c l hl hr
      · have e1 : progE fl (b : Int) (p : Int) l.length = 20 := by unfold progE; rw [if_pos hokp, if_neg (by rw [Int.toNat_natCast, Int.toNat_natCast]; exact hc)]
        have e2 : progF fl (b : Int) (p : Int) l = fl := by unfold progF; rw [Int.toNat_natCast, Int.toNat_natCast, if_neg (fun e => hc e.2)]
        rw [e1, e2]
        obtain ⟨kr, co, ⟨c0, c1, c2, c3, c4⟩, hkr, hco⟩ := h.cells
        obtain ⟨g, cap, bv, r0, hcap, hpr, p0, p1, p2, hB⟩ := h.page hb hp
        have p0' : w.cell? ⟨g, p * 3, none⟩ = some (.bool true) := by rw [p0]; simp [pgOf, hc]
        have i1 : (b : Int) < (fl.n : Int) := by omega
        have i0 : (0 : Int) ≤ (b : Int) := by omega
        have i2 : (p : Int) < 16 := by omega
        have i3 : (0 : Int) ≤ (p : Int) := by omega
        have q1 : decide (256 < l.length) = false := decide_eq_false (by omega)
        have q2 : decide (256 < (l.length : Int)) = false := decide_eq_false (by omega)
        clear h c1 c2 c3 c4 p0 p1 p2 hB hpr hkr hx hc e1 e2 hokp hr hl b0 b1 b2 b3 hb hp hf
        go_enter Try.func51, Try.ntmps51
        go_wp2_with fail
        refine HL.out.mono ?_
        rintro e w0 ⟨rfl, rfl⟩
        go_wp2_with fail
        go_ret
        exact ⟨rfl, HR.out, KeepS.refl _ _⟩
    · have hokp : looksE fl (okP fl b p l.length) = 1 := by
        have : okP fl b p l.length = false := by unfold okP; rw [decide_eq_false (by omega : ¬ (l.length : Int) ≤ 256), Bool.and_false]
        rw [this]
        unfold looksE at hx ⊢
        split at hx
        · cases hx
        · next hd => rw [if_neg hd, if_neg (by simp)]
      have e1 : progE fl b p l.length = 1 := by unfold progE; rw [if_neg (by rw [hokp]; decide), hokp]
      have e2 : progF fl b p l = fl := by unfold progF; rw [if_neg (fun e => by rw [hokp] at e; exact absurd e.1 (by decide))]
      rw [e1, e2]
      have q1 : decide (256 < l.length) = true := decide_eq_true (by omega)
      have q2 : decide (256 < (l.length : Int)) = true := decide_eq_true (by omega)
      clear h hx e1 e2 hokp hr hl hf
      go_enter Try.func51, Try.ntmps51
      go_wp2_with fail
      refine HL.out.mono ?_
      rintro e w0 ⟨rfl, rfl⟩
      go_wp2_with fail
      go_ret
      exact ⟨rfl, HR.out, KeepS.refl _ _⟩
  · have hokp : looksE fl (okP fl b p l.length) = x := by
      unfold looksE at hx ⊢
      split at hx
      · next hd => rw [if_pos hd]; exact hx
      · next hd =>
        split at hx
        · exact absurd hx.symm h0
        · next ho =>
          rw [if_neg hd, if_neg (by unfold okP; simp only [Bool.and_eq_true]; exact fun e => ho e.1)]
          exact hx
    have e1 : progE fl b p l.length = x := by unfold progE; rw [if_neg (by rw [hokp]; exact h0), hokp]
    have e2 : progF fl b p l = fl := by unfold progF; rw [if_neg (fun e => h0 (by rw [← hokp]; exact e.1))]
    rw [e1, e2]
    have q1 : (x != 0) = true := bne_iff_ne.2 h0
    clear h hx e1 e2 hokp hr hf h0
    go_enter Try.func51, Try.ntmps51
    go_wp2_with fail
    refine HL.out.mono ?_
    rintro e w0 ⟨rfl, rfl⟩
    go_wp2_with fail
    go_ret
    exact ⟨rfl, HR.out, KeepS.refl _ _⟩
end Go.Proofs.Ytandhpnpodkemaa.M
end
