/- Contracts of trivet/shape's inner functions that give up by a panic, and of try, which catches it. -/
import Derived.Test.YtdapnponlmimaaaProg
import Derived.WalkKit
import Derived.Recover
import Derived.WalkLawsBesides
import Derived.WalkSpells
import Derived.KernelRfl
import Derived.Lib.Hide
import Derived.Below
set_option linter.unusedVariables false
set_option linter.unusedSimpArgs false
namespace Go.Proofs.Ytdapnponlmimaaa.M
open Go.RowKit

theorem give_no (e : Int) (w : World) :
    Calls Try.prog 44 #[.bool false, .int .i64 e] w fun en w' => en = .returned (.tuple #[]) ∧ w = w' := by
  go_enter Try.func44, Try.ntmps44
  go_wp2
  go_end0
  exact ⟨rfl, rfl⟩

def wrongV (e : Int) : Value := .iface 62 (.agg #[.int .i64 e])

theorem give_yes (e : Int) (w : World) :
    Calls Try.prog 44 #[.bool true, .int .i64 e] w fun en w' => en = .panicked [{ v := wrongV e, recovered := false }] ∧ w = w' := by
  go_enter Try.func44, Try.ntmps44
  go_wp2
  exact ⟨rfl, rfl, rfl⟩

theorem catch_idle (p : Addr) (w : World) :
    CallsD Try.prog 46 #[.pointer (some p)] .returning w fun e u' w' => e = .returned (.tuple #[]) ∧ u' = .returning ∧ w' = w := by
  refine callsD_of_wpS Try.func46 rfl fun c₀ cs hu => ?_
  apply wpS_seq
  apply wpS_region
  simp [wpOpsS, go_sem, recoverD, hu, Try.ntmps46, Exit.thenS]
  apply wpS_seq
  apply wpS_region
  simp [wpOpsS, go_sem, Exit.thenS]
  refine wpS_cond (t := false) (by simp [Act.eval, Array.replicate]) ?_
  simp only [Bool.false_eq_true, if_false]
  refine wpS_of_wp (wp_skip ?_)
  cases c₀
  simp_all [bodyPostS, results, Try.results46]

theorem catch_panicking (b : Nat) (x er : Int) (older : List PanicEntry) (w : World) (hb : b < w.heap.size) (hc : w.cell? ⟨b, 0, none⟩ = some (.int .i64 x)) (hz : w.frozen? ⟨b, 0, none⟩ = false) :
    CallsD Try.prog 46 #[.pointer (some ⟨b, 0, none⟩)] (.panicking ({ v := wrongV er, recovered := false } :: older)) w fun e u' w' =>
      e = .returned (.tuple #[]) ∧ u' = .panicking ({ v := wrongV er, recovered := true } :: older) ∧ w' = (w.setCell ⟨b, 0, none⟩ (.int .i64 er)).alloc (.cells #[.int .i64 er] 62) := by
  unfold wrongV
  refine callsD_of_wpS Try.func46 rfl fun c₀ cs hu => ?_
  apply wpS_seq
  apply wpS_region
  simp [wpOpsS, go_sem, recoverD, hu, Try.ntmps46, Exit.thenS]
  refine wpS_of_wp ?_
  simp only [Array.replicate_succ, Array.replicate_zero, List.push_toArray, List.append_toArray, List.nil_append, List.cons_append, List.setIfInBounds_toArray, List.set_cons_succ, List.set_cons_zero]
  have hta : ∀ (v : Value) (W : World), (Instr.typeAssert (.iface 62 v) 20 62 true).run Try.prog W = .ok (.tuple #[v, .bool true]) W := fun v W => by rfl
  go_wp2
  exact ⟨rfl, _, rfl, _, results_none rfl _ _ _, rfl, rfl, rfl⟩

/-- Only blocks b + 1 and b + 2, and what is new, have turned. -/
structure Keep2 (b : Nat) (w w' : World) : Prop where
  os : w'.os = w.os
  tape : w'.tape = w.tape
  output : w'.output = w.output
  size : w.heap.size ≤ w'.heap.size
  block : ∀ i, i < w.heap.size → i ≠ b + 1 → i ≠ b + 2 → w'.heap[i]? = w.heap[i]?
theorem Keep2.refl (b : Nat) (w : World) : Keep2 b w w := ⟨rfl, rfl, rfl, Nat.le_refl _, fun _ _ _ _ => rfl⟩
theorem Keep2.trans {b : Nat} {x y z : World} (h : Keep2 b x y) (k : Keep2 b y z) : Keep2 b x z :=
  ⟨k.os.trans h.os, k.tape.trans h.tape, k.output.trans h.output, Nat.le_trans h.size k.size, fun i hi h1 h2 => (k.block i (Nat.lt_of_lt_of_le hi h.size) h1 h2).trans (h.block i hi h1 h2)⟩
theorem Keep2.of_below {b : Nat} {x y : World} (h : Below x.heap.size x y) : Keep2 b x y := ⟨h.os, h.tape, h.output, h.size, fun i hi _ _ => h.block i hi⟩
theorem Keep2.set1 {b : Nat} {x y : World} (h : Keep2 b x y) (v : Value) : Keep2 b x (y.setCell ⟨b + 1, 0, none⟩ v) :=
  ⟨h.os, h.tape, h.output, by simpa [World.setCell] using h.size, fun i hi h1 h2 => (Below.heap_setCell y ⟨b + 1, 0, none⟩ v i h1).trans (h.block i hi h1 h2)⟩
theorem Keep2.set2 {b : Nat} {x y : World} (h : Keep2 b x y) (v : Value) : Keep2 b x (y.setCell ⟨b + 2, 0, none⟩ v) :=
  ⟨h.os, h.tape, h.output, by simpa [World.setCell] using h.size, fun i hi h1 h2 => (Below.heap_setCell y ⟨b + 2, 0, none⟩ v i h2).trans (h.block i hi h1 h2)⟩
theorem Keep2.alloc {b : Nat} {x y : World} (h : Keep2 b x y) (o : Obj) : Keep2 b x (y.alloc o) := h.trans (Keep2.of_below ((Below.refl _ y).alloc (Nat.le_refl _) o))
theorem Keep2.drew {b : Nat} {x y : World} (h : Keep2 b x y) : Keep2 b x y.drew := ⟨h.os, h.tape, h.output, h.size, h.block⟩
theorem Keep2.drewN {b : Nat} {x y : World} (h : Keep2 b x y) (n : Nat) : Keep2 b x (y.drewN n) := ⟨h.os, h.tape, h.output, h.size, h.block⟩
theorem Keep2.cell {b : Nat} {x y : World} (h : Keep2 b x y) {p : Addr} (hp : p.block < x.heap.size) (h1 : p.block ≠ b + 1) (h2 : p.block ≠ b + 2) : y.cell? p = x.cell? p := World.cell?_of_block (h.block p.block hp h1 h2)
theorem Keep2.frozen {b : Nat} {x y : World} (h : Keep2 b x y) {p : Addr} (hp : p.block < x.heap.size) (h1 : p.block ≠ b + 1) (h2 : p.block ≠ b + 2) : y.frozen? p = x.frozen? p := World.frozen?_of_block (h.block p.block hp h1 h2)
theorem Keep2.below {b B : Nat} {x y : World} (h : Keep2 b x y) (hB : B ≤ b + 1) (hs : B ≤ x.heap.size) : Below B x y := ⟨h.os, h.tape, h.output, h.size, fun i hi => h.block i (by omega) (by omega) (by omega)⟩

theorem grown_set (W : World) (k : Nat) (u : Value) : W.grownBy (W.setCell ⟨k, 0, none⟩ u) (some k) :=
  ⟨rfl, rfl, rfl, by simp [World.setCell], fun i _ hne => Below.heap_setCell W ⟨k, 0, none⟩ u i (fun e => hne (by rw [e]))⟩
theorem _root_.Go.World.grownBy.alloc {a w : World} {row : Option Nat} (h : a.grownBy w row) (o : Obj) : a.grownBy (w.alloc o) row :=
  ⟨h.os, h.tape, h.output, Nat.le_trans h.size (by simp), fun i hi hne => (Below.heap_alloc w o i (Nat.lt_of_lt_of_le hi h.size)).trans (h.block i hi hne)⟩

theorem enter_any (g : FuncId) (fn : Func) (c : Code) (h : Try.prog.funcs[g]? = some fn) (hb : fn.body = some c) (hn : (fn.name == "runtime.NumGoroutine") = false) (args : Array Value) (W : World) : (callFunc g args).run Try.prog W = .ok (.enter g args) W := by
  have hn' : ¬ fn.name = "runtime.NumGoroutine" := by simpa using hn
  simp [callFunc, go_sem, h, hb, hn']

/-- try, of a function that ends well, or gives up by 'wrong'; v1, v2: what it has put into the two variables that it writes. -/
theorem try_calls (g : FuncId) (cap : Array Value) (b : Nat) (w : World) (G : World → Prop) (er : Int) (hb : b + 3 = w.heap.size)
    (hg : ∀ (args : Array Value) (W : World), (callFunc g args).run Try.prog W = .ok (.enter g args) W)
    (h : Calls Try.prog g cap (w.alloc (.cells #[.int .i64 0] 24)) fun e W => Keep2 b (w.alloc (.cells #[.int .i64 0] 24)) W ∧ G W ∧ ((e = .returned (.tuple #[]) ∧ er = 0) ∨ e = .panicked [{ v := wrongV er, recovered := false }])) :
    Calls Try.prog 31 #[.func (.func g) #[] cap] w fun e w' =>
      ∃ W, G W ∧ e = .returned (.int .i64 er) ∧ Keep2 b w W ∧ w.heap.size < W.heap.size ∧ Below w.heap.size W w' ∧ W.grownBy w' (some w.heap.size) := by
  have hmf : ∀ (fn : Fn) (first cap : Array Value) (w : World), (Instr.makeFunc fn first cap).run Try.prog w = .ok (.func fn first cap) w := fun _ _ _ _ => rfl
  have H := Lib.hid h
  clear h
  go_enter_defers Try.func31, Try.ntmps31
  go_wp2_with fail
  refine H.out.mono ?_
  rintro e W ⟨hk, hG, h⟩
  have k3 : w.heap.size < W.heap.size := by have := hk.size; simp at this; omega
  have k1 : W.cell? ⟨w.heap.size, 0, none⟩ = some (.int .i64 0) := by
    rw [hk.cell (by simp) (by simp; omega) (by simp; omega)]; simp
  have k2 : W.frozen? ⟨w.heap.size, 0, none⟩ = false := by
    rw [hk.frozen (by simp) (by simp; omega) (by simp; omega)]; simp
  have hkw : Keep2 b w W := ((Keep2.refl b w).alloc _).trans hk
  have HK := Lib.hid hk
  have HG := Lib.hid hG
  have HKW := Lib.hid hkw
  clear hk hG hkw
  rcases h with ⟨rfl, rfl⟩ | rfl
  · go_wp2
    refine leaves_cons (f := 46) (args := #[.pointer (some ⟨w.heap.size, 0, none⟩)]) (by simp) (by simp [go_sem]) ?_
    refine (catch_idle ⟨w.heap.size, 0, none⟩ _).mono ?_
    rintro e u' w'' ⟨rfl, rfl, rfl⟩
    have kc : (W.setCell ⟨w.heap.size, 0, none⟩ (.int .i64 0)).cell? ⟨w.heap.size, 0, none⟩ = some (.int .i64 0) := World.cell?_setCell_same' _ _ _ (by rw [k1]; rfl)
    simp [Leaves, settle, results, Try.results31, go_sem, kc]
    exact ⟨W, HG.out, HKW.out, k3, (Below.refl w.heap.size W).setCell (p := ⟨w.heap.size, 0, none⟩) (Nat.le_refl w.heap.size) _, grown_set W w.heap.size _⟩
  · go_wp2
    refine leaves_cons (f := 46) (args := #[.pointer (some ⟨w.heap.size, 0, none⟩)]) (by simp) (by simp [go_sem]) ?_
    refine (catch_panicking w.heap.size 0 er [] _ k3 k1 k2).mono ?_
    rintro e u' w'' ⟨rfl, rfl, rfl⟩
    have kc : ((W.setCell ⟨w.heap.size, 0, none⟩ (.int .i64 er)).alloc (.cells #[.int .i64 er] 62)).cell? ⟨w.heap.size, 0, none⟩ = some (.int .i64 er) := by
      rw [World.cell?_alloc_past (hn := by simpa [World.setCell] using k3)]
      exact World.cell?_setCell_same' _ _ _ (by rw [k1]; rfl)
    simp [Leaves, settle, results, Try.results31, go_sem, kc]
    exact ⟨W, HG.out, HKW.out, k3, ((Below.refl w.heap.size W).setCell (p := ⟨w.heap.size, 0, none⟩) (Nat.le_refl w.heap.size) _).alloc (by simp [World.setCell]; omega) _, (grown_set W w.heap.size _).alloc _⟩
end Go.Proofs.Ytdapnponlmimaaa.M
