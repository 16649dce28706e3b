/- RecordOwnUptoSaid: contracts of the functions that the law goes through, put together in build order (part 2 of 7). -/
import Derived.Test.YtgiefblcckikeaaGreatPart0
import Derived.Test.YtgiefblcckikeaaGreatProg
import Derived.WalkKit
import Derived.Recover
import Derived.WalkLawsBesides
import Derived.WalkSpells
import Derived.KernelRfl
import Derived.Lib.Hide
import Derived.Below
import Derived.Lib.SliceRun
import Derived.Lib.SmallJoins
import Derived.StillTailTactics
set_option linter.unusedVariables false
set_option linter.unusedSimpArgs false
set_option maxRecDepth 100000
section
/- Contracts of trivet/shape's inner functions that give up by a panic, and of try, which catches it. -/
namespace Go.Proofs.YtgiefblcckikeaaGreat.M
open Go.RowKit Go.Proofs.YtgiefblcckikeaaGreatW.PrintWords Go.Proofs.YtgiefblcckikeaaGreatW.PrintLast Go.Proofs.YtgiefblcckikeaaGreatW.PrintMore Go.Proofs.YtgiefblcckikeaaGreat.G
theorem give_no (e : Int) (w : World) :
  Calls Tryz.prog 123 #[.bool false, .int .i64 e] w fun en w' => en = .returned (.tuple #[]) ∧ w = w' := by
 go_enter Tryz.func123, Tryz.ntmps123
 go_wp2
 go_end0
 exact ⟨rfl, rfl⟩
def wrongV (e : Int) : Value := .iface 167 (.agg #[.int .i64 e])
theorem give_yes (e : Int) (w : World) :
  Calls Tryz.prog 123 #[.bool true, .int .i64 e] w fun en w' => en = .panicked [{ v := wrongV e, recovered := false }] ∧ w = w' := by
 go_enter Tryz.func123, Tryz.ntmps123
 go_wp2
 exact ⟨rfl, rfl, rfl⟩
theorem catch_idle (p : Addr) (w : World) :
  CallsD Tryz.prog 159 #[.pointer (some p)] .returning w fun e u' w' => e = .returned (.tuple #[]) ∧ u' = .returning ∧ w' = w := by
 refine callsD_of_wpS Tryz.func159 rfl fun c₀ cs hu => ?_
 apply wpS_seq
 apply wpS_region
 simp [wpOpsS, go_sem, recoverD, hu, Tryz.ntmps159, Exit.thenS]
 apply wpS_seq
 apply wpS_region
 simp [wpOpsS, go_sem, Exit.thenS]
 refine wpS_cond (t := false) (by simp [Act.eval, Array.replicate]) ?_
 simp only [Bool.false_eq_true, if_false]
 refine wpS_of_wp (wp_skip ?_)
 cases c₀
 simp_all [bodyPostS, results, Tryz.results159]
theorem catch_panicking (b : Nat) (x er : Int) (older : List PanicEntry) (w : World) (hb : b < w.heap.size) (hc : w.cell? ⟨b, 0, none⟩ = some (.int .i64 x)) (hz : w.frozen? ⟨b, 0, none⟩ = false) :
  CallsD Tryz.prog 159 #[.pointer (some ⟨b, 0, none⟩)] (.panicking ({ v := wrongV er, recovered := false } :: older)) w fun e u' w' =>
   e = .returned (.tuple #[]) ∧ u' = .panicking ({ v := wrongV er, recovered := true } :: older) ∧ w' = (w.setCell ⟨b, 0, none⟩ (.int .i64 er)).alloc (.cells #[.int .i64 er] 167) := by
 unfold wrongV
 refine callsD_of_wpS Tryz.func159 rfl fun c₀ cs hu => ?_
 apply wpS_seq
 apply wpS_region
 simp [wpOpsS, go_sem, recoverD, hu, Tryz.ntmps159, Exit.thenS]
 refine wpS_of_wp ?_
 simp only [Array.replicate_succ, Array.replicate_zero, List.push_toArray, List.append_toArray, List.nil_append, List.cons_append, List.setIfInBounds_toArray, List.set_cons_succ, List.set_cons_zero]
 have hta : ∀ (v : Value) (W : World), (Instr.typeAssert (.iface 167 v) 20 167 true).run Tryz.prog W = .ok (.tuple #[v, .bool true]) W := fun v W => by rfl
 go_wp2
 exact ⟨rfl, _, rfl, _, results_none rfl _ _ _, rfl, rfl, rfl⟩
structure Keep2 (b : Nat) (w w' : World) : Prop where
 os : w'.os = w.os
 tape : w'.tape = w.tape
 output : w'.output = w.output
 size : w.heap.size ≤ w'.heap.size
 block : ∀ i, i < w.heap.size → i ≠ b + 1 → i ≠ b + 2 → w'.heap[i]? = w.heap[i]?
theorem Keep2.refl (b : Nat) (w : World) : Keep2 b w w := ⟨rfl, rfl, rfl, Nat.le_refl _, fun _ _ _ _ => rfl⟩
theorem Keep2.trans {b : Nat} {x y z : World} (h : Keep2 b x y) (k : Keep2 b y z) : Keep2 b x z :=
 ⟨k.os.trans h.os, k.tape.trans h.tape, k.output.trans h.output, Nat.le_trans h.size k.size, fun i hi h1 h2 => (k.block i (Nat.lt_of_lt_of_le hi h.size) h1 h2).trans (h.block i hi h1 h2)⟩
theorem Keep2.of_below {b : Nat} {x y : World} (h : Below x.heap.size x y) : Keep2 b x y := ⟨h.os, h.tape, h.output, h.size, fun i hi _ _ => h.block i hi⟩
theorem Keep2.set1 {b : Nat} {x y : World} (h : Keep2 b x y) (v : Value) : Keep2 b x (y.setCell ⟨b + 1, 0, none⟩ v) :=
 ⟨h.os, h.tape, h.output, by simpa [World.setCell] using h.size, fun i hi h1 h2 => (Below.heap_setCell y ⟨b + 1, 0, none⟩ v i h1).trans (h.block i hi h1 h2)⟩
theorem Keep2.set2 {b : Nat} {x y : World} (h : Keep2 b x y) (v : Value) : Keep2 b x (y.setCell ⟨b + 2, 0, none⟩ v) :=
 ⟨h.os, h.tape, h.output, by simpa [World.setCell] using h.size, fun i hi h1 h2 => (Below.heap_setCell y ⟨b + 2, 0, none⟩ v i h2).trans (h.block i hi h1 h2)⟩
theorem Keep2.alloc {b : Nat} {x y : World} (h : Keep2 b x y) (o : Obj) : Keep2 b x (y.alloc o) := h.trans (Keep2.of_below ((Below.refl _ y).alloc (Nat.le_refl _) o))
theorem Keep2.drew {b : Nat} {x y : World} (h : Keep2 b x y) : Keep2 b x y.drew := ⟨h.os, h.tape, h.output, h.size, h.block⟩
theorem Keep2.drewN {b : Nat} {x y : World} (h : Keep2 b x y) (n : Nat) : Keep2 b x (y.drewN n) := ⟨h.os, h.tape, h.output, h.size, h.block⟩
theorem Keep2.cell {b : Nat} {x y : World} (h : Keep2 b x y) {p : Addr} (hp : p.block < x.heap.size) (h1 : p.block ≠ b + 1) (h2 : p.block ≠ b + 2) : y.cell? p = x.cell? p := World.cell?_of_block (h.block p.block hp h1 h2)
theorem Keep2.frozen {b : Nat} {x y : World} (h : Keep2 b x y) {p : Addr} (hp : p.block < x.heap.size) (h1 : p.block ≠ b + 1) (h2 : p.block ≠ b + 2) : y.frozen? p = x.frozen? p := World.frozen?_of_block (h.block p.block hp h1 h2)
theorem Keep2.below {b B : Nat} {x y : World} (h : Keep2 b x y) (hB : B ≤ b + 1) (hs : B ≤ x.heap.size) : Below B x y := ⟨h.os, h.tape, h.output, h.size, fun i hi => h.block i (by omega) (by omega) (by omega)⟩
theorem grown_set (W : World) (k : Nat) (u : Value) : W.grownBy (W.setCell ⟨k, 0, none⟩ u) (some k) :=
 ⟨rfl, rfl, rfl, by simp [World.setCell], fun i _ hne => Below.heap_setCell W ⟨k, 0, none⟩ u i (fun e => hne (by rw [e]))⟩
theorem _root_.Go.World.grownBy.alloc {a w : World} {row : Option Nat} (h : a.grownBy w row) (o : Obj) : a.grownBy (w.alloc o) row :=
 ⟨h.os, h.tape, h.output, Nat.le_trans h.size (by simp), fun i hi hne => (Below.heap_alloc w o i (Nat.lt_of_lt_of_le hi h.size)).trans (h.block i hi hne)⟩
theorem enter_any (g : FuncId) (fn : Func) (c : Code) (h : Tryz.prog.funcs[g]? = some fn) (hb : fn.body = some c) (hn : (fn.name == "runtime.NumGoroutine") = false) (args : Array Value) (W : World) : (callFunc g args).run Tryz.prog W = .ok (.enter g args) W := by
 have hn' : ¬ fn.name = "runtime.NumGoroutine" := by simpa using hn
 simp [callFunc, go_sem, h, hb, hn']
theorem try_calls (g : FuncId) (cap : Array Value) (b : Nat) (w : World) (G : World → Prop) (er : Int) (hb : b + 3 = w.heap.size)
  (hg : ∀ (args : Array Value) (W : World), (callFunc g args).run Tryz.prog W = .ok (.enter g args) W)
  (h : Calls Tryz.prog g cap (w.alloc (.cells #[.int .i64 0] 36)) fun e W => Keep2 b (w.alloc (.cells #[.int .i64 0] 36)) W ∧ G W ∧ ((e = .returned (.tuple #[]) ∧ er = 0) ∨ e = .panicked [{ v := wrongV er, recovered := false }])) :
  Calls Tryz.prog 120 #[.func (.func g) #[] cap] w fun e w' =>
   ∃ W, G W ∧ e = .returned (.int .i64 er) ∧ Keep2 b w W ∧ w.heap.size < W.heap.size ∧ Below w.heap.size W w' ∧ W.grownBy w' (some w.heap.size) := by
 have hmf : ∀ (fn : Fn) (first cap : Array Value) (w : World), (Instr.makeFunc fn first cap).run Tryz.prog w = .ok (.func fn first cap) w := fun _ _ _ _ => rfl
 have H := Lib.hid h
 clear h
 go_enter_defers Tryz.func120, Tryz.ntmps120
 go_wp2_with fail
 refine H.out.mono ?_
 rintro e W ⟨hk, hG, h⟩
 have k3 : w.heap.size < W.heap.size := by have := hk.size; simp at this; omega
 have k1 : W.cell? ⟨w.heap.size, 0, none⟩ = some (.int .i64 0) := by
  rw [hk.cell (by simp) (by simp; omega) (by simp; omega)]; simp
 have k2 : W.frozen? ⟨w.heap.size, 0, none⟩ = false := by
  rw [hk.frozen (by simp) (by simp; omega) (by simp; omega)]; simp
 have hkw : Keep2 b w W := ((Keep2.refl b w).alloc _).trans hk
 have HK := Lib.hid hk
 have HG := Lib.hid hG
 have HKW := Lib.hid hkw
 clear hk hG hkw
 rcases h with ⟨rfl, rfl⟩ | rfl
 ·go_wp2
  refine leaves_cons (f := 159) (args := #[.pointer (some ⟨w.heap.size, 0, none⟩)]) (by simp) (by simp [go_sem]) ?_
  refine (catch_idle ⟨w.heap.size, 0, none⟩ _).mono ?_
  rintro e u' w'' ⟨rfl, rfl, rfl⟩
  have kc : (W.setCell ⟨w.heap.size, 0, none⟩ (.int .i64 0)).cell? ⟨w.heap.size, 0, none⟩ = some (.int .i64 0) := World.cell?_setCell_same' _ _ _ (by rw [k1]; rfl)
  simp [Leaves, settle, results, Tryz.results120, go_sem, kc]
  exact ⟨W, HG.out, HKW.out, k3, (Below.refl w.heap.size W).setCell (p := ⟨w.heap.size, 0, none⟩) (Nat.le_refl w.heap.size) _, grown_set W w.heap.size _⟩
 ·go_wp2
  refine leaves_cons (f := 159) (args := #[.pointer (some ⟨w.heap.size, 0, none⟩)]) (by simp) (by simp [go_sem]) ?_
  refine (catch_panicking w.heap.size 0 er [] _ k3 k1 k2).mono ?_
  rintro e u' w'' ⟨rfl, rfl, rfl⟩
  have kc : ((W.setCell ⟨w.heap.size, 0, none⟩ (.int .i64 er)).alloc (.cells #[.int .i64 er] 167)).cell? ⟨w.heap.size, 0, none⟩ = some (.int .i64 er) := by
   rw [World.cell?_alloc_past (hn := by simpa [World.setCell] using k3)]
   exact World.cell?_setCell_same' _ _ _ (by rw [k1]; rfl)
  simp [Leaves, settle, results, Tryz.results120, go_sem, kc]
  exact ⟨W, HG.out, HKW.out, k3, ((Below.refl w.heap.size W).setCell (p := ⟨w.heap.size, 0, none⟩) (Nat.le_refl w.heap.size) _).alloc (by simp [World.setCell]; omega) _, (grown_set W w.heap.size _).alloc _⟩
end Go.Proofs.YtgiefblcckikeaaGreat.M
end

section
/- Contracts of slices.Clone and bytes.Clone of bytes, slices.Clip, slices.Grow and trivet/shape.eight. -/
namespace Go.Proofs.YtgiefblcckikeaaGreat.M
open Go.RowKit Go.Proofs.YtgiefblcckikeaaGreatW.PrintWords Go.Proofs.YtgiefblcckikeaaGreatW.PrintLast Go.Proofs.YtgiefblcckikeaaGreatW.PrintMore
theorem infoU8 : (Tryz.prog.info? 5).map (fun i => (i.zero, i.size, i.bytes)) = some (some (.int .u8 0), 1, 1) := by kernel_rfl
theorem C_none {w : World} {k : IntKind} {n : Nat} {xs : List Int} (h : Kd.C (Kd.int k) w none n xs) : n = 0 ∧ xs = [] := by
 have hn : n = 0 := by
  rcases Nat.eq_zero_or_pos n with h0 | h0
  ·exact h0
  ·obtain ⟨ad, e, _⟩ := h.2.2 h0
   cases e
 exact ⟨hn, List.eq_nil_of_length_eq_zero (h.1.trans hn)⟩
def Own (w : World) (base : Nat) (v : Value) (l : List Int) : Prop := Kd.R (Kd.int .u8) 5 w base (fun _ => True) v l
theorem own_empty (w : World) : Own (w.alloc (.cells #[] 5)) w.heap.size (.slice (some ⟨w.heap.size, 0, none⟩) 0 0) [] :=
 Kd.R_of_own (by
  exact ⟨rfl, .inr ⟨w.heap.size, 0, #[], rfl, Nat.le_refl _, heap_alloc_new w _, Nat.le_refl _, Nat.zero_le _, rfl, rfl⟩⟩) (fun _ _ => trivial)
theorem clone_calls (A : Option Addr) (c : Nat) (l : List Int) (w : World) (hr : Kd.C (Kd.int .u8) w A l.length l) (hc : l.length ≤ c) (hl : l.length < 140737488355328) :
  Calls Tryz.prog 93 #[.slice A l.length c] w fun e w' => ∃ v0_ : Value, e = .returned v0_ ∧ Own w' w.heap.size v0_ l ∧ Below w.heap.size w w' := by
 have qT : ∀ (w : World) (a : Option Addr) (n c n' c' : Nat), (binOp .eql 23 (.slice a n c) (.slice none n' c')).run Tryz.prog w = .ok (.bool a.isNone) w := fun w a n c n' c' => Lib.run_eql_slice_nil w _ _ a n c n' c' Tryz.underlying23
 have HR := Aside0.mk hr
 have HL := Aside0.mk hl
 clear hr hl
 rcases A with _ | ad
 ·obtain ⟨_, rfl⟩ := C_none HR.out
  go_enter Tryz.func93, Tryz.ntmps93
  go_wp2
  go_ret
  exact ⟨_, rfl, Kd.R_nil _ _ _ _ _, Below.refl _ _⟩
 ·go_enter Tryz.func93, Tryz.ntmps93
  have HE := Aside0.mk (show Own (w.alloc (.cells #[] 5)) w.heap.size (.slice (some ⟨w.heap.size, 0, none⟩) 0 0) [] from own_empty w)
  go_wp2_with ((with_reducible refine gate_builtin (b := .append) (xs := #[.tmp 5, .tmp 6]) rfl ?_); at_builtin; refine Kd.R_append_rows (Kd.int .u8) (w0 := w) w.heap.size rfl (.tmp 5) (.tmp 6) 23 5 (.int .u8 0) 1 rfl Tryz.underlying23 infoU8 rfl (by decide) (by omega) _ ([] : List Int) l _ _ _ (fun _ => True) (fun _ => False) rfl rfl HE.out (Kd.C_alloc HR.out _) (fun _ _ h => h) (fun _ h => h.elim) (fun _ _ => trivial) ((Below.refl _ _).alloc (Nat.le_refl _) _) (by simp) (by have := HL.out; simp; omega) ?_; intro v1 w1 ho hb _ _)
  go_ret
  exact ⟨_, rfl, ho, hb⟩
theorem own_one (w : World) (x : Int) : Own (w.alloc (.cells #[.int .u8 x] 5)) w.heap.size (.slice (some ⟨w.heap.size, 0, none⟩) 1 1) [x] :=
 Kd.R_of_own (by
  exact ⟨rfl, .inr ⟨w.heap.size, 1, #[.int .u8 x], rfl, Nat.le_refl _, heap_alloc_new w _, Nat.le_refl _, by decide, rfl, rfl⟩⟩) (fun _ _ => trivial)
theorem bclone_calls (A : Option Addr) (c : Nat) (l : List Int) (w : World) (hr : Kd.C (Kd.int .u8) w A l.length l) (hc : l.length ≤ c) (hl : l.length < 140737488355328) :
  Calls Tryz.prog 31 #[.slice A l.length c] w fun e w' => ∃ v0_ : Value, e = .returned v0_ ∧ Own w' w.heap.size v0_ l ∧ Below w.heap.size w w' := by
 have qT : ∀ (w : World) (a : Option Addr) (n c n' c' : Nat), (binOp .eql 23 (.slice a n c) (.slice none n' c')).run Tryz.prog w = .ok (.bool a.isNone) w := fun w a n c n' c' => Lib.run_eql_slice_nil w _ _ a n c n' c' Tryz.underlying23
 have HR := Aside0.mk hr
 have HL := Aside0.mk hl
 clear hr hl
 rcases A with _ | ad
 ·obtain ⟨_, rfl⟩ := C_none HR.out
  go_enter Tryz.func31, Tryz.ntmps31
  go_wp2
  go_ret
  exact ⟨_, rfl, Kd.R_nil _ _ _ _ _, Below.refl _ _⟩
 ·go_enter Tryz.func31, Tryz.ntmps31
  have HE := Aside0.mk (show Own (w.alloc (.cells #[] 5)) w.heap.size (.slice (some ⟨w.heap.size, 0, none⟩) 0 0) [] from own_empty w)
  go_wp2_with ((with_reducible refine gate_builtin (b := .append) (xs := #[.tmp 5, .tmp 6]) rfl ?_); at_builtin; refine Kd.R_append_rows (Kd.int .u8) (w0 := w) w.heap.size rfl (.tmp 5) (.tmp 6) 23 5 (.int .u8 0) 1 rfl Tryz.underlying23 infoU8 rfl (by decide) (by omega) _ ([] : List Int) l _ _ _ (fun _ => True) (fun _ => False) rfl rfl HE.out (Kd.C_alloc HR.out _) (fun _ _ h => h) (fun _ h => h.elim) (fun _ _ => trivial) ((Below.refl _ _).alloc (Nat.le_refl _) _) (by simp) (by have := HL.out; simp; omega) ?_; intro v1 w1 ho hb _ _)
  go_ret
  exact ⟨_, rfl, ho, hb⟩
end Go.Proofs.YtgiefblcckikeaaGreat.M
namespace Go.Proofs.YtgiefblcckikeaaGreat.G
open Go.RowKit Go.Proofs.YtgiefblcckikeaaGreatW.PrintWords Go.Proofs.YtgiefblcckikeaaGreat.M
def slices_Clone_byte_byte.f (l0 : List Int) : Option (List Int) := if l0.length < 140737488355328 then some l0 else none
theorem slices_Clone_byte_byte.calls (A0 : Option Addr) (c0 : Nat) (l0 : List Int) (r : List Int) (w : World) (hr0 : Kd.C (Kd.int .u8) w A0 l0.length l0) (hc0 : l0.length ≤ c0) (h : slices_Clone_byte_byte.f l0 = some r) :
  Calls Tryz.prog 93 #[.slice A0 l0.length c0] w fun e w' => ∃ v0_ : Value, e = .returned v0_ ∧ Kd.R (Kd.int .u8) 5 w' w.heap.size (fun _ => True) v0_ r ∧ Below w.heap.size w w' := by
 unfold slices_Clone_byte_byte.f at h
 split at h
 ·obtain rfl := Option.some.inj h
  exact clone_calls A0 c0 l0 w hr0 hc0 (by assumption)
 ·cases h
def bytes_Clone.f (l0 : List Int) : Option (List Int) := if l0.length < 140737488355328 then some l0 else none
theorem bytes_Clone.calls (A0 : Option Addr) (c0 : Nat) (l0 : List Int) (r : List Int) (w : World) (hr0 : Kd.C (Kd.int .u8) w A0 l0.length l0) (hc0 : l0.length ≤ c0) (h : bytes_Clone.f l0 = some r) :
  Calls Tryz.prog 31 #[.slice A0 l0.length c0] w fun e w' => ∃ v0_ : Value, e = .returned v0_ ∧ Kd.R (Kd.int .u8) 5 w' w.heap.size (fun _ => True) v0_ r ∧ Below w.heap.size w w' := by
 unfold bytes_Clone.f at h
 split at h
 ·obtain rfl := Option.some.inj h
  exact bclone_calls A0 c0 l0 w hr0 hc0 (by assumption)
 ·cases h
end Go.Proofs.YtgiefblcckikeaaGreat.G
end

section
/- Contract of trivet/shape.Num. -/
namespace Go.Proofs.YtgiefblcckikeaaGreat.M
open Go.RowKit Go.Proofs.YtgiefblcckikeaaGreatW.PrintWords Go.Proofs.YtgiefblcckikeaaGreatW.PrintLast Go.Proofs.YtgiefblcckikeaaGreatW.PrintMore Go.Proofs.YtgiefblcckikeaaGreat.G
theorem low_l0 (j : Nat) : ∀ (k n : Nat) (acc : List Int), n < 256 ^ j → j < k → acc.length + j < 140737488355328 → shape_low.l0 k (n : Int) acc = some (acc ++ lowB n) := by
 induction j with
 | zero =>
  intro k n acc hn hk _
  obtain ⟨k, rfl⟩ : ∃ m, k = m + 1 := ⟨k - 1, by omega⟩
  have : n = 0 := by simpa using hn
  subst this
  simp only [shape_low.l0]
  rw [if_neg (by simp), lowB_zero, List.append_nil]
 | succ j ih =>
  intro k n acc hn hk ha
  obtain ⟨k, rfl⟩ : ∃ m, k = m + 1 := ⟨k - 1, by omega⟩
  by_cases h0 : n = 0
  ·subst h0
   simp only [shape_low.l0]
   rw [if_neg (by simp), lowB_zero, List.append_nil]
  ·simp only [shape_low.l0]
   rw [if_pos (by omega), if_pos (by omega), lowB_pos h0]
   have := ih k (n / 256) (acc ++ [((n % 256 : Nat) : Int)]) (by rw [Nat.pow_succ] at hn; omega) (by omega) (by simp; omega)
   have e1 : ((n / 256 : Nat) : Int) = (n : Int) / 256 := by omega
   have e2 : ((n % 256 : Nat) : Int) = (n : Int) % 256 := by omega
   rw [e1, e2] at this
   rw [this, e2, List.append_assoc]
   rfl
theorem low_f (n : Nat) (hn : n < 256 ^ 8) (k : Nat) (hk : 8 < k) : shape_low.f k (n : Int) = some (lowB n) := by
 unfold shape_low.f
 rw [low_l0 8 k n [] hn hk (by simp)]
 rfl
theorem number_calls (n : Int) (w : World) (hn : isI64 n) :
  Calls Tryz.prog 166 #[.int .i64 n] w fun e w' => ∃ v0_ : Value, e = .returned v0_ ∧ Own w' w.heap.size v0_ (numB n) ∧ Below w.heap.size w w' := by
 have hl := lowB_len _ 8 (mag_lt hn)
 have HL := Aside0.mk (low_f (mag n) (mag_lt hn) 9 (by omega))
 have HN := Aside0.mk hn
 unfold isI64 at hn
 by_cases h : n < 0
 ·have HU := Aside0.mk (show shape_low.f 9 (IntKind.u64.wrap (-(IntKind.u64.wrap n))) = some (lowB (mag n)) by
   rw [← HL.out]; congr 1; simp only [IntKind.wrap_u64]; unfold mag; omega)
  have HB := Aside0.mk (show numB n = [2 * ((lowB (mag n)).length : Int) + 1] ++ lowB (mag n) by unfold numB; rw [if_pos h]; rfl)
  go_enter Tryz.func166, Tryz.ntmps166
  go_wp2_with fail
  refine (shape_low.calls 9 _ _ _ HU.out).mono ?_
  rintro e w1 ⟨v1, rfl, ho, hb⟩
  obtain ⟨A1, c1, rfl, hc1, hr1⟩ := Kd.R_reads ho
  have HO := Aside0.mk hr1
  have HBL := Aside0.mk hb
  clear ho hr1 hb
  go_wp2_with ((with_reducible refine gate_builtin (b := .append) (xs := #[.tmp 20, .tmp 21]) rfl ?_); at_builtin; refine Kd.R_append_rows (Kd.int .u8) (w0 := w) w.heap.size rfl (.tmp 20) (.tmp 21) 23 5 (.int .u8 0) 1 rfl Tryz.underlying23 infoU8 rfl (by decide) (by omega) _ _ (lowB (mag n)) _ _ _ (fun _ => True) (fun _ => False) rfl rfl (Kd.R_lower (own_one _ (2 * ((lowB (mag n)).length : Int) + 1)) HBL.out.size) (Kd.C_alloc HO.out _) (fun _ _ h => h) (fun _ h => h.elim) (fun _ _ => trivial) (HBL.out.alloc HBL.out.size _) (by have := HBL.out.size; simp; omega) (by simp; omega) ?_; intro v2 w2 ho2 hb2 _ _)
  go_ret
  exact ⟨_, rfl, by rw [HB.out]; exact ho2, hb2⟩
 ·have HU := Aside0.mk (show shape_low.f 9 n = some (lowB (mag n)) by
   rw [← HL.out]; congr 1; unfold mag; omega)
  have HB := Aside0.mk (show numB n = [2 * ((lowB (mag n)).length : Int)] ++ lowB (mag n) by unfold numB; rw [if_neg h, Int.add_zero]; rfl)
  go_enter Tryz.func166, Tryz.ntmps166
  go_wp2_with fail
  refine (shape_low.calls 9 _ _ _ HU.out).mono ?_
  rintro e w1 ⟨v1, rfl, ho, hb⟩
  obtain ⟨A1, c1, rfl, hc1, hr1⟩ := Kd.R_reads ho
  have HO := Aside0.mk hr1
  have HBL := Aside0.mk hb
  clear ho hr1 hb
  go_wp2_with ((with_reducible refine gate_builtin (b := .append) (xs := #[.tmp 20, .tmp 21]) rfl ?_); at_builtin; refine Kd.R_append_rows (Kd.int .u8) (w0 := w) w.heap.size rfl (.tmp 20) (.tmp 21) 23 5 (.int .u8 0) 1 rfl Tryz.underlying23 infoU8 rfl (by decide) (by omega) _ _ (lowB (mag n)) _ _ _ (fun _ => True) (fun _ => False) rfl rfl (Kd.R_lower (own_one _ (2 * ((lowB (mag n)).length : Int))) HBL.out.size) (Kd.C_alloc HO.out _) (fun _ _ h => h) (fun _ h => h.elim) (fun _ _ => trivial) (HBL.out.alloc HBL.out.size _) (by have := HBL.out.size; simp; omega) (by simp; omega) ?_; intro v2 w2 ho2 hb2 _ _)
  go_ret
  exact ⟨_, rfl, by rw [HB.out]; exact ho2, hb2⟩
end Go.Proofs.YtgiefblcckikeaaGreat.M
namespace Go.Proofs.YtgiefblcckikeaaGreat.M
open Go.RowKit Go.Proofs.YtgiefblcckikeaaGreatW.PrintWords Go.Proofs.YtgiefblcckikeaaGreatW.PrintLast Go.Proofs.YtgiefblcckikeaaGreatW.PrintMore Go.Proofs.YtgiefblcckikeaaGreat.G
theorem clip_calls (A : Option Addr) (n c : Nat) (w : World) (hc : n ≤ c) (hm : (n : Int) ≤ 9223372036854775807) :
  Calls Tryz.prog 165 #[.slice A n c] w fun e w' => e = .returned (.slice A n n) ∧ w = w' := by
 have hc' : (n : Int) ≤ (c : Int) := by omega
 have h0 : (0 : Int) ≤ (n : Int) := by omega
 go_enter Tryz.func165, Tryz.ntmps165
 go_wp2
 go_ret
 exact ⟨rfl, rfl⟩
theorem C_cells {w : World} {k : IntKind} {A : Option Addr} {n : Nat} {xs : List Int} (h : Kd.C (Kd.int k) w A n xs) (ad : Addr) (hA : A = some ad) (j : Nat) (u : Value) (hj : (xs.map (Value.int k))[j]? = some u) : w.cell? (ad.add j) = some u := by
 rw [List.getElem?_map, Option.map_eq_some_iff] at hj
 obtain ⟨x, hx, rfl⟩ := hj
 have hl : j < xs.length := (List.getElem?_eq_some_iff.1 hx).1
 have hn := h.1
 obtain ⟨ad', hA', hc⟩ := Kd.at_int h (j : Int) (by omega) (by omega)
 rw [hA] at hA'
 obtain rfl : ad = ad' := by injection hA'
 rw [Int.toNat_natCast] at hc
 rw [hc]
 simp [rd, List.getD_eq_getElem?_getD, hx]
theorem own_of_ints {w : World} {base : Nat} {v : Value} {xs : List Int} (h : w.ownsRow base 5 1 v xs.length (xs.map (Value.int .u8))) {base' : Nat} (hb : base' ≤ base) : Own w base' v xs :=
 Kd.R_lower (Kd.R_of_own (enc := Value.int .u8) (by simpa [encs] using h) (fun _ _ => trivial)) hb
set_option maxHeartbeats 1000000 in
theorem num_calls (A : Option Addr) (c : Nat) (l0 : List Int) (B : Option Addr) (c1 : Nat) (l1 : List Int) (w : World) (hr0 : Kd.C (Kd.int .u8) w A l0.length l0) (hc0 : l0.length ≤ c)
  (hr1 : Kd.C (Kd.int .i64) w B l1.length l1) (hi : okI l1 = true) (hs : l0.length + 9 * l1.length < 140737488355328) :
  Calls Tryz.prog 147 #[.slice A l0.length c, .slice B l1.length c1] w fun e w' => ∃ v0_ : Value, e = .returned v0_ ∧ Own w' w.heap.size v0_ (l0 ++ numsB l1) ∧ Below w.heap.size w w' := by
 have HR0 := Aside0.mk hr0
 have HR1 := Aside0.mk hr1
 have HI := Aside0.mk hi
 have hl1 : l1.length * 8 ≤ 9223372036854775807 := by omega
 have hm0 : (l0.length : Int) ≤ 9223372036854775807 := by omega
 clear hr0 hr1 hi
 go_enter Tryz.func147, Tryz.ntmps147
 go_wp2_with (go_at_call 165; refine (clip_calls A l0.length c w hc0 hm0).mono ?_; rintro e w' ⟨rfl, rfl⟩)
 go_loopw [0, 11] (fun b i wr => ∃ j : Nat, j ≤ l1.length ∧ i = .int .i64 (j : Int) ∧ Aside0 (Below w.heap.size w wr) ∧ Aside0 ((j = 0 ∧ b = .slice A l0.length l0.length) ∨ (0 < j ∧ Own wr w.heap.size b (l0 ++ numsB (l1.take j))))) (fun _ i _ => l1.length - (intOf i).toNat)
 case atStart => exact ⟨0, Nat.zero_le _, rfl, ⟨Below.refl _ _⟩, ⟨.inl ⟨rfl, rfl⟩⟩⟩
 case round =>
  obtain ⟨j, hj, rfl, HB, HC⟩ := hrel
  by_cases hlt : j < l1.length
  ·have hlt' : (j : Int) < (l1.length : Int) := by omega
   have hj0 : (0 : Int) ≤ (j : Int) := by omega
   obtain ⟨bd, hB, hx⟩ := Kd.at_int (Kd.C_below HR1.out HB.out) (j : Int) hj0 hlt'
   subst hB
   rw [Int.toNat_natCast] at hx
   have hw : isI64 (rd l1 j) := okI_mem HI.out (by simp [rd, List.getD_eq_getElem?_getD, List.getElem?_eq_getElem hlt])
   have HW := Aside0.mk hw
   have HT := Aside0.mk (show l0 ++ numsB (l1.take (j + 1)) = (l0 ++ numsB (l1.take j)) ++ numB (rd l1 j) by rw [take_snoc_int l1 j hlt, numsB_snoc, List.append_assoc])
   have hle : (numsB (l1.take j)).length ≤ 9 * j := by
    have := numsB_len (l := l1.take j) (by have := HI.out; unfold okI at this ⊢; rw [List.all_eq_true] at this ⊢; exact fun x hx => this x (List.mem_of_mem_take hx))
    rw [List.length_take] at this; omega
   have hnl := numB_len hw
   clear hw
   have hB0 := HB.out.size
   rcases HC.out with ⟨rfl, rfl⟩ | ⟨hjp, hown⟩
   ·clear HC
    rw [Addr.add_zero'] at hx
    obtain ⟨i0, hi, hz0, hz1, hz2⟩ := info_parts infoU8
    have HI0 := Aside0.mk hi
    have HI1 := Aside0.mk hz0
    have HI2 := Aside0.mk hz1
    have HI3 := Aside0.mk hz2
    clear hi hz0 hz1 hz2
    go_wp2_with fail
    refine (number_calls (rd l1 (0 : Nat)) _ HW.out).mono ?_
    rintro e w1 ⟨v1, rfl, ho, hb⟩
    obtain ⟨A1, c1', rfl, hc1, hr1⟩ := Kd.R_reads ho
    have HO := Aside0.mk hr1
    have HBL := Aside0.mk (below_step HB.out hb)
    have HBS := Aside0.mk hb
    clear ho hr1 hb
    have hA1 : ∃ ad1, A1 = some ad1 := by
     obtain ⟨ad, e, _⟩ := HO.out.2.2 (by omega)
     exact ⟨ad, e⟩
    obtain ⟨ad1, rfl⟩ := hA1
    go_wp2_with ((with_reducible refine gate_builtin (b := .append) (xs := #[.tmp 15, .tmp 17]) rfl ?_); at_builtin; refine wpList_append_grows _ rfl (.tmp 15) (.tmp 17) 23 rfl 5 i0 (.int .u8 0) 1 1 Tryz.underlying23 HI0.out HI1.out HI2.out HI3.out rfl (by decide) A l0.length l0.length (l0.map (Value.int .u8)) rfl (fun h => by subst h; exact ⟨(C_none HR0.out).1, (C_none HR0.out).1⟩) (by simp) (fun b hb => C_cells (Kd.C_below (Kd.C_below HR0.out HB.out) HBS.out) b hb) ad1 (numB (rd l1 (0 : Nat))).length c1' ((numB (rd l1 (0 : Nat))).map (Value.int .u8)) rfl (by simp) (C_cells HO.out ad1 rfl) (ints_oneCell .u8 _) (by omega) (by unfold maxLen; omega) (by omega) ?_; intro v2 w2 ho2 hg2)
    go_roundw
    case rel =>
     refine ⟨1, by omega, by go_num, ⟨?_⟩, ⟨.inr ⟨by omega, ?_⟩⟩⟩
     ·exact HBL.out.grown hg2 HBL.out.size (by simp)
     ·rw [HT.out]
      simp only [List.take_zero]
      refine own_of_ints (by simpa [numsB] using ho2) HBL.out.size
    case measure => simp [intOf]; omega
   ·clear HC
    have HOW := Aside0.mk hown
    clear hown
    go_wp2_with fail
    refine (number_calls (rd l1 j) _ HW.out).mono ?_
    rintro e w1 ⟨v1, rfl, ho, hb⟩
    obtain ⟨A1, c1', rfl, hc1, hr1⟩ := Kd.R_reads ho
    have HO := Aside0.mk hr1
    have HBL := Aside0.mk (below_step HB.out hb)
    have HBS := Aside0.mk hb
    clear ho hr1 hb
    go_wp2_with ((with_reducible refine gate_builtin (b := .append) (xs := #[.tmp 15, .tmp 17]) rfl ?_); at_builtin; refine Kd.R_append_rows (Kd.int .u8) (w0 := w) w.heap.size rfl (.tmp 15) (.tmp 17) 23 5 (.int .u8 0) 1 rfl Tryz.underlying23 infoU8 rfl (by decide) (by omega) _ _ (numB (rd l1 j)) _ _ _ (fun _ => True) (fun _ => False) rfl rfl (Kd.R_below HOW.out HBS.out) HO.out (fun _ _ h => h) (fun _ h => h.elim) (fun _ _ => trivial) HBL.out HBL.out.size (by simp; omega) ?_; intro v2 w2 ho2 hb2 _ _)
    go_roundw
    case rel => exact ⟨j + 1, by omega, by go_num, ⟨hb2⟩, ⟨.inr ⟨by omega, by rw [HT.out]; exact ho2⟩⟩⟩
    case measure => simp [intOf]; omega
  ·obtain rfl : j = l1.length := by omega
   have hB0 := HB.out.size
   rcases HC.out with ⟨hz, rfl⟩ | ⟨hjp, hown⟩
   ·have HZ := Aside0.mk (show l0 ++ numsB l1 = l0 by rw [List.eq_nil_of_length_eq_zero hz]; simp [numsB])
    clear HC hz
    go_wp2_with fail
    refine (clone_calls A l0.length l0 _ (Kd.C_below HR0.out HB.out) (Nat.le_refl _) (by omega)).mono ?_
    rintro e w1 ⟨v1, rfl, ho, hb⟩
    have HO := Aside0.mk ho
    have HBL := Aside0.mk (below_step HB.out hb)
    clear ho hb
    go_wp2
    go_ret
    exact ⟨_, rfl, by rw [HZ.out]; exact Kd.R_lower HO.out hB0, HBL.out⟩
   ·clear HC
    have hlen : (l0 ++ numsB (l1.take l1.length)).length < 140737488355328 := by
     have := numsB_len HI.out
     rw [List.take_length, List.length_append]; omega
    obtain ⟨L, hL⟩ : ∃ L, l0 ++ numsB (l1.take l1.length) = L := ⟨_, rfl⟩
    rw [hL] at hown hlen
    obtain ⟨A1, c1', rfl, hc1, hr1⟩ := Kd.R_reads hown
    have HO := Aside0.mk hr1
    have HZ := Aside0.mk (show L = l0 ++ numsB l1 by rw [← hL, List.take_length])
    clear hL
    clear hown hr1
    go_wp2_with fail
    refine (clone_calls A1 _ _ _ HO.out hc1 hlen).mono ?_
    rintro e w1 ⟨v1, rfl, ho, hb⟩
    have HO2 := Aside0.mk ho
    have HBL := Aside0.mk (below_step HB.out hb)
    clear ho hb
    go_wp2
    go_ret
    exact ⟨_, rfl, by rw [← HZ.out]; exact Kd.R_lower HO2.out hB0, HBL.out⟩
end Go.Proofs.YtgiefblcckikeaaGreat.M
namespace Go.Proofs.YtgiefblcckikeaaGreat.G
open Go.RowKit Go.Proofs.YtgiefblcckikeaaGreatW.PrintWords Go.Proofs.YtgiefblcckikeaaGreat.M
def shape_number.f (a0 : Int) : Option (List Int) := if isI64 a0 then some (numB a0) else none
theorem shape_number.calls (a0 : Int) (r : List Int) (w : World) (h : shape_number.f a0 = some r) :
  Calls Tryz.prog 166 #[.int .i64 a0] w fun e w' => ∃ v0_ : Value, e = .returned (v0_) ∧ Kd.R (Kd.int .u8) 5 w' w.heap.size (fun _ => True) v0_ r ∧ Below w.heap.size w w' := by
 unfold shape_number.f at h
 split at h
 ·obtain rfl := Option.some.inj h
  exact number_calls a0 w (by assumption)
 ·cases h
def shape_Num.f (l0 l1 : List Int) : Option (List Int) := if okI l1 = true ∧ l0.length + 9 * l1.length < 140737488355328 then some (l0 ++ numsB l1) else none
theorem shape_Num.calls (A0 : Option Addr) (c0 : Nat) (l0 : List Int) (A1 : Option Addr) (c1 : Nat) (l1 : List Int) (r : List Int) (w : World) (hr0 : Kd.C (Kd.int .u8) w A0 l0.length l0) (hc0 : l0.length ≤ c0) (hr1 : Kd.C (Kd.int .i64) w A1 l1.length l1) (_hc1 : l1.length ≤ c1) (h : shape_Num.f l0 l1 = some r) :
  Calls Tryz.prog 147 #[.slice A0 l0.length c0, .slice A1 l1.length c1] w fun e w' => ∃ v0_ : Value, e = .returned (v0_) ∧ Kd.R (Kd.int .u8) 5 w' w.heap.size (fun _ => True) v0_ r ∧ Below w.heap.size w w' := by
 unfold shape_Num.f at h
 split at h
 ·rename_i hh
  obtain rfl := Option.some.inj h
  exact num_calls A0 c0 l0 A1 c1 l1 w hr0 hc0 hr1 hh.1 hh.2
 ·cases h
end Go.Proofs.YtgiefblcckikeaaGreat.G
end

section
-- Written by a program of this session's (wip/gprint.py over the kit's printer).
namespace Go.Proofs.YtgiefblcckikeaaGreat.G
open Go.RowKit Go.Proofs.YtgiefblcckikeaaGreatW.PrintWords Go.Proofs.YtgiefblcckikeaaGreatW.PrintLast Go.Proofs.YtgiefblcckikeaaGreatW.PrintMore
attribute [local go_sem] max2_int min2_int max_two min_two max_three min_three max_four min_four   -- for this text's walks alone
def shape_Blob.f (l0 : List Int) (l1 : List Int) : Option (List Int) := (shape_Num.f l0 (([(l1.length : Int)] : List Int))).bind fun t107 => (if t107.length + l1.length < 140737488355328 then (some (t107 ++ l1)) else (none))
set_option maxHeartbeats 8000000 in
set_option maxRecDepth 100000 in
theorem shape_Blob.calls (A0 : Option Addr) (c0 : Nat) (l0 : List Int) (A1 : Option Addr) (c1 : Nat) (l1 : List Int) (r : List Int) (w : World) (hr0 : Kd.C (Kd.int .u8) w A0 l0.length l0) (hc0 : l0.length ≤ c0) (hr1 : Kd.C (Kd.int .u8) w A1 l1.length l1) (hc1 : l1.length ≤ c1) (h : shape_Blob.f l0 l1 = some r) :
  Calls Tryz.prog 101 #[.slice A0 l0.length c0, .slice A1 l1.length c1] w fun e w' => ∃ v0_ : Value, e = .returned (v0_) ∧ Kd.R (Kd.int .u8) 5 w' w.heap.size (fun _ => True) v0_ r ∧ Below w.heap.size w w' := by
 have HR0 := Aside0.mk hr0
 have HC0 := Aside0.mk hc0
 clear hr0 hc0
 have HR1 := Aside0.mk hr1
 have HC1 := Aside0.mk hc1
 clear hr1 hc1
 have HB := Aside0.mk (Below.refl w.heap.size w)
 have H : ((shape_Num.f l0 (([(l1.length : Int)] : List Int))).bind fun t107 => (if t107.length + l1.length < 140737488355328 then (some (t107 ++ l1)) else (none))) = some r := h
 clear h
 obtain ⟨y104, hy104⟩ : ∃ y_ : List Int, y_ = (([(l1.length : Int)] : List Int)) := ⟨_, rfl⟩
 replace H : ((shape_Num.f l0 y104).bind fun t107 => (if t107.length + l1.length < 140737488355328 then (some (t107 ++ l1)) else (none))) = some r := by first | (rw [hy104]; with_reducible exact H) | (have H2_ := (Option.bind_some _ _).symm.trans H; rw [hy104]; with_reducible exact H2_) | (have H2_ := (Option.bind_some _ _).symm.trans H; with_reducible exact H2_) | with_reducible exact H | (rw [hy104]; exact H) | exact H
 have Ny104 := Aside0.mk hy104
 clear hy104
 replace H := Option.bind_eq_some_iff.mp H
 obtain ⟨t107, A30, H⟩ := H
 replace H : (if t107.length + l1.length < 140737488355328 then (some (t107 ++ l1)) else (none)) = some r := H
 have A3 := Aside0.mk A30
 clear A30
 by_cases c4 : t107.length + l1.length < 140737488355328
 ·rw [if_pos c4] at H
  have LMc4 := Aside0.mk c4
  clear c4
  obtain ⟨y110, hy110⟩ : ∃ y_ : List Int, y_ = (t107 ++ l1) := ⟨_, rfl⟩
  replace H : (some y110) = some r := by first | (rw [hy110]; with_reducible exact H) | (have H2_ := (Option.bind_some _ _).symm.trans H; rw [hy110]; with_reducible exact H2_) | (have H2_ := (Option.bind_some _ _).symm.trans H; with_reducible exact H2_) | with_reducible exact H | (rw [hy110]; exact H) | exact H
  have Ny110 := Aside0.mk hy110
  clear hy110
  obtain rfl := Option.some.inj H
  go_enter Tryz.func101, Tryz.ntmps101
  go_wp2_with (first | ((with_reducible refine gate_dst (N := 8) rfl ?_); refine Kd.R_lit (Kd.int .i64) _ 2 ?hg (N := 8) ?hd (xs := ([(l1.length : Int)] : List Int)) (inner := [.int .i64 (l1.length : Int)]) (ok := fun _ => True) (okp := fun _ => True) ?hr ?hp (fun _ hk => hk) trivial (Below.refl _ _) (Nat.le_refl _) (by simp) ?_; (case hd => rfl); (case hg => rfl); (case hr => first | (go_simp; done) | (go_simp; rfl)); (case hp => exact (Reps.one (show Kd.M (Kd.int .i64) _ _ _ (l1.length : Int) [.int .i64 (l1.length : Int)] from rfl) (Reps.none _ _))); intro v105 w5 ho6 hb hg_ hnew_; clear hg_ hnew_; (first | rw [← Ny104.out] at ho6 | (simp only [Int.reduceToNat] at ho6; rw [← Ny104.out] at ho6)); have n0_ := Aside0.mk (Kd.R_lower ho6 (below_size (stB HB.out))); have n1_ := Aside0.mk (below_step (stB HB.out) hb); clear HB; have HO106 := n0_; have HB := n1_; clear n0_ n1_; clear hb ho6; obtain ⟨Ao7, co7, eo7⟩ := Kd.R_slice HO106.out; subst eo7) | ((with_reducible refine gate_callee (f := 147) rfl ?_); refine goesL_ (some 9) rfl rfl Tryz.func147 (by kernel_rfl) rfl #[.slice A0 l0.length c0, .slice Ao7 y104.length co7] rfl (by (try simp only [List.map_toArray, List.map_cons, List.map_nil]); first | done | rfl | (simp only [List.length_drop, List.length_take]; rfl)) ?_; (with_reducible refine (shape_Num.calls _ _ l0 _ _ y104 t107 _ ?side1 ?side2 ?side3 ?side4 A3.out).mono ?_); (case side1 => exact stC (Kd.C_below HR0.out HB.out)); (case side2 => exact HC0.out); (case side3 => exact stC ((Kd.R_reads' HO106.out).2.2)); (case side4 => exact (Kd.R_reads' HO106.out).2.1); rintro e w8 ⟨v108, rfl, ho0, hb⟩; refine ⟨_, rfl, ?_⟩; have n0_ := Aside0.mk (Kd.R_below (stR HO106.out) hb); have n1_ := Aside0.mk (Kd.R_lower ho0 (below_size (stB HB.out))); have n2_ := Aside0.mk (below_step (stB HB.out) hb); clear HO106; clear HB; have HO106 := n0_; have HO109 := n1_; have HB := n2_; clear n0_ n1_ n2_; (try clear hb); (try clear hb2); (try clear hk); (try clear hi); (try clear ho0)) | ((with_reducible refine gate_builtin (b := .append) (xs := #[.tmp 9, .tmp 10]) rfl ?_); at_builtin; refine Kd.R_append_rows (Kd.int .u8) (w0 := w) w.heap.size rfl (.tmp 9) (.tmp 10) 23 5 (.int .u8 0) 1 rfl Tryz.underlying23 info5 rfl (by decide) (by omega) v108 t107 l1 _ _ _ (fun _ => True) (fun _ => False) rfl rfl ?aO ?aR (fun _ _ h => h) (fun _ h => h.elim) ?aF ?aB ?aS ?aL ?_; (case aR => exact stC (Kd.C_below HR1.out HB.out)); (case aB => exact (stB HB.out)); (case aF => exact (fun _ _ => trivial)); (case aO => exact (stR HO109.out)); (case aS => exact (below_size (stB HB.out))); (case aL => have := LMc4.out; omega); intro v111 w9 ho hb hg hat; rw [← Ny110.out] at ho; have n0_ := Aside0.mk (Kd.R_over' (stR HO106.out) (Kd.R_typed (stR HO109.out)) (by decide) hg); have n1_ := Aside0.mk (hb); have n2_ := Aside0.mk (ho); clear HO106; clear HB; clear HO109; have HO106 := n0_; have HB := n1_; have HO112 := n2_; clear n0_ n1_ n2_; clear ho hb hg hat))
  go_ret
  exact ⟨_, by first | rfl | (simp [errW_none, errW_some] <;> rfl) | (simp [*, errW_none, errW_some] <;> rfl), stR HO112.out, stB HB.out⟩
 ·rw [if_neg c4] at H
  exact absurd H (by simp)
end Go.Proofs.YtgiefblcckikeaaGreat.G
end

section
/- record.between: do all numbers lie between two? -/
namespace Go.Proofs.YtgiefblcckikeaaGreat.M
open Go.RowKit Go.Proofs.YtgiefblcckikeaaGreatW.PrintWords Go.Proofs.YtgiefblcckikeaaGreatW.PrintLast Go.Proofs.YtgiefblcckikeaaGreatW.PrintMore
def inB (lo hi : Int) (l : List Int) : Bool := l.all fun x => decide (lo ≤ x) && decide (x ≤ hi)
def outB (lo hi x : Int) : Bool := !(decide (lo ≤ x) && decide (x ≤ hi))
theorem between1_is (x lo hi : Int) (p q : Nat) {w : World} (h0 : w.cell? ⟨p, 0, none⟩ = some (.int .i64 lo)) (h1 : w.cell? ⟨q, 0, none⟩ = some (.int .i64 hi)) :
  Calls Tryz.prog 140 #[.int .i64 x, .pointer (some ⟨p, 0, none⟩), .pointer (some ⟨q, 0, none⟩)] w fun e w' => e = .returned (.bool (outB lo hi x)) ∧ w = w' := by
 by_cases a : x < lo
 ·have ab : decide (x < lo) = true := decide_eq_true a
  have HR := Lib.hid (show outB lo hi x = true by unfold outB; rw [decide_eq_false (by omega : ¬ lo ≤ x)]; rfl)
  clear a
  go_enter Tryz.func140, Tryz.ntmps140
  go_wp2
  go_ret
  rw [HR.out]
  exact ⟨rfl, rfl⟩
 ·have ab : decide (x < lo) = false := decide_eq_false a
  have HR := Lib.hid (show outB lo hi x = decide (hi < x) by
   unfold outB
   rw [decide_eq_true (by omega : lo ≤ x), Bool.true_and, ← decide_not]
   exact decide_eq_decide.2 (by omega))
  clear a
  go_enter Tryz.func140, Tryz.ntmps140
  go_wp2
  go_ret
  rw [HR.out]
  exact ⟨rfl, rfl⟩
def BtV (l : List Int) (lo hi : Int) (w : World) (e : Ending) (w' : World) : Prop := ∃ i : Int, e = .returned (.int .i64 i) ∧ (0 ≤ i ↔ inB lo hi l = false) ∧ w = w'
def BtI (l : List Int) (lo hi : Int) (i : Value) : Prop := ∃ k : Nat, k ≤ l.length ∧ i = .int .i64 k ∧ inB lo hi (l.take k) = true
set_option maxHeartbeats 1000000 in
theorem btw_index (A : Option Addr) (c : Nat) (l : List Int) (lo hi : Int) (p q : Nat) (w : World) (hr : Kd.C (Kd.int .i64) w A l.length l) (h0 : w.cell? ⟨p, 0, none⟩ = some (.int .i64 lo)) (h1 : w.cell? ⟨q, 0, none⟩ = some (.int .i64 hi)) :
  Calls Tryz.prog 162 #[.slice A l.length c, .func (.func 140) #[] #[.pointer (some ⟨p, 0, none⟩), .pointer (some ⟨q, 0, none⟩)]] w fun e w' => BtV l lo hi w e w' := by
 have hlm : l.length ≤ 9223372036854775807 := hr.2.1
 have HR := Lib.hid hr; have H0 := Lib.hid h0; have H1 := Lib.hid h1
 clear hr h0 h1
 go_enter Tryz.func162, Tryz.ntmps162
 go_wp2_with fail
 go_loop [8] (fun i => BtI l lo hi i) (fun i => l.length - (intOf i).toNat)
 case atStart => exact ⟨0, Nat.zero_le _, rfl, by simp [inB]⟩
 case round =>
  obtain ⟨k, hk, rfl, hin⟩ := hrel
  have HIN := Lib.hid hin
  clear hin
  by_cases hlt : k < l.length
  ·obtain ⟨x, hx⟩ : ∃ x, l[k]? = some x := ⟨_, List.getElem?_eq_getElem hlt⟩
   obtain ⟨ad, rfl, _⟩ := HR.out.2.2 (by omega)
   have hc := C_cells HR.out ad rfl k (.int .i64 x) (by rw [List.getElem?_map, hx]; rfl)
   have HX := Lib.hid (show l.take (k + 1) = l.take k ++ [x] by rw [List.take_add_one, hx]; rfl)
   have HM := Lib.hid (List.mem_of_getElem? hx)
   clear hx
   go_wp2_with fail
   refine (between1_is x lo hi p q H0.out H1.out).mono ?_
   rintro e w' ⟨rfl, rfl⟩
   cases ho : outB lo hi x with
   | true =>
    have HB := Lib.hid (show inB lo hi l = false by
     unfold inB
     rw [List.all_eq_false]
     refine ⟨x, HM.out, fun h2 => ?_⟩
     unfold outB at ho
     rw [h2] at ho
     cases ho)
    clear ho
    go_wp2_with fail
    go_ret
    exact ⟨k, rfl, ⟨fun _ => HB.out, fun _ => by omega⟩, rfl⟩
   | false =>
    have HB := Lib.hid (show inB lo hi (l.take (k + 1)) = true by
     rw [HX.out]
     have := HIN.out
     unfold inB at this ⊢
     rw [List.all_append, this]
     unfold outB at ho
     simpa using ho)
    clear ho
    go_wp2_with fail
    go_round
    case rel => exact ⟨k + 1, hlt, by go_num, HB.out⟩
    case measure => simp [intOf]; omega
  ·have HB := Lib.hid (show inB lo hi l = true by have := HIN.out; rwa [List.take_of_length_le (by omega)] at this)
   go_wp2_with fail
   go_ret
   exact ⟨-1, rfl, ⟨fun h => by omega, fun h => by rw [HB.out] at h; cases h⟩, rfl⟩
theorem btw_has (A : Option Addr) (c : Nat) (l : List Int) (lo hi : Int) (p q : Nat) (w : World) (hr : Kd.C (Kd.int .i64) w A l.length l) (h0 : w.cell? ⟨p, 0, none⟩ = some (.int .i64 lo)) (h1 : w.cell? ⟨q, 0, none⟩ = some (.int .i64 hi)) :
  Calls Tryz.prog 139 #[.slice A l.length c, .func (.func 140) #[] #[.pointer (some ⟨p, 0, none⟩), .pointer (some ⟨q, 0, none⟩)]] w fun e w' => e = .returned (.bool (!inB lo hi l)) ∧ w = w' := by
 have H := Lib.hid (btw_index A c l lo hi p q w hr h0 h1)
 clear hr h0 h1
 go_enter Tryz.func139, Tryz.ntmps139
 go_wp2_with fail
 refine H.out.mono ?_
 rintro e w' ⟨i, rfl, hi, rfl⟩
 have HI := Lib.hid hi
 clear hi
 go_wp2_with fail
 go_ret
 refine ⟨?_, rfl⟩
 show Ending.returned (.bool (decide (0 ≤ i))) = _
 cases hb : inB lo hi l with
 | true => rw [decide_eq_false (fun h => by have := HI.out.1 h; rw [hb] at this; cases this)]; rfl
 | false => rw [decide_eq_true (HI.out.2 hb)]; rfl
theorem between_is (A : Option Addr) (c : Nat) (l : List Int) (lo hi : Int) (w : World) (hr : Kd.C (Kd.int .i64) w A l.length l) :
  Calls Tryz.prog 81 #[.int .i64 lo, .int .i64 hi, .slice A l.length c] w fun e w' => e = .returned (.bool (inB lo hi l)) ∧ Below w.heap.size w w' := by
 have hmf : ∀ (fn : Fn) (first cap : Array Value) (w : World), (Instr.makeFunc fn first cap).run Tryz.prog w = .ok (.func fn first cap) w := fun _ _ _ _ => rfl
 have HB := Lib.hid (show Below w.heap.size w ((w.alloc (.cells #[.int .i64 lo] 2)).alloc (.cells #[.int .i64 hi] 2)) from ((Below.refl _ w).alloc (Nat.le_refl _) _).alloc (by simp) _)
 have H := Lib.hid (btw_has A c l lo hi w.heap.size (w.heap.size + 1) _ (Kd.C_below hr HB.out) (by
  rw [World.cell?_of_block (Below.heap_alloc _ _ _ (by simp))]
  exact Joins.cell_alloc_mark_at w #[.int .i64 lo] 2 (0, 0) w.heap.size 0 rfl) (Joins.cell_alloc_mark_at (w.alloc (.cells #[.int .i64 lo] 2)) #[.int .i64 hi] 2 (0, 0) (w.heap.size + 1) 0 (by simp)))
 clear hr
 go_enter Tryz.func81, Tryz.ntmps81
 go_wp2_with fail
 refine H.out.mono ?_
 rintro e w' ⟨rfl, rfl⟩
 go_wp2_with fail
 go_ret
 exact ⟨by simp, HB.out⟩
end Go.Proofs.YtgiefblcckikeaaGreat.M
namespace Go.Proofs.YtgiefblcckikeaaGreat.G
open Go.RowKit Go.Proofs.YtgiefblcckikeaaGreatW.PrintWords Go.Proofs.YtgiefblcckikeaaGreat.M
def record_between.f (a0 a1 : Int) (l2 : List Int) : Option Bool := some (inB a0 a1 l2)
theorem record_between.calls (a0 a1 : Int) (A2 : Option Addr) (c2 : Nat) (l2 : List Int) (r : Bool) (w : World) (hr2 : Kd.C (Kd.int .i64) w A2 l2.length l2) (hc2 : l2.length ≤ c2) (h : record_between.f a0 a1 l2 = some r) :
  Calls Tryz.prog 81 #[.int .i64 a0, .int .i64 a1, .slice A2 l2.length c2] w fun e w' => e = .returned (.bool r) ∧ Below w.heap.size w w' := by
 obtain rfl := Option.some.inj h
 exact between_is A2 c2 l2 a0 a1 w hr2
end Go.Proofs.YtgiefblcckikeaaGreat.G
end

section
-- Written by a program of this session's (wip/gprint.py over the kit's printer).
namespace Go.Proofs.YtgiefblcckikeaaGreat.G
open Go.RowKit Go.Proofs.YtgiefblcckikeaaGreatW.PrintWords Go.Proofs.YtgiefblcckikeaaGreatW.PrintLast Go.Proofs.YtgiefblcckikeaaGreatW.PrintMore
attribute [local go_sem] max2_int min2_int max_two min_two max_three min_three max_four min_four   -- for this text's walks alone
def record_who.f (a0 : Int) : Option (Bool) := (record_between.f 0 4 (([a0] : List Int))).bind fun t126 => (some t126)
set_option maxHeartbeats 8000000 in
set_option maxRecDepth 100000 in
theorem record_who.calls (a0 : Int) (r : Bool) (w : World) (h : record_who.f a0 = some r) :
  Calls Tryz.prog 83 #[.int .i64 a0] w fun e w' => e = .returned (.bool r) ∧ Below w.heap.size w w' := by
 have HB := Aside0.mk (Below.refl w.heap.size w)
 have H : ((record_between.f 0 4 (([a0] : List Int))).bind fun t126 => (some t126)) = some r := h
 clear h
 obtain ⟨y123, hy123⟩ : ∃ y_ : List Int, y_ = (([a0] : List Int)) := ⟨_, rfl⟩
 replace H : ((record_between.f 0 4 y123).bind fun t126 => (some t126)) = some r := by first | (rw [hy123]; with_reducible exact H) | (have H2_ := (Option.bind_some _ _).symm.trans H; rw [hy123]; with_reducible exact H2_) | (have H2_ := (Option.bind_some _ _).symm.trans H; with_reducible exact H2_) | with_reducible exact H | (rw [hy123]; exact H) | exact H
 have Ny123 := Aside0.mk hy123
 clear hy123
 replace H := Option.bind_eq_some_iff.mp H
 obtain ⟨t126, A20, H⟩ := H
 replace H : (some t126) = some r := H
 have A2 := Aside0.mk A20
 clear A20
 obtain rfl := Option.some.inj H
 go_enter Tryz.func83, Tryz.ntmps83
 go_wp2_with (first | ((with_reducible refine gate_dst (N := 4) rfl ?_); refine Kd.R_lit (Kd.int .i64) _ 2 ?hg (N := 4) ?hd (xs := ([a0] : List Int)) (inner := [.int .i64 a0]) (ok := fun _ => True) (okp := fun _ => True) ?hr ?hp (fun _ hk => hk) trivial (Below.refl _ _) (Nat.le_refl _) (by simp) ?_; (case hd => rfl); (case hg => rfl); (case hr => first | (go_simp; done) | (go_simp; rfl)); (case hp => exact (Reps.one (show Kd.M (Kd.int .i64) _ _ _ a0 [.int .i64 a0] from rfl) (Reps.none _ _))); intro v124 w3 ho4 hb hg_ hnew_; clear hg_ hnew_; (first | rw [← Ny123.out] at ho4 | (simp only [Int.reduceToNat] at ho4; rw [← Ny123.out] at ho4)); have n0_ := Aside0.mk (Kd.R_lower ho4 (below_size (stB HB.out))); have n1_ := Aside0.mk (below_step (stB HB.out) hb); clear HB; have HO125 := n0_; have HB := n1_; clear n0_ n1_; clear hb ho4; obtain ⟨Ao5, co5, eo5⟩ := Kd.R_slice HO125.out; subst eo5) | ((with_reducible refine gate_callee (f := 81) rfl ?_); refine goesL_ (some 5) rfl rfl Tryz.func81 (by kernel_rfl) rfl #[.int .i64 0, .int .i64 4, .slice Ao5 y123.length co5] rfl (by (try simp only [List.map_toArray, List.map_cons, List.map_nil]); first | done | rfl | (simp only [List.length_drop, List.length_take]; rfl)) ?_; (with_reducible refine (record_between.calls 0 4 _ _ y123 t126 _ ?side1 ?side2 A2.out).mono ?_); (case side1 => exact stC ((Kd.R_reads' HO125.out).2.2)); (case side2 => exact (Kd.R_reads' HO125.out).2.1); rintro e w6 ⟨rfl, hb⟩; refine ⟨_, rfl, ?_⟩; have n0_ := Aside0.mk (Kd.R_below (stR HO125.out) hb); have n1_ := Aside0.mk (below_step (stB HB.out) hb); clear HO125; clear HB; have HO125 := n0_; have HB := n1_; clear n0_ n1_; (try clear hb); (try clear hb2); (try clear hk); (try clear hi)))
 go_ret
 exact ⟨by first | rfl | (simp [errW_none, errW_some] <;> rfl) | (simp [*, errW_none, errW_some] <;> rfl), stB HB.out⟩
def record_count.f (l0 : List Int) : Option (Bool) := (record_between.f 0 1099511627776 l0).bind fun t127 => (some t127)
set_option maxHeartbeats 8000000 in
set_option maxRecDepth 100000 in
theorem record_count.calls (A0 : Option Addr) (c0 : Nat) (l0 : List Int) (r : Bool) (w : World) (hr0 : Kd.C (Kd.int .i64) w A0 l0.length l0) (hc0 : l0.length ≤ c0) (h : record_count.f l0 = some r) :
  Calls Tryz.prog 84 #[.slice A0 l0.length c0] w fun e w' => e = .returned (.bool r) ∧ Below w.heap.size w w' := by
 have HR0 := Aside0.mk hr0
 have HC0 := Aside0.mk hc0
 clear hr0 hc0
 have HB := Aside0.mk (Below.refl w.heap.size w)
 have H : ((record_between.f 0 1099511627776 l0).bind fun t127 => (some t127)) = some r := h
 clear h
 replace H := Option.bind_eq_some_iff.mp H
 obtain ⟨t127, A20, H⟩ := H
 replace H : (some t127) = some r := H
 have A2 := Aside0.mk A20
 clear A20
 obtain rfl := Option.some.inj H
 go_enter Tryz.func84, Tryz.ntmps84
 go_wp2_with (first | ((with_reducible refine gate_callee (f := 81) rfl ?_); refine goesL_ (some 4) rfl rfl Tryz.func81 (by kernel_rfl) rfl #[.int .i64 0, .int .i64 1099511627776, .slice A0 l0.length c0] rfl (by (try simp only [List.map_toArray, List.map_cons, List.map_nil]); first | done | rfl | (simp only [List.length_drop, List.length_take]; rfl)) ?_; (with_reducible refine (record_between.calls 0 1099511627776 _ _ l0 t127 _ ?side1 ?side2 A2.out).mono ?_); (case side1 => exact stC HR0.out); (case side2 => exact HC0.out); rintro e w3 ⟨rfl, hb⟩; refine ⟨_, rfl, ?_⟩; have n0_ := Aside0.mk (below_step (stB HB.out) hb); clear HB; have HB := n0_; clear n0_; (try clear hb); (try clear hb2); (try clear hk); (try clear hi)))
 go_ret
 exact ⟨by first | rfl | (simp [errW_none, errW_some] <;> rfl) | (simp [*, errW_none, errW_some] <;> rfl), stB HB.out⟩
end Go.Proofs.YtgiefblcckikeaaGreat.G
end

section
-- Written by a program of this session's (wip/gprint.py over the kit's printer).
namespace Go.Proofs.YtgiefblcckikeaaGreat.G
open Go.RowKit Go.Proofs.YtgiefblcckikeaaGreatW.PrintWords Go.Proofs.YtgiefblcckikeaaGreatW.PrintLast Go.Proofs.YtgiefblcckikeaaGreatW.PrintMore
attribute [local go_sem] max2_int min2_int max_two min_two max_three min_three max_four min_four   -- for this text's walks alone
end Go.Proofs.YtgiefblcckikeaaGreat.G
end

section
/- cmp.Compare, cmp.Or, record.keys' order. -/
namespace Go.Proofs.YtgiefblcckikeaaGreat.M
open Go.RowKit Go.Proofs.YtgiefblcckikeaaGreatW.PrintWords Go.Proofs.YtgiefblcckikeaaGreatW.PrintLast Go.Proofs.YtgiefblcckikeaaGreatW.PrintMore Go.Proofs.YtgiefblcckikeaaGreat.G
def kLt (x y : Int × Int) : Bool := decide (x.1 < y.1) || (decide (x.1 = y.1) && decide (x.2 < y.2))
def cmpI (x y : Int) : Int := if x < y then -1 else if y < x then 1 else 0
def cmpK (x y : Int × Int) : Int := if cmpI x.1 y.1 = 0 then cmpI x.2 y.2 else cmpI x.1 y.1
theorem cmpK_neg (x y : Int × Int) : (cmpK x y < 0 ↔ kLt x y = true) := by
 unfold cmpK cmpI kLt
 simp only [Bool.or_eq_true, Bool.and_eq_true, decide_eq_true_eq]
 repeat' split
 all_goals omega
theorem nan32 (x : Int) (w : World) : Calls Tryz.prog 137 #[.int .i32 x] w fun e w' => e = .returned (.bool false) ∧ w' = w := by
 go_enter Tryz.func137, Tryz.ntmps137
 go_wp2
 go_ret
 exact ⟨rfl, rfl⟩
theorem nan64 (x : Int) (w : World) : Calls Tryz.prog 138 #[.int .i64 x] w fun e w' => e = .returned (.bool false) ∧ w' = w := by
 go_enter Tryz.func138, Tryz.ntmps138
 go_wp2
 go_ret
 exact ⟨rfl, rfl⟩
theorem cmp32 (x y : Int) (w : World) : Calls Tryz.prog 76 #[.int .i32 x, .int .i32 y] w fun e w' => e = .returned (.int .i64 (cmpI x y)) ∧ w' = w := by
 obtain ⟨r, hr⟩ : ∃ r, cmpI x y = r := ⟨_, rfl⟩
 have HR := Lib.hid hr
 rw [hr]
 clear hr
 rcases Int.lt_trichotomy x y with h | h | h
 ·have h1 : decide (x < y) = true := decide_eq_true h
  have HV := Lib.hid (show r = -1 by rw [← HR.out]; unfold cmpI; rw [if_pos h])
  rw [HV.out]
  clear h
  go_enter Tryz.func76, Tryz.ntmps76
  go_wp2_with (go_at_call 137; refine (nan32 _ _).mono ?_; rintro e w' ⟨rfl, rfl⟩)
  go_ret
  exact ⟨rfl, rfl⟩
 ·subst h
  have HV := Lib.hid (show r = 0 by rw [← HR.out]; unfold cmpI; simp)
  rw [HV.out]
  go_enter Tryz.func76, Tryz.ntmps76
  go_wp2_with (go_at_call 137; refine (nan32 _ _).mono ?_; rintro e w' ⟨rfl, rfl⟩)
  go_ret
  exact ⟨rfl, rfl⟩
 ·have h1 : decide (x < y) = false := decide_eq_false (by omega)
  have h2 : decide (y < x) = true := decide_eq_true h
  have HV := Lib.hid (show r = 1 by rw [← HR.out]; unfold cmpI; rw [if_neg (by omega), if_pos h])
  rw [HV.out]
  clear h
  go_enter Tryz.func76, Tryz.ntmps76
  go_wp2_with (go_at_call 137; refine (nan32 _ _).mono ?_; rintro e w' ⟨rfl, rfl⟩)
  go_ret
  exact ⟨rfl, rfl⟩
theorem cmp64 (x y : Int) (w : World) : Calls Tryz.prog 77 #[.int .i64 x, .int .i64 y] w fun e w' => e = .returned (.int .i64 (cmpI x y)) ∧ w' = w := by
 obtain ⟨r, hr⟩ : ∃ r, cmpI x y = r := ⟨_, rfl⟩
 have HR := Lib.hid hr
 rw [hr]
 clear hr
 rcases Int.lt_trichotomy x y with h | h | h
 ·have h1 : decide (x < y) = true := decide_eq_true h
  have HV := Lib.hid (show r = -1 by rw [← HR.out]; unfold cmpI; rw [if_pos h])
  rw [HV.out]
  clear h
  go_enter Tryz.func77, Tryz.ntmps77
  go_wp2_with (go_at_call 138; refine (nan64 _ _).mono ?_; rintro e w' ⟨rfl, rfl⟩)
  go_ret
  exact ⟨rfl, rfl⟩
 ·subst h
  have HV := Lib.hid (show r = 0 by rw [← HR.out]; unfold cmpI; simp)
  rw [HV.out]
  go_enter Tryz.func77, Tryz.ntmps77
  go_wp2_with (go_at_call 138; refine (nan64 _ _).mono ?_; rintro e w' ⟨rfl, rfl⟩)
  go_ret
  exact ⟨rfl, rfl⟩
 ·have h1 : decide (x < y) = false := decide_eq_false (by omega)
  have h2 : decide (y < x) = true := decide_eq_true h
  have HV := Lib.hid (show r = 1 by rw [← HR.out]; unfold cmpI; rw [if_neg (by omega), if_pos h])
  rw [HV.out]
  clear h
  go_enter Tryz.func77, Tryz.ntmps77
  go_wp2_with (go_at_call 138; refine (nan64 _ _).mono ?_; rintro e w' ⟨rfl, rfl⟩)
  go_ret
  exact ⟨rfl, rfl⟩
def OrL (x y : Int) (i : Value) : Prop := (i = .int .i64 0) ∨ (i = .int .i64 1 ∧ x = 0) ∨ (i = .int .i64 2 ∧ x = 0 ∧ y = 0)
theorem or2 (x y : Int) (g : Nat) (w : World) (h0 : w.cell? ⟨g, 0, none⟩ = some (.int .i64 x)) (h1 : w.cell? ⟨g, 1, none⟩ = some (.int .i64 y)) : Calls Tryz.prog 75 #[.slice (some ⟨g, 0, none⟩) 2 2] w fun e w' => e = .returned (.int .i64 (if x = 0 then y else x)) ∧ w' = w := by
 obtain ⟨r, hr⟩ : ∃ r, (if x = 0 then y else x) = r := ⟨_, rfl⟩
 have HR := Lib.hid hr
 rw [hr]
 clear hr
 go_enter Tryz.func75, Tryz.ntmps75
 go_wp2
 go_loopw [8] (fun i wr => Aside0 (wr = w) ∧ OrL x y i) (fun i _ => 2 - (intOf i).toNat)
 case atStart => exact ⟨⟨rfl⟩, .inl rfl⟩
 case round =>
  obtain ⟨⟨rfl⟩, hrel⟩ := hrel
  rcases hrel with rfl | ⟨rfl, hx⟩ | ⟨rfl, hx, hy⟩
  ·by_cases hx : x = 0
   ·subst hx
    go_wp2
    go_roundw
    case rel => exact ⟨⟨trivial⟩, .inr (.inl ⟨rfl, rfl⟩)⟩
    case measure => simp [intOf]
   ·have hxb : (x != 0) = true := by simp [hx]
    have HV := Lib.hid (show r = x by rw [← HR.out, if_neg hx])
    clear hx
    go_wp2
    go_ret
    exact ⟨by rw [HV.out]; rfl, rfl⟩
  ·subst hx
   by_cases hy : y = 0
   ·subst hy
    go_wp2
    go_roundw
    case rel => exact ⟨⟨trivial⟩, .inr (.inr ⟨rfl, rfl, rfl⟩)⟩
    case measure => simp [intOf]
   ·have hxb : (y != 0) = true := by simp [hy]
    have HV := Lib.hid (show r = y by rw [← HR.out, if_pos rfl])
    clear hy
    go_wp2
    go_ret
    exact ⟨by rw [HV.out]; rfl, rfl⟩
  ·have HV := Lib.hid (show r = 0 by rw [← HR.out, if_pos hx, hy])
   clear hx hy
   go_wp2
   go_ret
   exact ⟨by rw [HV.out]; rfl, rfl⟩
theorem cellUp (W : World) {a : Addr} {v : Value} (o : Obj) (h : W.cell? a = some v) : (W.alloc o).cell? a = some v := Lib.cell?_alloc_some o h
set_option maxHeartbeats 1000000 in
theorem compare_is (a b : Int × Int) (w : World) : Calls Tryz.prog 74 #[.agg #[.int .i32 a.1, .int .i64 a.2], .agg #[.int .i32 b.1, .int .i64 b.2]] w fun e w' => e = .returned (.int .i64 (cmpK a b)) ∧ Below w.heap.size w w' := by
 obtain ⟨r, hr⟩ : ∃ r, cmpK a b = r := ⟨_, rfl⟩
 have HR := Lib.hid hr
 rw [hr]
 clear hr
 have HB := Lib.hid (show Below w.heap.size w ((w.alloc (.cells #[.int .i32 a.1, .int .i64 a.2] 101)).alloc (.cells #[.int .i32 b.1, .int .i64 b.2] 101)) from ((Below.refl _ _).alloc (Nat.le_refl _) _).alloc (by simp) _)
 go_enter Tryz.func74, Tryz.ntmps74
 go_wp2_with fail
 have c0 := cellUp (w.alloc (.cells #[.int .i32 a.1, .int .i64 a.2] 101)) (.cells #[.int .i32 b.1, .int .i64 b.2] 101) (Joins.cell_alloc_mark_at w #[.int .i32 a.1, .int .i64 a.2] 101 (0, 0) w.heap.size 0 rfl)
 have c1 := cellUp (w.alloc (.cells #[.int .i32 a.1, .int .i64 a.2] 101)) (.cells #[.int .i32 b.1, .int .i64 b.2] 101) (Joins.cell_alloc_mark_at w #[.int .i32 a.1, .int .i64 a.2] 101 (0, 0) w.heap.size 1 rfl)
 have d0 := Joins.cell_alloc_mark_at (w.alloc (.cells #[.int .i32 a.1, .int .i64 a.2] 101)) #[.int .i32 b.1, .int .i64 b.2] 101 (0, 0) (w.heap.size + 1) 0 (by simp)
 have d1 := Joins.cell_alloc_mark_at (w.alloc (.cells #[.int .i32 a.1, .int .i64 a.2] 101)) #[.int .i32 b.1, .int .i64 b.2] 101 (0, 0) (w.heap.size + 1) 1 (by simp)
 obtain ⟨w3, hW⟩ : ∃ w3, (w.alloc (.cells #[.int .i32 a.1, .int .i64 a.2] 101)).alloc (.cells #[.int .i32 b.1, .int .i64 b.2] 101) = w3 := ⟨_, rfl⟩
 rw [hW] at HB c0 c1 d0 d1
 rw [hW]
 clear hW
 refine wp_region_still_tail 10 (by kernel_rfl) (by kernel_rfl) ?_
 simp only [List.take_succ_cons, List.take_zero, List.drop_succ_cons, List.drop_zero]
 still_step
 still_step
 still_step
 still_step
 still_call (cmp32 _ _ _)
 still_step
 still_step
 still_step
 still_step
 still_call (cmp64 _ _ _)
 refine wpStill_nil ?_
 change wpList _ _ _ _ _ w3.drew
 go_wp2_with fail
 have e0 : (w3.alloc (.cells #[.int .i64 (cmpI a.1 b.1), .int .i64 (cmpI a.2 b.2)] 3)).drew.cell? ⟨w3.heap.size, 0, none⟩ = some (.int .i64 (cmpI a.1 b.1)) := Joins.cell_alloc_mark_at w3 #[.int .i64 (cmpI a.1 b.1), .int .i64 (cmpI a.2 b.2)] 3 (0, 0) w3.heap.size 0 rfl
 have e1 : (w3.alloc (.cells #[.int .i64 (cmpI a.1 b.1), .int .i64 (cmpI a.2 b.2)] 3)).drew.cell? ⟨w3.heap.size, 1, none⟩ = some (.int .i64 (cmpI a.2 b.2)) := Joins.cell_alloc_mark_at w3 #[.int .i64 (cmpI a.1 b.1), .int .i64 (cmpI a.2 b.2)] 3 (0, 0) w3.heap.size 1 rfl
 have hsz : w.heap.size ≤ w3.heap.size := HB.out.size
 have HB2 := Lib.hid (show Below w.heap.size w (w3.alloc (.cells #[.int .i64 (cmpI a.1 b.1), .int .i64 (cmpI a.2 b.2)] 3)).drew from (HB.out.alloc hsz _).drew)
 refine (or2 _ _ _ _ e0 e1).mono ?_
 rintro e w' ⟨rfl, rfl⟩
 have HV := Lib.hid (show (if cmpI a.1 b.1 = 0 then cmpI a.2 b.2 else cmpI a.1 b.1) = r by rw [← HR.out]; rfl)
 rw [HV.out]
 clear e0 e1 c0 c1 d0 d1
 go_wp2_with fail
 go_ret
 exact ⟨rfl, HB2.out⟩
end Go.Proofs.YtgiefblcckikeaaGreat.M
end

section
-- Written by a program of this session's (wip/gprint.py over the kit's printer).
namespace Go.Proofs.YtgiefblcckikeaaGreat.G
open Go.RowKit Go.Proofs.YtgiefblcckikeaaGreatW.PrintWords Go.Proofs.YtgiefblcckikeaaGreatW.PrintLast Go.Proofs.YtgiefblcckikeaaGreatW.PrintMore
attribute [local go_sem] max2_int min2_int max_two min_two max_three min_three max_four min_four   -- for this text's walks alone
theorem eqA101 (d : Nat) (w : World) (x0 y0 : Int) (x1 y1 : Int) :
  (Op.equalIn (d + 2) 101 (.agg #[.int .i32 x0, .int .i64 x1]) (.agg #[.int .i32 y0, .int .i64 y1])).run Tryz.prog w = .ok (x0 == y0 && (x1 == y1)) w := by
 refine eqA_of Tryz.underlying101 (by kernel_rfl) ?_
 refine eqf_cons (by rfl) (by go_simp; rfl) (by go_simp; rfl) (by go_simp) ?_
 exact eqf_last (by rfl) (by go_simp; rfl) (by go_simp; rfl) (by go_simp)
end Go.Proofs.YtgiefblcckikeaaGreat.G
end

section
-- Written by a program of this session's (wip/gprint.py over the kit's printer).
namespace Go.Proofs.YtgiefblcckikeaaGreat.G
open Go.RowKit Go.Proofs.YtgiefblcckikeaaGreatW.PrintWords Go.Proofs.YtgiefblcckikeaaGreatW.PrintLast Go.Proofs.YtgiefblcckikeaaGreatW.PrintMore
attribute [local go_sem] max2_int min2_int max_two min_two max_three min_three max_four min_four   -- for this text's walks alone
attribute [local go_sem high] eqA101
def bytes_Equal.f (l0 : List Int) (l1 : List Int) : Option (Bool) := some ((strOfNums l0).toList == (strOfNums l1).toList)
set_option maxHeartbeats 8000000 in
set_option maxRecDepth 100000 in
theorem bytes_Equal.calls (A0 : Option Addr) (c0 : Nat) (l0 : List Int) (A1 : Option Addr) (c1 : Nat) (l1 : List Int) (r : Bool) (w : World) (hr0 : Kd.C (Kd.int .u8) w A0 l0.length l0) (hc0 : l0.length ≤ c0) (hr1 : Kd.C (Kd.int .u8) w A1 l1.length l1) (hc1 : l1.length ≤ c1) (h : bytes_Equal.f l0 l1 = some r) :
  Calls Tryz.prog 22 #[.slice A0 l0.length c0, .slice A1 l1.length c1] w fun e w' => e = .returned (.bool r) ∧ Drawn0 w w' := by
 have HR0 := Aside0.mk hr0
 have HC0 := Aside0.mk hc0
 clear hr0 hc0
 have HR1 := Aside0.mk hr1
 have HC1 := Aside0.mk hc1
 clear hr1 hc1
 have H : (some ((strOfNums l0).toList == (strOfNums l1).toList)) = some r := h
 clear h
 obtain rfl := Option.some.inj H
 have hcv3 := Kd.C_string (P := Tryz.prog) (A := A0) (c := c0) Tryz.underlying23 Tryz.underlying5 Tryz.underlying9 HR0.out
 have hcv4 := Kd.C_string (P := Tryz.prog) (A := A1) (c := c1) Tryz.underlying23 Tryz.underlying5 Tryz.underlying9 HR1.out
 go_enter Tryz.func22, Tryz.ntmps22
 go_wp2
 go_ret
 exact ⟨by first | rfl | (simp; done) | (simp [*]; done), by repeat (first | exact Drawn0.refl _ | apply Drawn0.step)⟩
def slices_Equal_int64_int64.l0 : Nat → List Int → List Int → Int → Int → Option (Bool)
 | 0, _, _, _, _ => none
 | k + 1, x0, x1, x12, x13 => if x13 < x12 then (if 0 ≤ x13 then (if x13 < (x0.length : Int) then (if x13 < (x1.length : Int) then (if (rd x0 x13) = (rd x1 x13) then (slices_Equal_int64_int64.l0 k x0 x1 x12 (wrap64 (x13 + 1))) else (some false)) else (none)) else (none)) else (none)) else (some true)
def slices_Equal_int64_int64.f (k : Nat) (l0 : List Int) (l1 : List Int) : Option (Bool) := if (l0.length : Int) = (l1.length : Int) then (slices_Equal_int64_int64.l0 k l0 l1 (l0.length : Int) 0) else (some false)
set_option maxHeartbeats 8000000 in
set_option maxRecDepth 100000 in
theorem slices_Equal_int64_int64.calls (k : Nat) (A0 : Option Addr) (c0 : Nat) (l0 : List Int) (A1 : Option Addr) (c1 : Nat) (l1 : List Int) (r : Bool) (w : World) (hr0 : Kd.C (Kd.int .i64) w A0 l0.length l0) (hc0 : l0.length ≤ c0) (hr1 : Kd.C (Kd.int .i64) w A1 l1.length l1) (hc1 : l1.length ≤ c1) (h : slices_Equal_int64_int64.f k l0 l1 = some r) :
  Calls Tryz.prog 163 #[.slice A0 l0.length c0, .slice A1 l1.length c1] w fun e w' => e = .returned (.bool r) ∧ Drawn0 w w' := by
 have HR0 := Aside0.mk hr0
 have HC0 := Aside0.mk hc0
 clear hr0 hc0
 have HR1 := Aside0.mk hr1
 have HC1 := Aside0.mk hc1
 clear hr1 hc1
 have H : (if (l0.length : Int) = (l1.length : Int) then (slices_Equal_int64_int64.l0 k l0 l1 (l0.length : Int) 0) else (some false)) = some r := h
 clear h
 by_cases c3 : (l0.length : Int) = (l1.length : Int)
 ·rw [if_pos c3] at H
  have c3b0 : ((l0.length : Int) == (l1.length : Int)) = true := beq_iff_eq.mpr c3
  have c3b1 : ((l0.length : Int) != (l1.length : Int)) = false := bne_eq_false_iff_eq.mpr c3
  have c3b2 : (l0.length == l1.length) = true := by first | simpa using c3 | (simp at c3 ⊢; omega)
  clear c3
  have H' := Aside0.mk H
  clear H
  go_enter Tryz.func163, Tryz.ntmps163
  go_wp2
  repeat (go_quiet (fail); try go_wp2)
  go_loopg [13] k (fun kq v13 w' => ∃ (x13_1 : Int), v13 = .int .i64 x13_1 ∧ Aside0 (slices_Equal_int64_int64.l0 kq l0 l1 (l0.length : Int) x13_1 = some r) ∧ Aside0 (kq ≤ k) ∧ Drawn0 w w')
  case atStart => exact ⟨(0), (by first | rfl | (simp; done) | (simp [*]; done)), H', ⟨Nat.le_refl _⟩, by repeat (first | exact Drawn0.refl _ | apply Drawn0.step)⟩
  case round =>
   clear H'
   try clear c1
   try clear p2
   try clear c3
   try clear c3b0
   try clear c3b1
   try clear c3b2
   obtain ⟨x13_1, rfl, HA, HK1, ⟨m1, rfl⟩⟩ := hrel
   cases gk with
   | zero => exact absurd HA.out (by simp [slices_Equal_int64_int64.l0])
   | succ k1 =>
    have H := HA.out
    clear HA
    simp only [slices_Equal_int64_int64.l0] at H
    by_cases c4 : x13_1 < (l0.length : Int)
    ·rw [if_pos c4] at H
     have c4b0 : decide (x13_1 < (l0.length : Int)) = true := decide_eq_true c4
     clear c4
     by_cases c5 : 0 ≤ x13_1
     ·rw [if_pos c5] at H
      have c5b0 : decide (0 ≤ x13_1) = true := decide_eq_true c5
      clear c5
      by_cases c6 : x13_1 < (l0.length : Int)
      ·rw [if_pos c6] at H
       have c6b0 : decide (x13_1 < (l0.length : Int)) = true := decide_eq_true c6
       clear c6
       by_cases c7 : x13_1 < (l1.length : Int)
       ·rw [if_pos c7] at H
        have c7b0 : decide (x13_1 < (l1.length : Int)) = true := decide_eq_true c7
        clear c7
        by_cases c8 : (rd l0 x13_1) = (rd l1 x13_1)
        ·rw [if_pos c8] at H
         have c8b0 : ((rd l0 x13_1) == (rd l1 x13_1)) = true := beq_iff_eq.mpr c8
         have c8b1 : ((rd l0 x13_1) != (rd l1 x13_1)) = false := bne_eq_false_iff_eq.mpr c8
         clear c8
         have H' := Aside0.mk H
         clear H
         have p113 : 0 ≤ (x13_1 : Int) := of_decide_eq_true (by first | (with_reducible assumption) | assumption)
         have q113 : x13_1 < (l0.length : Int) := of_decide_eq_true (by first | (with_reducible assumption) | assumption)
         obtain ⟨ad113, e113, hx113_0⟩ := Kd.at_int HR0.out x13_1 p113 q113
         cases e113
         replace p113 := eq_true p113
         replace q113 := eq_true q113
         have p114 : 0 ≤ (x13_1 : Int) := of_decide_eq_true (by first | (with_reducible assumption) | assumption)
         have q114 : x13_1 < (l1.length : Int) := of_decide_eq_true (by first | (with_reducible assumption) | assumption)
         obtain ⟨ad114, e114, hx114_0⟩ := Kd.at_int HR1.out x13_1 p114 q114
         cases e114
         replace p114 := eq_true p114
         replace q114 := eq_true q114
         go_wp2
         repeat (go_quiet (fail); try go_wp2)
         go_roundg k1
         case measure => have := HK1.out; omega
         case rel => exact ⟨(wrap64 (x13_1 + 1)), (by first | rfl | (simp; done) | (simp [*]; done)), H', ⟨by have := HK1.out; omega⟩, by repeat (first | exact Drawn0.refl _ | apply Drawn0.step)⟩
        ·rw [if_neg c8] at H
         have c8b0 : ((rd l0 x13_1) == (rd l1 x13_1)) = false := beq_eq_false_iff_ne.mpr c8
         have c8b1 : ((rd l0 x13_1) != (rd l1 x13_1)) = true := bne_iff_ne.mpr c8
         obtain rfl := Option.some.inj H
         have p113 : 0 ≤ (x13_1 : Int) := of_decide_eq_true (by first | (with_reducible assumption) | assumption)
         have q113 : x13_1 < (l0.length : Int) := of_decide_eq_true (by first | (with_reducible assumption) | assumption)
         obtain ⟨ad113, e113, hx113_0⟩ := Kd.at_int HR0.out x13_1 p113 q113
         cases e113
         replace p113 := eq_true p113
         replace q113 := eq_true q113
         have p114 : 0 ≤ (x13_1 : Int) := of_decide_eq_true (by first | (with_reducible assumption) | assumption)
         have q114 : x13_1 < (l1.length : Int) := of_decide_eq_true (by first | (with_reducible assumption) | assumption)
         obtain ⟨ad114, e114, hx114_0⟩ := Kd.at_int HR1.out x13_1 p114 q114
         cases e114
         replace p114 := eq_true p114
         replace q114 := eq_true q114
         go_wp2
         repeat (go_quiet (fail); try go_wp2)
         go_ret
         exact ⟨by first | rfl | (simp; done) | (simp [*]; done), by repeat (first | exact Drawn0.refl _ | apply Drawn0.step)⟩
       ·rw [if_neg c7] at H
        exact absurd H (by simp)
      ·rw [if_neg c6] at H
       exact absurd H (by simp)
     ·rw [if_neg c5] at H
      exact absurd H (by simp)
    ·rw [if_neg c4] at H
     have c4b0 : decide (x13_1 < (l0.length : Int)) = false := decide_eq_false c4
     clear c4
     obtain rfl := Option.some.inj H
     go_wp2
     repeat (go_quiet (fail); try go_wp2)
     go_ret
     exact ⟨by first | rfl | (simp; done) | (simp [*]; done), by repeat (first | exact Drawn0.refl _ | apply Drawn0.step)⟩
 ·rw [if_neg c3] at H
  have c3b0 : ((l0.length : Int) == (l1.length : Int)) = false := beq_eq_false_iff_ne.mpr c3
  have c3b1 : ((l0.length : Int) != (l1.length : Int)) = true := bne_iff_ne.mpr c3
  have c3b2 : (l0.length == l1.length) = false := by first | simpa using c3 | (simp at c3 ⊢; omega)
  obtain rfl := Option.some.inj H
  go_enter Tryz.func163, Tryz.ntmps163
  go_wp2
  repeat (go_quiet (fail); try go_wp2)
  go_ret
  exact ⟨by first | rfl | (simp; done) | (simp [*]; done), by repeat (first | exact Drawn0.refl _ | apply Drawn0.step)⟩
def api_Key_164.l0 : Nat → List (S101) → List (S101) → Int → Int → Option (Bool)
 | 0, _, _, _, _ => none
 | k + 1, x0, x1, x12, x13 => if x13 < x12 then (if 0 ≤ x13 then (if x13 < (x0.length : Int) then (if x13 < (x1.length : Int) then (if (!(((rd_T101 x0 x13).f0) == ((rd_T101 x1 x13).f0)) || (!(((rd_T101 x0 x13).f1) == ((rd_T101 x1 x13).f1)))) = true then (some false) else (api_Key_164.l0 k x0 x1 x12 (wrap64 (x13 + 1)))) else (none)) else (none)) else (none)) else (some true)
def api_Key_164.f (k : Nat) (l0 : List (S101)) (l1 : List (S101)) : Option (Bool) := if (l0.length : Int) = (l1.length : Int) then (api_Key_164.l0 k l0 l1 (l0.length : Int) 0) else (some false)
set_option maxHeartbeats 8000000 in
set_option maxRecDepth 100000 in
theorem api_Key_164.calls (k : Nat) (A0 : Option Addr) (c0 : Nat) (l0 : List (S101)) (A1 : Option Addr) (c1 : Nat) (l1 : List (S101)) (r : Bool) (w : World) (hr0 : Kd.C k101 w A0 l0.length l0) (hc0 : l0.length ≤ c0) (hr1 : Kd.C k101 w A1 l1.length l1) (hc1 : l1.length ≤ c1) (h : api_Key_164.f k l0 l1 = some r) :
  Calls Tryz.prog 164 #[.slice A0 l0.length c0, .slice A1 l1.length c1] w fun e w' => e = .returned (.bool r) ∧ Drawn0 w w' := by
 have hu101 := Tryz.underlying101
 have HR0 := Aside0.mk hr0
 have HC0 := Aside0.mk hc0
 clear hr0 hc0
 have HR1 := Aside0.mk hr1
 have HC1 := Aside0.mk hc1
 clear hr1 hc1
 have H : (if (l0.length : Int) = (l1.length : Int) then (api_Key_164.l0 k l0 l1 (l0.length : Int) 0) else (some false)) = some r := h
 clear h
 by_cases c3 : (l0.length : Int) = (l1.length : Int)
 ·rw [if_pos c3] at H
  have c3b0 : ((l0.length : Int) == (l1.length : Int)) = true := beq_iff_eq.mpr c3
  have c3b1 : ((l0.length : Int) != (l1.length : Int)) = false := bne_eq_false_iff_eq.mpr c3
  have c3b2 : (l0.length == l1.length) = true := by first | simpa using c3 | (simp at c3 ⊢; omega)
  clear c3
  have H' := Aside0.mk H
  clear H
  go_enter Tryz.func164, Tryz.ntmps164
  go_wp2
  repeat (go_quiet (fail); try go_wp2)
  go_loopg [13] k (fun kq v13 w' => ∃ (x13_1 : Int), v13 = .int .i64 x13_1 ∧ Aside0 (api_Key_164.l0 kq l0 l1 (l0.length : Int) x13_1 = some r) ∧ Aside0 (kq ≤ k) ∧ Drawn0 w w')
  case atStart => exact ⟨(0), (by first | rfl | (simp; done) | (simp [*]; done)), H', ⟨Nat.le_refl _⟩, by repeat (first | exact Drawn0.refl _ | apply Drawn0.step)⟩
  case round =>
   clear H'
   try clear c1
   try clear p2
   try clear c3
   try clear c3b0
   try clear c3b1
   try clear c3b2
   obtain ⟨x13_1, rfl, HA, HK1, ⟨m1, rfl⟩⟩ := hrel
   cases gk with
   | zero => exact absurd HA.out (by simp [api_Key_164.l0])
   | succ k1 =>
    have H := HA.out
    clear HA
    simp only [api_Key_164.l0] at H
    by_cases c4 : x13_1 < (l0.length : Int)
    ·rw [if_pos c4] at H
     have c4b0 : decide (x13_1 < (l0.length : Int)) = true := decide_eq_true c4
     clear c4
     by_cases c5 : 0 ≤ x13_1
     ·rw [if_pos c5] at H
      have c5b0 : decide (0 ≤ x13_1) = true := decide_eq_true c5
      clear c5
      by_cases c6 : x13_1 < (l0.length : Int)
      ·rw [if_pos c6] at H
       have c6b0 : decide (x13_1 < (l0.length : Int)) = true := decide_eq_true c6
       clear c6
       by_cases c7 : x13_1 < (l1.length : Int)
       ·rw [if_pos c7] at H
        have c7b0 : decide (x13_1 < (l1.length : Int)) = true := decide_eq_true c7
        clear c7
        by_cases c8 : (!(((rd_T101 l0 x13_1).f0) == ((rd_T101 l1 x13_1).f0)) || (!(((rd_T101 l0 x13_1).f1) == ((rd_T101 l1 x13_1).f1)))) = true
        ·rw [if_pos c8] at H
         have c8b0 : (!(((rd_T101 l0 x13_1).f0) == ((rd_T101 l1 x13_1).f0)) || (!(((rd_T101 l0 x13_1).f1) == ((rd_T101 l1 x13_1).f1)))) = true := c8
         clear c8
         obtain rfl := Option.some.inj H
         have p115 : 0 ≤ (x13_1 : Int) := of_decide_eq_true (by first | (with_reducible assumption) | assumption)
         have q115 : x13_1 < (l0.length : Int) := of_decide_eq_true (by first | (with_reducible assumption) | assumption)
         obtain ⟨ad115, e115, hx115_0, hx115_1⟩ := at_T101 HR0.out x13_1 p115 q115
         cases e115
         replace p115 := eq_true p115
         replace q115 := eq_true q115
         have p116 : 0 ≤ (x13_1 : Int) := of_decide_eq_true (by first | (with_reducible assumption) | assumption)
         have q116 : x13_1 < (l1.length : Int) := of_decide_eq_true (by first | (with_reducible assumption) | assumption)
         obtain ⟨ad116, e116, hx116_0, hx116_1⟩ := at_T101 HR1.out x13_1 p116 q116
         cases e116
         replace p116 := eq_true p116
         replace q116 := eq_true q116
         go_wp2
         repeat (go_quiet (fail); try go_wp2)
         go_ret
         exact ⟨by first | rfl | (simp; done) | (simp [*]; done), by repeat (first | exact Drawn0.refl _ | apply Drawn0.step)⟩
        ·rw [if_neg c8] at H
         have c8b0 : (!(((rd_T101 l0 x13_1).f0) == ((rd_T101 l1 x13_1).f0)) || (!(((rd_T101 l0 x13_1).f1) == ((rd_T101 l1 x13_1).f1)))) = false := by simpa using c8
         clear c8
         have H' := Aside0.mk H
         clear H
         have p115 : 0 ≤ (x13_1 : Int) := of_decide_eq_true (by first | (with_reducible assumption) | assumption)
         have q115 : x13_1 < (l0.length : Int) := of_decide_eq_true (by first | (with_reducible assumption) | assumption)
         obtain ⟨ad115, e115, hx115_0, hx115_1⟩ := at_T101 HR0.out x13_1 p115 q115
         cases e115
         replace p115 := eq_true p115
         replace q115 := eq_true q115
         have p116 : 0 ≤ (x13_1 : Int) := of_decide_eq_true (by first | (with_reducible assumption) | assumption)
         have q116 : x13_1 < (l1.length : Int) := of_decide_eq_true (by first | (with_reducible assumption) | assumption)
         obtain ⟨ad116, e116, hx116_0, hx116_1⟩ := at_T101 HR1.out x13_1 p116 q116
         cases e116
         replace p116 := eq_true p116
         replace q116 := eq_true q116
         go_wp2
         repeat (go_quiet (fail); try go_wp2)
         go_roundg k1
         case measure => have := HK1.out; omega
         case rel => exact ⟨(wrap64 (x13_1 + 1)), (by first | rfl | (simp; done) | (simp [*]; done)), H', ⟨by have := HK1.out; omega⟩, by repeat (first | exact Drawn0.refl _ | apply Drawn0.step)⟩
       ·rw [if_neg c7] at H
        exact absurd H (by simp)
      ·rw [if_neg c6] at H
       exact absurd H (by simp)
     ·rw [if_neg c5] at H
      exact absurd H (by simp)
    ·rw [if_neg c4] at H
     have c4b0 : decide (x13_1 < (l0.length : Int)) = false := decide_eq_false c4
     clear c4
     obtain rfl := Option.some.inj H
     go_wp2
     repeat (go_quiet (fail); try go_wp2)
     go_ret
     exact ⟨by first | rfl | (simp; done) | (simp [*]; done), by repeat (first | exact Drawn0.refl _ | apply Drawn0.step)⟩
 ·rw [if_neg c3] at H
  have c3b0 : ((l0.length : Int) == (l1.length : Int)) = false := beq_eq_false_iff_ne.mpr c3
  have c3b1 : ((l0.length : Int) != (l1.length : Int)) = true := bne_iff_ne.mpr c3
  have c3b2 : (l0.length == l1.length) = false := by first | simpa using c3 | (simp at c3 ⊢; omega)
  obtain rfl := Option.some.inj H
  go_enter Tryz.func164, Tryz.ntmps164
  go_wp2
  repeat (go_quiet (fail); try go_wp2)
  go_ret
  exact ⟨by first | rfl | (simp; done) | (simp [*]; done), by repeat (first | exact Drawn0.refl _ | apply Drawn0.step)⟩
def record_SameTxn.f (k : Nat) (a0_0 : Int) (a0_1 : Int) (l0_2 : List Int) (l0_3 : List Int) (l0_4 : List (S101)) (l0_5 : List (S101)) (a1_0 : Int) (a1_1 : Int) (l1_2 : List Int) (l1_3 : List Int) (l1_4 : List (S101)) (l1_5 : List (S101)) : Option (Bool) := if a0_0 = a1_0 then (if a0_1 = a1_1 then ((bytes_Equal.f l0_2 l1_2).bind fun t119 => (if t119 = true then ((slices_Equal_int64_int64.f k l0_3 l1_3).bind fun t120 => (if t120 = true then ((api_Key_164.f k l0_4 l1_4).bind fun t121 => (if t121 = true then ((api_Key_164.f k l0_5 l1_5).bind fun t122 => (some t122)) else (some false))) else (some false))) else (some false))) else (some false)) else (some false)
set_option maxHeartbeats 4000000 in
theorem record_SameTxn.calls (k : Nat) (a0_0 : Int) (a0_1 : Int) (A0_2 : Option Addr) (c0_2 : Nat) (l0_2 : List Int) (A0_3 : Option Addr) (c0_3 : Nat) (l0_3 : List Int) (A0_4 : Option Addr) (c0_4 : Nat) (l0_4 : List (S101)) (A0_5 : Option Addr) (c0_5 : Nat) (l0_5 : List (S101)) (a1_0 : Int) (a1_1 : Int) (A1_2 : Option Addr) (c1_2 : Nat) (l1_2 : List Int) (A1_3 : Option Addr) (c1_3 : Nat) (l1_3 : List Int) (A1_4 : Option Addr) (c1_4 : Nat) (l1_4 : List (S101)) (A1_5 : Option Addr) (c1_5 : Nat) (l1_5 : List (S101)) (r : Bool) (w : World) (hr0_2 : Kd.C (Kd.int .u8) w A0_2 l0_2.length l0_2) (hc0_2 : l0_2.length ≤ c0_2) (hr0_3 : Kd.C (Kd.int .i64) w A0_3 l0_3.length l0_3) (hc0_3 : l0_3.length ≤ c0_3) (hr0_4 : Kd.C k101 w A0_4 l0_4.length l0_4) (hc0_4 : l0_4.length ≤ c0_4) (hr0_5 : Kd.C k101 w A0_5 l0_5.length l0_5) (hc0_5 : l0_5.length ≤ c0_5) (hr1_2 : Kd.C (Kd.int .u8) w A1_2 l1_2.length l1_2) (hc1_2 : l1_2.length ≤ c1_2) (hr1_3 : Kd.C (Kd.int .i64) w A1_3 l1_3.length l1_3) (hc1_3 : l1_3.length ≤ c1_3) (hr1_4 : Kd.C k101 w A1_4 l1_4.length l1_4) (hc1_4 : l1_4.length ≤ c1_4) (hr1_5 : Kd.C k101 w A1_5 l1_5.length l1_5) (hc1_5 : l1_5.length ≤ c1_5) (h : record_SameTxn.f k a0_0 a0_1 l0_2 l0_3 l0_4 l0_5 a1_0 a1_1 l1_2 l1_3 l1_4 l1_5 = some r) :
  Calls Tryz.prog 142 #[.agg #[.int .i64 a0_0, .int .i64 a0_1, .slice A0_2 l0_2.length c0_2, .slice A0_3 l0_3.length c0_3, .slice A0_4 l0_4.length c0_4, .slice A0_5 l0_5.length c0_5], .agg #[.int .i64 a1_0, .int .i64 a1_1, .slice A1_2 l1_2.length c1_2, .slice A1_3 l1_3.length c1_3, .slice A1_4 l1_4.length c1_4, .slice A1_5 l1_5.length c1_5]] w fun e w' => e = .returned (.bool r) ∧ Below w.heap.size w w' := by
 have R := Aside0.mk (And.intro hr0_2 (And.intro hr0_3 (And.intro hr0_4 (And.intro hr0_5 (And.intro hr1_2 (And.intro hr1_3 (And.intro hr1_4 hr1_5)))))))
 have C := Aside0.mk (And.intro hc0_2 (And.intro hc0_3 (And.intro hc0_4 (And.intro hc0_5 (And.intro hc1_2 (And.intro hc1_3 (And.intro hc1_4 hc1_5)))))))
 clear hr0_2 hc0_2 hr0_3 hc0_3 hr0_4 hc0_4 hr0_5 hc0_5 hr1_2 hc1_2 hr1_3 hc1_3 hr1_4 hc1_4 hr1_5 hc1_5
 obtain ⟨x, y, hb⟩ := box2 w #[.int .i64 a0_0, .int .i64 a0_1, .slice A0_2 l0_2.length c0_2, .slice A0_3 l0_3.length c0_3, .slice A0_4 l0_4.length c0_4, .slice A0_5 l0_5.length c0_5] 26 #[.int .i64 a1_0, .int .i64 a1_1, .slice A1_2 l1_2.length c1_2, .slice A1_3 l1_3.length c1_3, .slice A1_4 l1_4.length c1_4, .slice A1_5 l1_5.length c1_5] 26
 unfold record_SameTxn.f at h
 have H := Aside0.mk h
 clear h
 go_enter Tryz.func142, Tryz.ntmps142
 go_upto_region 1 with fail
 obtain ⟨W, hW⟩ : ∃ W, (w.alloc (.cells #[.int .i64 a0_0, .int .i64 a0_1, .slice A0_2 l0_2.length c0_2, .slice A0_3 l0_3.length c0_3, .slice A0_4 l0_4.length c0_4, .slice A0_5 l0_5.length c0_5] 26)).alloc (.cells #[.int .i64 a1_0, .int .i64 a1_1, .slice A1_2 l1_2.length c1_2, .slice A1_3 l1_3.length c1_3, .slice A1_4 l1_4.length c1_4, .slice A1_5 l1_5.length c1_5] 26) = W := ⟨_, rfl⟩
 rw [hW] at x y hb ⊢
 have X := Aside0.mk x; have Y := Aside0.mk y; have B := Aside0.mk hb
 clear x y hb hW
 have x0 : W.cell? ⟨w.heap.size, 0, none⟩ = some (.int .i64 a0_0) := (blk_cell X.out 0).trans rfl
 have y0 : W.cell? ⟨w.heap.size + 1, 0, none⟩ = some (.int .i64 a1_0) := (blk_cell Y.out 0).trans rfl
 by_cases q : a0_0 = a1_0
 rotate_left
 ·have h := H.out; rw [if_neg q] at h; obtain rfl := Option.some.inj h
  have n0 : (a0_0 == a1_0) = false := beq_eq_false_iff_ne.2 q; clear h q
  go_wp2_with fail
  go_ret
  exact ⟨rfl, B.out⟩
 have h := H.out; rw [if_pos q] at h; clear H; have H := Aside0.mk h; have p00 : (a0_0 == a1_0) = true := beq_iff_eq.2 q; clear h q
 have x1 : W.cell? ⟨w.heap.size, 1, none⟩ = some (.int .i64 a0_1) := (blk_cell X.out 1).trans rfl
 have y1 : W.cell? ⟨w.heap.size + 1, 1, none⟩ = some (.int .i64 a1_1) := (blk_cell Y.out 1).trans rfl
 by_cases q : a0_1 = a1_1
 rotate_left
 ·have h := H.out; rw [if_neg q] at h; obtain rfl := Option.some.inj h
  have n0 : (a0_1 == a1_1) = false := beq_eq_false_iff_ne.2 q; clear h q
  go_wp2_with fail
  go_ret
  exact ⟨rfl, B.out⟩
 have h := H.out; rw [if_pos q] at h; clear H; have H := Aside0.mk h; have p10 : (a0_1 == a1_1) = true := beq_iff_eq.2 q; clear h q
 have x2 : W.cell? ⟨w.heap.size, 2, none⟩ = some (.slice A0_2 l0_2.length c0_2) := (blk_cell X.out 2).trans rfl
 have y2 : W.cell? ⟨w.heap.size + 1, 2, none⟩ = some (.slice A1_2 l1_2.length c1_2) := (blk_cell Y.out 2).trans rfl
 obtain ⟨b, e, h⟩ := Option.bind_eq_some_iff.1 H.out
 have E := Aside0.mk e; have H1 := Aside0.mk h; clear e h H
 go_wp2_with fail
 refine (bytes_Equal.calls A0_2 c0_2 l0_2 A1_2 c1_2 l1_2 b W (Kd.C_below R.out.1 B.out) C.out.1 (Kd.C_below R.out.2.2.2.2.1 B.out) C.out.2.2.2.2.1 E.out).mono ?_
 rintro e W2 ⟨rfl, d⟩
 have B2 := Aside0.mk (below_step B.out d.below); have X2 := Aside0.mk (blk_below X.out d.below); have Y2 := Aside0.mk (blk_below Y.out d.below)
 clear d B E X Y x2 y2
 have B := B2; have X := X2; have Y := Y2; clear B2 X2 Y2
 cases b with
 | false =>
  have h := H1.out; rw [if_neg (by decide)] at h; obtain rfl := Option.some.inj h; clear h
  go_wp2_with fail
  go_ret
  exact ⟨rfl, B.out⟩
 | true =>
  have h := H1.out; rw [if_pos rfl] at h; have H := Aside0.mk h; clear h H1
  have x3 : W2.cell? ⟨w.heap.size, 3, none⟩ = some (.slice A0_3 l0_3.length c0_3) := (blk_cell X.out 3).trans rfl
  have y3 : W2.cell? ⟨w.heap.size + 1, 3, none⟩ = some (.slice A1_3 l1_3.length c1_3) := (blk_cell Y.out 3).trans rfl
  obtain ⟨b, e, h⟩ := Option.bind_eq_some_iff.1 H.out
  have E := Aside0.mk e; have H1 := Aside0.mk h; clear e h H
  go_wp2_with fail
  refine (slices_Equal_int64_int64.calls k A0_3 c0_3 l0_3 A1_3 c1_3 l1_3 b W2 (Kd.C_below R.out.2.1 B.out) C.out.2.1 (Kd.C_below R.out.2.2.2.2.2.1 B.out) C.out.2.2.2.2.2.1 E.out).mono ?_
  rintro e W3 ⟨rfl, d⟩
  have B3 := Aside0.mk (below_step B.out d.below); have X3 := Aside0.mk (blk_below X.out d.below); have Y3 := Aside0.mk (blk_below Y.out d.below)
  clear d B E X Y x3 y3
  have B := B3; have X := X3; have Y := Y3; clear B3 X3 Y3
  cases b with
  | false =>
   have h := H1.out; rw [if_neg (by decide)] at h; obtain rfl := Option.some.inj h; clear h
   go_wp2_with fail
   go_ret
   exact ⟨rfl, B.out⟩
  | true =>
   have h := H1.out; rw [if_pos rfl] at h; have H := Aside0.mk h; clear h H1
   have x4 : W3.cell? ⟨w.heap.size, 4, none⟩ = some (.slice A0_4 l0_4.length c0_4) := (blk_cell X.out 4).trans rfl
   have y4 : W3.cell? ⟨w.heap.size + 1, 4, none⟩ = some (.slice A1_4 l1_4.length c1_4) := (blk_cell Y.out 4).trans rfl
   obtain ⟨b, e, h⟩ := Option.bind_eq_some_iff.1 H.out
   have E := Aside0.mk e; have H1 := Aside0.mk h; clear e h H
   go_wp2_with fail
   refine (api_Key_164.calls k A0_4 c0_4 l0_4 A1_4 c1_4 l1_4 b W3 (Kd.C_below R.out.2.2.1 B.out) C.out.2.2.1 (Kd.C_below R.out.2.2.2.2.2.2.1 B.out) C.out.2.2.2.2.2.2.1 E.out).mono ?_
   rintro e W4 ⟨rfl, d⟩
   have B4 := Aside0.mk (below_step B.out d.below); have X4 := Aside0.mk (blk_below X.out d.below); have Y4 := Aside0.mk (blk_below Y.out d.below)
   clear d B E X Y x4 y4
   have B := B4; have X := X4; have Y := Y4; clear B4 X4 Y4
   cases b with
   | false =>
    have h := H1.out; rw [if_neg (by decide)] at h; obtain rfl := Option.some.inj h; clear h
    go_wp2_with fail
    go_ret
    exact ⟨rfl, B.out⟩
   | true =>
    have h := H1.out; rw [if_pos rfl] at h; have H := Aside0.mk h; clear h H1
    have x5 : W4.cell? ⟨w.heap.size, 5, none⟩ = some (.slice A0_5 l0_5.length c0_5) := (blk_cell X.out 5).trans rfl
    have y5 : W4.cell? ⟨w.heap.size + 1, 5, none⟩ = some (.slice A1_5 l1_5.length c1_5) := (blk_cell Y.out 5).trans rfl
    obtain ⟨b, e, h⟩ := Option.bind_eq_some_iff.1 H.out
    have E := Aside0.mk e; have H1 := Aside0.mk h; clear e h H
    go_wp2_with fail
    refine (api_Key_164.calls k A0_5 c0_5 l0_5 A1_5 c1_5 l1_5 b W4 (Kd.C_below R.out.2.2.2.1 B.out) C.out.2.2.2.1 (Kd.C_below R.out.2.2.2.2.2.2.2 B.out) C.out.2.2.2.2.2.2.2 E.out).mono ?_
    rintro e W5 ⟨rfl, d⟩
    have B5 := Aside0.mk (below_step B.out d.below); have X5 := Aside0.mk (blk_below X.out d.below); have Y5 := Aside0.mk (blk_below Y.out d.below)
    clear d B E X Y x5 y5
    have B := B5; have X := X5; have Y := Y5; clear B5 X5 Y5
    obtain rfl := Option.some.inj H1.out
    go_wp2_with fail
    go_ret
    exact ⟨rfl, B.out⟩
end Go.Proofs.YtgiefblcckikeaaGreat.G
end

section
-- Written by a program of this session's (wip/gprint.py over the kit's printer).
namespace Go.Proofs.YtgiefblcckikeaaGreat.G
open Go.RowKit Go.Proofs.YtgiefblcckikeaaGreatW.PrintWords Go.Proofs.YtgiefblcckikeaaGreatW.PrintLast Go.Proofs.YtgiefblcckikeaaGreatW.PrintMore
attribute [local go_sem] max2_int min2_int max_two min_two max_three min_three max_four min_four   -- for this text's walks alone
attribute [local go_sem high] eqA101
def trivetref04_SameInts.l0 : Nat → List Int → List Int → Int → Option (Bool)
 | 0, _, _, _ => none
 | k + 1, x0, x1, x5 => if x5 < (x0.length : Int) then (if 0 ≤ x5 then (if x5 < (x1.length : Int) then (if (rd x0 x5) = (rd x1 x5) then (trivetref04_SameInts.l0 k x0 x1 (wrap64 (x5 + 1))) else (some false)) else (none)) else (none)) else (some true)
def trivetref04_SameInts.f (k : Nat) (l0 : List Int) (l1 : List Int) : Option (Bool) := if (l0.length : Int) = (l1.length : Int) then (trivetref04_SameInts.l0 k l0 l1 0) else (some false)
set_option maxHeartbeats 8000000 in
set_option maxRecDepth 100000 in
theorem trivetref04_SameInts.calls (k : Nat) (A0 : Option Addr) (c0 : Nat) (l0 : List Int) (A1 : Option Addr) (c1 : Nat) (l1 : List Int) (r : Bool) (w : World) (hr0 : Kd.C (Kd.int .i64) w A0 l0.length l0) (hc0 : l0.length ≤ c0) (hr1 : Kd.C (Kd.int .i64) w A1 l1.length l1) (hc1 : l1.length ≤ c1) (h : trivetref04_SameInts.f k l0 l1 = some r) :
  Calls Tryz.prog 133 #[.slice A0 l0.length c0, .slice A1 l1.length c1] w fun e w' => e = .returned (.bool r) ∧ Drawn0 w w' := by
 have HR0 := Aside0.mk hr0
 have HC0 := Aside0.mk hc0
 clear hr0 hc0
 have HR1 := Aside0.mk hr1
 have HC1 := Aside0.mk hc1
 clear hr1 hc1
 have H : (if (l0.length : Int) = (l1.length : Int) then (trivetref04_SameInts.l0 k l0 l1 0) else (some false)) = some r := h
 clear h
 by_cases c3 : (l0.length : Int) = (l1.length : Int)
 ·rw [if_pos c3] at H
  have c3b0 : ((l0.length : Int) == (l1.length : Int)) = true := beq_iff_eq.mpr c3
  have c3b1 : ((l0.length : Int) != (l1.length : Int)) = false := bne_eq_false_iff_eq.mpr c3
  have c3b2 : (l0.length == l1.length) = true := by first | simpa using c3 | (simp at c3 ⊢; omega)
  clear c3
  have H' := Aside0.mk H
  clear H
  go_enter Tryz.func133, Tryz.ntmps133
  go_wp2
  repeat (go_quiet (fail); try go_wp2)
  go_loopg [5] k (fun kq v5 w' => ∃ (x5_1 : Int), v5 = .int .i64 x5_1 ∧ Aside0 (trivetref04_SameInts.l0 kq l0 l1 x5_1 = some r) ∧ Aside0 (kq ≤ k) ∧ Drawn0 w w')
  case atStart => exact ⟨(0), (by first | rfl | (simp; done) | (simp [*]; done)), H', ⟨Nat.le_refl _⟩, by repeat (first | exact Drawn0.refl _ | apply Drawn0.step)⟩
  case round =>
   clear H'
   try clear c1
   try clear p2
   try clear c3
   try clear c3b0
   try clear c3b1
   try clear c3b2
   obtain ⟨x5_1, rfl, HA, HK1, ⟨m1, rfl⟩⟩ := hrel
   cases gk with
   | zero => exact absurd HA.out (by simp [trivetref04_SameInts.l0])
   | succ k1 =>
    have H := HA.out
    clear HA
    simp only [trivetref04_SameInts.l0] at H
    by_cases c4 : x5_1 < (l0.length : Int)
    ·rw [if_pos c4] at H
     have c4b0 : decide (x5_1 < (l0.length : Int)) = true := decide_eq_true c4
     clear c4
     by_cases c5 : 0 ≤ x5_1
     ·rw [if_pos c5] at H
      have c5b0 : decide (0 ≤ x5_1) = true := decide_eq_true c5
      clear c5
      by_cases c6 : x5_1 < (l1.length : Int)
      ·rw [if_pos c6] at H
       have c6b0 : decide (x5_1 < (l1.length : Int)) = true := decide_eq_true c6
       clear c6
       by_cases c7 : (rd l0 x5_1) = (rd l1 x5_1)
       ·rw [if_pos c7] at H
        have c7b0 : ((rd l0 x5_1) == (rd l1 x5_1)) = true := beq_iff_eq.mpr c7
        have c7b1 : ((rd l0 x5_1) != (rd l1 x5_1)) = false := bne_eq_false_iff_eq.mpr c7
        clear c7
        have H' := Aside0.mk H
        clear H
        have p138 : 0 ≤ (x5_1 : Int) := of_decide_eq_true (by first | (with_reducible assumption) | assumption)
        have q138 : x5_1 < (l0.length : Int) := of_decide_eq_true (by first | (with_reducible assumption) | assumption)
        obtain ⟨ad138, e138, hx138_0⟩ := Kd.at_int HR0.out x5_1 p138 q138
        cases e138
        replace p138 := eq_true p138
        replace q138 := eq_true q138
        have p139 : 0 ≤ (x5_1 : Int) := of_decide_eq_true (by first | (with_reducible assumption) | assumption)
        have q139 : x5_1 < (l1.length : Int) := of_decide_eq_true (by first | (with_reducible assumption) | assumption)
        obtain ⟨ad139, e139, hx139_0⟩ := Kd.at_int HR1.out x5_1 p139 q139
        cases e139
        replace p139 := eq_true p139
        replace q139 := eq_true q139
        go_wp2
        repeat (go_quiet (fail); try go_wp2)
        go_roundg k1
        case measure => have := HK1.out; omega
        case rel => exact ⟨(wrap64 (x5_1 + 1)), (by first | rfl | (simp; done) | (simp [*]; done)), H', ⟨by have := HK1.out; omega⟩, by repeat (first | exact Drawn0.refl _ | apply Drawn0.step)⟩
       ·rw [if_neg c7] at H
        have c7b0 : ((rd l0 x5_1) == (rd l1 x5_1)) = false := beq_eq_false_iff_ne.mpr c7
        have c7b1 : ((rd l0 x5_1) != (rd l1 x5_1)) = true := bne_iff_ne.mpr c7
        obtain rfl := Option.some.inj H
        have p138 : 0 ≤ (x5_1 : Int) := of_decide_eq_true (by first | (with_reducible assumption) | assumption)
        have q138 : x5_1 < (l0.length : Int) := of_decide_eq_true (by first | (with_reducible assumption) | assumption)
        obtain ⟨ad138, e138, hx138_0⟩ := Kd.at_int HR0.out x5_1 p138 q138
        cases e138
        replace p138 := eq_true p138
        replace q138 := eq_true q138
        have p139 : 0 ≤ (x5_1 : Int) := of_decide_eq_true (by first | (with_reducible assumption) | assumption)
        have q139 : x5_1 < (l1.length : Int) := of_decide_eq_true (by first | (with_reducible assumption) | assumption)
        obtain ⟨ad139, e139, hx139_0⟩ := Kd.at_int HR1.out x5_1 p139 q139
        cases e139
        replace p139 := eq_true p139
        replace q139 := eq_true q139
        go_wp2
        repeat (go_quiet (fail); try go_wp2)
        go_ret
        exact ⟨by first | rfl | (simp; done) | (simp [*]; done), by repeat (first | exact Drawn0.refl _ | apply Drawn0.step)⟩
      ·rw [if_neg c6] at H
       exact absurd H (by simp)
     ·rw [if_neg c5] at H
      exact absurd H (by simp)
    ·rw [if_neg c4] at H
     have c4b0 : decide (x5_1 < (l0.length : Int)) = false := decide_eq_false c4
     clear c4
     obtain rfl := Option.some.inj H
     go_wp2
     repeat (go_quiet (fail); try go_wp2)
     go_ret
     exact ⟨by first | rfl | (simp; done) | (simp [*]; done), by repeat (first | exact Drawn0.refl _ | apply Drawn0.step)⟩
 ·rw [if_neg c3] at H
  have c3b0 : ((l0.length : Int) == (l1.length : Int)) = false := beq_eq_false_iff_ne.mpr c3
  have c3b1 : ((l0.length : Int) != (l1.length : Int)) = true := bne_iff_ne.mpr c3
  have c3b2 : (l0.length == l1.length) = false := by first | simpa using c3 | (simp at c3 ⊢; omega)
  obtain rfl := Option.some.inj H
  go_enter Tryz.func133, Tryz.ntmps133
  go_wp2
  repeat (go_quiet (fail); try go_wp2)
  go_ret
  exact ⟨by first | rfl | (simp; done) | (simp [*]; done), by repeat (first | exact Drawn0.refl _ | apply Drawn0.step)⟩
def trivetref04_SameKeys.l0 : Nat → List (S101) → List (S101) → Int → Option (Bool)
 | 0, _, _, _ => none
 | k + 1, x0, x1, x5 => if x5 < (x0.length : Int) then (if 0 ≤ x5 then (if x5 < (x1.length : Int) then (if (!(((rd_T101 x0 x5).f0) == ((rd_T101 x1 x5).f0)) || (!(((rd_T101 x0 x5).f1) == ((rd_T101 x1 x5).f1)))) = true then (some false) else (trivetref04_SameKeys.l0 k x0 x1 (wrap64 (x5 + 1)))) else (none)) else (none)) else (some true)
def trivetref04_SameKeys.f (k : Nat) (l0 : List (S101)) (l1 : List (S101)) : Option (Bool) := if (l0.length : Int) = (l1.length : Int) then (trivetref04_SameKeys.l0 k l0 l1 0) else (some false)
set_option maxHeartbeats 8000000 in
set_option maxRecDepth 100000 in
theorem trivetref04_SameKeys.calls (k : Nat) (A0 : Option Addr) (c0 : Nat) (l0 : List (S101)) (A1 : Option Addr) (c1 : Nat) (l1 : List (S101)) (r : Bool) (w : World) (hr0 : Kd.C k101 w A0 l0.length l0) (hc0 : l0.length ≤ c0) (hr1 : Kd.C k101 w A1 l1.length l1) (hc1 : l1.length ≤ c1) (h : trivetref04_SameKeys.f k l0 l1 = some r) :
  Calls Tryz.prog 134 #[.slice A0 l0.length c0, .slice A1 l1.length c1] w fun e w' => e = .returned (.bool r) ∧ Drawn0 w w' := by
 have hu101 := Tryz.underlying101
 have HR0 := Aside0.mk hr0
 have HC0 := Aside0.mk hc0
 clear hr0 hc0
 have HR1 := Aside0.mk hr1
 have HC1 := Aside0.mk hc1
 clear hr1 hc1
 have H : (if (l0.length : Int) = (l1.length : Int) then (trivetref04_SameKeys.l0 k l0 l1 0) else (some false)) = some r := h
 clear h
 by_cases c3 : (l0.length : Int) = (l1.length : Int)
 ·rw [if_pos c3] at H
  have c3b0 : ((l0.length : Int) == (l1.length : Int)) = true := beq_iff_eq.mpr c3
  have c3b1 : ((l0.length : Int) != (l1.length : Int)) = false := bne_eq_false_iff_eq.mpr c3
  have c3b2 : (l0.length == l1.length) = true := by first | simpa using c3 | (simp at c3 ⊢; omega)
  clear c3
  have H' := Aside0.mk H
  clear H
  go_enter Tryz.func134, Tryz.ntmps134
  go_wp2
  repeat (go_quiet (fail); try go_wp2)
  go_loopg [5] k (fun kq v5 w' => ∃ (x5_1 : Int), v5 = .int .i64 x5_1 ∧ Aside0 (trivetref04_SameKeys.l0 kq l0 l1 x5_1 = some r) ∧ Aside0 (kq ≤ k) ∧ Drawn0 w w')
  case atStart => exact ⟨(0), (by first | rfl | (simp; done) | (simp [*]; done)), H', ⟨Nat.le_refl _⟩, by repeat (first | exact Drawn0.refl _ | apply Drawn0.step)⟩
  case round =>
   clear H'
   try clear c1
   try clear p2
   try clear c3
   try clear c3b0
   try clear c3b1
   try clear c3b2
   obtain ⟨x5_1, rfl, HA, HK1, ⟨m1, rfl⟩⟩ := hrel
   cases gk with
   | zero => exact absurd HA.out (by simp [trivetref04_SameKeys.l0])
   | succ k1 =>
    have H := HA.out
    clear HA
    simp only [trivetref04_SameKeys.l0] at H
    by_cases c4 : x5_1 < (l0.length : Int)
    ·rw [if_pos c4] at H
     have c4b0 : decide (x5_1 < (l0.length : Int)) = true := decide_eq_true c4
     clear c4
     by_cases c5 : 0 ≤ x5_1
     ·rw [if_pos c5] at H
      have c5b0 : decide (0 ≤ x5_1) = true := decide_eq_true c5
      clear c5
      by_cases c6 : x5_1 < (l1.length : Int)
      ·rw [if_pos c6] at H
       have c6b0 : decide (x5_1 < (l1.length : Int)) = true := decide_eq_true c6
       clear c6
       by_cases c7 : (!(((rd_T101 l0 x5_1).f0) == ((rd_T101 l1 x5_1).f0)) || (!(((rd_T101 l0 x5_1).f1) == ((rd_T101 l1 x5_1).f1)))) = true
       ·rw [if_pos c7] at H
        have c7b0 : (!(((rd_T101 l0 x5_1).f0) == ((rd_T101 l1 x5_1).f0)) || (!(((rd_T101 l0 x5_1).f1) == ((rd_T101 l1 x5_1).f1)))) = true := c7
        clear c7
        obtain rfl := Option.some.inj H
        have p140 : 0 ≤ (x5_1 : Int) := of_decide_eq_true (by first | (with_reducible assumption) | assumption)
        have q140 : x5_1 < (l0.length : Int) := of_decide_eq_true (by first | (with_reducible assumption) | assumption)
        obtain ⟨ad140, e140, hx140_0, hx140_1⟩ := at_T101 HR0.out x5_1 p140 q140
        cases e140
        replace p140 := eq_true p140
        replace q140 := eq_true q140
        have p141 : 0 ≤ (x5_1 : Int) := of_decide_eq_true (by first | (with_reducible assumption) | assumption)
        have q141 : x5_1 < (l1.length : Int) := of_decide_eq_true (by first | (with_reducible assumption) | assumption)
        obtain ⟨ad141, e141, hx141_0, hx141_1⟩ := at_T101 HR1.out x5_1 p141 q141
        cases e141
        replace p141 := eq_true p141
        replace q141 := eq_true q141
        go_wp2
        repeat (go_quiet (fail); try go_wp2)
        go_ret
        exact ⟨by first | rfl | (simp; done) | (simp [*]; done), by repeat (first | exact Drawn0.refl _ | apply Drawn0.step)⟩
       ·rw [if_neg c7] at H
        have c7b0 : (!(((rd_T101 l0 x5_1).f0) == ((rd_T101 l1 x5_1).f0)) || (!(((rd_T101 l0 x5_1).f1) == ((rd_T101 l1 x5_1).f1)))) = false := by simpa using c7
        clear c7
        have H' := Aside0.mk H
        clear H
        have p140 : 0 ≤ (x5_1 : Int) := of_decide_eq_true (by first | (with_reducible assumption) | assumption)
        have q140 : x5_1 < (l0.length : Int) := of_decide_eq_true (by first | (with_reducible assumption) | assumption)
        obtain ⟨ad140, e140, hx140_0, hx140_1⟩ := at_T101 HR0.out x5_1 p140 q140
        cases e140
        replace p140 := eq_true p140
        replace q140 := eq_true q140
        have p141 : 0 ≤ (x5_1 : Int) := of_decide_eq_true (by first | (with_reducible assumption) | assumption)
        have q141 : x5_1 < (l1.length : Int) := of_decide_eq_true (by first | (with_reducible assumption) | assumption)
        obtain ⟨ad141, e141, hx141_0, hx141_1⟩ := at_T101 HR1.out x5_1 p141 q141
        cases e141
        replace p141 := eq_true p141
        replace q141 := eq_true q141
        go_wp2
        repeat (go_quiet (fail); try go_wp2)
        go_roundg k1
        case measure => have := HK1.out; omega
        case rel => exact ⟨(wrap64 (x5_1 + 1)), (by first | rfl | (simp; done) | (simp [*]; done)), H', ⟨by have := HK1.out; omega⟩, by repeat (first | exact Drawn0.refl _ | apply Drawn0.step)⟩
      ·rw [if_neg c6] at H
       exact absurd H (by simp)
     ·rw [if_neg c5] at H
      exact absurd H (by simp)
    ·rw [if_neg c4] at H
     have c4b0 : decide (x5_1 < (l0.length : Int)) = false := decide_eq_false c4
     clear c4
     obtain rfl := Option.some.inj H
     go_wp2
     repeat (go_quiet (fail); try go_wp2)
     go_ret
     exact ⟨by first | rfl | (simp; done) | (simp [*]; done), by repeat (first | exact Drawn0.refl _ | apply Drawn0.step)⟩
 ·rw [if_neg c3] at H
  have c3b0 : ((l0.length : Int) == (l1.length : Int)) = false := beq_eq_false_iff_ne.mpr c3
  have c3b1 : ((l0.length : Int) != (l1.length : Int)) = true := bne_iff_ne.mpr c3
  have c3b2 : (l0.length == l1.length) = false := by first | simpa using c3 | (simp at c3 ⊢; omega)
  obtain rfl := Option.some.inj H
  go_enter Tryz.func134, Tryz.ntmps134
  go_wp2
  repeat (go_quiet (fail); try go_wp2)
  go_ret
  exact ⟨by first | rfl | (simp; done) | (simp [*]; done), by repeat (first | exact Drawn0.refl _ | apply Drawn0.step)⟩
def trivetref04_SameTxn.f (k : Nat) (a0_0 : Int) (a0_1 : Int) (l0_2 : List Int) (l0_3 : List Int) (l0_4 : List (S101)) (l0_5 : List (S101)) (a1_0 : Int) (a1_1 : Int) (l1_2 : List Int) (l1_3 : List Int) (l1_4 : List (S101)) (l1_5 : List (S101)) : Option (Bool) := if a0_0 = a1_0 then (if a0_1 = a1_1 then (if (strOfNums l0_2).toList = (strOfNums l1_2).toList then ((trivetref04_SameInts.f k l0_3 l1_3).bind fun t144 => (if t144 = true then ((trivetref04_SameKeys.f k l0_4 l1_4).bind fun t145 => (if t145 = true then ((trivetref04_SameKeys.f k l0_5 l1_5).bind fun t146 => (some t146)) else (some false))) else (some false))) else (some false)) else (some false)) else (some false)
set_option maxHeartbeats 4000000 in
theorem trivetref04_SameTxn.calls (k : Nat) (a0_0 : Int) (a0_1 : Int) (A0_2 : Option Addr) (c0_2 : Nat) (l0_2 : List Int) (A0_3 : Option Addr) (c0_3 : Nat) (l0_3 : List Int) (A0_4 : Option Addr) (c0_4 : Nat) (l0_4 : List (S101)) (A0_5 : Option Addr) (c0_5 : Nat) (l0_5 : List (S101)) (a1_0 : Int) (a1_1 : Int) (A1_2 : Option Addr) (c1_2 : Nat) (l1_2 : List Int) (A1_3 : Option Addr) (c1_3 : Nat) (l1_3 : List Int) (A1_4 : Option Addr) (c1_4 : Nat) (l1_4 : List (S101)) (A1_5 : Option Addr) (c1_5 : Nat) (l1_5 : List (S101)) (r : Bool) (w : World) (hr0_2 : Kd.C (Kd.int .u8) w A0_2 l0_2.length l0_2) (hc0_2 : l0_2.length ≤ c0_2) (hr0_3 : Kd.C (Kd.int .i64) w A0_3 l0_3.length l0_3) (hc0_3 : l0_3.length ≤ c0_3) (hr0_4 : Kd.C k101 w A0_4 l0_4.length l0_4) (hc0_4 : l0_4.length ≤ c0_4) (hr0_5 : Kd.C k101 w A0_5 l0_5.length l0_5) (hc0_5 : l0_5.length ≤ c0_5) (hr1_2 : Kd.C (Kd.int .u8) w A1_2 l1_2.length l1_2) (hc1_2 : l1_2.length ≤ c1_2) (hr1_3 : Kd.C (Kd.int .i64) w A1_3 l1_3.length l1_3) (hc1_3 : l1_3.length ≤ c1_3) (hr1_4 : Kd.C k101 w A1_4 l1_4.length l1_4) (hc1_4 : l1_4.length ≤ c1_4) (hr1_5 : Kd.C k101 w A1_5 l1_5.length l1_5) (hc1_5 : l1_5.length ≤ c1_5) (h : trivetref04_SameTxn.f k a0_0 a0_1 l0_2 l0_3 l0_4 l0_5 a1_0 a1_1 l1_2 l1_3 l1_4 l1_5 = some r) :
  Calls Tryz.prog 63 #[.agg #[.int .i64 a0_0, .int .i64 a0_1, .slice A0_2 l0_2.length c0_2, .slice A0_3 l0_3.length c0_3, .slice A0_4 l0_4.length c0_4, .slice A0_5 l0_5.length c0_5], .agg #[.int .i64 a1_0, .int .i64 a1_1, .slice A1_2 l1_2.length c1_2, .slice A1_3 l1_3.length c1_3, .slice A1_4 l1_4.length c1_4, .slice A1_5 l1_5.length c1_5]] w fun e w' => e = .returned (.bool r) ∧ Below w.heap.size w w' := by
 have R := Aside0.mk (And.intro hr0_2 (And.intro hr0_3 (And.intro hr0_4 (And.intro hr0_5 (And.intro hr1_2 (And.intro hr1_3 (And.intro hr1_4 hr1_5)))))))
 have C := Aside0.mk (And.intro hc0_2 (And.intro hc0_3 (And.intro hc0_4 (And.intro hc0_5 (And.intro hc1_2 (And.intro hc1_3 (And.intro hc1_4 hc1_5)))))))
 clear hr0_2 hc0_2 hr0_3 hc0_3 hr0_4 hc0_4 hr0_5 hc0_5 hr1_2 hc1_2 hr1_3 hc1_3 hr1_4 hc1_4 hr1_5 hc1_5
 obtain ⟨x, y, hb⟩ := box2 w #[.int .i64 a0_0, .int .i64 a0_1, .slice A0_2 l0_2.length c0_2, .slice A0_3 l0_3.length c0_3, .slice A0_4 l0_4.length c0_4, .slice A0_5 l0_5.length c0_5] 26 #[.int .i64 a1_0, .int .i64 a1_1, .slice A1_2 l1_2.length c1_2, .slice A1_3 l1_3.length c1_3, .slice A1_4 l1_4.length c1_4, .slice A1_5 l1_5.length c1_5] 26
 unfold trivetref04_SameTxn.f at h
 have H := Aside0.mk h
 clear h
 go_enter Tryz.func63, Tryz.ntmps63
 go_upto_region 1 with fail
 obtain ⟨W, hW⟩ : ∃ W, (w.alloc (.cells #[.int .i64 a0_0, .int .i64 a0_1, .slice A0_2 l0_2.length c0_2, .slice A0_3 l0_3.length c0_3, .slice A0_4 l0_4.length c0_4, .slice A0_5 l0_5.length c0_5] 26)).alloc (.cells #[.int .i64 a1_0, .int .i64 a1_1, .slice A1_2 l1_2.length c1_2, .slice A1_3 l1_3.length c1_3, .slice A1_4 l1_4.length c1_4, .slice A1_5 l1_5.length c1_5] 26) = W := ⟨_, rfl⟩
 rw [hW] at x y hb ⊢
 have X := Aside0.mk x; have Y := Aside0.mk y; have B := Aside0.mk hb
 clear x y hb hW
 have x0 : W.cell? ⟨w.heap.size, 0, none⟩ = some (.int .i64 a0_0) := (blk_cell X.out 0).trans rfl
 have y0 : W.cell? ⟨w.heap.size + 1, 0, none⟩ = some (.int .i64 a1_0) := (blk_cell Y.out 0).trans rfl
 by_cases q : a0_0 = a1_0
 rotate_left
 ·have h := H.out; rw [if_neg q] at h; obtain rfl := Option.some.inj h
  have n0 : (a0_0 == a1_0) = false := beq_eq_false_iff_ne.2 q; clear h q
  go_wp2_with fail
  go_ret
  exact ⟨rfl, B.out⟩
 have h := H.out; rw [if_pos q] at h; clear H; have H := Aside0.mk h; have p00 : (a0_0 == a1_0) = true := beq_iff_eq.2 q; clear h q
 have x1 : W.cell? ⟨w.heap.size, 1, none⟩ = some (.int .i64 a0_1) := (blk_cell X.out 1).trans rfl
 have y1 : W.cell? ⟨w.heap.size + 1, 1, none⟩ = some (.int .i64 a1_1) := (blk_cell Y.out 1).trans rfl
 by_cases q : a0_1 = a1_1
 rotate_left
 ·have h := H.out; rw [if_neg q] at h; obtain rfl := Option.some.inj h
  have n0 : (a0_1 == a1_1) = false := beq_eq_false_iff_ne.2 q; clear h q
  go_wp2_with fail
  go_ret
  exact ⟨rfl, B.out⟩
 have h := H.out; rw [if_pos q] at h; clear H; have H := Aside0.mk h; have p10 : (a0_1 == a1_1) = true := beq_iff_eq.2 q; clear h q
 have x2 : W.cell? ⟨w.heap.size, 2, none⟩ = some (.slice A0_2 l0_2.length c0_2) := (blk_cell X.out 2).trans rfl
 have y2 : W.cell? ⟨w.heap.size + 1, 2, none⟩ = some (.slice A1_2 l1_2.length c1_2) := (blk_cell Y.out 2).trans rfl
 have v0 := Kd.C_string (P := Tryz.prog) (src := 23) (dst := 9) (e := 5) (c := c0_2) Tryz.underlying23 Tryz.underlying5 Tryz.underlying9 (Kd.C_below R.out.1 B.out)
 have v1 := Kd.C_string (P := Tryz.prog) (src := 23) (dst := 9) (e := 5) (c := c1_2) Tryz.underlying23 Tryz.underlying5 Tryz.underlying9 (Kd.C_below R.out.2.2.2.2.1 B.out)
 by_cases q : (strOfNums l0_2).toList = (strOfNums l1_2).toList
 rotate_left
 ·have h := H.out; rw [if_neg q] at h; obtain rfl := Option.some.inj h
  have n0 : ((strOfNums l0_2).toList == (strOfNums l1_2).toList) = false := beq_eq_false_iff_ne.2 q; clear h q
  go_wp2_with fail
  go_ret
  exact ⟨rfl, B.out⟩
 have h := H.out; rw [if_pos q] at h; clear H; have H := Aside0.mk h; have p20 : ((strOfNums l0_2).toList == (strOfNums l1_2).toList) = true := beq_iff_eq.2 q; clear h q
 have x3 : W.cell? ⟨w.heap.size, 3, none⟩ = some (.slice A0_3 l0_3.length c0_3) := (blk_cell X.out 3).trans rfl
 have y3 : W.cell? ⟨w.heap.size + 1, 3, none⟩ = some (.slice A1_3 l1_3.length c1_3) := (blk_cell Y.out 3).trans rfl
 obtain ⟨b, e, h⟩ := Option.bind_eq_some_iff.1 H.out
 have E := Aside0.mk e; have H1 := Aside0.mk h; clear e h H
 go_wp2_with fail
 refine (trivetref04_SameInts.calls k A0_3 c0_3 l0_3 A1_3 c1_3 l1_3 b W (Kd.C_below R.out.2.1 B.out) C.out.2.1 (Kd.C_below R.out.2.2.2.2.2.1 B.out) C.out.2.2.2.2.2.1 E.out).mono ?_
 rintro e W3 ⟨rfl, d⟩
 have B3 := Aside0.mk (below_step B.out d.below); have X3 := Aside0.mk (blk_below X.out d.below); have Y3 := Aside0.mk (blk_below Y.out d.below)
 clear d B E X Y x3 y3
 have B := B3; have X := X3; have Y := Y3; clear B3 X3 Y3
 cases b with
 | false =>
  have h := H1.out; rw [if_neg (by decide)] at h; obtain rfl := Option.some.inj h; clear h
  go_wp2_with fail
  go_ret
  exact ⟨rfl, B.out⟩
 | true =>
  have h := H1.out; rw [if_pos rfl] at h; have H := Aside0.mk h; clear h H1
  have x4 : W3.cell? ⟨w.heap.size, 4, none⟩ = some (.slice A0_4 l0_4.length c0_4) := (blk_cell X.out 4).trans rfl
  have y4 : W3.cell? ⟨w.heap.size + 1, 4, none⟩ = some (.slice A1_4 l1_4.length c1_4) := (blk_cell Y.out 4).trans rfl
  obtain ⟨b, e, h⟩ := Option.bind_eq_some_iff.1 H.out
  have E := Aside0.mk e; have H1 := Aside0.mk h; clear e h H
  go_wp2_with fail
  refine (trivetref04_SameKeys.calls k A0_4 c0_4 l0_4 A1_4 c1_4 l1_4 b W3 (Kd.C_below R.out.2.2.1 B.out) C.out.2.2.1 (Kd.C_below R.out.2.2.2.2.2.2.1 B.out) C.out.2.2.2.2.2.2.1 E.out).mono ?_
  rintro e W4 ⟨rfl, d⟩
  have B4 := Aside0.mk (below_step B.out d.below); have X4 := Aside0.mk (blk_below X.out d.below); have Y4 := Aside0.mk (blk_below Y.out d.below)
  clear d B E X Y x4 y4
  have B := B4; have X := X4; have Y := Y4; clear B4 X4 Y4
  cases b with
  | false =>
   have h := H1.out; rw [if_neg (by decide)] at h; obtain rfl := Option.some.inj h; clear h
   go_wp2_with fail
   go_ret
   exact ⟨rfl, B.out⟩
  | true =>
   have h := H1.out; rw [if_pos rfl] at h; have H := Aside0.mk h; clear h H1
   have x5 : W4.cell? ⟨w.heap.size, 5, none⟩ = some (.slice A0_5 l0_5.length c0_5) := (blk_cell X.out 5).trans rfl
   have y5 : W4.cell? ⟨w.heap.size + 1, 5, none⟩ = some (.slice A1_5 l1_5.length c1_5) := (blk_cell Y.out 5).trans rfl
   obtain ⟨b, e, h⟩ := Option.bind_eq_some_iff.1 H.out
   have E := Aside0.mk e; have H1 := Aside0.mk h; clear e h H
   go_wp2_with fail
   refine (trivetref04_SameKeys.calls k A0_5 c0_5 l0_5 A1_5 c1_5 l1_5 b W4 (Kd.C_below R.out.2.2.2.1 B.out) C.out.2.2.2.1 (Kd.C_below R.out.2.2.2.2.2.2.2 B.out) C.out.2.2.2.2.2.2.2 E.out).mono ?_
   rintro e W5 ⟨rfl, d⟩
   have B5 := Aside0.mk (below_step B.out d.below); have X5 := Aside0.mk (blk_below X.out d.below); have Y5 := Aside0.mk (blk_below Y.out d.below)
   clear d B E X Y x5 y5
   have B := B5; have X := X5; have Y := Y5; clear B5 X5 Y5
   obtain rfl := Option.some.inj H1.out
   go_wp2_with fail
   go_ret
   exact ⟨rfl, B.out⟩
end Go.Proofs.YtgiefblcckikeaaGreat.G
end

section
-- Written by a program of this session's (wip/gprint.py over the kit's printer).
namespace Go.Proofs.YtgiefblcckikeaaGreat.G
open Go.RowKit Go.Proofs.YtgiefblcckikeaaGreatW.PrintWords Go.Proofs.YtgiefblcckikeaaGreatW.PrintLast Go.Proofs.YtgiefblcckikeaaGreatW.PrintMore
attribute [local go_sem] max2_int min2_int max_two min_two max_three min_three max_four min_four   -- for this text's walks alone
mutual
def trivetref04_SameEntry.j0 : Nat → Bool → Int → Int → Int → List (S26) → Int → Int → Int → List (S26) → Option (Bool)
 | 0, _, _, _, _, _, _, _, _, _ => none
 | k + 1, x33, x148000, x148001, x148002, x148003, x149000, x149001, x149002, x149003 => if x33 = true then (some false) else (trivetref04_SameEntry.l0 k 0 x148000 x148001 x148002 x148003 x149000 x149001 x149002 x149003)
def trivetref04_SameEntry.l0 : Nat → Int → Int → Int → Int → List (S26) → Int → Int → Int → List (S26) → Option (Bool)
 | 0, _, _, _, _, _, _, _, _, _ => none
 | k + 1, x5, x148000, x148001, x148002, x148003, x149000, x149001, x149002, x149003 => if x5 < (x148003.length : Int) then (if 0 ≤ x5 then (if x5 < (x149003.length : Int) then ((trivetref04_SameTxn.f k ((rd_T26 x148003 x5).f0) ((rd_T26 x148003 x5).f1) ((rd_T26 x148003 x5).f2) ((rd_T26 x148003 x5).f3) ((rd_T26 x148003 x5).f4) ((rd_T26 x148003 x5).f5) ((rd_T26 x149003 x5).f0) ((rd_T26 x149003 x5).f1) ((rd_T26 x149003 x5).f2) ((rd_T26 x149003 x5).f3) ((rd_T26 x149003 x5).f4) ((rd_T26 x149003 x5).f5)).bind fun t151 => (if t151 = true then (trivetref04_SameEntry.l0 k (wrap64 (x5 + 1)) x148000 x148001 x148002 x148003 x149000 x149001 x149002 x149003) else (some false))) else (none)) else (none)) else (some true)
end
def trivetref04_SameEntry.f (k : Nat) (a0_0 : Int) (a0_1 : Int) (a0_2 : Int) (l0_3 : List (S26)) (a1_0 : Int) (a1_1 : Int) (a1_2 : Int) (l1_3 : List (S26)) : Option (Bool) := if a0_0 = a1_0 then (if a0_1 = a1_1 then (if a0_2 = a1_2 then (trivetref04_SameEntry.j0 k ((l0_3.length : Int) != (l1_3.length : Int)) a0_0 a0_1 a0_2 l0_3 a1_0 a1_1 a1_2 l1_3) else (trivetref04_SameEntry.j0 k true a0_0 a0_1 a0_2 l0_3 a1_0 a1_1 a1_2 l1_3)) else (trivetref04_SameEntry.j0 k true a0_0 a0_1 a0_2 l0_3 a1_0 a1_1 a1_2 l1_3)) else (trivetref04_SameEntry.j0 k true a0_0 a0_1 a0_2 l0_3 a1_0 a1_1 a1_2 l1_3)
def trivetref04_SameEntry.T6 : Bool × List (List Nat × List Nat) := (true, [([], []), ([0], [0]), ([], []), ([1, 2], [1, 2]), ([3], [3]), ([], []), ([5], [5]), ([], []), ([6, 7], [6, 7]), ([8], [8]), ([4, 9], [4, 9]), ([10], [10])])
def trivetref04_SameEntry.B6 : List Nat := [0, 1, 0, 7, 15, 0, 32, 0, 224, 480, 1023, 2047]
theorem trivetref04_SameEntry.tab6 : rtab .any (opsOf Tryz.f27 6) = trivetref04_SameEntry.T6 := by kernel_rfl
theorem trivetref04_SameEntry.bits6 : waitsOk trivetref04_SameEntry.T6.2 trivetref04_SameEntry.B6 = true := by kernel_rfl
set_option maxHeartbeats 8000000 in
set_option maxRecDepth 100000 in
theorem trivetref04_SameEntry.calls (k : Nat) (a0_0 : Int) (a0_1 : Int) (a0_2 : Int) (A0_3 : Option Addr) (c0_3 : Nat) (l0_3 : List (S26)) (a1_0 : Int) (a1_1 : Int) (a1_2 : Int) (A1_3 : Option Addr) (c1_3 : Nat) (l1_3 : List (S26)) (r : Bool) (w : World) (hr0_3 : Kd.C k26 w A0_3 l0_3.length l0_3) (hc0_3 : l0_3.length ≤ c0_3) (hr1_3 : Kd.C k26 w A1_3 l1_3.length l1_3) (hc1_3 : l1_3.length ≤ c1_3) (h : trivetref04_SameEntry.f k a0_0 a0_1 a0_2 l0_3 a1_0 a1_1 a1_2 l1_3 = some r) :
  Calls Tryz.prog 27 #[.agg #[.int .i64 a0_0, .int .i64 a0_1, .int .i64 a0_2, .slice A0_3 l0_3.length c0_3], .agg #[.int .i64 a1_0, .int .i64 a1_1, .int .i64 a1_2, .slice A1_3 l1_3.length c1_3]] w fun e w' => e = .returned (.bool r) ∧ Below w.heap.size w w' := by
 have hu29 := Tryz.underlying29
 have hu26 := Tryz.underlying26
 have HR0_3 := Aside0.mk hr0_3
 have HC0_3 := Aside0.mk hc0_3
 clear hr0_3 hc0_3
 have HR1_3 := Aside0.mk hr1_3
 have HC1_3 := Aside0.mk hc1_3
 clear hr1_3 hc1_3
 have HB := Aside0.mk (Below.refl w.heap.size w)
 have H : (if a0_0 = a1_0 then (if a0_1 = a1_1 then (if a0_2 = a1_2 then (trivetref04_SameEntry.j0 k ((l0_3.length : Int) != (l1_3.length : Int)) a0_0 a0_1 a0_2 l0_3 a1_0 a1_1 a1_2 l1_3) else (trivetref04_SameEntry.j0 k true a0_0 a0_1 a0_2 l0_3 a1_0 a1_1 a1_2 l1_3)) else (trivetref04_SameEntry.j0 k true a0_0 a0_1 a0_2 l0_3 a1_0 a1_1 a1_2 l1_3)) else (trivetref04_SameEntry.j0 k true a0_0 a0_1 a0_2 l0_3 a1_0 a1_1 a1_2 l1_3)) = some r := h
 clear h
 have HC3 := Aside0.mk H
 clear H
 go_enter Tryz.func27, Tryz.ntmps27
 go_upto_region 1 with (first | ((with_reducible refine gate_dst (N := 2) rfl ?_); (try (refine gate_guard (by rfl) ?_; dsimp only)); refine box_event ?hg (N := 2) ?hd (cs := #[.int .i64 a0_0, .int .i64 a0_1, .int .i64 a0_2, .slice A0_3 l0_3.length c0_3]) (t := 29) ?hr ?_; (case hd => rfl); (case hg => rfl); (case hr => first | (go_simp; done) | (go_simp; rfl)); intro gb147 hg w4 hbox hb; have n0_ := Aside0.mk (below_step (stB HB.out) hb); have n1_ := Aside0.mk (hbox); have n2_ := Aside0.mk ((by rw [hg]; exact (below_size (stB HB.out)) : w.heap.size ≤ gb147)); have n3_ := Aside0.mk ((by rw [hg]; exact (below_size (stB HB.out)) : w.heap.size ≤ gb147)); clear HB; have HB := n0_; have BK147 := n1_; have GW147 := n2_; have GE147 := n3_; clear n0_ n1_ n2_ n3_; clear hb hbox hg) | ((with_reducible refine gate_dst (N := 3) rfl ?_); (try (refine gate_guard (by rfl) ?_; dsimp only)); refine box_event ?hg (N := 3) ?hd (cs := #[.int .i64 a1_0, .int .i64 a1_1, .int .i64 a1_2, .slice A1_3 l1_3.length c1_3]) (t := 29) ?hr ?_; (case hd => rfl); (case hg => rfl); (case hr => first | (go_simp; done) | (go_simp; rfl)); intro gb148 hg w5 hbox hb; have n0_ := Aside0.mk (blk_below (g := gb147) (o := .cells #[.int .i64 a0_0, .int .i64 a0_1, .int .i64 a0_2, .slice A0_3 l0_3.length c0_3] 29 (0, 0)) (stK BK147.out) hb); have n1_ := Aside0.mk (below_step (by repeat (first | (with_reducible first | exact HB.out | apply below_alloc | apply pw_below_drewN | apply below_drew1 | refine below_set ?_ GE147.out) | exact HB.out)) hb); have n2_ := Aside0.mk (hbox); have n3_ := Aside0.mk ((by rw [hg]; exact (below_size (by repeat (first | (with_reducible first | exact HB.out | apply below_alloc | apply pw_below_drewN | apply below_drew1 | refine below_set ?_ GE147.out) | exact HB.out))) : w.heap.size ≤ gb148)); have n4_ := Aside0.mk ((by rw [hg]; exact (below_size (by repeat (first | (with_reducible first | exact HB.out | apply below_alloc | apply pw_below_drewN | apply below_drew1 | refine below_set ?_ GE147.out) | exact HB.out))) : w.heap.size ≤ gb148)); have n5_ := Aside0.mk ((by rw [hg]; exact Nat.ne_of_lt (blk_lt (g := gb147) (o := .cells #[.int .i64 a0_0, .int .i64 a0_1, .int .i64 a0_2, .slice A0_3 l0_3.length c0_3] 29 (0, 0)) (stK BK147.out)) : gb147 ≠ gb148)); have n6_ := Aside0.mk ((by rw [hg]; exact Nat.ne_of_gt (blk_lt (g := gb147) (o := .cells #[.int .i64 a0_0, .int .i64 a0_1, .int .i64 a0_2, .slice A0_3 l0_3.length c0_3] 29 (0, 0)) (stK BK147.out)) : gb148 ≠ gb147)); clear BK147; clear HB; have BK147 := n0_; have HB := n1_; have BK148 := n2_; have GW148 := n3_; have GE148 := n4_; have NB147_148 := n5_; have NB148_147 := n6_; clear n0_ n1_ n2_ n3_ n4_ n5_ n6_; clear hb hbox hg))
 (try simp only [Act.put, sq1, sq2, sq3])
 go_cut [33] (fun v33 wc => ∃ (kq : Nat) (x33_2 : Bool), v33 = .bool x33_2 ∧ Aside0 (trivetref04_SameEntry.j0 kq x33_2 a0_0 a0_1 a0_2 l0_3 a1_0 a1_1 a1_2 l1_3 = some r) ∧ Aside0 (kq ≤ k) ∧ Aside0 (wc.heap[gb147]? = some (.cells #[.int .i64 a0_0, .int .i64 a0_1, .int .i64 a0_2, (.slice A0_3 l0_3.length c0_3)] 29 (0, 0))) ∧ Aside0 (wc.heap[gb148]? = some (.cells #[.int .i64 a1_0, .int .i64 a1_1, .int .i64 a1_2, (.slice A1_3 l1_3.length c1_3)] 29 (0, 0))) ∧ Aside0 (Below w.heap.size w wc))
 case first =>
  have H := HC3.out
  clear HC3
  by_cases c6 : a0_0 = a1_0
  ·rw [if_pos c6] at H
   have c6b0 : (a0_0 == a1_0) = true := beq_iff_eq.mpr c6
   have c6b1 : (a0_0 != a1_0) = false := bne_eq_false_iff_eq.mpr c6
   clear c6
   (first | rw [c6b0] | (simp only [i64_w, i32_w]; rw [c6b0]) | skip)
   by_cases c7 : a0_1 = a1_1
   ·rw [if_pos c7] at H
    have c7b0 : (a0_1 == a1_1) = true := beq_iff_eq.mpr c7
    have c7b1 : (a0_1 != a1_1) = false := bne_eq_false_iff_eq.mpr c7
    clear c7
    by_cases c8 : a0_2 = a1_2
    ·rw [if_pos c8] at H
     have c8b0 : (a0_2 == a1_2) = true := beq_iff_eq.mpr c8
     have c8b1 : (a0_2 != a1_2) = false := bne_eq_false_iff_eq.mpr c8
     clear c8
     have H' := Aside0.mk H
     clear H
     have hnb9 := NB147_148.out
     have hnc9 := NB148_147.out
     obtain ⟨hcz10_0, hcz10_1, hcz10_2, hcz10_3⟩ := bc4 BK147.out
     obtain ⟨hfz10_0, hfz10_1, hfz10_2, hfz10_3⟩ := bf4 BK147.out
     obtain ⟨hcz11_0, hcz11_1, hcz11_2, hcz11_3⟩ := bc4 BK148.out
     obtain ⟨hfz11_0, hfz11_1, hfz11_2, hfz11_3⟩ := bf4 BK148.out
     go_wp2
     go_meet
     case rel => exact ⟨_, (((l0_3.length : Int) != (l1_3.length : Int))), (by first | rfl | (simp; done) | (simp [*]; done)), H', ⟨by first | omega | exact Nat.le_refl _⟩, ⟨stK BK147.out⟩, ⟨stK BK148.out⟩, ⟨by repeat (first | (with_reducible first | exact HB.out | apply below_alloc | apply pw_below_drewN | apply below_drew1 | refine below_set ?_ GE147.out | refine below_set ?_ GE148.out) | exact HB.out)⟩⟩
    ·rw [if_neg c8] at H
     have c8b0 : (a0_2 == a1_2) = false := beq_eq_false_iff_ne.mpr c8
     have c8b1 : (a0_2 != a1_2) = true := bne_iff_ne.mpr c8
     have H' := Aside0.mk H
     clear H
     have hnb12 := NB147_148.out
     have hnc12 := NB148_147.out
     obtain ⟨hcz13_0, hcz13_1, hcz13_2, hcz13_3⟩ := bc4 BK147.out
     obtain ⟨hfz13_0, hfz13_1, hfz13_2, hfz13_3⟩ := bf4 BK147.out
     obtain ⟨hcz14_0, hcz14_1, hcz14_2, hcz14_3⟩ := bc4 BK148.out
     obtain ⟨hfz14_0, hfz14_1, hfz14_2, hfz14_3⟩ := bf4 BK148.out
     go_wp2
     go_meet
     case rel => exact ⟨_, (true), (by first | rfl | (simp; done) | (simp [*]; done)), H', ⟨by first | omega | exact Nat.le_refl _⟩, ⟨stK BK147.out⟩, ⟨stK BK148.out⟩, ⟨by repeat (first | (with_reducible first | exact HB.out | apply below_alloc | apply pw_below_drewN | apply below_drew1 | refine below_set ?_ GE147.out | refine below_set ?_ GE148.out) | exact HB.out)⟩⟩
   ·rw [if_neg c7] at H
    have c7b0 : (a0_1 == a1_1) = false := beq_eq_false_iff_ne.mpr c7
    have c7b1 : (a0_1 != a1_1) = true := bne_iff_ne.mpr c7
    have H' := Aside0.mk H
    clear H
    have hnb15 := NB147_148.out
    have hnc15 := NB148_147.out
    obtain ⟨hcz16_0, hcz16_1, hcz16_2, hcz16_3⟩ := bc4 BK147.out
    obtain ⟨hfz16_0, hfz16_1, hfz16_2, hfz16_3⟩ := bf4 BK147.out
    obtain ⟨hcz17_0, hcz17_1, hcz17_2, hcz17_3⟩ := bc4 BK148.out
    obtain ⟨hfz17_0, hfz17_1, hfz17_2, hfz17_3⟩ := bf4 BK148.out
    go_wp2
    go_meet
    case rel => exact ⟨_, (true), (by first | rfl | (simp; done) | (simp [*]; done)), H', ⟨by first | omega | exact Nat.le_refl _⟩, ⟨stK BK147.out⟩, ⟨stK BK148.out⟩, ⟨by repeat (first | (with_reducible first | exact HB.out | apply below_alloc | apply pw_below_drewN | apply below_drew1 | refine below_set ?_ GE147.out | refine below_set ?_ GE148.out) | exact HB.out)⟩⟩
  ·rw [if_neg c6] at H
   have c6b0 : (a0_0 == a1_0) = false := beq_eq_false_iff_ne.mpr c6
   have c6b1 : (a0_0 != a1_0) = true := bne_iff_ne.mpr c6
   (first | rw [c6b0] | (simp only [i64_w, i32_w]; rw [c6b0]) | skip)
   have H' := Aside0.mk H
   clear H
   have hnb18 := NB147_148.out
   have hnc18 := NB148_147.out
   obtain ⟨hcz19_0, hcz19_1, hcz19_2, hcz19_3⟩ := bc4 BK147.out
   obtain ⟨hfz19_0, hfz19_1, hfz19_2, hfz19_3⟩ := bf4 BK147.out
   obtain ⟨hcz20_0, hcz20_1, hcz20_2, hcz20_3⟩ := bc4 BK148.out
   obtain ⟨hfz20_0, hfz20_1, hfz20_2, hfz20_3⟩ := bf4 BK148.out
   go_wp2
   go_meet
   case rel => exact ⟨_, (true), (by first | rfl | (simp; done) | (simp [*]; done)), H', ⟨by first | omega | exact Nat.le_refl _⟩, ⟨stK BK147.out⟩, ⟨stK BK148.out⟩, ⟨by repeat (first | (with_reducible first | exact HB.out | apply below_alloc | apply pw_below_drewN | apply below_drew1 | refine below_set ?_ GE147.out | refine below_set ?_ GE148.out) | exact HB.out)⟩⟩
 case rest =>
  clear HC3
  try clear c1
  try clear c2
  try clear p2
  try clear c6
  try clear c6b0
  try clear c6b1
  try clear c7
  try clear c7b0
  try clear c7b1
  try clear c8
  try clear c8b0
  try clear c8b1
  try clear c9
  try clear c12
  try clear c15
  try clear c18
  try clear hcz10_0
  try clear hcz10_1
  try clear hcz10_2
  try clear hcz10_3
  try clear hcz11_0
  try clear hcz11_1
  try clear hcz11_2
  try clear hcz11_3
  try clear hcz13_0
  try clear hcz13_1
  try clear hcz13_2
  try clear hcz13_3
  try clear hcz14_0
  try clear hcz14_1
  try clear hcz14_2
  try clear hcz14_3
  try clear hcz16_0
  try clear hcz16_1
  try clear hcz16_2
  try clear hcz16_3
  try clear hcz17_0
  try clear hcz17_1
  try clear hcz17_2
  try clear hcz17_3
  try clear hcz19_0
  try clear hcz19_1
  try clear hcz19_2
  try clear hcz19_3
  try clear hcz20_0
  try clear hcz20_1
  try clear hcz20_2
  try clear hcz20_3
  try clear hfz10_0
  try clear hfz10_1
  try clear hfz10_2
  try clear hfz10_3
  try clear hfz11_0
  try clear hfz11_1
  try clear hfz11_2
  try clear hfz11_3
  try clear hfz13_0
  try clear hfz13_1
  try clear hfz13_2
  try clear hfz13_3
  try clear hfz14_0
  try clear hfz14_1
  try clear hfz14_2
  try clear hfz14_3
  try clear hfz16_0
  try clear hfz16_1
  try clear hfz16_2
  try clear hfz16_3
  try clear hfz17_0
  try clear hfz17_1
  try clear hfz17_2
  try clear hfz17_3
  try clear hfz19_0
  try clear hfz19_1
  try clear hfz19_2
  try clear hfz19_3
  try clear hfz20_0
  try clear hfz20_1
  try clear hfz20_2
  try clear hfz20_3
  obtain ⟨kq, x33_2, rfl, HA, HJ2, BK147, BK148, HB⟩ := hcut
  cases kq with
  | zero => exact absurd HA.out (by simp [trivetref04_SameEntry.j0])
  | succ kj2 =>
   have H := HA.out
   clear HA
   simp only [trivetref04_SameEntry.j0] at H
   by_cases c21 : x33_2 = true
   ·subst c21
    have H1 : (some false) = some r := by rw [if_pos rfl] at H; exact H
    clear H
    have H := H1
    clear H1
    obtain rfl := Option.some.inj H
    go_wp2
    go_ret
    exact ⟨by first | rfl | (simp [errW_none, errW_some] <;> rfl) | (simp [*, errW_none, errW_some] <;> rfl), by repeat (first | (with_reducible first | exact HB.out | apply below_alloc | apply pw_below_drewN | apply below_drew1 | refine below_set ?_ GE147.out | refine below_set ?_ GE148.out) | exact HB.out)⟩
   ·replace c21 := Bool.eq_false_iff.mpr c21
    subst c21
    have H1 : (trivetref04_SameEntry.l0 kj2 0 a0_0 a0_1 a0_2 l0_3 a1_0 a1_1 a1_2 l1_3) = some r := by rw [if_neg (show ¬ (false = true) by decide)] at H; exact H
    clear H
    have H := H1
    clear H1
    have H' := Aside0.mk H
    clear H
    go_wp2
    go_loopg [5] kj2 (fun kq v5 w' => ∃ (x5_2 : Int), v5 = .int .i64 x5_2 ∧ Aside0 (trivetref04_SameEntry.l0 kq x5_2 a0_0 a0_1 a0_2 l0_3 a1_0 a1_1 a1_2 l1_3 = some r) ∧ Aside0 (kq ≤ kj2) ∧ Aside0 (w'.heap[gb147]? = some (.cells #[.int .i64 a0_0, .int .i64 a0_1, .int .i64 a0_2, (.slice A0_3 l0_3.length c0_3)] 29 (0, 0))) ∧ Aside0 (w'.heap[gb148]? = some (.cells #[.int .i64 a1_0, .int .i64 a1_1, .int .i64 a1_2, (.slice A1_3 l1_3.length c1_3)] 29 (0, 0))) ∧ Aside0 (Below w.heap.size w w'))
    case atStart => exact ⟨(0), (by first | rfl | (simp; done) | (simp [*]; done)), H', ⟨Nat.le_refl _⟩, ⟨stK BK147.out⟩, ⟨stK BK148.out⟩, ⟨by repeat (first | (with_reducible first | exact HB.out | apply below_alloc | apply pw_below_drewN | apply below_drew1 | refine below_set ?_ GE147.out | refine below_set ?_ GE148.out) | exact HB.out)⟩⟩
    case round =>
     clear H'
     try clear c1
     try clear c2
     try clear p2
     try clear c6
     try clear c6b0
     try clear c6b1
     try clear c7
     try clear c7b0
     try clear c7b1
     try clear c8
     try clear c8b0
     try clear c8b1
     try clear c9
     try clear c12
     try clear c15
     try clear c18
     try clear c21
     try clear hcz10_0
     try clear hcz10_1
     try clear hcz10_2
     try clear hcz10_3
     try clear hcz11_0
     try clear hcz11_1
     try clear hcz11_2
     try clear hcz11_3
     try clear hcz13_0
     try clear hcz13_1
     try clear hcz13_2
     try clear hcz13_3
     try clear hcz14_0
     try clear hcz14_1
     try clear hcz14_2
     try clear hcz14_3
     try clear hcz16_0
     try clear hcz16_1
     try clear hcz16_2
     try clear hcz16_3
     try clear hcz17_0
     try clear hcz17_1
     try clear hcz17_2
     try clear hcz17_3
     try clear hcz19_0
     try clear hcz19_1
     try clear hcz19_2
     try clear hcz19_3
     try clear hcz20_0
     try clear hcz20_1
     try clear hcz20_2
     try clear hcz20_3
     try clear hfz10_0
     try clear hfz10_1
     try clear hfz10_2
     try clear hfz10_3
     try clear hfz11_0
     try clear hfz11_1
     try clear hfz11_2
     try clear hfz11_3
     try clear hfz13_0
     try clear hfz13_1
     try clear hfz13_2
     try clear hfz13_3
     try clear hfz14_0
     try clear hfz14_1
     try clear hfz14_2
     try clear hfz14_3
     try clear hfz16_0
     try clear hfz16_1
     try clear hfz16_2
     try clear hfz16_3
     try clear hfz17_0
     try clear hfz17_1
     try clear hfz17_2
     try clear hfz17_3
     try clear hfz19_0
     try clear hfz19_1
     try clear hfz19_2
     try clear hfz19_3
     try clear hfz20_0
     try clear hfz20_1
     try clear hfz20_2
     try clear hfz20_3
     try clear p2
     obtain ⟨x5_2, rfl, HA, HK2, BK147, BK148, HB⟩ := hrel
     cases gk with
     | zero => exact absurd HA.out (by simp [trivetref04_SameEntry.l0])
     | succ k2 =>
      have H := HA.out
      clear HA
      simp only [trivetref04_SameEntry.l0] at H
      by_cases c22 : x5_2 < (l0_3.length : Int)
      ·rw [if_pos c22] at H
       have c22b0 : decide (x5_2 < (l0_3.length : Int)) = true := decide_eq_true c22
       clear c22
       by_cases c23 : 0 ≤ x5_2
       ·rw [if_pos c23] at H
        have c23b0 : decide (0 ≤ x5_2) = true := decide_eq_true c23
        clear c23
        by_cases c24 : x5_2 < (l1_3.length : Int)
        ·rw [if_pos c24] at H
         have c24b0 : decide (x5_2 < (l1_3.length : Int)) = true := decide_eq_true c24
         clear c24
         replace H := Option.bind_eq_some_iff.mp H
         obtain ⟨t151, A250, H⟩ := H
         replace H : (if t151 = true then (trivetref04_SameEntry.l0 k2 (wrap64 (x5_2 + 1)) a0_0 a0_1 a0_2 l0_3 a1_0 a1_1 a1_2 l1_3) else (some false)) = some r := H
         have A25 := Aside0.mk A250
         clear A250
         by_cases c26 : t151 = true
         ·subst c26
          have H1 : (trivetref04_SameEntry.l0 k2 (wrap64 (x5_2 + 1)) a0_0 a0_1 a0_2 l0_3 a1_0 a1_1 a1_2 l1_3) = some r := by rw [if_pos rfl] at H; exact H
          clear H
          have H := H1
          clear H1
          have H' := Aside0.mk H
          clear H
          have hnb27 := NB147_148.out
          have hnc27 := NB148_147.out
          obtain ⟨hcz28_0, hcz28_1, hcz28_2, hcz28_3⟩ := bc4 BK147.out
          obtain ⟨hfz28_0, hfz28_1, hfz28_2, hfz28_3⟩ := bf4 BK147.out
          try go_wp2
          have n0_ := Aside0.mk (blk_drew BK147.out)
          have n1_ := Aside0.mk (blk_drew BK148.out)
          have n2_ := Aside0.mk (below_drew1 HB.out)
          clear BK147
          clear BK148
          clear HB
          have BK147 := n0_
          have BK148 := n1_
          have HB := n2_
          clear n0_ n1_ n2_
          have p149 : 0 ≤ (x5_2 : Int) := of_decide_eq_true (by first | (with_reducible assumption) | assumption)
          have q149 : x5_2 < (l0_3.length : Int) := of_decide_eq_true (by first | (with_reducible assumption) | assumption)
          obtain ⟨ad149, A149_2, c149_2, A149_3, c149_3, A149_4, c149_4, A149_5, c149_5, e149, hx149_0, hx149_1, hx149_2, hx149_3, hx149_4, hx149_5, hl149_2, hi149_2, hl149_3, hi149_3, hl149_4, hi149_4, hl149_5, hi149_5⟩ := at_T26 HR0_3.out x5_2 p149 q149
          have hw149_5 := hx149_5
          have hw149_4 := hx149_4
          have hw149_3 := hx149_3
          have hw149_2 := hx149_2
          have hw149_1 := hx149_1
          have hw149_0 := hx149_0
          cases e149
          replace hx149_0 := cu HB.out hx149_0
          replace hx149_1 := cu HB.out hx149_1
          replace hx149_2 := cu HB.out hx149_2
          replace hx149_3 := cu HB.out hx149_3
          replace hx149_4 := cu HB.out hx149_4
          replace hx149_5 := cu HB.out hx149_5
          have HR149_2 := Aside0.mk hi149_2
          have HC149_2 := Aside0.mk hl149_2
          clear hi149_2 hl149_2
          have HR149_3 := Aside0.mk hi149_3
          have HC149_3 := Aside0.mk hl149_3
          clear hi149_3 hl149_3
          have HR149_4 := Aside0.mk hi149_4
          have HC149_4 := Aside0.mk hl149_4
          clear hi149_4 hl149_4
          have HR149_5 := Aside0.mk hi149_5
          have HC149_5 := Aside0.mk hl149_5
          clear hi149_5 hl149_5
          replace p149 := eq_true p149
          replace q149 := eq_true q149
          have p150 : 0 ≤ (x5_2 : Int) := of_decide_eq_true (by first | (with_reducible assumption) | assumption)
          have q150 : x5_2 < (l1_3.length : Int) := of_decide_eq_true (by first | (with_reducible assumption) | assumption)
          obtain ⟨ad150, A150_2, c150_2, A150_3, c150_3, A150_4, c150_4, A150_5, c150_5, e150, hx150_0, hx150_1, hx150_2, hx150_3, hx150_4, hx150_5, hl150_2, hi150_2, hl150_3, hi150_3, hl150_4, hi150_4, hl150_5, hi150_5⟩ := at_T26 HR1_3.out x5_2 p150 q150
          have hw150_5 := hx150_5
          have hw150_4 := hx150_4
          have hw150_3 := hx150_3
          have hw150_2 := hx150_2
          have hw150_1 := hx150_1
          have hw150_0 := hx150_0
          cases e150
          replace hx150_0 := cu HB.out hx150_0
          replace hx150_1 := cu HB.out hx150_1
          replace hx150_2 := cu HB.out hx150_2
          replace hx150_3 := cu HB.out hx150_3
          replace hx150_4 := cu HB.out hx150_4
          replace hx150_5 := cu HB.out hx150_5
          have HR150_2 := Aside0.mk hi150_2
          have HC150_2 := Aside0.mk hl150_2
          clear hi150_2 hl150_2
          have HR150_3 := Aside0.mk hi150_3
          have HC150_3 := Aside0.mk hl150_3
          clear hi150_3 hl150_3
          have HR150_4 := Aside0.mk hi150_4
          have HC150_4 := Aside0.mk hl150_4
          clear hi150_4 hl150_4
          have HR150_5 := Aside0.mk hi150_5
          have HC150_5 := Aside0.mk hl150_5
          clear hi150_5 hl150_5
          replace p150 := eq_true p150
          replace q150 := eq_true q150
          refine start_ (n := 12) (S := fun w' => w'.cell? ⟨gb147, 0, none⟩ = some (.int .i64 a0_0) ∧ w'.cell? ⟨gb147, 1, none⟩ = some (.int .i64 a0_1) ∧ w'.cell? ⟨gb147, 2, none⟩ = some (.int .i64 a0_2) ∧ w'.cell? ⟨gb147, 3, none⟩ = some (.slice (some ad149) l0_3.length c0_3) ∧ w'.cell? ⟨gb148, 0, none⟩ = some (.int .i64 a1_0) ∧ w'.cell? ⟨gb148, 1, none⟩ = some (.int .i64 a1_1) ∧ w'.cell? ⟨gb148, 2, none⟩ = some (.int .i64 a1_2) ∧ w'.cell? ⟨gb148, 3, none⟩ = some (.slice (some ad150) l1_3.length c1_3) ∧ w'.cell? (ad149.add ((x5_2).toNat * 6)) = some (.int .i64 ((rd_T26 l0_3 x5_2).f0)) ∧ w'.cell? ⟨(ad149.add ((x5_2).toNat * 6)).block, (ad149.add ((x5_2).toNat * 6)).off + 1, none⟩ = some (.int .i64 ((rd_T26 l0_3 x5_2).f1)) ∧ w'.cell? ⟨(ad149.add ((x5_2).toNat * 6)).block, (ad149.add ((x5_2).toNat * 6)).off + 2, none⟩ = some (.slice A149_2 ((rd_T26 l0_3 x5_2).f2).length c149_2) ∧ w'.cell? ⟨(ad149.add ((x5_2).toNat * 6)).block, (ad149.add ((x5_2).toNat * 6)).off + 3, none⟩ = some (.slice A149_3 ((rd_T26 l0_3 x5_2).f3).length c149_3) ∧ w'.cell? ⟨(ad149.add ((x5_2).toNat * 6)).block, (ad149.add ((x5_2).toNat * 6)).off + 4, none⟩ = some (.slice A149_4 ((rd_T26 l0_3 x5_2).f4).length c149_4) ∧ w'.cell? ⟨(ad149.add ((x5_2).toNat * 6)).block, (ad149.add ((x5_2).toNat * 6)).off + 5, none⟩ = some (.slice A149_5 ((rd_T26 l0_3 x5_2).f5).length c149_5) ∧ w'.cell? (ad150.add ((x5_2).toNat * 6)) = some (.int .i64 ((rd_T26 l1_3 x5_2).f0)) ∧ w'.cell? ⟨(ad150.add ((x5_2).toNat * 6)).block, (ad150.add ((x5_2).toNat * 6)).off + 1, none⟩ = some (.int .i64 ((rd_T26 l1_3 x5_2).f1)) ∧ w'.cell? ⟨(ad150.add ((x5_2).toNat * 6)).block, (ad150.add ((x5_2).toNat * 6)).off + 2, none⟩ = some (.slice A150_2 ((rd_T26 l1_3 x5_2).f2).length c150_2) ∧ w'.cell? ⟨(ad150.add ((x5_2).toNat * 6)).block, (ad150.add ((x5_2).toNat * 6)).off + 3, none⟩ = some (.slice A150_3 ((rd_T26 l1_3 x5_2).f3).length c150_3) ∧ w'.cell? ⟨(ad150.add ((x5_2).toNat * 6)).block, (ad150.add ((x5_2).toNat * 6)).off + 4, none⟩ = some (.slice A150_4 ((rd_T26 l1_3 x5_2).f4).length c150_4) ∧ w'.cell? ⟨(ad150.add ((x5_2).toNat * 6)).block, (ad150.add ((x5_2).toNat * 6)).off + 5, none⟩ = some (.slice A150_5 ((rd_T26 l1_3 x5_2).f5).length c150_5)) (ds := []) #[false, false, false, false, false, false, false, false, false, false, false, false] (by kernel_rfl) rfl rfl (bd4 BK147.out (bd4 BK148.out (⟨(cu HB.out hw149_0), (cu HB.out hw149_1), (cu HB.out hw149_2), (cu HB.out hw149_3), (cu HB.out hw149_4), (cu HB.out hw149_5), (cu HB.out hw150_0), (cu HB.out hw150_1), (cu HB.out hw150_2), (cu HB.out hw150_3), (cu HB.out hw150_4), (cu HB.out hw150_5)⟩))) (fun hHeld => ?_); refine with_tabW trivetref04_SameEntry.tab6 trivetref04_SameEntry.bits6 (fun HT_ HW_ => ?_)
          generalize wr.drew = w29 at BK147 BK148 HB HR149_2 HR149_3 HR149_4 HR149_5 HR150_2 HR150_3 HR150_4 HR150_5 hx149_0 hx149_1 hx149_2 hx149_3 hx149_4 hx149_5 hx150_0 hx150_1 hx150_2 hx150_3 hx150_4 hx150_5 hHeld ⊢
          refine pure_ (i := 0) (N := some 41) (v := ?_) (a' := ?_) #[true, false, false, false, false, false, false, false, false, false, false, false] rfl rfl (any_of HT_.out (by kernel_rfl)) (fun _ _ _ h => h) (Or.inl ⟨by rfl, ?_⟩) ?_ ?_
          rotate_left
          ·intro w'
           go_simp
           with_reducible rfl
          rotate_left
          ·simp only [Act.put, sq1, sq2, sq3, i64_w, i32_w]
           rfl
          refine pure_ (i := 2) (N := some 43) (v := ?_) (a' := ?_) #[true, false, true, false, false, false, false, false, false, false, false, false] rfl rfl (any_of HT_.out (by kernel_rfl)) (fun _ _ _ h => h) (Or.inl ⟨by rfl, ?_⟩) ?_ ?_
          rotate_left
          ·intro w'
           go_simp
           with_reducible rfl
          rotate_left
          ·simp only [Act.put, sq1, sq2, sq3, i64_w, i32_w]
           rfl
          refine pure_ (i := 5) (N := some 46) (v := ?_) (a' := ?_) #[true, false, true, false, false, true, false, false, false, false, false, false] rfl rfl (any_of HT_.out (by kernel_rfl)) (fun _ _ _ h => h) (Or.inl ⟨by rfl, ?_⟩) ?_ ?_
          rotate_left
          ·intro w'
           go_simp
           with_reducible rfl
          rotate_left
          ·simp only [Act.put, sq1, sq2, sq3, i64_w, i32_w]
           rfl
          refine pure_ (i := 7) (N := some 48) (v := ?_) (a' := ?_) #[true, false, true, false, false, true, false, true, false, false, false, false] rfl rfl (any_of HT_.out (by kernel_rfl)) (fun _ _ _ h => h) (Or.inl ⟨by rfl, ?_⟩) ?_ ?_
          rotate_left
          ·intro w'
           go_simp
           with_reducible rfl
          rotate_left
          ·simp only [Act.put, sq1, sq2, sq3, i64_w, i32_w]
           rfl
          refine take_ (i := 1) (N := some 42) (v := ?_) (a' := ?_) #[true, true, true, false, false, true, false, true, false, false, false, false] rfl rfl (take_ofW HT_.out HW_.out (by kernel_rfl)) (fun _ _ _ h => h) (Or.inl ⟨by rfl, ?_⟩) hHeld ?_ ?_
          rotate_left
          ·rintro w' ⟨s0, s1, s2, s3, s4, s5, s6, s7, s8, s9, s10, s11, s12, s13, s14, s15, s16, s17, s18, s19⟩
           go_simp
           with_reducible rfl
          rotate_left
          ·simp only [Act.put, sq1, sq2, sq3, i64_w, i32_w]
           rfl
          refine pure_ (i := 3) (N := some 44) (v := ?_) (a' := ?_) #[true, true, true, true, false, true, false, true, false, false, false, false] rfl rfl (any_of HT_.out (by kernel_rfl)) (fun _ _ _ h => h) (Or.inl ⟨by rfl, ?_⟩) ?_ ?_
          rotate_left
          ·intro w'
           go_simp
           with_reducible rfl
          rotate_left
          ·simp only [Act.put, sq1, sq2, sq3, i64_w, i32_w]
           rfl
          refine take_ (i := 4) (N := some 45) (v := ?_) (a' := ?_) #[true, true, true, true, true, true, false, true, false, false, false, false] rfl rfl (take_ofW HT_.out HW_.out (by kernel_rfl)) (fun _ _ _ h => h) (Or.inl ⟨by rfl, ?_⟩) hHeld ?_ ?_
          rotate_left
          ·rintro w' ⟨s0, s1, s2, s3, s4, s5, s6, s7, s8, s9, s10, s11, s12, s13, s14, s15, s16, s17, s18, s19⟩
           go_simp
           with_reducible rfl
          rotate_left
          ·simp only [Act.put, sq1, sq2, sq3, i64_w, i32_w]
           rfl
          refine take_ (i := 6) (N := some 47) (v := ?_) (a' := ?_) #[true, true, true, true, true, true, true, true, false, false, false, false] rfl rfl (take_ofW HT_.out HW_.out (by kernel_rfl)) (fun _ _ _ h => h) (Or.inl ⟨by rfl, ?_⟩) hHeld ?_ ?_
          rotate_left
          ·rintro w' ⟨s0, s1, s2, s3, s4, s5, s6, s7, s8, s9, s10, s11, s12, s13, s14, s15, s16, s17, s18, s19⟩
           go_simp
           with_reducible rfl
          rotate_left
          ·simp only [Act.put, sq1, sq2, sq3, i64_w, i32_w]
           rfl
          refine pure_ (i := 8) (N := some 49) (v := ?_) (a' := ?_) #[true, true, true, true, true, true, true, true, true, false, false, false] rfl rfl (any_of HT_.out (by kernel_rfl)) (fun _ _ _ h => h) (Or.inl ⟨by rfl, ?_⟩) ?_ ?_
          rotate_left
          ·intro w'
           go_simp
           with_reducible rfl
          rotate_left
          ·simp only [Act.put, sq1, sq2, sq3, i64_w, i32_w]
           rfl
          refine take_ (i := 9) (N := some 50) (v := ?_) (a' := ?_) #[true, true, true, true, true, true, true, true, true, true, false, false] rfl rfl (take_ofW HT_.out HW_.out (by kernel_rfl)) (fun _ _ _ h => h) (Or.inl ⟨by rfl, ?_⟩) hHeld ?_ ?_
          rotate_left
          ·rintro w' ⟨s0, s1, s2, s3, s4, s5, s6, s7, s8, s9, s10, s11, s12, s13, s14, s15, s16, s17, s18, s19⟩
           go_simp
           with_reducible rfl
          rotate_left
          ·simp only [Act.put, sq1, sq2, sq3, i64_w, i32_w]
           rfl
          refine one_ (i := 10) (N := some 51) #[true, true, true, true, true, true, true, true, true, true, true, false] rfl rfl (one_of HT_.out (by kernel_rfl)) (by decide) (fun K hK => ?_)
          refine goes_ Tryz.func63 (by kernel_rfl) rfl #[.agg #[.int .i64 ((rd_T26 l0_3 x5_2).f0), .int .i64 ((rd_T26 l0_3 x5_2).f1), .slice A149_2 ((rd_T26 l0_3 x5_2).f2).length c149_2, .slice A149_3 ((rd_T26 l0_3 x5_2).f3).length c149_3, .slice A149_4 ((rd_T26 l0_3 x5_2).f4).length c149_4, .slice A149_5 ((rd_T26 l0_3 x5_2).f5).length c149_5], .agg #[.int .i64 ((rd_T26 l1_3 x5_2).f0), .int .i64 ((rd_T26 l1_3 x5_2).f1), .slice A150_2 ((rd_T26 l1_3 x5_2).f2).length c150_2, .slice A150_3 ((rd_T26 l1_3 x5_2).f3).length c150_3, .slice A150_4 ((rd_T26 l1_3 x5_2).f4).length c150_4, .slice A150_5 ((rd_T26 l1_3 x5_2).f5).length c150_5]] (by rfl) rfl rfl (by (try simp only [List.map_toArray, List.map_cons, List.map_nil]); first | done | rfl | (simp only [List.length_drop, List.length_take]; rfl)) ?_
          with_reducible refine (trivetref04_SameTxn.calls k2 ((rd_T26 l0_3 x5_2).f0) ((rd_T26 l0_3 x5_2).f1) _ _ ((rd_T26 l0_3 x5_2).f2) _ _ ((rd_T26 l0_3 x5_2).f3) _ _ ((rd_T26 l0_3 x5_2).f4) _ _ ((rd_T26 l0_3 x5_2).f5) ((rd_T26 l1_3 x5_2).f0) ((rd_T26 l1_3 x5_2).f1) _ _ ((rd_T26 l1_3 x5_2).f2) _ _ ((rd_T26 l1_3 x5_2).f3) _ _ ((rd_T26 l1_3 x5_2).f4) _ _ ((rd_T26 l1_3 x5_2).f5) true _ ?side1 ?side2 ?side3 ?side4 ?side5 ?side6 ?side7 ?side8 ?side9 ?side10 ?side11 ?side12 ?side13 ?side14 ?side15 ?side16 A25.out).mono ?_
          (case side1 => exact stC (Kd.C_below HR149_2.out HB.out))
          (case side2 => exact HC149_2.out)
          (case side3 => exact stC (Kd.C_below HR149_3.out HB.out))
          (case side4 => exact HC149_3.out)
          (case side5 => exact stC (Kd.C_below HR149_4.out HB.out))
          (case side6 => exact HC149_4.out)
          (case side7 => exact stC (Kd.C_below HR149_5.out HB.out))
          (case side8 => exact HC149_5.out)
          (case side9 => exact stC (Kd.C_below HR150_2.out HB.out))
          (case side10 => exact HC150_2.out)
          (case side11 => exact stC (Kd.C_below HR150_3.out HB.out))
          (case side12 => exact HC150_3.out)
          (case side13 => exact stC (Kd.C_below HR150_4.out HB.out))
          (case side14 => exact HC150_4.out)
          (case side15 => exact stC (Kd.C_below HR150_5.out HB.out))
          (case side16 => exact HC150_5.out)
          rintro e w30 ⟨rfl, hb⟩
          refine ⟨_, rfl, ?_⟩
          have n0_ := Aside0.mk (blk_below (g := gb147) (o := .cells #[.int .i64 a0_0, .int .i64 a0_1, .int .i64 a0_2, .slice (some ad149) l0_3.length c0_3] 29 (0, 0)) (stK BK147.out) hb)
          have n1_ := Aside0.mk (blk_below (g := gb148) (o := .cells #[.int .i64 a1_0, .int .i64 a1_1, .int .i64 a1_2, .slice (some ad150) l1_3.length c1_3] 29 (0, 0)) (stK BK148.out) hb)
          have n2_ := Aside0.mk (below_step (by repeat (first | (with_reducible first | exact HB.out | apply below_alloc | apply pw_below_drewN | apply below_drew1 | refine below_set ?_ GE147.out | refine below_set ?_ GE148.out) | exact HB.out)) hb)
          clear BK147
          clear BK148
          clear HB
          have BK147 := n0_
          have BK148 := n1_
          have HB := n2_
          clear n0_ n1_ n2_
          (try clear hb)
          (try clear hb2)
          (try clear hk)
          (try clear hi)
          refine hK.out _ _ (bd4 BK147.out (bd4 BK148.out (⟨(cu HB.out hw149_0), (cu HB.out hw149_1), (cu HB.out hw149_2), (cu HB.out hw149_3), (cu HB.out hw149_4), (cu HB.out hw149_5), (cu HB.out hw150_0), (cu HB.out hw150_1), (cu HB.out hw150_2), (cu HB.out hw150_3), (cu HB.out hw150_4), (cu HB.out hw150_5)⟩))) (fun hHeld => ?_)
          clear hK K
          refine norm_ (a' := ?_) ?_ ?_
          rotate_left
          ·show Act.put _ (some 51) _ = _
           simp only [Act.put, sq1, sq2, sq3, i64_w, i32_w]
           rfl
          refine pure_ (i := 11) (N := some 52) (v := ?_) (a' := ?_) #[true, true, true, true, true, true, true, true, true, true, true, true] rfl rfl (any_of HT_.out (by kernel_rfl)) (fun _ _ _ h => h) (Or.inl ⟨by rfl, ?_⟩) ?_ ?_
          rotate_left
          ·intro w'
           go_simp
           with_reducible rfl
          rotate_left
          ·simp only [Act.put, sq1, sq2, sq3, i64_w, i32_w]
           rfl
          refine done_ (done_of HT_.out (by kernel_rfl)) ?_
          try go_wp2
          go_roundg k2
          case measure => have := HJ2.out; have := HK2.out; omega
          case rel => exact ⟨(wrap64 (x5_2 + 1)), (by first | rfl | (simp; done) | (simp [*]; done)), H', ⟨by have := HJ2.out; have := HK2.out; omega⟩, ⟨stK BK147.out⟩, ⟨stK BK148.out⟩, ⟨by repeat (first | (with_reducible first | exact HB.out | apply below_alloc | apply pw_below_drewN | apply below_drew1 | refine below_set ?_ GE147.out | refine below_set ?_ GE148.out) | exact HB.out)⟩⟩
         ·replace c26 := Bool.eq_false_iff.mpr c26
          subst c26
          have H1 : (some false) = some r := by rw [if_neg (show ¬ (false = true) by decide)] at H; exact H
          clear H
          have H := H1
          clear H1
          obtain rfl := Option.some.inj H
          have hnb31 := NB147_148.out
          have hnc31 := NB148_147.out
          obtain ⟨hcz32_0, hcz32_1, hcz32_2, hcz32_3⟩ := bc4 BK147.out
          obtain ⟨hfz32_0, hfz32_1, hfz32_2, hfz32_3⟩ := bf4 BK147.out
          try go_wp2
          have n0_ := Aside0.mk (blk_drew BK147.out)
          have n1_ := Aside0.mk (blk_drew BK148.out)
          have n2_ := Aside0.mk (below_drew1 HB.out)
          clear BK147
          clear BK148
          clear HB
          have BK147 := n0_
          have BK148 := n1_
          have HB := n2_
          clear n0_ n1_ n2_
          have p149 : 0 ≤ (x5_2 : Int) := of_decide_eq_true (by first | (with_reducible assumption) | assumption)
          have q149 : x5_2 < (l0_3.length : Int) := of_decide_eq_true (by first | (with_reducible assumption) | assumption)
          obtain ⟨ad149, A149_2, c149_2, A149_3, c149_3, A149_4, c149_4, A149_5, c149_5, e149, hx149_0, hx149_1, hx149_2, hx149_3, hx149_4, hx149_5, hl149_2, hi149_2, hl149_3, hi149_3, hl149_4, hi149_4, hl149_5, hi149_5⟩ := at_T26 HR0_3.out x5_2 p149 q149
          have hw149_5 := hx149_5
          have hw149_4 := hx149_4
          have hw149_3 := hx149_3
          have hw149_2 := hx149_2
          have hw149_1 := hx149_1
          have hw149_0 := hx149_0
          cases e149
          replace hx149_0 := cu HB.out hx149_0
          replace hx149_1 := cu HB.out hx149_1
          replace hx149_2 := cu HB.out hx149_2
          replace hx149_3 := cu HB.out hx149_3
          replace hx149_4 := cu HB.out hx149_4
          replace hx149_5 := cu HB.out hx149_5
          have HR149_2 := Aside0.mk hi149_2
          have HC149_2 := Aside0.mk hl149_2
          clear hi149_2 hl149_2
          have HR149_3 := Aside0.mk hi149_3
          have HC149_3 := Aside0.mk hl149_3
          clear hi149_3 hl149_3
          have HR149_4 := Aside0.mk hi149_4
          have HC149_4 := Aside0.mk hl149_4
          clear hi149_4 hl149_4
          have HR149_5 := Aside0.mk hi149_5
          have HC149_5 := Aside0.mk hl149_5
          clear hi149_5 hl149_5
          replace p149 := eq_true p149
          replace q149 := eq_true q149
          have p150 : 0 ≤ (x5_2 : Int) := of_decide_eq_true (by first | (with_reducible assumption) | assumption)
          have q150 : x5_2 < (l1_3.length : Int) := of_decide_eq_true (by first | (with_reducible assumption) | assumption)
          obtain ⟨ad150, A150_2, c150_2, A150_3, c150_3, A150_4, c150_4, A150_5, c150_5, e150, hx150_0, hx150_1, hx150_2, hx150_3, hx150_4, hx150_5, hl150_2, hi150_2, hl150_3, hi150_3, hl150_4, hi150_4, hl150_5, hi150_5⟩ := at_T26 HR1_3.out x5_2 p150 q150
          have hw150_5 := hx150_5
          have hw150_4 := hx150_4
          have hw150_3 := hx150_3
          have hw150_2 := hx150_2
          have hw150_1 := hx150_1
          have hw150_0 := hx150_0
          cases e150
          replace hx150_0 := cu HB.out hx150_0
          replace hx150_1 := cu HB.out hx150_1
          replace hx150_2 := cu HB.out hx150_2
          replace hx150_3 := cu HB.out hx150_3
          replace hx150_4 := cu HB.out hx150_4
          replace hx150_5 := cu HB.out hx150_5
          have HR150_2 := Aside0.mk hi150_2
          have HC150_2 := Aside0.mk hl150_2
          clear hi150_2 hl150_2
          have HR150_3 := Aside0.mk hi150_3
          have HC150_3 := Aside0.mk hl150_3
          clear hi150_3 hl150_3
          have HR150_4 := Aside0.mk hi150_4
          have HC150_4 := Aside0.mk hl150_4
          clear hi150_4 hl150_4
          have HR150_5 := Aside0.mk hi150_5
          have HC150_5 := Aside0.mk hl150_5
          clear hi150_5 hl150_5
          replace p150 := eq_true p150
          replace q150 := eq_true q150
          refine start_ (n := 12) (S := fun w' => w'.cell? ⟨gb147, 0, none⟩ = some (.int .i64 a0_0) ∧ w'.cell? ⟨gb147, 1, none⟩ = some (.int .i64 a0_1) ∧ w'.cell? ⟨gb147, 2, none⟩ = some (.int .i64 a0_2) ∧ w'.cell? ⟨gb147, 3, none⟩ = some (.slice (some ad149) l0_3.length c0_3) ∧ w'.cell? ⟨gb148, 0, none⟩ = some (.int .i64 a1_0) ∧ w'.cell? ⟨gb148, 1, none⟩ = some (.int .i64 a1_1) ∧ w'.cell? ⟨gb148, 2, none⟩ = some (.int .i64 a1_2) ∧ w'.cell? ⟨gb148, 3, none⟩ = some (.slice (some ad150) l1_3.length c1_3) ∧ w'.cell? (ad149.add ((x5_2).toNat * 6)) = some (.int .i64 ((rd_T26 l0_3 x5_2).f0)) ∧ w'.cell? ⟨(ad149.add ((x5_2).toNat * 6)).block, (ad149.add ((x5_2).toNat * 6)).off + 1, none⟩ = some (.int .i64 ((rd_T26 l0_3 x5_2).f1)) ∧ w'.cell? ⟨(ad149.add ((x5_2).toNat * 6)).block, (ad149.add ((x5_2).toNat * 6)).off + 2, none⟩ = some (.slice A149_2 ((rd_T26 l0_3 x5_2).f2).length c149_2) ∧ w'.cell? ⟨(ad149.add ((x5_2).toNat * 6)).block, (ad149.add ((x5_2).toNat * 6)).off + 3, none⟩ = some (.slice A149_3 ((rd_T26 l0_3 x5_2).f3).length c149_3) ∧ w'.cell? ⟨(ad149.add ((x5_2).toNat * 6)).block, (ad149.add ((x5_2).toNat * 6)).off + 4, none⟩ = some (.slice A149_4 ((rd_T26 l0_3 x5_2).f4).length c149_4) ∧ w'.cell? ⟨(ad149.add ((x5_2).toNat * 6)).block, (ad149.add ((x5_2).toNat * 6)).off + 5, none⟩ = some (.slice A149_5 ((rd_T26 l0_3 x5_2).f5).length c149_5) ∧ w'.cell? (ad150.add ((x5_2).toNat * 6)) = some (.int .i64 ((rd_T26 l1_3 x5_2).f0)) ∧ w'.cell? ⟨(ad150.add ((x5_2).toNat * 6)).block, (ad150.add ((x5_2).toNat * 6)).off + 1, none⟩ = some (.int .i64 ((rd_T26 l1_3 x5_2).f1)) ∧ w'.cell? ⟨(ad150.add ((x5_2).toNat * 6)).block, (ad150.add ((x5_2).toNat * 6)).off + 2, none⟩ = some (.slice A150_2 ((rd_T26 l1_3 x5_2).f2).length c150_2) ∧ w'.cell? ⟨(ad150.add ((x5_2).toNat * 6)).block, (ad150.add ((x5_2).toNat * 6)).off + 3, none⟩ = some (.slice A150_3 ((rd_T26 l1_3 x5_2).f3).length c150_3) ∧ w'.cell? ⟨(ad150.add ((x5_2).toNat * 6)).block, (ad150.add ((x5_2).toNat * 6)).off + 4, none⟩ = some (.slice A150_4 ((rd_T26 l1_3 x5_2).f4).length c150_4) ∧ w'.cell? ⟨(ad150.add ((x5_2).toNat * 6)).block, (ad150.add ((x5_2).toNat * 6)).off + 5, none⟩ = some (.slice A150_5 ((rd_T26 l1_3 x5_2).f5).length c150_5)) (ds := []) #[false, false, false, false, false, false, false, false, false, false, false, false] (by kernel_rfl) rfl rfl (bd4 BK147.out (bd4 BK148.out (⟨(cu HB.out hw149_0), (cu HB.out hw149_1), (cu HB.out hw149_2), (cu HB.out hw149_3), (cu HB.out hw149_4), (cu HB.out hw149_5), (cu HB.out hw150_0), (cu HB.out hw150_1), (cu HB.out hw150_2), (cu HB.out hw150_3), (cu HB.out hw150_4), (cu HB.out hw150_5)⟩))) (fun hHeld => ?_); refine with_tabW trivetref04_SameEntry.tab6 trivetref04_SameEntry.bits6 (fun HT_ HW_ => ?_)
          generalize wr.drew = w33 at BK147 BK148 HB HR149_2 HR149_3 HR149_4 HR149_5 HR150_2 HR150_3 HR150_4 HR150_5 hx149_0 hx149_1 hx149_2 hx149_3 hx149_4 hx149_5 hx150_0 hx150_1 hx150_2 hx150_3 hx150_4 hx150_5 hHeld ⊢
          refine pure_ (i := 0) (N := some 41) (v := ?_) (a' := ?_) #[true, false, false, false, false, false, false, false, false, false, false, false] rfl rfl (any_of HT_.out (by kernel_rfl)) (fun _ _ _ h => h) (Or.inl ⟨by rfl, ?_⟩) ?_ ?_
          rotate_left
          ·intro w'
           go_simp
           with_reducible rfl
          rotate_left
          ·simp only [Act.put, sq1, sq2, sq3, i64_w, i32_w]
           rfl
          refine pure_ (i := 2) (N := some 43) (v := ?_) (a' := ?_) #[true, false, true, false, false, false, false, false, false, false, false, false] rfl rfl (any_of HT_.out (by kernel_rfl)) (fun _ _ _ h => h) (Or.inl ⟨by rfl, ?_⟩) ?_ ?_
          rotate_left
          ·intro w'
           go_simp
           with_reducible rfl
          rotate_left
          ·simp only [Act.put, sq1, sq2, sq3, i64_w, i32_w]
           rfl
          refine pure_ (i := 5) (N := some 46) (v := ?_) (a' := ?_) #[true, false, true, false, false, true, false, false, false, false, false, false] rfl rfl (any_of HT_.out (by kernel_rfl)) (fun _ _ _ h => h) (Or.inl ⟨by rfl, ?_⟩) ?_ ?_
          rotate_left
          ·intro w'
           go_simp
           with_reducible rfl
          rotate_left
          ·simp only [Act.put, sq1, sq2, sq3, i64_w, i32_w]
           rfl
          refine pure_ (i := 7) (N := some 48) (v := ?_) (a' := ?_) #[true, false, true, false, false, true, false, true, false, false, false, false] rfl rfl (any_of HT_.out (by kernel_rfl)) (fun _ _ _ h => h) (Or.inl ⟨by rfl, ?_⟩) ?_ ?_
          rotate_left
          ·intro w'
           go_simp
           with_reducible rfl
          rotate_left
          ·simp only [Act.put, sq1, sq2, sq3, i64_w, i32_w]
           rfl
          refine take_ (i := 1) (N := some 42) (v := ?_) (a' := ?_) #[true, true, true, false, false, true, false, true, false, false, false, false] rfl rfl (take_ofW HT_.out HW_.out (by kernel_rfl)) (fun _ _ _ h => h) (Or.inl ⟨by rfl, ?_⟩) hHeld ?_ ?_
          rotate_left
          ·rintro w' ⟨s0, s1, s2, s3, s4, s5, s6, s7, s8, s9, s10, s11, s12, s13, s14, s15, s16, s17, s18, s19⟩
           go_simp
           with_reducible rfl
          rotate_left
          ·simp only [Act.put, sq1, sq2, sq3, i64_w, i32_w]
           rfl
          refine pure_ (i := 3) (N := some 44) (v := ?_) (a' := ?_) #[true, true, true, true, false, true, false, true, false, false, false, false] rfl rfl (any_of HT_.out (by kernel_rfl)) (fun _ _ _ h => h) (Or.inl ⟨by rfl, ?_⟩) ?_ ?_
          rotate_left
          ·intro w'
           go_simp
           with_reducible rfl
          rotate_left
          ·simp only [Act.put, sq1, sq2, sq3, i64_w, i32_w]
           rfl
          refine take_ (i := 4) (N := some 45) (v := ?_) (a' := ?_) #[true, true, true, true, true, true, false, true, false, false, false, false] rfl rfl (take_ofW HT_.out HW_.out (by kernel_rfl)) (fun _ _ _ h => h) (Or.inl ⟨by rfl, ?_⟩) hHeld ?_ ?_
          rotate_left
          ·rintro w' ⟨s0, s1, s2, s3, s4, s5, s6, s7, s8, s9, s10, s11, s12, s13, s14, s15, s16, s17, s18, s19⟩
           go_simp
           with_reducible rfl
          rotate_left
          ·simp only [Act.put, sq1, sq2, sq3, i64_w, i32_w]
           rfl
          refine take_ (i := 6) (N := some 47) (v := ?_) (a' := ?_) #[true, true, true, true, true, true, true, true, false, false, false, false] rfl rfl (take_ofW HT_.out HW_.out (by kernel_rfl)) (fun _ _ _ h => h) (Or.inl ⟨by rfl, ?_⟩) hHeld ?_ ?_
          rotate_left
          ·rintro w' ⟨s0, s1, s2, s3, s4, s5, s6, s7, s8, s9, s10, s11, s12, s13, s14, s15, s16, s17, s18, s19⟩
           go_simp
           with_reducible rfl
          rotate_left
          ·simp only [Act.put, sq1, sq2, sq3, i64_w, i32_w]
           rfl
          refine pure_ (i := 8) (N := some 49) (v := ?_) (a' := ?_) #[true, true, true, true, true, true, true, true, true, false, false, false] rfl rfl (any_of HT_.out (by kernel_rfl)) (fun _ _ _ h => h) (Or.inl ⟨by rfl, ?_⟩) ?_ ?_
          rotate_left
          ·intro w'
           go_simp
           with_reducible rfl
          rotate_left
          ·simp only [Act.put, sq1, sq2, sq3, i64_w, i32_w]
           rfl
          refine take_ (i := 9) (N := some 50) (v := ?_) (a' := ?_) #[true, true, true, true, true, true, true, true, true, true, false, false] rfl rfl (take_ofW HT_.out HW_.out (by kernel_rfl)) (fun _ _ _ h => h) (Or.inl ⟨by rfl, ?_⟩) hHeld ?_ ?_
          rotate_left
          ·rintro w' ⟨s0, s1, s2, s3, s4, s5, s6, s7, s8, s9, s10, s11, s12, s13, s14, s15, s16, s17, s18, s19⟩
           go_simp
           with_reducible rfl
          rotate_left
          ·simp only [Act.put, sq1, sq2, sq3, i64_w, i32_w]
           rfl
          refine one_ (i := 10) (N := some 51) #[true, true, true, true, true, true, true, true, true, true, true, false] rfl rfl (one_of HT_.out (by kernel_rfl)) (by decide) (fun K hK => ?_)
          refine goes_ Tryz.func63 (by kernel_rfl) rfl #[.agg #[.int .i64 ((rd_T26 l0_3 x5_2).f0), .int .i64 ((rd_T26 l0_3 x5_2).f1), .slice A149_2 ((rd_T26 l0_3 x5_2).f2).length c149_2, .slice A149_3 ((rd_T26 l0_3 x5_2).f3).length c149_3, .slice A149_4 ((rd_T26 l0_3 x5_2).f4).length c149_4, .slice A149_5 ((rd_T26 l0_3 x5_2).f5).length c149_5], .agg #[.int .i64 ((rd_T26 l1_3 x5_2).f0), .int .i64 ((rd_T26 l1_3 x5_2).f1), .slice A150_2 ((rd_T26 l1_3 x5_2).f2).length c150_2, .slice A150_3 ((rd_T26 l1_3 x5_2).f3).length c150_3, .slice A150_4 ((rd_T26 l1_3 x5_2).f4).length c150_4, .slice A150_5 ((rd_T26 l1_3 x5_2).f5).length c150_5]] (by rfl) rfl rfl (by (try simp only [List.map_toArray, List.map_cons, List.map_nil]); first | done | rfl | (simp only [List.length_drop, List.length_take]; rfl)) ?_
          with_reducible refine (trivetref04_SameTxn.calls k2 ((rd_T26 l0_3 x5_2).f0) ((rd_T26 l0_3 x5_2).f1) _ _ ((rd_T26 l0_3 x5_2).f2) _ _ ((rd_T26 l0_3 x5_2).f3) _ _ ((rd_T26 l0_3 x5_2).f4) _ _ ((rd_T26 l0_3 x5_2).f5) ((rd_T26 l1_3 x5_2).f0) ((rd_T26 l1_3 x5_2).f1) _ _ ((rd_T26 l1_3 x5_2).f2) _ _ ((rd_T26 l1_3 x5_2).f3) _ _ ((rd_T26 l1_3 x5_2).f4) _ _ ((rd_T26 l1_3 x5_2).f5) false _ ?side1 ?side2 ?side3 ?side4 ?side5 ?side6 ?side7 ?side8 ?side9 ?side10 ?side11 ?side12 ?side13 ?side14 ?side15 ?side16 A25.out).mono ?_
          (case side1 => exact stC (Kd.C_below HR149_2.out HB.out))
          (case side2 => exact HC149_2.out)
          (case side3 => exact stC (Kd.C_below HR149_3.out HB.out))
          (case side4 => exact HC149_3.out)
          (case side5 => exact stC (Kd.C_below HR149_4.out HB.out))
          (case side6 => exact HC149_4.out)
          (case side7 => exact stC (Kd.C_below HR149_5.out HB.out))
          (case side8 => exact HC149_5.out)
          (case side9 => exact stC (Kd.C_below HR150_2.out HB.out))
          (case side10 => exact HC150_2.out)
          (case side11 => exact stC (Kd.C_below HR150_3.out HB.out))
          (case side12 => exact HC150_3.out)
          (case side13 => exact stC (Kd.C_below HR150_4.out HB.out))
          (case side14 => exact HC150_4.out)
          (case side15 => exact stC (Kd.C_below HR150_5.out HB.out))
          (case side16 => exact HC150_5.out)
          rintro e w34 ⟨rfl, hb⟩
          refine ⟨_, rfl, ?_⟩
          have n0_ := Aside0.mk (blk_below (g := gb147) (o := .cells #[.int .i64 a0_0, .int .i64 a0_1, .int .i64 a0_2, .slice (some ad149) l0_3.length c0_3] 29 (0, 0)) (stK BK147.out) hb)
          have n1_ := Aside0.mk (blk_below (g := gb148) (o := .cells #[.int .i64 a1_0, .int .i64 a1_1, .int .i64 a1_2, .slice (some ad150) l1_3.length c1_3] 29 (0, 0)) (stK BK148.out) hb)
          have n2_ := Aside0.mk (below_step (by repeat (first | (with_reducible first | exact HB.out | apply below_alloc | apply pw_below_drewN | apply below_drew1 | refine below_set ?_ GE147.out | refine below_set ?_ GE148.out) | exact HB.out)) hb)
          clear BK147
          clear BK148
          clear HB
          have BK147 := n0_
          have BK148 := n1_
          have HB := n2_
          clear n0_ n1_ n2_
          (try clear hb)
          (try clear hb2)
          (try clear hk)
          (try clear hi)
          refine hK.out _ _ (bd4 BK147.out (bd4 BK148.out (⟨(cu HB.out hw149_0), (cu HB.out hw149_1), (cu HB.out hw149_2), (cu HB.out hw149_3), (cu HB.out hw149_4), (cu HB.out hw149_5), (cu HB.out hw150_0), (cu HB.out hw150_1), (cu HB.out hw150_2), (cu HB.out hw150_3), (cu HB.out hw150_4), (cu HB.out hw150_5)⟩))) (fun hHeld => ?_)
          clear hK K
          refine norm_ (a' := ?_) ?_ ?_
          rotate_left
          ·show Act.put _ (some 51) _ = _
           simp only [Act.put, sq1, sq2, sq3, i64_w, i32_w]
           rfl
          refine pure_ (i := 11) (N := some 52) (v := ?_) (a' := ?_) #[true, true, true, true, true, true, true, true, true, true, true, true] rfl rfl (any_of HT_.out (by kernel_rfl)) (fun _ _ _ h => h) (Or.inl ⟨by rfl, ?_⟩) ?_ ?_
          rotate_left
          ·intro w'
           go_simp
           with_reducible rfl
          rotate_left
          ·simp only [Act.put, sq1, sq2, sq3, i64_w, i32_w]
           rfl
          refine done_ (done_of HT_.out (by kernel_rfl)) ?_
          try go_wp2
          go_ret
          exact ⟨by first | rfl | (simp [errW_none, errW_some] <;> rfl) | (simp [*, errW_none, errW_some] <;> rfl), by repeat (first | (with_reducible first | exact HB.out | apply below_alloc | apply pw_below_drewN | apply below_drew1 | refine below_set ?_ GE147.out | refine below_set ?_ GE148.out) | exact HB.out)⟩
        ·rw [if_neg c24] at H
         exact absurd H (by simp)
       ·rw [if_neg c23] at H
        exact absurd H (by simp)
      ·rw [if_neg c22] at H
       have c22b0 : decide (x5_2 < (l0_3.length : Int)) = false := decide_eq_false c22
       clear c22
       obtain rfl := Option.some.inj H
       have hnb35 := NB147_148.out
       have hnc35 := NB148_147.out
       obtain ⟨hcz36_0, hcz36_1, hcz36_2, hcz36_3⟩ := bc4 BK147.out
       obtain ⟨hfz36_0, hfz36_1, hfz36_2, hfz36_3⟩ := bf4 BK147.out
       go_wp2
       go_ret
       exact ⟨by first | rfl | (simp [errW_none, errW_some] <;> rfl) | (simp [*, errW_none, errW_some] <;> rfl), by repeat (first | (with_reducible first | exact HB.out | apply below_alloc | apply pw_below_drewN | apply below_drew1 | refine below_set ?_ GE147.out | refine below_set ?_ GE148.out) | exact HB.out)⟩
end Go.Proofs.YtgiefblcckikeaaGreat.G
end

section
/- Transactions and entries that are the same: in plain Lean. -/
namespace Go.Proofs.YtgiefblcckikeaaGreat.M
open Go.RowKit Go.Proofs.YtgiefblcckikeaaGreatW.PrintWords Go.Proofs.YtgiefblcckikeaaGreatW.PrintLast Go.Proofs.YtgiefblcckikeaaGreatW.PrintMore Go.Proofs.YtgiefblcckikeaaGreat.G
abbrev KeyD := G.S101
abbrev TxD := G.S26
theorem keyD_ext {a b : KeyD} (h : a.f0 = b.f0) (h1 : a.f1 = b.f1) : a = b := by cases a; cases b; simp_all
instance : DecidableEq KeyD := fun a b => if h : a.f0 = b.f0 ∧ a.f1 = b.f1 then .isTrue (keyD_ext h.1 h.2) else .isFalse (fun e => h (by rw [e]; exact ⟨rfl, rfl⟩))
theorem drop_cons {α : Type} {a : List α} {i : Nat} {x : α} (h : a[i]? = some x) : a.drop i = x :: a.drop (i + 1) := by
 have hl := (List.getElem?_eq_some_iff.1 h).1
 rw [List.drop_eq_getElem_cons hl]
 congr 1
 exact (List.getElem?_eq_some_iff.1 h).2
def eqS (a b : List Int) : Bool := (strOfNums a).toList == (strOfNums b).toList
def eqTx (a b : TxD) : Bool := a.f0 == b.f0 && (a.f1 == b.f1 && (eqS a.f2 b.f2 && (decide (a.f3 = b.f3) && (decide (a.f4 = b.f4) && decide (a.f5 = b.f5)))))
def eqTs : List TxD → List TxD → Bool
 | a :: r, b :: s => eqTx a b && eqTs r s
 | [], [] => true
 | _, _ => false
def eqEn (k f n : Int) (l : List TxD) (k' f' n' : Int) (l' : List TxD) : Bool := k == k' && (f == f' && (n == n' && eqTs l l'))
theorem eqTs_len : ∀ {a b : List TxD}, a.length ≠ b.length → eqTs a b = false
 | a :: r, b :: s, h => by
  unfold eqTs
  rw [eqTs_len (by simpa using h), Bool.and_false]
 | [], [], h => absurd rfl h
 | a :: r, [], _ => rfl
 | [], b :: s, _ => rfl
theorem eq_pi : ∀ (k : Nat) (a b : List Int) (i : Nat), a.length < i + k → i ≤ a.length → a.length = b.length → a.length ≤ 9223372036854775807 → G.slices_Equal_int64_int64.l0 k a b (a.length : Int) (i : Int) = some (decide (a.drop i = b.drop i))
 | 0, a, b, i, hk, hi, _, _ => by omega
 | k + 1, a, b, i, hk, hi, hl, hm => by
  simp only [G.slices_Equal_int64_int64.l0]
  by_cases hlt : i < a.length
  ·obtain ⟨x, hx⟩ : ∃ x, a[i]? = some x := ⟨_, List.getElem?_eq_getElem hlt⟩
   obtain ⟨y, hy⟩ : ∃ y, b[i]? = some y := ⟨_, List.getElem?_eq_getElem (by omega)⟩
   have r1 : rd a (i : Int) = x := by unfold rd; rw [Int.toNat_natCast, List.getD_eq_getElem?_getD, hx]; rfl
   have r2 : rd b (i : Int) = y := by unfold rd; rw [Int.toNat_natCast, List.getD_eq_getElem?_getD, hy]; rfl
   have d1 := drop_cons hx
   have d2 := drop_cons hy
   have hw : wrap64 ((i : Int) + 1) = ((i + 1 : Nat) : Int) := by unfold wrap64; omega
   rw [if_pos (by omega : (i : Int) < (a.length : Int)), if_pos (by omega : (0 : Int) ≤ (i : Int)), if_pos (by omega : (i : Int) < (a.length : Int)), if_pos (by omega : (i : Int) < (b.length : Int))]
   rw [r1, r2]
   by_cases e : x = y
   ·rw [if_pos e, hw, eq_pi k a b (i + 1) (by omega) (by omega) hl hm]
    congr 1
    rw [d1, d2, e]
    simp
   ·rw [if_neg e, d1, d2]
    simp [e]
  ·rw [if_neg (by omega), List.drop_of_length_le (by omega), List.drop_of_length_le (by omega)]
   simp
theorem eq_pi_f (k : Nat) (a b : List Int) (hk : a.length < k) (hm : a.length ≤ 9223372036854775807) : G.slices_Equal_int64_int64.f k a b = some (decide (a = b)) := by
 unfold G.slices_Equal_int64_int64.f
 by_cases h : a.length = b.length
 ·rw [if_pos (by omega)]
  have := eq_pi k a b 0 (by omega) (by omega) h hm
  simpa using this
 ·rw [if_neg (by omega)]
  congr 1
  exact (decide_eq_false (fun e => h (by rw [e]))).symm
theorem eq_ri : ∀ (k : Nat) (a b : List Int) (i : Nat), a.length < i + k → i ≤ a.length → a.length = b.length → a.length ≤ 9223372036854775807 → G.trivetref04_SameInts.l0 k a b (i : Int) = some (decide (a.drop i = b.drop i))
 | 0, a, b, i, hk, hi, _, _ => by omega
 | k + 1, a, b, i, hk, hi, hl, hm => by
  simp only [G.trivetref04_SameInts.l0]
  by_cases hlt : i < a.length
  ·obtain ⟨x, hx⟩ : ∃ x, a[i]? = some x := ⟨_, List.getElem?_eq_getElem hlt⟩
   obtain ⟨y, hy⟩ : ∃ y, b[i]? = some y := ⟨_, List.getElem?_eq_getElem (by omega)⟩
   have r1 : rd a (i : Int) = x := by unfold rd; rw [Int.toNat_natCast, List.getD_eq_getElem?_getD, hx]; rfl
   have r2 : rd b (i : Int) = y := by unfold rd; rw [Int.toNat_natCast, List.getD_eq_getElem?_getD, hy]; rfl
   have d1 := drop_cons hx
   have d2 := drop_cons hy
   have hw : wrap64 ((i : Int) + 1) = ((i + 1 : Nat) : Int) := by unfold wrap64; omega
   rw [if_pos (by omega : (i : Int) < (a.length : Int)), if_pos (by omega : (0 : Int) ≤ (i : Int)), if_pos (by omega : (i : Int) < (b.length : Int))]
   rw [r1, r2]
   by_cases e : x = y
   ·rw [if_pos e, hw, eq_ri k a b (i + 1) (by omega) (by omega) hl hm]
    congr 1
    rw [d1, d2, e]
    simp
   ·rw [if_neg e, d1, d2]
    simp [e]
  ·rw [if_neg (by omega), List.drop_of_length_le (by omega), List.drop_of_length_le (by omega)]
   simp
theorem eq_ri_f (k : Nat) (a b : List Int) (hk : a.length < k) (hm : a.length ≤ 9223372036854775807) : G.trivetref04_SameInts.f k a b = some (decide (a = b)) := by
 unfold G.trivetref04_SameInts.f
 by_cases h : a.length = b.length
 ·rw [if_pos (by omega)]
  have := eq_ri k a b 0 (by omega) (by omega) h hm
  simpa using this
 ·rw [if_neg (by omega)]
  congr 1
  exact (decide_eq_false (fun e => h (by rw [e]))).symm
theorem eq_pk : ∀ (k : Nat) (a b : List KeyD) (i : Nat), a.length < i + k → i ≤ a.length → a.length = b.length → a.length ≤ 9223372036854775807 → G.api_Key_164.l0 k a b (a.length : Int) (i : Int) = some (decide (a.drop i = b.drop i))
 | 0, a, b, i, hk, hi, _, _ => by omega
 | k + 1, a, b, i, hk, hi, hl, hm => by
  simp only [G.api_Key_164.l0]
  by_cases hlt : i < a.length
  ·obtain ⟨x, hx⟩ : ∃ x, a[i]? = some x := ⟨_, List.getElem?_eq_getElem hlt⟩
   obtain ⟨y, hy⟩ : ∃ y, b[i]? = some y := ⟨_, List.getElem?_eq_getElem (by omega)⟩
   have r1 : G.rd_T101 a (i : Int) = x := by unfold G.rd_T101; rw [Int.toNat_natCast, List.getD_eq_getElem?_getD, hx]; rfl
   have r2 : G.rd_T101 b (i : Int) = y := by unfold G.rd_T101; rw [Int.toNat_natCast, List.getD_eq_getElem?_getD, hy]; rfl
   have d1 := drop_cons hx
   have d2 := drop_cons hy
   have hw : wrap64 ((i : Int) + 1) = ((i + 1 : Nat) : Int) := by unfold wrap64; omega
   rw [if_pos (by omega : (i : Int) < (a.length : Int)), if_pos (by omega : (0 : Int) ≤ (i : Int)), if_pos (by omega : (i : Int) < (a.length : Int)), if_pos (by omega : (i : Int) < (b.length : Int))]
   by_cases e : x = y
   ·have e1 : (!(((G.rd_T101 a (i : Int)).f0) == ((G.rd_T101 b (i : Int)).f0)) || (!(((G.rd_T101 a (i : Int)).f1) == ((G.rd_T101 b (i : Int)).f1)))) = false := by rw [r1, r2, e]; simp
    rw [e1]
    simp only [Bool.false_eq_true, if_false]
    rw [hw, eq_pk k a b (i + 1) (by omega) (by omega) hl hm]
    congr 1
    rw [d1, d2, e]
    simp
   ·have e1 : (!(((G.rd_T101 a (i : Int)).f0) == ((G.rd_T101 b (i : Int)).f0)) || (!(((G.rd_T101 a (i : Int)).f1) == ((G.rd_T101 b (i : Int)).f1)))) = true := by
     rw [r1, r2]
     rw [← Bool.not_eq_false]
     intro h
     simp only [Bool.or_eq_false_iff, Bool.not_eq_false', beq_iff_eq] at h
     exact e (keyD_ext h.1 h.2)
    rw [if_pos e1, d1, d2]
    simp [e]
  ·rw [if_neg (by omega), List.drop_of_length_le (by omega), List.drop_of_length_le (by omega)]
   simp
theorem eq_pk_f (k : Nat) (a b : List KeyD) (hk : a.length < k) (hm : a.length ≤ 9223372036854775807) : G.api_Key_164.f k a b = some (decide (a = b)) := by
 unfold G.api_Key_164.f
 by_cases h : a.length = b.length
 ·rw [if_pos (by omega)]
  have := eq_pk k a b 0 (by omega) (by omega) h hm
  simpa using this
 ·rw [if_neg (by omega)]
  congr 1
  exact (decide_eq_false (fun e => h (by rw [e]))).symm
theorem eq_rk : ∀ (k : Nat) (a b : List KeyD) (i : Nat), a.length < i + k → i ≤ a.length → a.length = b.length → a.length ≤ 9223372036854775807 → G.trivetref04_SameKeys.l0 k a b (i : Int) = some (decide (a.drop i = b.drop i))
 | 0, a, b, i, hk, hi, _, _ => by omega
 | k + 1, a, b, i, hk, hi, hl, hm => by
  simp only [G.trivetref04_SameKeys.l0]
  by_cases hlt : i < a.length
  ·obtain ⟨x, hx⟩ : ∃ x, a[i]? = some x := ⟨_, List.getElem?_eq_getElem hlt⟩
   obtain ⟨y, hy⟩ : ∃ y, b[i]? = some y := ⟨_, List.getElem?_eq_getElem (by omega)⟩
   have r1 : G.rd_T101 a (i : Int) = x := by unfold G.rd_T101; rw [Int.toNat_natCast, List.getD_eq_getElem?_getD, hx]; rfl
   have r2 : G.rd_T101 b (i : Int) = y := by unfold G.rd_T101; rw [Int.toNat_natCast, List.getD_eq_getElem?_getD, hy]; rfl
   have d1 := drop_cons hx
   have d2 := drop_cons hy
   have hw : wrap64 ((i : Int) + 1) = ((i + 1 : Nat) : Int) := by unfold wrap64; omega
   rw [if_pos (by omega : (i : Int) < (a.length : Int)), if_pos (by omega : (0 : Int) ≤ (i : Int)), if_pos (by omega : (i : Int) < (b.length : Int))]
   by_cases e : x = y
   ·have e1 : (!(((G.rd_T101 a (i : Int)).f0) == ((G.rd_T101 b (i : Int)).f0)) || (!(((G.rd_T101 a (i : Int)).f1) == ((G.rd_T101 b (i : Int)).f1)))) = false := by rw [r1, r2, e]; simp
    rw [e1]
    simp only [Bool.false_eq_true, if_false]
    rw [hw, eq_rk k a b (i + 1) (by omega) (by omega) hl hm]
    congr 1
    rw [d1, d2, e]
    simp
   ·have e1 : (!(((G.rd_T101 a (i : Int)).f0) == ((G.rd_T101 b (i : Int)).f0)) || (!(((G.rd_T101 a (i : Int)).f1) == ((G.rd_T101 b (i : Int)).f1)))) = true := by
     rw [r1, r2]
     rw [← Bool.not_eq_false]
     intro h
     simp only [Bool.or_eq_false_iff, Bool.not_eq_false', beq_iff_eq] at h
     exact e (keyD_ext h.1 h.2)
    rw [if_pos e1, d1, d2]
    simp [e]
  ·rw [if_neg (by omega), List.drop_of_length_le (by omega), List.drop_of_length_le (by omega)]
   simp
theorem eq_rk_f (k : Nat) (a b : List KeyD) (hk : a.length < k) (hm : a.length ≤ 9223372036854775807) : G.trivetref04_SameKeys.f k a b = some (decide (a = b)) := by
 unfold G.trivetref04_SameKeys.f
 by_cases h : a.length = b.length
 ·rw [if_pos (by omega)]
  have := eq_rk k a b 0 (by omega) (by omega) h hm
  simpa using this
 ·rw [if_neg (by omega)]
  congr 1
  exact (decide_eq_false (fun e => h (by rw [e]))).symm
def TxLe (t : TxD) (n : Nat) : Prop := t.f2.length ≤ n ∧ t.f3.length ≤ n ∧ t.f4.length ≤ n ∧ t.f5.length ≤ n
theorem sameTxn_p (k : Nat) (a b : TxD) (h : TxLe a 9223372036854775807) (hk : a.f3.length < k ∧ a.f4.length < k ∧ a.f5.length < k) : G.record_SameTxn.f k a.f0 a.f1 a.f2 a.f3 a.f4 a.f5 b.f0 b.f1 b.f2 b.f3 b.f4 b.f5 = some (eqTx a b) := by
 unfold G.record_SameTxn.f eqTx G.bytes_Equal.f
 rw [eq_pi_f k a.f3 b.f3 hk.1 h.2.1, eq_pk_f k a.f4 b.f4 hk.2.1 h.2.2.1, eq_pk_f k a.f5 b.f5 hk.2.2 h.2.2.2]
 simp only [Option.bind_some]
 by_cases h0 : a.f0 = b.f0
 ·by_cases h1 : a.f1 = b.f1
  ·rw [if_pos h0, if_pos h1]
   cases h2 : eqS a.f2 b.f2 <;> cases h3 : decide (a.f3 = b.f3) <;> cases h4 : decide (a.f4 = b.f4) <;> unfold eqS at h2 <;> simp [h0, h1, h2]
  ·rw [if_pos h0, if_neg h1]; simp [h1]
 ·rw [if_neg h0]; simp [h0]
theorem sameTxn_r (k : Nat) (a b : TxD) (h : TxLe a 9223372036854775807) (hk : a.f3.length < k ∧ a.f4.length < k ∧ a.f5.length < k) : G.trivetref04_SameTxn.f k a.f0 a.f1 a.f2 a.f3 a.f4 a.f5 b.f0 b.f1 b.f2 b.f3 b.f4 b.f5 = some (eqTx a b) := by
 unfold G.trivetref04_SameTxn.f eqTx
 rw [eq_ri_f k a.f3 b.f3 hk.1 h.2.1, eq_rk_f k a.f4 b.f4 hk.2.1 h.2.2.1, eq_rk_f k a.f5 b.f5 hk.2.2 h.2.2.2]
 simp only [Option.bind_some]
 by_cases h0 : a.f0 = b.f0
 ·by_cases h1 : a.f1 = b.f1
  ·rw [if_pos h0, if_pos h1]
   by_cases h2 : (strOfNums a.f2).toList = (strOfNums b.f2).toList
   ·rw [if_pos h2]
    cases h3 : decide (a.f3 = b.f3) <;> cases h4 : decide (a.f4 = b.f4) <;> simp [h0, h1, h2, eqS]
   ·rw [if_neg h2]; simp [h2, eqS]
  ·rw [if_pos h0, if_neg h1]; simp [h1]
 ·rw [if_neg h0]; simp [h0]
end Go.Proofs.YtgiefblcckikeaaGreat.M
end

section
/- slices.IsSortedFunc of keys. -/
attribute [local irreducible] Go.wpStill
namespace Go.Proofs.YtgiefblcckikeaaGreat.M
open Go.RowKit Go.Proofs.YtgiefblcckikeaaGreatW.PrintWords Go.Proofs.YtgiefblcckikeaaGreatW.PrintLast Go.Proofs.YtgiefblcckikeaaGreatW.PrintMore Go.Proofs.YtgiefblcckikeaaGreat.G
def kv (x : KeyD) : Int × Int := (x.f0, x.f1)
theorem keyd_get {W : World} {A : Option Addr} {n : Nat} {l : List KeyD} (h : Kd.C G.k101 W A n l) {k : Nat} {x : KeyD} (hk : l[k]? = some x) :
  ∃ ad, A = some ad ∧ W.cell? (ad.add (k * 2)) = some (.int .i32 x.f0) ∧ W.cell? ⟨(ad.add (k * 2)).block, (ad.add (k * 2)).off + 1, none⟩ = some (.int .i64 x.f1) := by
 have hlt : k < n := by
  have := (List.getElem?_eq_some_iff.1 hk).1
  have := h.1
  omega
 obtain ⟨ad, c, rfl, hcl, hK, hcc⟩ := Kd.C_get h G.z101 (k : Int) (by omega) (by omega)
 have e : l.getD (k : Int).toNat G.z101 = x := by rw [Int.toNat_natCast, List.getD_eq_getElem?_getD, hk]; rfl
 rw [e] at hK
 rw [Int.toNat_natCast] at hcc
 have hc := G.k101_open hK
 have hs : G.k101.sz = 2 := rfl
 rw [hs] at hcc
 refine ⟨ad, rfl, by simpa using hcc 0 _ (by rw [hc]; rfl), ?_⟩
 rw [← add_field ad (k * 2) 1 (by omega)]; exact hcc 1 _ (by rw [hc]; rfl)
def ndFrom (l : List KeyD) (i : Nat) : Prop := ∀ (j : Nat) (x y : KeyD), i ≤ j → l[j]? = some x → l[j + 1]? = some y → kLt (kv y) (kv x) = false
def SoI (l : List KeyD) (w : World) (i : Value) (wr : World) : Prop := ∃ k : Int, i = .int .i64 k ∧ k < l.length ∧ -1 ≤ k ∧ ndFrom l k.toNat ∧ Below w.heap.size w wr
def SoV (l : List KeyD) (w : World) (e : Ending) (w' : World) : Prop := ∃ b : Bool, e = .returned (.bool b) ∧ (b = true ↔ ndFrom l 0) ∧ Below w.heap.size w w'
set_option maxHeartbeats 1000000 in
theorem sorted_is (A : Option Addr) (c : Nat) (l : List KeyD) (w : World) (hr : Kd.C G.k101 w A l.length l) :
  Calls Tryz.prog 73 #[.slice A l.length c, .func (.func 74) #[] #[]] w fun e w' => SoV l w e w' := by
 have hn : l.length ≤ 9223372036854775807 := hr.2.1
 have HR := Lib.hid hr
 clear hr
 go_enter Tryz.func73, Tryz.ntmps73
 go_wp2_with fail
 go_loopw [5] (fun i wr => SoI l w i wr) (fun i _ => (intOf i).toNat)
 case atStart =>
  refine ⟨(l.length : Int) - 1, rfl, by omega, by omega, fun j x y hj hx hy => ?_, Below.refl _ _⟩
  have := (List.getElem?_eq_some_iff.1 hy).1
  omega
 case round =>
  obtain ⟨k, rfl, hk, hk0, hnd, hb⟩ := hrel
  have HND := Lib.hid hnd; have HBr := Lib.hid hb
  clear hnd hb
  by_cases hlt : 0 < k
  ·obtain ⟨m, rfl⟩ : ∃ m : Nat, k = (m : Int) + 1 := ⟨(k - 1).toNat, by omega⟩
   obtain ⟨y, hy⟩ : ∃ y, l[m + 1]? = some y := ⟨_, List.getElem?_eq_getElem (by omega)⟩
   obtain ⟨x, hx⟩ : ∃ x, l[m]? = some x := ⟨_, List.getElem?_eq_getElem (by omega)⟩
   have hC := Kd.C_below HR.out HBr.out
   obtain ⟨ad, rfl, hy0, hy1⟩ := keyd_get hC hy
   obtain ⟨ad', e', hx0, hx1⟩ := keyd_get hC hx
   cases e'
   have HX := Lib.hid hx; have HY := Lib.hid hy
   have e1 : ((m : Int) + 1).toNat = m + 1 := by omega
   have e2 : IntKind.i64.wrap (m : Int) = (m : Int) := by rw [IntKind.wrap_i64]; omega
   have e3 : ((m : Int)).toNat = m := by omega
   have g0 : (0 : Int) ≤ (m : Int) + 1 := by omega
   have g1 : (m : Int) + 1 < (l.length : Int) := by omega
   have g2 : (m : Int) < (l.length : Int) := by omega
   have g3 : (0 : Int) ≤ (m : Int) := by omega
   clear hC hx hy
   go_wp2_with fail
   refine wp_region_still_tail 10 (by kernel_rfl) (by kernel_rfl) ?_
   simp only [List.take_succ_cons, List.take_zero, List.drop_succ_cons, List.drop_zero]
   iterate 10 still_step
   refine wpStill_nil ?_
   change wpList _ _ _ _ _ wr.drew
   go_wp2_with fail
   refine (compare_is (kv y) (kv x) _).mono ?_
   rintro e w' ⟨rfl, hb⟩
   have HB2 := Lib.hid (show Below w.heap.size w w' from (HBr.out.drew).trans (hb.mono (by simpa using HBr.out.size)))
   have HNG := Lib.hid (cmpK_neg (kv y) (kv x))
   obtain ⟨r, hr⟩ : ∃ r, cmpK (kv y) (kv x) = r := ⟨_, rfl⟩
   rw [hr] at HNG ⊢
   clear hr hb
   by_cases hr0 : r < 0
   ·have hrb : decide (r < 0) = true := decide_eq_true hr0
    have HN := Lib.hid (show ¬ ndFrom l 0 from fun h => by
     have := h m x y (Nat.zero_le _) HX.out HY.out
     rw [HNG.out.1 hr0] at this
     cases this)
    clear hr0
    go_wp2_with fail
    go_ret
    exact ⟨false, rfl, ⟨(fun h => by cases h), fun h => absurd h HN.out⟩, HB2.out⟩
   ·have hrb : decide (r < 0) = false := decide_eq_false hr0
    have HN := Lib.hid (show ndFrom l m from fun j a b hj ha hb => by
     rcases Nat.lt_or_ge m j with h | h
     ·exact HND.out j a b (by omega) ha hb
     ·obtain rfl : j = m := by omega
      rw [HX.out] at ha
      rw [HY.out] at hb
      cases ha
      cases hb
      rw [← Bool.not_eq_true]
      exact fun e => hr0 (HNG.out.2 e))
    clear hr0
    go_wp2_with fail
    go_roundw
    case rel => exact ⟨m, rfl, by omega, by omega, HN.out, HB2.out⟩
    case measure => simp [intOf]
  ·have hlt' : decide (0 < k) = false := decide_eq_false hlt
   have HN := Lib.hid (show ndFrom l 0 by have := HND.out; rwa [show k.toNat = 0 by omega] at this)
   clear hlt
   go_wp2_with fail
   go_ret
   exact ⟨true, rfl, ⟨fun _ => HN.out, fun _ => rfl⟩, HBr.out⟩
end Go.Proofs.YtgiefblcckikeaaGreat.M
end

section
/- slices.Clone of numbers and of keys. -/
namespace Go.Proofs.YtgiefblcckikeaaGreat.M
open Go.RowKit Go.Proofs.YtgiefblcckikeaaGreatW.PrintWords Go.Proofs.YtgiefblcckikeaaGreatW.PrintLast Go.Proofs.YtgiefblcckikeaaGreatW.PrintMore
theorem C_none' {α : Type} {d : Kd α} {w : World} {n : Nat} {xs : List α} (h : Kd.C d w none n xs) : n = 0 ∧ xs = [] := by
 have hn : n = 0 := by
  rcases Nat.eq_zero_or_pos n with h0 | h0
  ·exact h0
  ·obtain ⟨ad, e, _⟩ := h.2.2 h0
   cases e
 exact ⟨hn, List.eq_nil_of_length_eq_zero (h.1.trans hn)⟩
theorem R_empty {α : Type} (d : Kd α) (e : Nat) (w : World) : Kd.R d e (w.alloc (.cells #[] e)) w.heap.size (fun _ => True) (.slice (some ⟨w.heap.size, 0, none⟩) 0 0) [] := by
 refine ⟨fun _ _ => trivial, [], ?_, ?_⟩
 ·exact ⟨by simp, .inr ⟨w.heap.size, 0, #[], rfl, Nat.le_refl _, heap_alloc_new w _, Nat.le_refl _, Nat.zero_le _, by simp, by simp⟩⟩
 ·exact Reps.none _ _
theorem infoI64 : (Tryz.prog.info? 2).map (fun i => (i.zero, i.size, i.bytes)) = some (some (.int .i64 0), 1, 8) := by kernel_rfl
theorem infoKey : (Tryz.prog.info? 101).map (fun i => (i.zero, i.size, i.bytes)) = some (some (.agg #[.int .i32 0, .int .i64 0]), 2, 16) := by kernel_rfl
theorem clone_ints (A : Option Addr) (c : Nat) (l : List Int) (w : World) (hr : Kd.C (Kd.int .i64) w A l.length l) (hc : l.length ≤ c) (hl : l.length < 17592186044416) :
  Calls Tryz.prog 136 #[.slice A l.length c] w fun e w' => ∃ v0_ : Value, e = .returned v0_ ∧ Kd.R (Kd.int .i64) 2 w' w.heap.size (fun _ => True) v0_ l ∧ Below w.heap.size w w' := by
 have qT : ∀ (w : World) (a : Option Addr) (n c n' c' : Nat), (binOp .eql 24 (.slice a n c) (.slice none n' c')).run Tryz.prog w = .ok (.bool a.isNone) w := fun w a n c n' c' => Lib.run_eql_slice_nil w _ _ a n c n' c' Tryz.underlying24
 have HR := Aside0.mk hr
 have HL := Aside0.mk hl
 clear hr hl
 rcases A with _ | ad
 ·obtain ⟨_, rfl⟩ := C_none' HR.out
  go_enter Tryz.func136, Tryz.ntmps136
  go_wp2
  go_ret
  exact ⟨_, rfl, Kd.R_nil _ _ _ _ _, Below.refl _ _⟩
 ·go_enter Tryz.func136, Tryz.ntmps136
  have HE := Aside0.mk (R_empty (Kd.int .i64) 2 w)
  go_wp2_with ((with_reducible refine gate_builtin (b := .append) (xs := #[.tmp 5, .tmp 6]) rfl ?_); at_builtin; refine Kd.R_append_rows (Kd.int .i64) (w0 := w) w.heap.size rfl (.tmp 5) (.tmp 6) 24 2 (.int .i64 0) 8 rfl Tryz.underlying24 infoI64 rfl (by decide) (by omega) _ ([] : List Int) l _ _ _ (fun _ => True) (fun _ => False) rfl rfl HE.out (Kd.C_alloc HR.out _) (fun _ _ h => h) (fun _ h => h.elim) (fun _ _ => trivial) ((Below.refl _ _).alloc (Nat.le_refl _) _) (by simp) (by have := HL.out; simp; omega) ?_; intro v1 w1 ho hb _ _)
  go_ret
  exact ⟨_, rfl, ho, hb⟩
theorem clone_keys (A : Option Addr) (c : Nat) (l : List (G.S101)) (w : World) (hr : Kd.C G.k101 w A l.length l) (hc : l.length ≤ c) (hl : l.length < 8796093022208) :
  Calls Tryz.prog 79 #[.slice A l.length c] w fun e w' => ∃ v0_ : Value, e = .returned v0_ ∧ Kd.R G.k101 101 w' w.heap.size (fun _ => True) v0_ l ∧ Below w.heap.size w w' := by
 have qT : ∀ (w : World) (a : Option Addr) (n c n' c' : Nat), (binOp .eql 22 (.slice a n c) (.slice none n' c')).run Tryz.prog w = .ok (.bool a.isNone) w := fun w a n c n' c' => Lib.run_eql_slice_nil w _ _ a n c n' c' Tryz.underlying22
 have HR := Aside0.mk hr
 have HL := Aside0.mk hl
 clear hr hl
 rcases A with _ | ad
 ·obtain ⟨_, rfl⟩ := C_none' HR.out
  go_enter Tryz.func79, Tryz.ntmps79
  go_wp2
  go_ret
  exact ⟨_, rfl, Kd.R_nil _ _ _ _ _, Below.refl _ _⟩
 ·go_enter Tryz.func79, Tryz.ntmps79
  have HE := Aside0.mk (R_empty G.k101 101 w)
  go_wp2_with ((with_reducible refine gate_builtin (b := .append) (xs := #[.tmp 5, .tmp 6]) rfl ?_); at_builtin; refine Kd.R_append_rows G.k101 (w0 := w) w.heap.size rfl (.tmp 5) (.tmp 6) 22 101 (.agg #[.int .i32 0, .int .i64 0]) 16 rfl Tryz.underlying22 infoKey rfl (by decide) (by omega) _ ([] : List (G.S101)) l _ _ _ (fun _ => True) (fun _ => False) rfl rfl HE.out (Kd.C_alloc HR.out _) (fun x cs h => (by rw [G.k101_open h]; exact G.k101_mkM _ _ _ _)) (fun _ h => h.elim) (fun _ _ => trivial) ((Below.refl _ _).alloc (Nat.le_refl _) _) (by simp) (by have := HL.out; simp; omega) ?_; intro v1 w1 ho hb _ _)
  go_ret
  exact ⟨_, rfl, ho, hb⟩
end Go.Proofs.YtgiefblcckikeaaGreat.M
namespace Go.Proofs.YtgiefblcckikeaaGreat.G
open Go.RowKit Go.Proofs.YtgiefblcckikeaaGreatW.PrintWords Go.Proofs.YtgiefblcckikeaaGreat.M
def slices_Clone_int64_int64.f (l0 : List Int) : Option (List Int) := if l0.length < 17592186044416 then some l0 else none
theorem slices_Clone_int64_int64.calls (A0 : Option Addr) (c0 : Nat) (l0 : List Int) (r : List Int) (w : World) (hr0 : Kd.C (Kd.int .i64) w A0 l0.length l0) (hc0 : l0.length ≤ c0) (h : slices_Clone_int64_int64.f l0 = some r) :
  Calls Tryz.prog 136 #[.slice A0 l0.length c0] w fun e w' => ∃ v0_ : Value, e = .returned v0_ ∧ Kd.R (Kd.int .i64) 2 w' w.heap.size (fun _ => True) v0_ r ∧ Below w.heap.size w w' := by
 unfold slices_Clone_int64_int64.f at h
 split at h
 ·obtain rfl := Option.some.inj h
  exact clone_ints A0 c0 l0 w hr0 hc0 (by assumption)
 ·cases h
def api_Key_79.f (l0 : List S101) : Option (List S101) := if l0.length < 8796093022208 then some l0 else none
theorem api_Key_79.calls (A0 : Option Addr) (c0 : Nat) (l0 : List S101) (r : List S101) (w : World) (hr0 : Kd.C k101 w A0 l0.length l0) (hc0 : l0.length ≤ c0) (h : api_Key_79.f l0 = some r) :
  Calls Tryz.prog 79 #[.slice A0 l0.length c0] w fun e w' => ∃ v0_ : Value, e = .returned v0_ ∧ Kd.R k101 101 w' w.heap.size (fun _ => True) v0_ r ∧ Below w.heap.size w w' := by
 unfold api_Key_79.f at h
 split at h
 ·obtain rfl := Option.some.inj h
  exact clone_keys A0 c0 l0 w hr0 hc0 (by assumption)
 ·cases h
end Go.Proofs.YtgiefblcckikeaaGreat.G
end

section
/- What has turned lies in the blocks of S, or is new. -/
namespace Go.Proofs.YtgiefblcckikeaaGreat.M
open Go.RowKit Go.Proofs.YtgiefblcckikeaaGreatW.PrintWords
structure KeepS (S : Nat → Prop) (w w' : World) : Prop where
 os : w'.os = w.os
 tape : w'.tape = w.tape
 output : w'.output = w.output
 size : w.heap.size ≤ w'.heap.size
 block : ∀ i, i < w.heap.size → ¬ S i → w'.heap[i]? = w.heap[i]?
namespace KeepS
variable {S S' : Nat → Prop} {x y z : World}
theorem refl (S : Nat → Prop) (w : World) : KeepS S w w := ⟨rfl, rfl, rfl, Nat.le_refl _, fun _ _ _ => rfl⟩
theorem trans (h : KeepS S x y) (k : KeepS S y z) : KeepS S x z :=
 ⟨k.os.trans h.os, k.tape.trans h.tape, k.output.trans h.output, Nat.le_trans h.size k.size, fun i hi hs => (k.block i (Nat.lt_of_lt_of_le hi h.size) hs).trans (h.block i hi hs)⟩
theorem mono (h : KeepS S x y) (hs : ∀ i, S i → S' i) : KeepS S' x y := ⟨h.os, h.tape, h.output, h.size, fun i hi hn => h.block i hi (fun e => hn (hs i e))⟩
theorem of_below (S : Nat → Prop) (h : Below x.heap.size x y) : KeepS S x y := ⟨h.os, h.tape, h.output, h.size, fun i hi _ => h.block i hi⟩
theorem of_grown {row : Option Nat} (h : x.grownBy y row) (hs : ∀ i, row = some i → S i) : KeepS S x y := ⟨h.os, h.tape, h.output, h.size, fun i hi hn => h.block i hi (fun e => hn (hs i e.symm))⟩
theorem then_below (h : KeepS S x y) (k : Below y.heap.size y z) : KeepS S x z := h.trans (of_below S k)
theorem then_base (h : KeepS S x y) (k : Below x.heap.size y z) : KeepS S x z :=
 ⟨k.os.trans h.os, k.tape.trans h.tape, k.output.trans h.output, Nat.le_trans h.size k.size, fun i hi hs => (k.block i hi).trans (h.block i hi hs)⟩
theorem set (h : KeepS S x y) {p : Addr} (hp : S p.block ∨ x.heap.size ≤ p.block) (v : Value) : KeepS S x (y.setCell p v) :=
 ⟨h.os, h.tape, h.output, by simpa [World.setCell] using h.size, fun i hi hn => (Below.heap_setCell y p v i (by rcases hp with hp | hp; exact fun e => hn (e ▸ hp); exact fun e => by omega)).trans (h.block i hi hn)⟩
theorem alloc (h : KeepS S x y) (o : Obj) : KeepS S x (y.alloc o) := h.then_below ((Below.refl _ y).alloc (Nat.le_refl _) o)
theorem drew (h : KeepS S x y) : KeepS S x y.drew := ⟨h.os, h.tape, h.output, h.size, h.block⟩
theorem drewN (h : KeepS S x y) (n : Nat) : KeepS S x (y.drewN n) := ⟨h.os, h.tape, h.output, h.size, h.block⟩
theorem cell (h : KeepS S x y) {p : Addr} (hp : p.block < x.heap.size) (hs : ¬ S p.block) : y.cell? p = x.cell? p := World.cell?_of_block (h.block p.block hp hs)
theorem frozen (h : KeepS S x y) {p : Addr} (hp : p.block < x.heap.size) (hs : ¬ S p.block) : y.frozen? p = x.frozen? p := World.frozen?_of_block (h.block p.block hp hs)
theorem below (h : KeepS S x y) {B : Nat} (hB : B ≤ x.heap.size) (hs : ∀ i, S i → B ≤ i) : Below B x y :=
 ⟨h.os, h.tape, h.output, h.size, fun i hi => h.block i (Nat.lt_of_lt_of_le hi hB) (fun e => by have := hs i e; omega)⟩
end KeepS
end Go.Proofs.YtgiefblcckikeaaGreat.M
end

section
/- slices.Compact of keys in memory of their own; record.keys. -/
attribute [local irreducible] Go.wpStill
namespace Go.Proofs.YtgiefblcckikeaaGreat.M
open Go.RowKit Go.Proofs.YtgiefblcckikeaaGreatW.PrintWords
theorem eq_i32 (d : Nat) (a b : Int) (w : World) : (Op.equalIn (d + 1) 21 (.int .i32 a) (.int .i32 b)).run Tryz.prog w = .ok (a == b) w := by
 have hu := Tryz.underlying21
 simp [Op.equalIn, go_sem, hu]
theorem eq_i64 (d : Nat) (a b : Int) (w : World) : (Op.equalIn (d + 1) 2 (.int .i64 a) (.int .i64 b)).run Tryz.prog w = .ok (a == b) w := by
 have hu := Tryz.underlying2
 simp [Op.equalIn, go_sem, hu]
theorem eq_key (d : Nat) (a b : Int × Int) (w : World) : (Op.equalIn (d + 2) 101 (.agg #[.int .i32 a.1, .int .i64 a.2]) (.agg #[.int .i32 b.1, .int .i64 b.2])).run Tryz.prog w = .ok (a.1 == b.1 && a.2 == b.2) w := by
 refine eqA_of Tryz.underlying101 (by kernel_rfl) ?_
 simp only
 refine eqf_cons (by rfl) ?_ ?_ (eq_i32 _ _ _ _) (eqf_end (by rfl) ?_ ?_ (eq_i64 _ _ _ _) eqf_nil)
 all_goals simp only [part]
 all_goals go_simp
theorem eqk_self (k : KeyD) (w : World) : (Op.equalIn 10000 101 (.agg #[.int .i32 k.f0, .int .i64 k.f1]) (.agg #[.int .i32 k.f0, .int .i64 k.f1])).run Tryz.prog w = .ok true w := by
 have := eq_key 9998 (kv k) (kv k) w
 simpa [kv] using this
theorem eqk_ne {a b : KeyD} (h : a ≠ b) (w : World) : (Op.equalIn 10000 101 (.agg #[.int .i32 a.f0, .int .i64 a.f1]) (.agg #[.int .i32 b.f0, .int .i64 b.f1])).run Tryz.prog w = .ok false w := by
 have := eq_key 9998 (kv a) (kv b) w
 simp only [kv] at this
 rw [this]
 congr 1
 simp only [Bool.and_eq_false_iff, beq_eq_false_iff_ne]
 by_cases e : a.f0 = b.f0
 ·refine .inr (fun e2 => h ?_)
  cases a; cases b
  simp only at e e2
  rw [e, e2]
 ·exact .inl e
def KRow (W : World) (b : Nat) (l : List KeyD) : Prop := ∃ cells : Array Value, W.heap[b]? = some (.cells cells 101 (0, 0)) ∧ l.length * 2 ≤ cells.size ∧ ∀ (j : Nat) (x : KeyD), l[j]? = some x → cells[j * 2]? = some (.int .i32 x.f0) ∧ cells[j * 2 + 1]? = some (.int .i64 x.f1)
theorem KRow.move {W W' : World} {b : Nat} {l : List KeyD} (h : KRow W b l) (hb : W'.heap[b]? = W.heap[b]?) : KRow W' b l := by
 obtain ⟨c, h1, h2, h3⟩ := h
 exact ⟨c, hb.trans h1, h2, h3⟩
theorem KRow.lt {W : World} {b : Nat} {l : List KeyD} (h : KRow W b l) : b < W.heap.size := by
 obtain ⟨c, h1, _⟩ := h
 exact (Array.getElem?_eq_some_iff.1 h1).1
theorem KRow.get {W : World} {b : Nat} {l : List KeyD} (h : KRow W b l) {j : Nat} {x : KeyD} (hj : l[j]? = some x) {o : Nat} (ho : o = j * 2) : W.cell? ⟨b, o, none⟩ = some (.int .i32 x.f0) ∧ W.cell? ⟨b, o + 1, none⟩ = some (.int .i64 x.f1) ∧ W.frozen? ⟨b, o, none⟩ = false ∧ W.frozen? ⟨b, o + 1, none⟩ = false := by
 obtain ⟨c, h1, h2, h3⟩ := h
 obtain ⟨h4, h5⟩ := h3 j x hj
 subst ho
 simp [World.cell?, World.frozen?, h1, h4, h5]
theorem heap_same (W : World) (a : Addr) (v : Value) {cs : Array Value} {e : TypeId} {z : Nat × Nat} (h : W.heap[a.block]? = some (.cells cs e z)) (hs : a.spot = none) : (W.setCell a v).heap[a.block]? = some (.cells (cs.setIfInBounds a.off v) e z) := by
 simp only [World.setCell, Array.getElem?_modify, if_true, h, hs]
 rfl
theorem KRow.set {W : World} {b : Nat} {l : List KeyD} (h : KRow W b l) {k : Nat} (hk : k < l.length) (x : KeyD) : KRow ((W.setCell ⟨b, k * 2, none⟩ (.int .i32 x.f0)).setCell ⟨b, k * 2 + 1, none⟩ (.int .i64 x.f1)) b (l.set k x) := by
 obtain ⟨c, h1, h2, h3⟩ := h
 have e1 := heap_same W ⟨b, k * 2, none⟩ (.int .i32 x.f0) h1 rfl
 have e2 := heap_same _ ⟨b, k * 2 + 1, none⟩ (.int .i64 x.f1) e1 rfl
 refine ⟨_, e2, by simpa using h2, fun j y hy => ?_⟩
 simp only [Array.getElem?_setIfInBounds]
 rw [List.getElem?_set] at hy
 by_cases e : k = j
 ·subst e
  rw [if_pos rfl, if_pos hk] at hy
  obtain rfl := Option.some.inj hy
  have s1 : k * 2 < c.size := by omega
  have s2 : k * 2 + 1 < c.size := by omega
  constructor
  ·rw [if_neg (by omega), if_pos rfl, if_pos s1]
  ·rw [if_pos rfl, if_pos (by simpa using s2)]
 ·rw [if_neg e] at hy
  obtain ⟨h4, h5⟩ := h3 j y hy
  constructor
  ·rw [if_neg (by omega), if_neg (by omega)]; exact h4
  ·rw [if_neg (by omega), if_neg (by omega)]; exact h5
theorem keep_setCells (b : Nat) : ∀ (vs : List Value) (o : Nat) (w : World), KeepS (fun i => i = b) w (w.setCells b o vs)
 | [], _, _ => KeepS.refl _ _
 | v :: vs, o, w => ((KeepS.refl (fun i => i = b) w).set (p := ⟨b, o, none⟩) (.inl rfl) v).trans (keep_setCells b vs (o + 1) _)
theorem zeroKey (u : World) : (zeroValue 101).run Tryz.prog u = .ok (.agg #[.int .i32 0, .int .i64 0]) u := by kernel_rfl
theorem clear_is {W : World} {b : Nat} {l : List KeyD} (h : KRow W b l) {k n c : Nat} (hk : k + n ≤ l.length) (hn : 0 < n) :
  ∃ W', (Builtin.clear_ #[22] 0 #[.slice (some ⟨b, k * 2, none⟩) n c]).run Tryz.prog W = .ok (.tuple #[]) W' ∧ KeepS (fun i => i = b) W W' := by
 obtain ⟨cells, h1, h2, h3⟩ := h
 obtain ⟨m, rfl⟩ : ∃ m, n = m + 1 := ⟨n - 1, by omega⟩
 have hmem : ∀ v ∈ (Builtin.zeroCells #[.int .i32 0, .int .i64 0] (m + 1)).toList, v.oneCell' = true := by
  intro v hv
  unfold Builtin.zeroCells at hv
  simp only [Array.toList_map, List.mem_map] at hv
  obtain ⟨i, _, rfl⟩ := hv
  rcases Nat.mod_two_eq_zero_or_one i with e | e <;> simp [e] <;> rfl
 have hlen : (Builtin.zeroCells #[.int .i32 0, .int .i64 0] (m + 1)).toList.length = (m + 1) * 2 := by
  unfold Builtin.zeroCells
  simp
 have hrun := run_storeCells_cells (P := Tryz.prog) b (k * 2) (Builtin.zeroCells #[.int .i32 0, .int .i64 0] (m + 1)).toList 0 W
  (fun j hj => by
   rw [hlen] at hj
   have hc : k * 2 + 0 + j < cells.size := by omega
   have hc' : k * 2 + j < cells.size := by omega
   simp [World.cell?, h1, hc'])
  (fun j hj => by simp [World.frozen?, h1]) hmem
 have hu : ∀ u : World, (underlying 22).run Tryz.prog u = .ok (.slice 101) u := fun u => by
  unfold underlying
  simp [go_sem, Tryz.underlying22]
 have hr2 : (Builtin.clear_ #[22] 0 #[.slice (some ⟨b, k * 2, none⟩) (m + 1) c]).run Tryz.prog W = .ok (.tuple #[]) (W.setCells b (k * 2 + 0) (Builtin.zeroCells #[.int .i32 0, .int .i64 0] (m + 1)).toList) := by
  unfold Builtin.clear_
  simp [go_sem, hu, zeroKey, hrun, Value.cells]
 exact ⟨_, hr2, keep_setCells b _ _ W⟩
def distUpto (l : List KeyD) (k : Nat) : Prop := ∀ (j : Nat) (x y : KeyD), j + 1 < k → l[j]? = some x → l[j + 1]? = some y → x ≠ y
def CoV (b n : Nat) (l : List KeyD) (w : World) (e : Ending) (w' : World) : Prop := ∃ (A : Option Addr) (m c : Nat), e = .returned (.slice A m c) ∧ (m = n ↔ distUpto l n) ∧ KeepS (fun i => i = b) w w'
def CoI (b : Nat) (l : List KeyD) (w : World) (i : Value) (wr : World) : Prop := ∃ k : Nat, i = .int .i64 k ∧ 1 ≤ k ∧ k ≤ l.length ∧ distUpto l k ∧ Below w.heap.size w wr
def CoJ (b k0 : Nat) (l : List KeyD) (w : World) (k i : Value) (wr : World) : Prop := ∃ (k1 k2 : Nat) (ys : List KeyD), k = .int .i64 k1 ∧ i = .int .i64 k2 ∧ 1 ≤ k2 ∧ k0 + k2 ≤ l.length ∧ k0 ≤ k1 ∧ k1 + 1 ≤ k0 + k2 ∧ KRow wr b ys ∧ ys.length = l.length ∧ KeepS (fun i => i = b) w wr
theorem compact_small (A : Option Addr) (n c : Nat) (w : World) (h2 : n < 2) :
  Calls Tryz.prog 78 #[.slice A n c] w fun e w' => e = .returned (.slice A n c) ∧ w' = w := by
 have h2b : decide ((n : Int) < 2) = true := decide_eq_true (by omega)
 clear h2
 go_enter Tryz.func78, Tryz.ntmps78
 go_wp2_with fail
 go_ret
 exact ⟨rfl, rfl⟩
set_option maxHeartbeats 1000000 in
theorem compact_is (b c : Nat) (l : List KeyD) (w : World) (hr : KRow w b l) (hc : l.length ≤ c) (hn : l.length ≤ 16) :
  Calls Tryz.prog 78 #[.slice (some ⟨b, 0, none⟩) l.length c] w fun e w' => CoV b l.length l w e w' := by
 have HR := Lib.hid hr; have HC := Lib.hid hc
 clear hr
 by_cases h2 : l.length < 2
 ·have h2b : decide ((l.length : Int) < 2) = true := decide_eq_true (by omega)
  have HD := Lib.hid (show distUpto l l.length from fun j x y hj _ _ => by omega)
  clear h2
  go_enter Tryz.func78, Tryz.ntmps78
  go_wp2_with fail
  go_ret
  exact ⟨_, _, _, rfl, ⟨fun _ => HD.out, fun _ => rfl⟩, KeepS.refl _ _⟩
 ·have h2b : decide ((l.length : Int) < 2) = false := decide_eq_false (by omega)
  have H2 := Lib.hid (show 2 ≤ l.length by omega)
  clear h2
  go_enter Tryz.func78, Tryz.ntmps78
  go_wp2_with fail
  go_loopw [3] (fun i wr => CoI b l w i wr) (fun i _ => l.length - (intOf i).toNat)
  case atStart => exact ⟨1, rfl, Nat.le_refl _, by have := H2.out; omega, fun j x y hj _ _ => by omega, Below.refl _ _⟩
  case round =>
   obtain ⟨k, rfl, hk1, hkn, hd, hb⟩ := hrel
   have HD := Lib.hid hd; have HBr := Lib.hid hb
   have HRr := Lib.hid (HR.out.move (hb.block b HR.out.lt))
   clear hd hb
   by_cases hlt : k < l.length
   ·obtain ⟨m, rfl⟩ : ∃ m, k = m + 1 := ⟨k - 1, by omega⟩
    obtain ⟨y, hy⟩ : ∃ y, l[m + 1]? = some y := ⟨_, List.getElem?_eq_getElem hlt⟩
    obtain ⟨x, hx⟩ : ∃ x, l[m]? = some x := ⟨_, List.getElem?_eq_getElem (by omega)⟩
    obtain ⟨y0, y1, _, _⟩ := HRr.out.get hy rfl
    obtain ⟨x0, x1, _, _⟩ := HRr.out.get hx rfl
    have HX := Lib.hid hx; have HY := Lib.hid hy
    clear hx hy
    have e2 : IntKind.i64.wrap (m : Int) = (m : Int) := by rw [IntKind.wrap_i64]; omega
    have e3 : ((m : Int) + 1).toNat = m + 1 := by omega
    have g0 : (0 : Int) ≤ (m : Int) + 1 := by omega
    have g1 : (m : Int) + 1 < (l.length : Int) := by omega
    have g2 : (m : Int) < (l.length : Int) := by omega
    by_cases hk : y = x
    ·have hq : ∀ W : World, (Op.equalIn 10000 101 (.agg #[.int .i32 y.f0, .int .i64 y.f1]) (.agg #[.int .i32 x.f0, .int .i64 x.f1])).run Tryz.prog W = .ok true W := fun W => by rw [hk]; exact eqk_self x W
     have HK := Lib.hid hk
     clear hk
     go_wp2_with fail
     refine wp_region_still_tail 9 (by kernel_rfl) (by kernel_rfl) ?_
     simp only [List.take_succ_cons, List.take_zero, List.drop_succ_cons, List.drop_zero]
     iterate 9 still_step
     refine wpStill_nil ?_
     change wpList _ _ _ _ _ wr.drew
     have hcm : ¬ c = m + 1 := by have := HC.out; omega
     have HRd := Lib.hid (HRr.out.move (W' := wr.drew) rfl)
     have HBd := Lib.hid (HBr.out.drew)
     obtain ⟨w5, hw5⟩ : ∃ w5, wr.drew = w5 := ⟨_, rfl⟩
     rw [hw5] at HRd HBd ⊢
     clear hw5 y0 y1 x0 x1
     go_wp2_with fail
     obtain ⟨n2, hn2⟩ : ∃ n2, l.length - (m + 1) = n2 := ⟨_, rfl⟩
     have HN2 := Lib.hid hn2
     rw [hn2]
     have hnm : n2 ≤ 16 := by omega
     clear hn2
     go_loopw [3, 5] (fun k i wq => CoJ b (m + 1) l w k i wq) (fun _ i _ => l.length - (intOf i).toNat)
     case atStart => exact ⟨m + 1, 1, l, by go_num, rfl, by omega, by omega, by omega, by omega, HRd.out, rfl, KeepS.of_below _ HBd.out⟩
     case round =>
      obtain ⟨k1, k2, ys, rfl, rfl, hk2, hkl, hk01, hk12, hys, hyl, hks⟩ := hrel
      have HYS := Lib.hid hys; have HKS := Lib.hid hks; have HYL := Lib.hid hyl
      clear hys hks hyl
      by_cases hl2 : k2 < n2
      ·obtain ⟨q, rfl⟩ : ∃ q, k2 = q + 1 := ⟨k2 - 1, by omega⟩
       obtain ⟨u, hu⟩ : ∃ u, ys[m + 1 + (q + 1)]? = some u := ⟨_, List.getElem?_eq_getElem (by have := HYL.out; have := HN2.out; omega)⟩
       obtain ⟨v, hv⟩ : ∃ v, ys[m + 1 + q]? = some v := ⟨_, List.getElem?_eq_getElem (by have := HYL.out; omega)⟩
       obtain ⟨u0, u1, _, _⟩ := HYS.out.get hu (o := (m + 1) * 2 + (q + 1) * 2) (by omega)
       obtain ⟨v0, v1, _, _⟩ := HYS.out.get hv (o := (m + 1) * 2 + q * 2) (by omega)
       have HU := Lib.hid hu
       have e4 : IntKind.i64.wrap (q : Int) = (q : Int) := by rw [IntKind.wrap_i64]; omega
       have e5 : ((q : Int) + 1).toNat = q + 1 := by omega
       have g3 : (0 : Int) ≤ (q : Int) + 1 := by omega
       have g4 : (q : Int) + 1 < (n2 : Int) := by omega
       have g5 : (q : Int) < (n2 : Int) := by omega
       have g6 : (0 : Int) ≤ (k1 : Int) := by omega
       have hk1l : k1 < l.length := by have := HN2.out; omega
       have g7 : (k1 : Int) < (l.length : Int) := by omega
       clear hu hv
       by_cases huv : u = v
       ·have hq2 : ∀ W : World, (Op.equalIn 10000 101 (.agg #[.int .i32 u.f0, .int .i64 u.f1]) (.agg #[.int .i32 v.f0, .int .i64 v.f1])).run Tryz.prog W = .ok true W := fun W => by rw [huv]; exact eqk_self v W
        clear huv
        go_wp2_with fail
        refine wp_region_still_tail 9 (by kernel_rfl) (by kernel_rfl) ?_
        simp only [List.take_succ_cons, List.take_zero, List.drop_succ_cons, List.drop_zero]
        iterate 9 still_step
        refine wpStill_nil ?_
        change wpList _ _ _ _ _ wr.drew
        go_wp2_with fail
        go_roundw
        case rel => exact ⟨k1, q + 1 + 1, ys, rfl, by go_num, by omega, by have := HN2.out; omega, hk01, by omega, HYS.out.move rfl, HYL.out, HKS.out.drew⟩
        case measure => simp [intOf]; have := HN2.out; omega
       ·have hq2 : ∀ W : World, (Op.equalIn 10000 101 (.agg #[.int .i32 u.f0, .int .i64 u.f1]) (.agg #[.int .i32 v.f0, .int .i64 v.f1])).run Tryz.prog W = .ok false W := fun W => eqk_ne huv W
        clear huv
        obtain ⟨t, ht⟩ : ∃ t, ys[k1]? = some t := ⟨_, List.getElem?_eq_getElem (by have := HYL.out; omega)⟩
        obtain ⟨s0, s1, z0, z1⟩ := HYS.out.get ht (o := k1 * 2) rfl
        clear ht
        go_wp2_with fail
        refine wp_region_still_tail 9 (by kernel_rfl) (by kernel_rfl) ?_
        simp only [List.take_succ_cons, List.take_zero, List.drop_succ_cons, List.drop_zero]
        iterate 9 still_step
        refine wpStill_nil ?_
        change wpList _ _ _ _ _ wr.drew
        go_wp2_with fail
        go_roundw
        case rel =>
         refine ⟨k1 + 1, q + 1 + 1, ys.set k1 u, by go_num, by go_num, by omega, by have := HN2.out; omega, by omega, by omega, ?_, by rw [List.length_set]; exact HYL.out, ?_⟩
         ·exact (HYS.out.move (W' := wr.drew) rfl).set (by have := HYL.out; omega) u
         ·exact (HKS.out.drew.set (p := ⟨b, k1 * 2, none⟩) (.inl rfl) _).set (p := ⟨b, k1 * 2 + 1, none⟩) (.inl rfl) _
        case measure => simp [intOf]; have := HN2.out; omega
      ·have hk1n : k1 < l.length := by have := HN2.out; omega
       have hk1c : ¬ c = k1 := by have := HC.out; omega
       have g6 : (0 : Int) ≤ (k1 : Int) := by omega
       have g7 : (k1 : Int) ≤ (l.length : Int) := by omega
       have g8 : (k1 : Int) ≤ (c : Int) := by have := HC.out; omega
       obtain ⟨W', hcl, hkp⟩ := clear_is HYS.out (k := k1) (n := l.length - k1) (c := c - k1) (by have := HYL.out; omega) (by omega)
       have HKP := Lib.hid hkp
       clear hkp
       go_wp2_with fail
       go_ret
       refine ⟨_, _, _, rfl, ⟨fun e => by omega, fun h => absurd HK.out.symm (h m x y (by omega) HX.out HY.out)⟩, ?_⟩
       exact HKS.out.trans HKP.out
    ·have hq : ∀ W : World, (Op.equalIn 10000 101 (.agg #[.int .i32 y.f0, .int .i64 y.f1]) (.agg #[.int .i32 x.f0, .int .i64 x.f1])).run Tryz.prog W = .ok false W := fun W => eqk_ne hk W
     have HN := Lib.hid (show distUpto l (m + 1 + 1) from fun j u v hj hu hv => by
      rcases Nat.lt_or_ge j m with h | h
      ·exact HD.out j u v (by omega) hu hv
      ·obtain rfl : j = m := by omega
       rw [HX.out] at hu
       rw [HY.out] at hv
       cases hu
       cases hv
       exact fun e => hk e.symm)
     clear hk
     go_wp2_with fail
     refine wp_region_still_tail 9 (by kernel_rfl) (by kernel_rfl) ?_
     simp only [List.take_succ_cons, List.take_zero, List.drop_succ_cons, List.drop_zero]
     iterate 9 still_step
     refine wpStill_nil ?_
     change wpList _ _ _ _ _ wr.drew
     go_wp2_with fail
     go_roundw
     case rel => exact ⟨m + 1 + 1, by go_num, by omega, by omega, HN.out, HBr.out.drew⟩
     case measure => simp [intOf]; omega
   ·have hkn' : k = l.length := by omega
    have HN := Lib.hid (show distUpto l l.length by have := HD.out; rwa [hkn'] at this)
    clear hkn'
    go_wp2_with fail
    go_ret
    exact ⟨_, _, _, rfl, ⟨fun _ => HN.out, fun _ => rfl⟩, KeepS.of_below _ HBr.out⟩
def risB : List KeyD → Bool
 | a :: b :: r => kLt (kv a) (kv b) && risB (b :: r)
 | _ => true
def mayK (l : List KeyD) : Bool := decide (l.length ≤ 16) && risB l
theorem ris_iff : ∀ l : List KeyD, risB l = true ↔ ∀ (j : Nat) (x y : KeyD), l[j]? = some x → l[j + 1]? = some y → kLt (kv x) (kv y) = true
 | [] => by simp [risB]
 | [a] => by
  simp only [risB, true_iff]
  intro j x y hx hy
  simp at hy
 | a :: b :: r => by
  unfold risB
  rw [Bool.and_eq_true, ris_iff (b :: r)]
  constructor
  ·rintro ⟨h1, h2⟩ j x y hx hy
   cases j with
   | zero =>
    simp only [List.getElem?_cons_zero, Option.some.injEq] at hx
    simp only [Nat.zero_add, List.getElem?_cons_succ, List.getElem?_cons_zero, Option.some.injEq] at hy
    rw [← hx, ← hy]
    exact h1
   | succ j => exact h2 j x y (by simpa using hx) (by simpa using hy)
  ·exact fun h => ⟨h 0 a b rfl rfl, fun j x y hx hy => h (j + 1) x y (by simpa using hx) (by simpa using hy)⟩
theorem kLt_total {x y : Int × Int} (h : kLt x y = false) (k : kLt y x = false) : x = y := by
 unfold kLt at h k
 simp only [Bool.or_eq_false_iff, Bool.and_eq_false_iff, decide_eq_false_iff_not] at h k
 apply Prod.ext <;> omega
theorem kLt_asymm {x y : Int × Int} (h : kLt x y = true) : kLt y x = false := by
 unfold kLt at h ⊢
 simp only [Bool.or_eq_true, Bool.and_eq_true, decide_eq_true_eq] at h
 simp only [Bool.or_eq_false_iff, Bool.and_eq_false_iff, decide_eq_false_iff_not]
 omega
theorem kv_inj {x y : KeyD} (h : kv x = kv y) : x = y := by
 cases x; cases y
 simp only [kv, Prod.mk.injEq] at h
 rw [h.1, h.2]
theorem ris_nd (l : List KeyD) : risB l = true ↔ ndFrom l 0 ∧ distUpto l l.length := by
 rw [ris_iff]
 constructor
 ·exact fun h => ⟨fun j x y _ hx hy => kLt_asymm (h j x y hx hy), fun j x y _ hx hy e => by
   have := h j x y hx hy
   rw [e] at this
   unfold kLt at this
   simp at this⟩
 ·rintro ⟨h1, h2⟩ j x y hx hy
  have hl := (List.getElem?_eq_some_iff.1 hy).1
  rw [← Bool.not_eq_false]
  exact fun h3 => h2 j x y hl hx hy (kv_inj (kLt_total h3 (h1 j x y (Nat.zero_le _) hx hy)))
theorem krow_of {W : World} {base : Nat} {ok : Nat → Prop} {v : Value} {l : List KeyD} (h : Kd.R G.k101 101 W base ok v l) (hl : 0 < l.length) : ∃ (b c : Nat), v = .slice (some ⟨b, 0, none⟩) l.length c ∧ l.length ≤ c ∧ base ≤ b ∧ KRow W b l := by
 obtain ⟨_, inner, ⟨hil, ho⟩, hrep⟩ := h
 rcases ho with ⟨rfl, h0⟩ | ⟨g, cap, cur, rfl, hb, hg, hnc, _, hcs, htk⟩
 ·omega
 ·refine ⟨g, cap, rfl, hnc, hb, cur, hg, ?_, fun j x hj => ?_⟩
  ·have hs : G.k101.sz = 2 := rfl
   rw [hcs, hs]
   omega
  ·have h1 := G.k101_openM (hrep.2 j x hj)
   have hs : G.k101.sz = 2 := rfl
   have hjl := (List.getElem?_eq_some_iff.1 hj).1
   rw [hs] at h1
   have h2 : inner[j * 2]? = some (.int .i32 x.f0) := by
    have := congrArg (fun q => q[0]?) h1
    simpa [List.getElem?_take, List.getElem?_drop] using this
   have h3 : inner[j * 2 + 1]? = some (.int .i64 x.f1) := by
    have := congrArg (fun q => q[1]?) h1
    simpa [List.getElem?_take, List.getElem?_drop] using this
   rw [← htk, hs, List.getElem?_take] at h2 h3
   rw [if_pos (by omega)] at h2 h3
   exact ⟨by simpa using h2, by simpa using h3⟩
set_option maxHeartbeats 1000000 in
theorem keys_is (A : Option Addr) (c : Nat) (l : List KeyD) (w : World) (hr : Kd.C G.k101 w A l.length l) (hc : l.length ≤ c) :
  Calls Tryz.prog 39 #[.slice A l.length c] w fun e w' => e = .returned (.bool (mayK l)) ∧ Below w.heap.size w w' := by
 have HR := Lib.hid hr; have HC := Lib.hid hc
 have HS := Lib.hid (sorted_is A c l w hr)
 clear hr hc
 go_enter Tryz.func39, Tryz.ntmps39
 go_wp2_with fail
 refine HS.out.mono ?_
 rintro e w1 ⟨b, rfl, hb, hb1⟩
 have HB := Lib.hid hb; have HB1 := Lib.hid hb1
 clear hb hb1 HS
 by_cases h16 : l.length ≤ 16
 ·have hq : decide ((l.length : Int) ≤ 16) = true := decide_eq_true (by omega)
  have H16 := Lib.hid h16
  clear h16
  cases b with
  | false =>
   have HM := Lib.hid (show mayK l = false by
    unfold mayK
    have : risB l = false := by
     rw [← Bool.not_eq_true]
     exact fun h => by have := HB.out.2 ((ris_nd l).1 h).1; cases this
    rw [this, Bool.and_false])
   go_wp2_with fail
   go_ret
   exact ⟨by rw [HM.out]; rfl, HB1.out⟩
  | true =>
   have HND := Lib.hid (HB.out.1 rfl)
   go_wp2_with fail
   refine (clone_keys A c l w1 (Kd.C_below HR.out HB1.out) HC.out (by have := H16.out; omega)).mono ?_
   rintro e w2 ⟨v, rfl, hv, hb2⟩
   have HB2 := Lib.hid (HB1.out.trans (hb2.mono HB1.out.size))
   rcases Nat.eq_zero_or_pos l.length with h0 | h0
   ·obtain ⟨A2, c2, rfl⟩ := Kd.R_slice hv
    have HM := Lib.hid (show mayK l = true by
     obtain rfl := List.eq_nil_of_length_eq_zero h0
     rfl)
    have HE := Lib.hid h0
    rw [h0]
    clear hv hb2 h0
    go_wp2_with fail
    refine (compact_small A2 0 c2 w2 (by omega)).mono ?_
    rintro e w3 ⟨rfl, rfl⟩
    go_wp2_with fail
    go_ret
    exact ⟨by rw [HM.out]; rfl, HB2.out⟩
   ·obtain ⟨g, cc, rfl, hcc, hg, hK⟩ := krow_of hv h0
    have HG := Lib.hid hg; have HK := Lib.hid hK; have HCC := Lib.hid hcc
    have HZ := Lib.hid hb2.size
    clear hv hb2 hg hK hcc
    go_wp2_with fail
    refine (compact_is g cc l w2 HK.out HCC.out H16.out).mono ?_
    rintro e w3 ⟨A3, m, c3, rfl, hm, hk⟩
    have HM := Lib.hid (show mayK l = (decide (m = l.length)) by
     unfold mayK
     rw [decide_eq_true H16.out, Bool.true_and, Bool.eq_iff_iff, decide_eq_true_eq, ris_nd, hm]
     exact ⟨fun h => h.2, fun h => ⟨HND.out, h⟩⟩)
    have HBE := Lib.hid (HB2.out.trans (hk.below (B := w.heap.size) HB2.out.size (by have := HG.out; have := HB1.out.size; rintro i rfl; omega)))
    clear hm hk
    go_wp2_with fail
    go_ret
    refine ⟨?_, HBE.out⟩
    rw [HM.out]
    show Ending.returned (.bool ((m : Int) == (l.length : Int))) = _
    congr 2
    rw [Bool.eq_iff_iff, beq_iff_eq, decide_eq_true_eq]
    omega
 ·have hq : decide ((l.length : Int) ≤ 16) = false := decide_eq_false (by omega)
  have HM := Lib.hid (show mayK l = false by unfold mayK; rw [decide_eq_false h16, Bool.false_and])
  clear h16
  go_wp2_with fail
  go_ret
  exact ⟨by rw [HM.out]; rfl, HB1.out⟩
end Go.Proofs.YtgiefblcckikeaaGreat.M
namespace Go.Proofs.YtgiefblcckikeaaGreat.G
open Go.RowKit Go.Proofs.YtgiefblcckikeaaGreatW.PrintWords Go.Proofs.YtgiefblcckikeaaGreat.M
def record_keys.f (l0 : List S101) : Option Bool := some (mayK l0)
theorem record_keys.calls (A0 : Option Addr) (c0 : Nat) (l0 : List S101) (r : Bool) (w : World) (hr0 : Kd.C k101 w A0 l0.length l0) (hc0 : l0.length ≤ c0) (h : record_keys.f l0 = some r) :
  Calls Tryz.prog 39 #[.slice A0 l0.length c0] w fun e w' => e = .returned (.bool r) ∧ Below w.heap.size w w' := by
 obtain rfl := Option.some.inj h
 exact keys_is A0 c0 l0 w hr0 hc0
end Go.Proofs.YtgiefblcckikeaaGreat.G
end

section
-- Written by a program of this session's (wip/gprint.py over the kit's printer).
namespace Go.Proofs.YtgiefblcckikeaaGreat.G
open Go.RowKit Go.Proofs.YtgiefblcckikeaaGreatW.PrintWords Go.Proofs.YtgiefblcckikeaaGreatW.PrintLast Go.Proofs.YtgiefblcckikeaaGreatW.PrintMore
attribute [local go_sem] max2_int min2_int max_two min_two max_three min_three max_four min_four   -- for this text's walks alone
def record_txn.f (a0_0 : Int) (a0_1 : Int) (l0_2 : List Int) (l0_3 : List Int) (l0_4 : List (S101)) (l0_5 : List (S101)) : Option (Bool) := (record_between.f 1 1099511627776 (([a0_0, a0_1] : List Int))).bind fun t186 => (if t186 = true then (if (l0_2.length : Int) ≤ 512 then (if (l0_3.length : Int) ≤ 8 then ((record_keys.f l0_4).bind fun t187 => (if t187 = true then ((record_keys.f l0_5).bind fun t188 => (some t188)) else (some false))) else (some false)) else (some false)) else (some false))
set_option maxHeartbeats 4000000 in
theorem record_txn.calls (a0_0 : Int) (a0_1 : Int) (A0_2 : Option Addr) (c0_2 : Nat) (l0_2 : List Int) (A0_3 : Option Addr) (c0_3 : Nat) (l0_3 : List Int) (A0_4 : Option Addr) (c0_4 : Nat) (l0_4 : List (S101)) (A0_5 : Option Addr) (c0_5 : Nat) (l0_5 : List (S101)) (r : Bool) (w : World) (hr0_2 : Kd.C (Kd.int .u8) w A0_2 l0_2.length l0_2) (hc0_2 : l0_2.length ≤ c0_2) (hr0_3 : Kd.C (Kd.int .i64) w A0_3 l0_3.length l0_3) (hc0_3 : l0_3.length ≤ c0_3) (hr0_4 : Kd.C k101 w A0_4 l0_4.length l0_4) (hc0_4 : l0_4.length ≤ c0_4) (hr0_5 : Kd.C k101 w A0_5 l0_5.length l0_5) (hc0_5 : l0_5.length ≤ c0_5) (h : record_txn.f a0_0 a0_1 l0_2 l0_3 l0_4 l0_5 = some r) :
  Calls Tryz.prog 42 #[.agg #[.int .i64 a0_0, .int .i64 a0_1, .slice A0_2 l0_2.length c0_2, .slice A0_3 l0_3.length c0_3, .slice A0_4 l0_4.length c0_4, .slice A0_5 l0_5.length c0_5]] w fun e w' => e = .returned (.bool r) ∧ Below w.heap.size w w' := by
 have R := Aside0.mk (And.intro hr0_2 (And.intro hr0_3 (And.intro hr0_4 hr0_5)))
 have C := Aside0.mk (And.intro hc0_2 (And.intro hc0_3 (And.intro hc0_4 hc0_5)))
 clear hr0_2 hc0_2 hr0_3 hc0_3 hr0_4 hc0_4 hr0_5 hc0_5
 obtain ⟨x, hb⟩ := box1 w #[.int .i64 a0_0, .int .i64 a0_1, .slice A0_2 l0_2.length c0_2, .slice A0_3 l0_3.length c0_3, .slice A0_4 l0_4.length c0_4, .slice A0_5 l0_5.length c0_5] 26
 unfold record_txn.f at h
 have H := Aside0.mk h
 clear h
 go_enter Tryz.func42, Tryz.ntmps42
 go_upto_region 1 with fail
 obtain ⟨W, hW⟩ : ∃ W, w.alloc (.cells #[.int .i64 a0_0, .int .i64 a0_1, .slice A0_2 l0_2.length c0_2, .slice A0_3 l0_3.length c0_3, .slice A0_4 l0_4.length c0_4, .slice A0_5 l0_5.length c0_5] 26) = W := ⟨_, rfl⟩
 rw [hW] at x hb ⊢
 have X := Aside0.mk x; have B := Aside0.mk hb
 clear x hb hW
 have x0 : W.cell? ⟨w.heap.size, 0, none⟩ = some (.int .i64 a0_0) := (blk_cell X.out 0).trans rfl
 have x1 : W.cell? ⟨w.heap.size, 1, none⟩ = some (.int .i64 a0_1) := (blk_cell X.out 1).trans rfl
 obtain ⟨b, e, h⟩ := Option.bind_eq_some_iff.1 H.out
 have E := Aside0.mk e; have H1 := Aside0.mk h; clear e h H
 go_wp2_with fail
 refine (record_between.calls 1 1099511627776 (some ⟨W.heap.size, 0, none⟩) 2 [a0_0, a0_1] b _ (clit [a0_0, a0_1] (by simp)) (by simp) E.out).mono ?_
 rintro e W0 ⟨rfl, d⟩
 have B0 := Aside0.mk (below_step (stB B.out) d); have X0 := Aside0.mk (blk_below (stK X.out) d)
 clear d B E X x0 x1
 have B := B0; have X := X0; clear B0 X0
 cases b with
 | false =>
  have h := H1.out; rw [if_neg (by decide)] at h; obtain rfl := Option.some.inj h; clear h
  go_wp2_with fail
  go_ret
  exact ⟨rfl, B.out⟩
 | true =>
  have h := H1.out; rw [if_pos rfl] at h; have H := Aside0.mk h; clear h H1
  have x2 : W0.cell? ⟨w.heap.size, 2, none⟩ = some (.slice A0_2 l0_2.length c0_2) := (blk_cell X.out 2).trans rfl
  by_cases q : (l0_2.length : Int) ≤ 512
  rotate_left
  ·have h := H.out; rw [if_neg q] at h; obtain rfl := Option.some.inj h
   have n0 : decide ((l0_2.length : Int) ≤ 512) = false := decide_eq_false q; have n1 : decide (l0_2.length ≤ 512) = false := decide_eq_false (by omega); clear h q
   go_wp2_with fail
   go_ret
   exact ⟨rfl, B.out⟩
  have h := H.out; rw [if_pos q] at h; clear H; have H := Aside0.mk h; have p10 : decide ((l0_2.length : Int) ≤ 512) = true := decide_eq_true q; have p11 : decide (l0_2.length ≤ 512) = true := decide_eq_true (by omega); clear h q
  have x3 : W0.cell? ⟨w.heap.size, 3, none⟩ = some (.slice A0_3 l0_3.length c0_3) := (blk_cell X.out 3).trans rfl
  by_cases q : (l0_3.length : Int) ≤ 8
  rotate_left
  ·have h := H.out; rw [if_neg q] at h; obtain rfl := Option.some.inj h
   have n0 : decide ((l0_3.length : Int) ≤ 8) = false := decide_eq_false q; have n1 : decide (l0_3.length ≤ 8) = false := decide_eq_false (by omega); clear h q
   go_wp2_with fail
   go_ret
   exact ⟨rfl, B.out⟩
  have h := H.out; rw [if_pos q] at h; clear H; have H := Aside0.mk h; have p20 : decide ((l0_3.length : Int) ≤ 8) = true := decide_eq_true q; have p21 : decide (l0_3.length ≤ 8) = true := decide_eq_true (by omega); clear h q
  have x4 : W0.cell? ⟨w.heap.size, 4, none⟩ = some (.slice A0_4 l0_4.length c0_4) := (blk_cell X.out 4).trans rfl
  obtain ⟨b, e, h⟩ := Option.bind_eq_some_iff.1 H.out
  have E := Aside0.mk e; have H1 := Aside0.mk h; clear e h H
  go_wp2_with fail
  refine (record_keys.calls A0_4 c0_4 l0_4 b W0 (Kd.C_below R.out.2.2.1 B.out) C.out.2.2.1 E.out).mono ?_
  rintro e W3 ⟨rfl, d⟩
  have B3 := Aside0.mk (below_step B.out d); have X3 := Aside0.mk (blk_below X.out d)
  clear d B E X x4
  have B := B3; have X := X3; clear B3 X3
  cases b with
  | false =>
   have h := H1.out; rw [if_neg (by decide)] at h; obtain rfl := Option.some.inj h; clear h
   go_wp2_with fail
   go_ret
   exact ⟨rfl, B.out⟩
  | true =>
   have h := H1.out; rw [if_pos rfl] at h; have H := Aside0.mk h; clear h H1
   have x5 : W3.cell? ⟨w.heap.size, 5, none⟩ = some (.slice A0_5 l0_5.length c0_5) := (blk_cell X.out 5).trans rfl
   obtain ⟨b, e, h⟩ := Option.bind_eq_some_iff.1 H.out
   have E := Aside0.mk e; have H1 := Aside0.mk h; clear e h H
   go_wp2_with fail
   refine (record_keys.calls A0_5 c0_5 l0_5 b W3 (Kd.C_below R.out.2.2.2 B.out) C.out.2.2.2 E.out).mono ?_
   rintro e W4 ⟨rfl, d⟩
   have B4 := Aside0.mk (below_step B.out d); have X4 := Aside0.mk (blk_below X.out d)
   clear d B E X x5
   have B := B4; have X := X4; clear B4 X4
   obtain rfl := Option.some.inj H1.out
   go_wp2_with fail
   go_ret
   exact ⟨rfl, B.out⟩
end Go.Proofs.YtgiefblcckikeaaGreat.G
end

section
/- record.SameEntry. -/
namespace Go.Proofs.YtgiefblcckikeaaGreat.M
open Go.RowKit Go.Proofs.YtgiefblcckikeaaGreatW.PrintWords Go.Proofs.YtgiefblcckikeaaGreatW.PrintLast Go.Proofs.YtgiefblcckikeaaGreatW.PrintMore Go.Proofs.YtgiefblcckikeaaGreat.G
structure TxAt (w : World) (p : Addr) (x : TxD) (A2 : Option Addr) (c2 : Nat) (A3 : Option Addr) (c3 : Nat) (A4 : Option Addr) (c4 : Nat) (A5 : Option Addr) (c5 : Nat) : Prop where
 e0 : w.cell? p = some (.int .i64 x.f0)
 e1 : w.cell? ⟨p.block, p.off + 1, none⟩ = some (.int .i64 x.f1)
 e2 : w.cell? ⟨p.block, p.off + 2, none⟩ = some (.slice A2 x.f2.length c2)
 e3 : w.cell? ⟨p.block, p.off + 3, none⟩ = some (.slice A3 x.f3.length c3)
 e4 : w.cell? ⟨p.block, p.off + 4, none⟩ = some (.slice A4 x.f4.length c4)
 e5 : w.cell? ⟨p.block, p.off + 5, none⟩ = some (.slice A5 x.f5.length c5)
structure TxC (w : World) (x : TxD) (A2 : Option Addr) (c2 : Nat) (A3 : Option Addr) (c3 : Nat) (A4 : Option Addr) (c4 : Nat) (A5 : Option Addr) (c5 : Nat) : Prop where
 l2 : x.f2.length ≤ c2
 g2 : (Kd.int .u8).C w A2 x.f2.length x.f2
 l3 : x.f3.length ≤ c3
 g3 : (Kd.int .i64).C w A3 x.f3.length x.f3
 l4 : x.f4.length ≤ c4
 g4 : G.k101.C w A4 x.f4.length x.f4
 l5 : x.f5.length ≤ c5
 g5 : G.k101.C w A5 x.f5.length x.f5
theorem TxC.below {w w' : World} {x : TxD} {A2 A3 A4 A5 : Option Addr} {c2 c3 c4 c5 : Nat} (h : TxC w x A2 c2 A3 c3 A4 c4 A5 c5) (hb : Below w.heap.size w w') : TxC w' x A2 c2 A3 c3 A4 c4 A5 c5 :=
 ⟨h.l2, Kd.C_below h.g2 hb, h.l3, Kd.C_below h.g3 hb, h.l4, Kd.C_below h.g4 hb, h.l5, Kd.C_below h.g5 hb⟩
theorem TxC.le {w : World} {x : TxD} {A2 A3 A4 A5 : Option Addr} {c2 c3 c4 c5 : Nat} (h : TxC w x A2 c2 A3 c3 A4 c4 A5 c5) : TxLe x 9223372036854775807 := ⟨h.g2.2.1, h.g3.2.1, h.g4.2.1, h.g5.2.1⟩
theorem tx_get {w : World} {A : Option Addr} {n : Nat} {l : List TxD} (h : Kd.C G.k26 w A n l) {k : Nat} {x : TxD} (hk : l[k]? = some x) :
  ∃ ad A2 c2 A3 c3 A4 c4 A5 c5, A = some ad ∧ TxAt w (ad.add (k * 6)) x A2 c2 A3 c3 A4 c4 A5 c5 ∧ TxC w x A2 c2 A3 c3 A4 c4 A5 c5 := by
 have hlt : k < n := by
  have := (List.getElem?_eq_some_iff.1 hk).1
  have := h.1
  omega
 obtain ⟨ad, A2, c2, A3, c3, A4, c4, A5, c5, rfl, h0, h1, h2, h3, h4, h5, l2, g2, l3, g3, l4, g4, l5, g5⟩ := G.at_T26 h (k : Int) (by omega) (by omega)
 have e : G.rd_T26 l (k : Int) = x := by unfold G.rd_T26; rw [Int.toNat_natCast, List.getD_eq_getElem?_getD, hk]; rfl
 rw [e] at h0 h1 h2 h3 h4 h5 l2 g2 l3 g3 l4 g4 l5 g5
 rw [Int.toNat_natCast] at h0 h1 h2 h3 h4 h5
 exact ⟨ad, A2, c2, A3, c3, A4, c4, A5, c5, rfl, ⟨h0, h1, h2, h3, h4, h5⟩, ⟨l2, g2, l3, g3, l4, g4, l5, g5⟩⟩
theorem sameTx_is {w : World} (a b : TxD) {A2 A3 A4 A5 B2 B3 B4 B5 : Option Addr} {c2 c3 c4 c5 d2 d3 d4 d5 : Nat} (ha : TxC w a A2 c2 A3 c3 A4 c4 A5 c5) (hb : TxC w b B2 d2 B3 d3 B4 d4 B5 d5) :
  Calls Tryz.prog 142 #[.agg #[.int .i64 a.f0, .int .i64 a.f1, .slice A2 a.f2.length c2, .slice A3 a.f3.length c3, .slice A4 a.f4.length c4, .slice A5 a.f5.length c5], .agg #[.int .i64 b.f0, .int .i64 b.f1, .slice B2 b.f2.length d2, .slice B3 b.f3.length d3, .slice B4 b.f4.length d4, .slice B5 b.f5.length d5]] w fun e w' => e = .returned (.bool (eqTx a b)) ∧ Below w.heap.size w w' :=
 G.record_SameTxn.calls (a.f3.length + a.f4.length + a.f5.length + 1) a.f0 a.f1 A2 c2 a.f2 A3 c3 a.f3 A4 c4 a.f4 A5 c5 a.f5 b.f0 b.f1 B2 d2 b.f2 B3 d3 b.f3 B4 d4 b.f4 B5 d5 b.f5 _ w ha.g2 ha.l2 ha.g3 ha.l3 ha.g4 ha.l4 ha.g5 ha.l5 hb.g2 hb.l2 hb.g3 hb.l3 hb.g4 hb.l4 hb.g5 hb.l5 (sameTxn_p _ a b ha.le ⟨by omega, by omega, by omega⟩)
theorem eqTs_take {a b : List TxD} {i : Nat} {x y : TxD} (hx : a[i]? = some x) (hy : b[i]? = some y) : eqTs (a.drop i) (b.drop i) = (eqTx x y && eqTs (a.drop (i + 1)) (b.drop (i + 1))) := by
 rw [drop_cons hx, drop_cons hy]; rfl
def EqI (a b : List TxD) (w : World) (i : Value) (wr : World) : Prop := ∃ k : Nat, i = .int .i64 k ∧ k ≤ a.length ∧ eqTs a b = eqTs (a.drop k) (b.drop k) ∧ Below w.heap.size w wr
set_option maxHeartbeats 1000000 in
theorem eqfunc_is (A B : Option Addr) (c d : Nat) (a b : List TxD) (w : World) (ha : Kd.C G.k26 w A a.length a) (hb : Kd.C G.k26 w B b.length b) :
  Calls Tryz.prog 141 #[.slice A a.length c, .slice B b.length d, .func (.func 142) #[] #[]] w fun e w' => e = .returned (.bool (eqTs a b)) ∧ Below w.heap.size w w' := by
 have hlm : a.length ≤ 9223372036854775807 := ha.2.1
 have HA := Lib.hid ha; have HB := Lib.hid hb
 clear ha hb
 by_cases hl : a.length = b.length
 ·have hlb : ((a.length : Int) != (b.length : Int)) = false := by rw [bne_eq_false_iff_eq]; omega
  have HL := Lib.hid hl
  clear hl
  go_enter Tryz.func141, Tryz.ntmps141
  go_wp2_with fail
  go_loopw [17] (fun i wr => EqI a b w i wr) (fun i _ => a.length - (intOf i).toNat)
  case atStart => exact ⟨0, rfl, Nat.zero_le _, rfl, Below.refl _ _⟩
  case round =>
   obtain ⟨k, rfl, hk, he, hb⟩ := hrel
   have HE := Lib.hid he; have HBr := Lib.hid hb
   clear he hb
   by_cases hlt : k < a.length
   ·obtain ⟨x, hx⟩ : ∃ x, a[k]? = some x := ⟨_, List.getElem?_eq_getElem hlt⟩
    obtain ⟨y, hy⟩ : ∃ y, b[k]? = some y := ⟨_, List.getElem?_eq_getElem (by have := HL.out; omega)⟩
    obtain ⟨ad, A2, c2, A3, c3, A4, c4, A5, c5, rfl, ⟨x0, x1, x2, x3, x4, x5⟩, hX⟩ := tx_get (Kd.C_below HA.out HBr.out) hx
    obtain ⟨bd, B2, d2, B3, d3, B4, d4, B5, d5, rfl, ⟨y0, y1, y2, y3, y4, y5⟩, hY⟩ := tx_get (Kd.C_below HB.out HBr.out) hy
    have HXX := Lib.hid hX; have HYY := Lib.hid hY
    have HS := Lib.hid (eqTs_take hx hy)
    have hkb : k < b.length := by have := HL.out; omega
    clear hX hY hx hy
    have zb : (bd.add (k * 6)).block < wr.heap.size := World.block_lt_of_cell? _ _ y0
    go_wp2_with fail
    have HB2 := Lib.hid (show Below wr.heap.size wr ((wr.alloc (.cells #[.int .i64 x.f0, .int .i64 x.f1, .slice A2 x.f2.length c2, .slice A3 x.f3.length c3, .slice A4 x.f4.length c4, .slice A5 x.f5.length c5] 26)).alloc (.cells #[.int .i64 y.f0, .int .i64 y.f1, .slice B2 y.f2.length d2, .slice B3 y.f3.length d3, .slice B4 y.f4.length d4, .slice B5 y.f5.length d5] 26)) from ((Below.refl _ _).alloc (Nat.le_refl _) _).alloc (by simp) _)
    refine (sameTx_is x y (HXX.out.below HB2.out) (HYY.out.below HB2.out)).mono ?_
    rintro e w' ⟨rfl, hb⟩
    have HB3 := Lib.hid (HBr.out.trans ((HB2.out.trans (hb.mono HB2.out.size)).mono HBr.out.size))
    clear hb x0 x1 x2 x3 x4 x5 y0 y1 y2 y3 y4 y5 zb
    obtain ⟨q, hq⟩ : ∃ q, eqTx x y = q := ⟨_, rfl⟩
    have HQ := Lib.hid hq
    rw [hq]
    clear hq
    cases q with
    | true =>
     go_wp2_with fail
     go_roundw
     case rel => exact ⟨k + 1, by go_num, hlt, by rw [HE.out, HS.out, HQ.out, Bool.true_and], HB3.out⟩
     case measure => simp [intOf]; omega
    | false =>
     go_wp2_with fail
     go_ret
     exact ⟨by rw [HE.out, HS.out, HQ.out]; rfl, HB3.out⟩
   ·have HF := Lib.hid (show eqTs a b = true by rw [HE.out, List.drop_of_length_le (by omega), List.drop_of_length_le (by have := HL.out; omega)]; rfl)
    go_wp2_with fail
    go_ret
    exact ⟨by rw [HF.out]; rfl, HBr.out⟩
 ·have hlb : ((a.length : Int) != (b.length : Int)) = true := by rw [bne_iff_ne]; omega
  have HF := Lib.hid (eqTs_len hl)
  clear hl
  go_enter Tryz.func141, Tryz.ntmps141
  go_wp2_with fail
  go_ret
  exact ⟨by rw [HF.out]; rfl, Below.refl _ _⟩
set_option maxHeartbeats 1000000 in
theorem sameEn_is (k f n : Int) (A : Option Addr) (c : Nat) (l : List TxD) (k' f' n' : Int) (A' : Option Addr) (c' : Nat) (l' : List TxD) (w : World) (ha : Kd.C G.k26 w A l.length l) (hb : Kd.C G.k26 w A' l'.length l') :
  Calls Tryz.prog 82 #[.agg #[.int .i64 k, .int .i64 f, .int .i64 n, .slice A l.length c], .agg #[.int .i64 k', .int .i64 f', .int .i64 n', .slice A' l'.length c']] w fun e w' => e = .returned (.bool (eqEn k f n l k' f' n' l')) ∧ Below w.heap.size w w' := by
 obtain ⟨q, hq⟩ : ∃ q, eqEn k f n l k' f' n' l' = q := ⟨_, rfl⟩
 have HQ := Lib.hid hq
 rw [hq]
 clear hq
 have HB := Lib.hid (show Below w.heap.size w ((w.alloc (.cells #[.int .i64 k, .int .i64 f, .int .i64 n, .slice A l.length c] 29)).alloc (.cells #[.int .i64 k', .int .i64 f', .int .i64 n', .slice A' l'.length c'] 29)) from ((Below.refl _ _).alloc (Nat.le_refl _) _).alloc (by simp) _)
 have HE := Lib.hid (eqfunc_is A A' c c' l l' _ (Kd.C_below ha HB.out) (Kd.C_below hb HB.out))
 clear ha hb
 cases h0 : (k == k') with
 | false =>
  have HV := Lib.hid (show q = false by rw [← HQ.out]; unfold eqEn; rw [h0, Bool.false_and])
  go_enter Tryz.func82, Tryz.ntmps82
  go_wp2_with fail
  go_ret
  exact ⟨by rw [HV.out]; rfl, HB.out⟩
 | true =>
  cases h1 : (f == f') with
  | false =>
   have HV := Lib.hid (show q = false by rw [← HQ.out]; unfold eqEn; rw [h1, Bool.false_and, Bool.and_false])
   go_enter Tryz.func82, Tryz.ntmps82
   go_wp2_with fail
   go_ret
   exact ⟨by rw [HV.out]; rfl, HB.out⟩
  | true =>
   cases h2 : (n == n') with
   | false =>
    have HV := Lib.hid (show q = false by rw [← HQ.out]; unfold eqEn; rw [h2, Bool.false_and, Bool.and_false, Bool.and_false])
    go_enter Tryz.func82, Tryz.ntmps82
    go_wp2_with fail
    go_ret
    exact ⟨by rw [HV.out]; rfl, HB.out⟩
   | true =>
    have HV := Lib.hid (show q = eqTs l l' by rw [← HQ.out]; unfold eqEn; rw [h0, h1, h2, Bool.true_and, Bool.true_and, Bool.true_and])
    go_enter Tryz.func82, Tryz.ntmps82
    go_wp2_with fail
    refine HE.out.mono ?_
    rintro e w' ⟨rfl, hb⟩
    have HB2 := Lib.hid (HB.out.trans (hb.mono HB.out.size))
    clear hb
    go_wp2_with fail
    go_ret
    exact ⟨by rw [HV.out]; rfl, HB2.out⟩
end Go.Proofs.YtgiefblcckikeaaGreat.M
namespace Go.Proofs.YtgiefblcckikeaaGreat.G
open Go.RowKit Go.Proofs.YtgiefblcckikeaaGreatW.PrintWords Go.Proofs.YtgiefblcckikeaaGreat.M
def record_SameEntry.f (a0_0 a0_1 a0_2 : Int) (l0_3 : List S26) (a1_0 a1_1 a1_2 : Int) (l1_3 : List S26) : Option Bool := some (eqEn a0_0 a0_1 a0_2 l0_3 a1_0 a1_1 a1_2 l1_3)
theorem record_SameEntry.calls (a0_0 a0_1 a0_2 : Int) (A0_3 : Option Addr) (c0_3 : Nat) (l0_3 : List S26) (a1_0 a1_1 a1_2 : Int) (A1_3 : Option Addr) (c1_3 : Nat) (l1_3 : List S26) (r : Bool) (w : World) (hr0_3 : Kd.C k26 w A0_3 l0_3.length l0_3) (hc0_3 : l0_3.length ≤ c0_3) (hr1_3 : Kd.C k26 w A1_3 l1_3.length l1_3) (hc1_3 : l1_3.length ≤ c1_3) (h : record_SameEntry.f a0_0 a0_1 a0_2 l0_3 a1_0 a1_1 a1_2 l1_3 = some r) :
  Calls Tryz.prog 82 #[.agg #[.int .i64 a0_0, .int .i64 a0_1, .int .i64 a0_2, .slice A0_3 l0_3.length c0_3], .agg #[.int .i64 a1_0, .int .i64 a1_1, .int .i64 a1_2, .slice A1_3 l1_3.length c1_3]] w fun e w' => e = .returned (.bool r) ∧ Below w.heap.size w w' := by
 obtain rfl := Option.some.inj h
 exact sameEn_is a0_0 a0_1 a0_2 A0_3 c0_3 l0_3 a1_0 a1_1 a1_2 A1_3 c1_3 l1_3 w hr0_3 hr1_3
end Go.Proofs.YtgiefblcckikeaaGreat.G
end
