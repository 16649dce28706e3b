/- Contract of flash.New. -/
import Derived.Test.YtandhpnpodkemaaFChange
import Derived.Laws.MakeOwn
set_option linter.unusedVariables false
set_option linter.unusedSimpArgs false
namespace Go.Proofs.Ytandhpnpodkemaa.M
open Go.RowKit

theorem infoB : (Try.prog.info? 79).map (fun i => (i.size, i.bytes)) = some (4113, 4232) := by kernel_rfl
theorem infoBz : (Try.prog.info? 79).bind (fun i => i.zero.map fun z => z.cells.toList) = some ((List.range 4113).map fun j => Value.int (kdAt j) 0) := by kernel_rfl
/-- A block's zero. -/
theorem zeroB : ∃ (i : TypeInfo) (z : Value), Try.prog.info? 79 = some i ∧ i.zero = some z ∧ i.size = 4113 ∧ i.bytes = 4232 ∧ z.cells.toList = (List.range 4113).map fun j => Value.int (kdAt j) 0 := by
  obtain ⟨i, hi, h⟩ := Option.bind_eq_some_iff.1 infoBz
  obtain ⟨z, hz, h2⟩ := Option.map_eq_some_iff.1 h
  have h3 := infoB
  rw [hi] at h3
  simp only [Option.map_some, Option.some.injEq, Prod.mk.injEq] at h3
  exact ⟨i, z, hi, hz, h3.1, h3.2, h2⟩
theorem kdAt_mod (i : Nat) : kdAt (i % 4113) = kdAt i := by unfold kdAt; rw [Nat.mod_mod]
def newF (n : Nat) : Fl := { n := n, cap := n, c := fun _ => 0, fuse := 0, keep := 0, down := false }
theorem made_at {Z : Array Value} (hz : Z.toList = (List.range 4113).map fun j => Value.int (kdAt j) 0) (m i : Nat) (hi : i < m) : (madeCells Z m)[i]? = some (.int (kdAt i) 0) := by
  have hl : Z.size = 4113 := by rw [← Array.length_toList, hz]; simp
  have hm : i % 4113 < 4113 := Nat.mod_lt _ (by omega)
  have h0 : Z[i % 4113]! = .int (kdAt i) 0 := by
    rw [getElem!_pos Z (i % 4113) (by omega), ← Array.getElem_toList]
    simp [hz, kdAt_mod]
  unfold madeCells
  rw [hl, Array.getElem?_map, Array.getElem?_range, if_pos hi]
  simp [h0]
def newE (n : Int) : Int := if n < 1 ∨ 1024 < n then 1 else 0
theorem new_bad (n : Int) (w : World) (h : n < 1 ∨ 1024 < n) : Calls Try.prog 7 #[.int .i64 n] w fun e w' => e = .returned (.tuple #[.pointer none, .int .i64 1]) ∧ w = w' := by
  by_cases h1 : n < 1
  · have g1 : decide (n < 1) = true := decide_eq_true h1
    clear h h1
    go_enter Try.func7, Try.ntmps7
    go_wp2
    go_ret2
    exact ⟨rfl, rfl⟩
  · have g1 : decide (n < 1) = false := decide_eq_false h1
    have g2 : decide (1024 < n) = true := decide_eq_true (by omega)
    clear h h1
    go_enter Try.func7, Try.ntmps7
    go_wp2
    go_ret2
    exact ⟨rfl, rfl⟩
theorem new_is (n : Nat) (w : World) (h1 : 1 ≤ n) (h2 : n ≤ 1024) : Calls Try.prog 7 #[.int .i64 (n : Int)] w fun e w' => e = .returned (.tuple #[.pointer (some ⟨w.heap.size + 1, 0, none⟩), .int .i64 0]) ∧ IsF w' (w.heap.size + 1) w.heap.size (newF n) ∧ Below w.heap.size w w' := by
  obtain ⟨i0, z, hi, hz, hs, hb, hc⟩ := zeroB
  have hmk : ∀ u : World, (Instr.makeSlice 45 (.int .i64 (n : Int)) (.int .i64 (n : Int))).run Try.prog u = .ok (.slice (some ⟨u.heap.size, 0, none⟩) n n) (u.alloc (.cells (madeCells z.cells (n * 4113)) 79)) := fun u => by
    have h := run_make (P := Try.prog) u 45 79 i0 z Try.underlying45 hi hz .i64 .i64 (n : Int) (n : Int) (by omega) (Int.le_refl _) (by rw [hb]; omega) (by omega)
    rw [Int.toNat_natCast, hs] at h
    exact h
  obtain ⟨Z, hZ⟩ : ∃ Z, z.cells = Z := ⟨_, rfl⟩
  rw [hZ] at hmk hc
  have HC := Lib.hid hc
  have g1 : decide ((n : Int) < 1) = false := decide_eq_false (by omega)
  have g2 : decide (1024 < (n : Int)) = false := decide_eq_false (by omega)
  have H1 := Lib.hid h1
  have H2 := Lib.hid h2
  clear hi hz hs hb hc h1 h2 hZ
  go_enter Try.func7, Try.ntmps7
  go_wp2
  go_ret2
  refine ⟨rfl, ⟨?_, ?_, by omega, H1.out, H2.out, Nat.le_refl _⟩, ((Below.refl _ _).alloc (Nat.le_refl _) _).alloc (by simp) _⟩
  · show ((w.heap.push _).push _)[w.heap.size + 1]? = _
    rw [Array.getElem?_push, if_pos (by simp)]
    rfl
  · refine ⟨madeCells Z (n * 4113), ?_, by simp [newF, size_madeCells], fun i hi => made_at HC.out _ i hi⟩
    show ((w.heap.push _).push _)[w.heap.size]? = _
    rw [Array.getElem?_push, if_neg (by simp), Array.getElem?_push, if_pos rfl]
end Go.Proofs.Ytandhpnpodkemaa.M
