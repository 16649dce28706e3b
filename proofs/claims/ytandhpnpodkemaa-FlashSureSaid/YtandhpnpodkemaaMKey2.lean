/- Keys of two numbers: arrays [2]int, structs of two numbers. -/
import Derived.Test.YtandhpnpodkemaaMMap
set_option linter.unusedVariables false
set_option linter.unusedSimpArgs false
namespace Go.Proofs.Ytandhpnpodkemaa.M
open Go.RowKit Go.Maps

theorem arr_two {α : Type} {cs : Array α} (h : cs.size = 2) : ∃ c0 c1, cs = #[c0, c1] := by
  obtain ⟨l⟩ := cs
  match l, h with
  | [c0, c1], _ => exact ⟨c0, c1, rfl⟩
def mk2 (p q : IntKind) (x : Int × Int) : Value := .agg #[.int p x.1, .int q x.2]
def wf2 (p q : IntKind) (x : Int × Int) : Prop := (Lit.int p x.1).wf = true ∧ (Lit.int q x.2).wf = true
theorem mk2_inj {p q : IntKind} (x y : Int × Int) (h : mk2 p q x = mk2 p q y) : x = y := by
  simp only [mk2, Value.agg.injEq, Array.mk.injEq, List.cons.injEq, Value.int.injEq, true_and, and_true] at h
  exact Prod.ext h.1 h.2
theorem keyT_arr2 {P : Program} {k e : TypeId} {q : IntKind} (hk : P.underlying k = some (.array 2 e)) (he : P.underlying e = some (.int q)) (hck : P.cellsOf k = 2) (hce : P.cellsOf e = 1) (hkt : P.keyType k = true) (hm : ∃ m, P.types.size = m + 1) (K : Keyed P k) :
    KeyT P k (mk2 q q) (wf2 q q) := by
  obtain ⟨m, hm⟩ := hm
  refine ⟨K, fun x hx => ?_, fun v kl h => ?_, mk2_inj⟩
  · obtain ⟨h1, h2⟩ := hx
    simp [keyOf, hk, hkt, mk2, Value.formed, hck, Program.keyLits, hm, he, hce, Value.cells, List.range_succ, h1, h2]
  · unfold keyOf at h
    rw [hk] at h
    simp only [hkt, Bool.true_and] at h
    split at h
    · rename_i hf
      rw [Option.map_eq_some_iff] at h
      obtain ⟨ls, h1, _⟩ := h
      cases v with
      | agg cs =>
        simp [Value.formed, hk, hck] at hf
        obtain ⟨c0, c1, rfl⟩ := arr_two hf
        simp [Program.keyLits, hm, hk, hck, hce, Value.cells, List.range_succ] at h1
        rw [Option.bind_eq_some_iff] at h1
        obtain ⟨l0, h2, h3⟩ := h1
        cases c0 <;> simp [he] at h2
        obtain ⟨⟨rfl, w0⟩, rfl⟩ := h2
        cases c1 <;> simp [he, Option.bind_eq_some_iff] at h3
        obtain ⟨_, ⟨_, ⟨⟨rfl, w1⟩, _⟩, _⟩, _⟩ := h3
        exact ⟨(_, _), ⟨w0, w1⟩, rfl⟩
      | _ => simp [Value.formed, hk] at hf
    · cases h
theorem keyT_struct2 {P : Program} {k : TypeId} {f0 f1 : Field} {p q : IntKind} (hk : P.underlying k = some (.struct #[f0, f1])) (h0 : P.underlying f0.type = some (.int p)) (h1 : P.underlying f1.type = some (.int q)) (ho : f0.offset = 0 ∧ f1.offset = 1) (hnm : (f0.name != "_") = true ∧ (f1.name != "_") = true)
    (hck : P.cellsOf k = 2) (hc0 : P.cellsOf f0.type = 1) (hc1 : P.cellsOf f1.type = 1) (hkt : P.keyType k = true) (hm : ∃ m, P.types.size = m + 1) (K : Keyed P k) :
    KeyT P k (mk2 p q) (wf2 p q) := by
  obtain ⟨m, hm⟩ := hm
  obtain ⟨n0, n1⟩ := hnm
  refine ⟨K, fun x hx => ?_, fun v kl h => ?_, mk2_inj⟩
  · obtain ⟨w0, w1⟩ := hx
    simp only [bne_iff_ne, ne_eq] at n0 n1
    simp [keyOf, hk, hkt, mk2, Value.formed, hck, Program.keyLits, hm, h0, h1, hc0, hc1, ho.1, ho.2, n0, n1, Value.cells, w0, w1]
  · unfold keyOf at h
    rw [hk] at h
    simp only [hkt, Bool.true_and] at h
    split at h
    · rename_i hf
      rw [Option.map_eq_some_iff] at h
      obtain ⟨ls, h1', _⟩ := h
      cases v with
      | agg cs =>
        simp [Value.formed, hk, hck] at hf
        obtain ⟨c0, c1, rfl⟩ := arr_two hf
        simp only [bne_iff_ne, ne_eq] at n0 n1
        simp [Program.keyLits, hm, hk, hck, hc0, hc1, ho.1, ho.2, n0, n1, Value.cells] at h1'
        rw [Option.bind_eq_some_iff] at h1'
        obtain ⟨l0, h2, h3⟩ := h1'
        cases c0 <;> simp [h0] at h2
        obtain ⟨⟨rfl, w0⟩, rfl⟩ := h2
        cases c1 <;> simp [h1, Option.bind_eq_some_iff] at h3
        obtain ⟨_, ⟨_, ⟨⟨rfl, w1⟩, _⟩, _⟩, _⟩ := h3
        exact ⟨(_, _), ⟨w0, w1⟩, rfl⟩
      | _ => simp [Value.formed, hk] at hf
    · cases h
/-- An array's or a struct's type as keys. -/
theorem keyed_deep {P : Program} (hl : laidOutB P = true) {k : TypeId} (hrow : k < P.types.size) (hk : P.keyTypeAt 2 k = true) (hwide : (match P.underlying k with | some (.array _ _) | some (.struct _) => true | _ => false) = true) : Keyed P k :=
  Keyed.of_law (deep_law_laid hl (m := 2) (by omega) hrow hk hwide)
end Go.Proofs.Ytandhpnpodkemaa.M
