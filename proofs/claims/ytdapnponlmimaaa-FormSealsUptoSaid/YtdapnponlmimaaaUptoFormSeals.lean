/- FormSeals, where what it reads is of bulk at most 1048576: the row. -/
-- Written by a program of this session's (wip/gprint.py over the kit's printer).
import Derived.Test.YtdapnponlmimaaaRows
import Derived.Test.YtdapnponlmimaaaGx0
import Derived.Test.YtdapnponlmimaaaGx12
import Derived.Test.YtdapnponlmimaaaPureFormSeals
import Derived.Test.YtdapnponlmimaaaBulk
import Derived.Deep.CondSized
import Derived.Deep.Matrix
import Derived.WalkKit
import Derived.ProofKit
import Derived.OpenShut
import Derived.ShutString
import Derived.ChangeOld
import Derived.Below
import Derived.SizedLaws
import Derived.Test.YtdapnponlmimaaaWSized
namespace Go.Proofs.Ytdapnponlmimaaa.formSealsUpto
open Go.Proofs.YtdapnponlmimaaaW.PrintWords
open Go.ChangeShapes Go.WideShapes Go.ChangeAt Go.RowKit
open Go.ChangeMaps (open_string shut_string)
open Go.Proofs.YtdapnponlmimaaaW
set_option linter.unusedVariables false
theorem own : ownKnob Try.prog.godebug = none := by kernel_rfl
theorem laidOut : laidOutB Try.prog = true := by kernel_rfl
def IsRow (k : IntKind) (w : World) (a : Option Addr) (len cap : Nat) (zs : List Int) : Prop :=
  (a = none ∧ len = 0 ∧ cap = 0 ∧ zs = []) ∨
  ∃ x, a = some x ∧ len ≤ cap ∧ cap ≤ maxLen ∧ zs.length = cap ∧ (∀ i, i < zs.length → w.cell? (x.add i) = some (.int k (zs.getD i 0))) ∧ ∀ n ∈ zs, (Lit.int k n).wf = true
/-- A row of rows, read. -/
theorem rows_of {w : World} {a : Addr} {len : Nat} {A : Nat → Option Addr} {L C : Nat → Nat} {Z : Nat → List Int} (hm : len ≤ maxLen)
    (h : ∀ r, r < len → w.cell? (a.add r) = some (.slice (A r) (L r) (C r)) ∧ L r ≤ C r ∧ C r ≤ maxLen ∧ (Z r).length = C r ∧ (∀ n ∈ Z r, (Lit.int .u8 n).wf = true) ∧ (A r = none → C r = 0) ∧ ∀ a', A r = some a' → ∀ c, c < C r → w.cell? (a'.add c) = some (.int .u8 ((Z r).getD c 0))) :
    Kd.C (Kd.slice 5 (Kd.int .u8)) w (some a) ((List.range len).map fun r => (Z r).take (L r)).length ((List.range len).map fun r => (Z r).take (L r)) := by
  refine ⟨rfl, by simp [maxLen] at hm ⊢; omega, fun _ => ⟨a, rfl, fun j p hj => ?_⟩⟩
  have hjl : j < len := by
    rcases Nat.lt_or_ge j len with h' | h'
    · exact h'
    · rw [List.getElem?_eq_none (by simpa using h')] at hj; cases hj
  rw [List.getElem?_map, List.getElem?_range hjl] at hj
  simp only [Option.map_some, Option.some.injEq] at hj
  obtain ⟨g1, g2, g3, g4, g5, g6, g7⟩ := h j hjl
  have hpl : p.length = L j := by rw [← hj, List.length_take]; omega
  refine ⟨[.slice (A j) p.length (C j)], rfl, ⟨A j, C j, rfl, by omega, ?_⟩, fun i u hu => ?_⟩
  · refine Kd.C_of_reads (d := (0 : Int)) (h1 := fun _ => rfl) ⟨rfl, by simp [maxLen] at g3; omega, fun hp => ?_⟩
    cases hA : A j with
    | none => have := g6 hA; omega
    | some a' =>
      refine ⟨a', rfl, fun i hi => ?_⟩
      rw [g7 a' hA i (by omega), ← hj]
      congr 2
      rw [List.getD_eq_getElem?_getD, List.getD_eq_getElem?_getD, List.getElem?_take, if_pos (by omega)]
  · cases i with
    | zero =>
      simp at hu
      subst hu
      rw [hpl]
      have hz : (Kd.slice 5 (Kd.int .u8)).sz = 1 := rfl
      simpa [hz] using g1
    | succ i => simp at hu
theorem flat_le {H : Type} (l : List Nat) (f : Nat → List Int) (g : Nat → DataW H) (h : ∀ r ∈ l, (f r).length ≤ Rows.uptoBulk (g r)) : (l.map f).flatten.length ≤ Rows.uptoBulkAll (l.map g) := by
  induction l with
  | nil => simp [Rows.uptoBulkAll]
  | cons x r ih =>
    have h1 := h x (List.mem_cons_self ..)
    have h2 := ih (fun y hy => h y (List.mem_cons_of_mem _ hy))
    simp only [List.map_cons, List.flatten_cons, List.length_append, Rows.uptoBulkAll]
    omega
theorem row_le {H : Type} (A : Option Addr) (L : Nat) (zs : List Int) (h : A = none → zs = []) : (zs.take L).length ≤ Rows.uptoBulk (Deep.intRow (H := H) .u8 A L zs) := by
  cases A with
  | none => rw [h rfl]; simp
  | some a =>
    have e2 := bulks.slice_le (H := H) (lits .u8 (zs.take L)) (lits .u8 (zs.drop L))
    simp only [lits, List.length_map] at e2
    show _ ≤ Rows.uptoBulk (.slice (lits .u8 (zs.take L)) (lits .u8 (zs.drop L)))
    simp only [lits]
    omega
theorem walkUpto (a0 : Option Addr) (len0 cap0 : Nat) (z0 : List Int) (a1 : Option Addr) (cap1 : Nat) (l1 : List (List Int)) (w : World) (w0 : IsRow .u8 w a0 len0 cap0 z0) (u0 : len0 ≤ 1048576) (hr1 : Kd.C (Kd.slice 5 (Kd.int .u8)) w a1 l1.length l1) (hc1 : l1.length ≤ cap1) (u1 : l1.length ≤ 1048576) (v1 : l1.flatten.length ≤ 1048576) :
    Calls Try.prog 8 #[.slice a0 len0 cap0, .slice a1 l1.length cap1] w fun e w' => e = .returned (.bool true) ∧ Below w.heap.size w w' := by
  obtain ⟨l0, rfl, hr0, hm0, hw0, hc0⟩ := ReadsInt.ofRowC w0
  obtain ⟨k, h⟩ := Pure.FormSeals l0 l1 u0 hw0 u1 v1
  refine (G.trivetlaw01_FormSeals.calls k _ _ l0 _ _ l1 true w (Kd.C_of_reads (d := (0 : Int)) (h1 := fun _ => rfl) hr0) hc0 hr1 hc1 h).mono ?_
  rintro e w' ⟨rfl, hd⟩
  exact ⟨rfl, hd⟩
set_option maxRecDepth 100000 in
theorem lifted (os : Os) (started : os.Started) (H : Type) (enc : TypeId × Value → H) (F : Stop.Interp) :
    ReturnsInHanded {} Try.checked os 8 .any ((Rows.OpenSpec.upto Rows.formSealsSpec).pre6 enc Try.prog Try.f8 Rows.formSealsUptoRow.domain false) (((Rows.OpenSpec.upto Rows.formSealsSpec).at F).post enc Try.prog Try.f8 false true false false) := by
  refine returnsInHanded_of_cond_sized (C := Try.checked) (s := Rows.OpenSpec.upto Rows.formSealsSpec) (k := Rows.uptoSmall) rfl own started (by kernel_rfl) Try.func8
    (OpenSpec.witness (enc := enc) (C := Try.checked) (s := Rows.OpenSpec.upto Rows.formSealsSpec) (k := Rows.uptoSmall) rfl false ⟨#[], #[.slice none 0 0, .slice none 0 0], []⟩ 8 (by kernel_rfl) (by kernel_rfl) (by kernel_rfl) (x := ([.nil, .nil], [], [])) (by kernel_rfl) rfl (by kernel_rfl)) ?_
  intro W base args ds gs before hval0 hW hcnd hk hsz0 _
  have hsz : (DataW.weightsEach Try.prog (Try.f8.params.toList ++ Rows.formSealsSpec.plain.varTypes Try.prog) (ds ++ gs)).all (· ≤ reachBytes) = true := hsz0
  have hval : ∀ (j : Nat) t v, Try.f8.params[j]? = some t → args[j]? = some v → Value.okWide Try.prog W .any base t v := hval0
  have hW' := hW
  obtain ⟨p, q, hA0, hV, rfl, hfz, hnd⟩ := hW
  have hA : DataW.TrodAll enc Try.prog W 0 (fun _ => true) true Try.f8.params.toList args.toList ds p := hA0
  rw [Try.params8] at hA hval hsz
  obtain ⟨v0, vs0, d0, ds0, p0, q0, hargs, rfl, rfl, h0, r0⟩ := trodAll_cons hA
  obtain ⟨v1, vs1, d1, ds1, p1, q1, rfl, rfl, rfl, h1, r1⟩ := trodAll_cons r0
  obtain ⟨rfl, rfl, rfl⟩ := trodAll_nil r1
  obtain rfl : args = #[v0, v1] := by cases args; simp_all
  obtain ⟨rfl, rfl⟩ := trodVars_none hV
  obtain ⟨a0, len0, cap0, rfl⟩ := okWide_slice Try.underlying22 (hval 0 22 v0 rfl rfl)
  have k0 := h0
  have lt0 : ∀ x ∈ p0, x.block < W.heap.size := by obtain ⟨m, hm⟩ := k0; exact DataW.trod_lt m _ _ _ hm
  obtain ⟨z0, w0, u0⟩ : ∃ zs, IsRow .u8 W a0 len0 cap0 zs ∧ len0 + 1 ≤ Rows.uptoBulk d0 := by
    obtain ⟨fuel, hf⟩ := h0
    rcases open_ints Try.underlying22 Try.underlying5 (by kernel_rfl) hf with ⟨hcs, hd⟩ | ⟨x, l, c, zs, hcs, _, hl, hm, hz, hd, hcell, hwz⟩
    · simp [Value.cells] at hcs
      obtain ⟨rfl, rfl, rfl⟩ := hcs
      exact ⟨[], .inl ⟨rfl, rfl, rfl, rfl⟩, bulks.one_le _⟩
    · simp [Value.cells] at hcs
      obtain ⟨rfl, rfl, rfl⟩ := hcs
      refine ⟨zs, .inr ⟨_, rfl, hl, hm, by simpa using hz, hcell, hwz⟩, ?_⟩
      have e1 := congrArg Prod.fst hd
      have e2 := bulks.slice_le (H := H) (lits .u8 (zs.take len0)) (lits .u8 (zs.drop len0))
      simp only [] at e1
      rw [← e1] at e2
      simp only [lits, List.length_map, List.length_take, List.length_drop] at e2
      simp at hz
      omega
  have y0 : len0 * 1 ≤ 140737488351232 := PrintWords.sized_ints hsz (j := 0) (t := 22) rfl rfl Try.underlying22 Try.underlying5 (by kernel_rfl) (by kernel_rfl) h0
  obtain ⟨a1, len1, cap1, rfl⟩ := okWide_slice Try.underlying46 (hval 1 46 v1 rfl rfl)
  have k1 := h1
  have lt1 : ∀ x ∈ p1, x.block < W.heap.size := by obtain ⟨m, hm⟩ := k1; exact DataW.trod_lt m _ _ _ hm
  obtain ⟨l1, hl1, hr1, hc1, u1, v1⟩ : ∃ l1 : List (List Int), len1 = l1.length ∧ Kd.C (Kd.slice 5 (Kd.int .u8)) W a1 l1.length l1 ∧ l1.length ≤ cap1 ∧ l1.length + 1 ≤ Rows.uptoBulk d1 ∧ l1.flatten.length ≤ Rows.uptoBulk d1 := by
    obtain ⟨fuel, hf⟩ := h1
    rcases Deep.open_int_rows Try.underlying46 Try.underlying22 Try.underlying5 (by kernel_rfl) (by kernel_rfl) hf with ⟨hcs, hd⟩ | ⟨x, l, c, A, L, C, Z, hcs, _, hl, hm, hd, hrow⟩
    · simp [Value.cells] at hcs
      obtain ⟨rfl, rfl, rfl⟩ := hcs
      exact ⟨[], rfl, Kd.C_nil _ _, Nat.le_refl _, bulks.one_le _, by simp⟩
    · simp [Value.cells] at hcs
      obtain ⟨rfl, rfl, rfl⟩ := hcs
      have e1 := congrArg Prod.fst hd
      simp only [] at e1
      have e2 := bulks.slice_le (H := H) ((List.range len1).map fun r => Deep.intRow .u8 (A r) (L r) (Z r)) ((List.range (cap1 - len1)).map fun j => Deep.intRow .u8 (A (len1 + j)) (L (len1 + j)) (Z (len1 + j)))
      have e3 := bulks.slice_elems (H := H) ((List.range len1).map fun r => Deep.intRow .u8 (A r) (L r) (Z r)) ((List.range (cap1 - len1)).map fun j => Deep.intRow .u8 (A (len1 + j)) (L (len1 + j)) (Z (len1 + j)))
      rw [← e1] at e2 e3
      have e4 := flat_le (H := H) (List.range len1) (fun r => (Z r).take (L r)) (fun r => Deep.intRow .u8 (A r) (L r) (Z r)) (fun r hr => row_le _ _ _ (fun hA => by
        have hlt := List.mem_range.1 hr
        obtain ⟨_, _, _, g4, _, g6, _⟩ := hrow r (by omega)
        exact List.eq_nil_of_length_eq_zero (by rw [g4]; exact g6 hA)))
      refine ⟨(List.range len1).map fun r => (Z r).take (L r), by simp, rows_of (A := A) (C := C) (by omega) (fun r hr => ?_), by simpa using hl, by simp at e2 ⊢; omega, by omega⟩
      obtain ⟨g1, g2, g3, g4, g5, g6, g7⟩ := hrow r (by omega)
      exact ⟨g1, g2, g3, g4, g5, g6, fun a' ha => (g7 a' ha).2⟩
  subst hl1
  have hbulk : Rows.uptoBulkAll _ ≤ 1048576 := of_decide_eq_true hk
  simp only [List.append_nil, Rows.uptoBulkAll] at hbulk
  clear hA0 hval0 hsz0 hsz
  refine (walkUpto a0 len0 cap0 z0 a1 cap1 l1 W w0 (by omega) hr1 hc1 (by omega) (by omega)).mono fun e W' ⟨he, bel⟩ => ?_
  subst he
  exact ⟨_, rfl, _, _, _, [], _, [], hW', trodAll_mk1 (shut_bool Try.underlying4 _), (trodAll_cons_mk (Below.trod laidOut (by kernel_rfl) (of_decide_eq_true (by kernel_rfl)) k0 bel lt0) (trodAll_cons_mk (Below.trod laidOut (by kernel_rfl) (of_decide_eq_true (by kernel_rfl)) k1 bel lt1) trodAll_mk0)), rfl, bel.frame _, fun h => by cases h⟩
theorem over : Rows.formSealsUptoRow.holds Try.pinned (Rows.OpenSpec.upto Rows.formSealsSpec) :=
  OpenClaim.holds_of_cond 8 Try.f8 rfl rfl rfl rfl rfl rfl rfl ⟨rfl, rfl, rfl, rfl, rfl⟩ rfl rfl rfl rfl rfl (by kernel_rfl) Try.func8 (by kernel_rfl)
    (of_decide_eq_true (by kernel_rfl)) (by unfold Func.isWrapper; first | (rw [if_pos (by decide +kernel)]; kernel_rfl) | (rw [if_neg (by decide +kernel)]; exact ⟨rfl, rfl⟩))
    (fun os started H enc _ F => lifted os started H enc F)
theorem proved : Rows.FormSealsUptoSaid := over
#print axioms proved
end Go.Proofs.Ytdapnponlmimaaa.formSealsUpto
