/- Program's second inner function: the page is full. -/
import Derived.Test.YtandhpnpodkemaaFProg1
import Derived.Laws.IdiomCopy
set_option linter.unusedVariables false
set_option linter.unusedSimpArgs false
set_option maxRecDepth 100000
namespace Go.Proofs.Ytandhpnpodkemaa.M
open Go.RowKit Go.Proofs.YtandhpnpodkemaaW.PrintWords Go.Proofs.YtandhpnpodkemaaW.PrintLast

/-- Numbers laid from place o on. -/
def putL (c : Nat → Int) (o : Nat) (l : List Int) : Nat → Int := fun j => if o ≤ j ∧ j < o + l.length then l.getD (j - o) 0 else c j
theorem putL_nil (c : Nat → Int) (o : Nat) : putL c o [] = c := by
  funext j
  unfold putL
  rw [if_neg]
  simp
theorem putL_cons (c : Nat → Int) (o : Nat) (x : Int) (l : List Int) : putL c o (x :: l) = putL (updC c o x) (o + 1) l := by
  funext j
  unfold putL updC
  simp only [List.length_cons]
  by_cases h1 : j = o
  · subst h1
    rw [if_pos (by omega), if_neg (by omega), if_pos rfl, Nat.sub_self]
    rfl
  · by_cases h2 : o ≤ j ∧ j < o + (l.length + 1)
    · rw [if_pos h2, if_pos (by omega), show j - o = (j - (o + 1)) + 1 from by omega, List.getD_cons_succ]
    · rw [if_neg h2, if_neg (by omega), if_neg h1]
theorem IsF.puts {f g : Nat} (l : List Int) : ∀ {w : World} {fl : Fl} (o : Nat), IsF w f g fl → (∀ j, j < l.length → kdAt (o + j) = .u8) → o + l.length ≤ fl.n * 4113 →
    IsF (w.setCells g o (l.map fun x => .int .u8 x)) f g { fl with c := putL fl.c o l } ∧ KeepF f g w (w.setCells g o (l.map fun x => .int .u8 x)) := by
  induction l with
  | nil => intro w fl o h _ _; rw [putL_nil]; exact ⟨h, KeepF.refl _ _ _⟩
  | cons x l ih =>
    intro w fl o h hk hl
    simp only [List.length_cons] at hl hk
    have h0 := hk 0 (by omega)
    rw [Nat.add_zero] at h0
    have h1 := h.put (i := o) (by omega) x
    rw [h0] at h1
    have h2 := ih (fl := { fl with c := updC fl.c o x }) (o + 1) h1 (fun j hj => by rw [Nat.add_assoc, Nat.add_comm 1 j]; exact hk (j + 1) (by omega)) (by show o + 1 + l.length ≤ fl.n * 4113; omega)
    simp only [List.map_cons, World.setCells]
    rw [putL_cons]
    exact ⟨h2.1, ((KeepF.refl _ _ _).setG _ _).trans h2.2⟩
/-- copy, onto a page. -/
theorem copy_pg {w : World} {f g : Nat} {fl : Fl} (h : IsF w f g fl) {b p : Nat} (hb : b < fl.n) (hp : p < 16) (A : Option Addr) (c : Nat) (l : List Int) (hr : Kd.C (Kd.int .u8) w A l.length l) (hl : l.length ≤ 256) (ty : TypeId) :
    ∃ W, (Builtin.copy_ #[29, 29] ty #[.slice (some ⟨g, b * 4113 + p * 257 + 1, none⟩) 256 256, .slice A l.length c]).run Try.prog w = .ok (goInt (l.length : Int)) W ∧ IsF W f g { fl with c := putL fl.c (b * 4113 + p * 257 + 1) l } ∧ KeepF f g w W := by
  have hs : (Try.prog.info? 5).map (·.size) = some 1 := by kernel_rfl
  cases A with
  | none =>
    obtain ⟨h0, rfl⟩ := C_none hr
    exact ⟨w, by have := run_copy_none (P := Try.prog) w 29 29 ty 5 (some ⟨g, b * 4113 + p * 257 + 1, none⟩) none 256 256 0 c Try.underlying29 hs rfl; exact this, by rw [putL_nil]; exact h, KeepF.refl _ _ _⟩
  | some ad =>
    obtain ⟨r1, r2⟩ := h.puts l (b * 4113 + p * 257 + 1) (fun j hj => kdAt_data hp (by omega)) (by omega)
    refine ⟨_, ?_, r1, r2⟩
    have hrun := run_copy_cells (P := Try.prog) w 29 29 ty 5 g (b * 4113 + p * 257 + 1) 256 256 ad l.length c (l.map fun x => .int .u8 x) Try.underlying29 hs (by rw [List.length_map]; exact (Nat.min_eq_left hl).symm)
      (fun j v hv => by
        rw [List.getElem?_map] at hv
        obtain ⟨x, hx, rfl⟩ := Option.map_eq_some_iff.1 hv
        obtain ⟨hj, hx'⟩ := List.getElem?_eq_some_iff.1 hx
        obtain ⟨_, _, h3⟩ := Kd.reads_of_C (enc := Value.int .u8) (d := (0 : Int)) (h1 := fun _ => rfl) hr
        obtain ⟨ad', e, hc⟩ := h3 (by omega)
        injection e with e
        subst e
        rw [hc j hj, List.getD_eq_getElem?_getD, hx]
        rfl)
      (fun j hj => by rw [h.data hb hp (by simp at hj; omega)]; rfl) (fun j hj => h.gz _) (by intro v hv; rw [List.mem_map] at hv; obtain ⟨x, _, rfl⟩ := hv; rfl)
    rw [List.length_map] at hrun
    exact hrun
end Go.Proofs.Ytandhpnpodkemaa.M
