/- Contract of Program's second inner function. -/
import Derived.Test.YtandhpnpodkemaaFProg2
set_option linter.unusedVariables false
set_option linter.unusedSimpArgs false
set_option maxRecDepth 100000
namespace Go.Proofs.Ytandhpnpodkemaa.M
open Go.RowKit Go.Proofs.YtandhpnpodkemaaW.PrintWords Go.Proofs.YtandhpnpodkemaaW.PrintLast

/-- A page's cells when bytes are put to it. -/
def fullC (c : Nat → Int) (q : Nat) (l : List Int) : Nat → Int := putL (putL (updC c q 2) (q + 1) l) (q + 1 + l.length) (List.replicate (256 - l.length) 255)
theorem putL_snoc (c : Nat → Int) (o : Nat) (l : List Int) (x : Int) : putL c o (l ++ [x]) = updC (putL c o l) (o + l.length) x := by
  induction l generalizing c o with
  | nil => rw [List.nil_append, putL_cons, putL_nil, putL_nil]; simp
  | cons y l ih => rw [List.cons_append, putL_cons, putL_cons, ih, List.length_cons]; congr 1; omega
set_option maxHeartbeats 1000000 in
theorem prog2 {w : World} {f g : Nat} {fl : Fl} {b p X D : Nat} (hb : b < fl.n) (hp : p < 16) (hX : w.cell? ⟨X, 0, none⟩ = some (.pointer (some ⟨g, b * 4113 + p * 257, none⟩))) (hXl : X < w.heap.size) (hXf : X ≠ f) (hXg : X ≠ g)
    (A : Option Addr) (c : Nat) (l : List Int) (hD : w.cell? ⟨D, 0, none⟩ = some (.slice A l.length c)) (hDl : D < w.heap.size) (hDf : D ≠ f) (hDg : D ≠ g) (hr : Kd.F (Kd.int .u8) w (fun k => k ≠ f ∧ k ≠ g) A l.length l) (hl : l.length ≤ 256) :
    Makes w f g fl 36 #[.pointer (some ⟨X, 0, none⟩), .pointer (some ⟨D, 0, none⟩)] (fullC fl.c (b * 4113 + p * 257) l) := by
  intro w' fl' hk hI hc hn
  have x0 : w'.cell? ⟨X, 0, none⟩ = some (.pointer (some ⟨g, b * 4113 + p * 257, none⟩)) := (hk.cell hXl hXf hXg).trans hX
  have d0 : w'.cell? ⟨D, 0, none⟩ = some (.slice A l.length c) := (hk.cell hDl hDf hDg).trans hD
  have hs := hI.st (b := b) (p := p) (by omega) hp
  have hz := hI.gz (b * 4113 + p * 257)
  have hput := hI.put (i := b * 4113 + p * 257) (by omega) 2
  rw [kdAt_st hp, hc] at hput
  have hF : Kd.F (Kd.int .u8) w' (fun k => k ≠ f ∧ k ≠ g) A l.length l := Kd.F_step hr (fun k hk' hlt => hk.block k hlt hk'.1 hk'.2)
  have hF1 : Kd.F (Kd.int .u8) (w'.setCell ⟨g, b * 4113 + p * 257, none⟩ (.int .i64 2)) (fun k => k ≠ f ∧ k ≠ g) A l.length l := Kd.F_far hF (fun k hk => hk.2) _
  obtain ⟨W, hrun, hIW, hkW⟩ := copy_pg (hput.drew) (b := b) (p := p) (by show b < fl'.n; omega) hp A c l (Kd.F_now (Kd.F_drew hF1)) hl 3
  have HIW := Lib.hid hIW
  have HKW := Lib.hid (show KeepF f g w' W from (((KeepF.refl f g w').setG _ _).drew).trans hkW)
  obtain ⟨q, HQ⟩ : ∃ q, RowKit.Hid (b * 4113 + p * 257 = q) := ⟨_, Lib.hid rfl⟩
  rw [HQ.out] at x0 hs hz hrun
  go_enter Try.func36, Try.ntmps36
  go_wp2
  go_region
  have hXl' : X < w'.heap.size := Nat.lt_of_lt_of_le hXl hk.size
  have HX0 := Lib.hid x0
  have HN := Lib.hid hn
  have HB := Lib.hid hb
  have HP := Lib.hid hp
  have HLL := Lib.hid hl
  obtain ⟨C0, HC0⟩ : ∃ C0, RowKit.Hid (putL (updC fl.c q 2) (q + 1) l = C0) := ⟨_, Lib.hid rfl⟩
  have HI0 := Lib.hid (show IsF W f g { fl' with c := C0 } by have := HIW.out; rw [HQ.out, HC0.out] at this; exact this)
  clear hX hD hr hs hz hput hF hF1 hrun hI hk d0 hc hn x0 hIW hkW hb hp
  go_wp2
  go_loopw [3] (fun i wr => ∃ j : Nat, i = .int .i64 (j : Int) ∧ RowKit.Hid (l.length ≤ j ∧ j ≤ 256) ∧ RowKit.Hid (IsF wr f g { fl' with c := putL C0 (q + 1 + l.length) (List.replicate (j - l.length) 255) }) ∧ RowKit.Hid (KeepF f g w' wr)) (fun i _ => 256 - (intOf i).toNat)
  case atStart => exact ⟨l.length, rfl, Lib.hid ⟨Nat.le_refl _, hl⟩, Lib.hid (by rw [Nat.sub_self, List.replicate_zero, putL_nil]; exact HI0.out), HKW⟩
  case round =>
    obtain ⟨j, rfl, HJ, HI, HK⟩ := hrel
    have x0 : wr.cell? ⟨X, 0, none⟩ = some (.pointer (some ⟨g, q, none⟩)) := (HK.out.cell hXl' hXf hXg).trans HX0.out
    by_cases hlt : j < 256
    · have hlt0 : (j : Int) < 256 := by omega
      have hj0 : (0 : Int) ≤ (j : Int) := by omega
      have hd := HI.out.data (b := b) (p := p) (i := j) (by show b < fl'.n; have := HB.out; have := HN.out; omega) HP.out hlt
      have hz := HI.out.gz (q + 1 + j)
      have HPUT := Lib.hid (HI.out.put (i := q + 1 + j) (by show q + 1 + j < fl'.n * 4113; have := HB.out; have := HN.out; have := HP.out; have := HQ.out; omega) 255)
      rw [HQ.out] at hd
      have hkd : kdAt (q + 1 + j) = .u8 := by rw [← HQ.out]; exact kdAt_data HP.out hlt
      rw [hkd] at HPUT
      have hj1 : IntKind.i64.wrap ((j : Int) + 1) = ((j + 1 : Nat) : Int) := by rw [IntKind.wrap_i64]; omega
      clear hkd
      go_wp2
      go_roundw
      case rel =>
        refine ⟨j + 1, by first | rfl | (congr 1), Lib.hid ⟨by have := HJ.out.1; omega, by omega⟩, Lib.hid ?_, Lib.hid (HK.out.setG _ _)⟩
        have e : putL C0 (q + 1 + l.length) (List.replicate (j + 1 - l.length) 255) = updC (putL C0 (q + 1 + l.length) (List.replicate (j - l.length) 255)) (q + 1 + j) 255 := by
          have h1 := HJ.out.1
          rw [show j + 1 - l.length = (j - l.length) + 1 from by omega, List.replicate_succ', putL_snoc]
          congr 1
          simp
          omega
        rw [e]
        exact HPUT.out
      case measure => simp [intOf]; omega
    · have hje : j = 256 := by have := HJ.out.2; omega
      subst hje
      clear hlt
      go_wp2
      go_end0
      refine ⟨rfl, ?_, HK.out⟩
      have := HI.out
      unfold fullC
      rw [HQ.out, HC0.out]
      exact this
end Go.Proofs.Ytandhpnpodkemaa.M
