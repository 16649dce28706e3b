/- (under way) Contract of Erase's inner function. -/
import Derived.Test.YtandhpnpodkemaaFWear
set_option linter.unusedVariables false
set_option linter.unusedSimpArgs false
set_option maxRecDepth 100000
namespace Go.Proofs.Ytandhpnpodkemaa.M
open Go.RowKit Go.Proofs.YtandhpnpodkemaaW.PrintWords Go.Proofs.YtandhpnpodkemaaW.PrintLast

theorem infoPz : (Try.prog.info? 76).bind (fun i => i.zero.map fun z => z.cells.toList) = some (.int .i64 0 :: List.replicate 256 (.int .u8 0)) := by kernel_rfl
theorem infoPa : (Try.prog.info? 76).bind (fun i => i.zero.map fun z => match z with | .agg _ => true | _ => false) = some true := by kernel_rfl
/-- A page's zero. -/
theorem zeroP : ∃ Z : Array Value, (∀ W : World, (zeroValue 76).run Try.prog W = .ok (.agg Z) W) ∧ Z.toList = .int .i64 0 :: List.replicate 256 (.int .u8 0) := by
  obtain ⟨i, hi, h⟩ := Option.bind_eq_some_iff.1 infoPz
  obtain ⟨z, hz, h2⟩ := Option.map_eq_some_iff.1 h
  have h3 := infoPa
  rw [hi] at h3
  simp only [Option.bind_some, hz, Option.map_some, Option.some.injEq] at h3
  cases z with
  | agg Z =>
    refine ⟨Z, fun W => ?_, by simpa [Value.cells] using h2⟩
    simp [zeroValue, typeInfo, hi, hz]
  | _ => simp at h3
/-- A page's cells when its block is erased. -/
def eraseC1 (c : Nat → Int) (q : Nat) (s : Int) : Nat → Int := putL (updC c q s) (q + 1) (List.replicate 256 0)
def eraseC (c : Nat → Int) (b : Nat) (s : Int) : Nat → (Nat → Int)
  | 0 => updC c (b * 4113 + 4112) (wrap64 (c (b * 4113 + 4112) + 1))
  | j + 1 => eraseC1 (eraseC c b s j) (b * 4113 + j * 257) s
theorem store_pg {w : World} {f g : Nat} {fl : Fl} (h : IsF w f g fl) {b p : Nat} (hb : b < fl.n) (hp : p < 16) (s : Int) {Z : Array Value} (hZ : Z.toList = .int .i64 0 :: List.replicate 256 (.int .u8 0)) :
    ∃ W, (storeCells ⟨g, b * 4113 + p * 257, none⟩ (Z.toList.set 0 (.int .i64 s))).run Try.prog w = .ok () W ∧ IsF W f g { fl with c := eraseC1 fl.c (b * 4113 + p * 257) s } ∧ KeepF f g w W := by
  have e1 : Z.toList.set 0 (.int .i64 s) = .int .i64 s :: (List.replicate 256 (0 : Int)).map fun x => .int .u8 x := by rw [hZ]; simp
  have h1 := h.put (i := b * 4113 + p * 257) (by omega) s
  rw [kdAt_st hp] at h1
  rw [e1]
  unfold eraseC1
  obtain ⟨zs, hzs, hzl⟩ : ∃ zs, List.replicate 256 (0 : Int) = zs ∧ zs.length = 256 := ⟨_, rfl, by simp⟩
  rw [hzs]
  clear e1 hzs hZ
  obtain ⟨r1, r2⟩ := h1.puts zs (b * 4113 + p * 257 + 1) (fun j hj => kdAt_data hp (by omega)) (by show _ ≤ fl.n * 4113; omega)
  have hrun := run_storeCells_cells (P := Try.prog) g (b * 4113 + p * 257) (.int .i64 s :: zs.map fun x => .int .u8 x) 0 w
    (fun j hj => by simp only [List.length_cons, List.length_map] at hj; rw [Nat.add_zero, h.gc (by omega)]; rfl) (fun j hj => h.gz _)
    (by intro v hv; rcases List.mem_cons.1 hv with e | e
        · rw [e]; rfl
        · obtain ⟨x, _, rfl⟩ := List.mem_map.1 e; rfl)
  simp only [World.setCells, Nat.add_zero] at hrun
  exact ⟨_, hrun, r1, ((KeepF.refl _ _ _).setG _ _).trans r2⟩
set_option maxHeartbeats 1000000 in
theorem erase3 {w : World} {f g : Nat} {fl : Fl} {b F B S : Nat} (s : Int) (hb : b < fl.n) (hF : w.cell? ⟨F, 0, none⟩ = some (.pointer (some ⟨f, 0, none⟩))) (hB : w.cell? ⟨B, 0, none⟩ = some (.int .i64 (b : Int))) (hS : w.cell? ⟨S, 0, none⟩ = some (.int .i64 s))
    (lF : F < w.heap.size ∧ F ≠ f ∧ F ≠ g) (lB : B < w.heap.size ∧ B ≠ f ∧ B ≠ g) (lS : S < w.heap.size ∧ S ≠ f ∧ S ≠ g) :
    Makes w f g fl 40 #[.pointer (some ⟨F, 0, none⟩), .pointer (some ⟨B, 0, none⟩), .pointer (some ⟨S, 0, none⟩)] (eraseC fl.c b s 16) := by
  intro w' fl' hk hI hc hn
  obtain ⟨Z, hzv, hZ⟩ := zeroP
  have hZn : ¬ Z = #[] := by intro e; subst e; simp at hZ
  have hZs : Z.size = 257 := by rw [← Array.length_toList, hZ]; simp
  have HZ := Lib.hid hZ
  clear hZ
  have HN := Lib.hid hn
  have HBN := Lib.hid hb
  have x1 : w'.cell? ⟨F, 0, none⟩ = some (.pointer (some ⟨f, 0, none⟩)) := (hk.cell lF.1 lF.2.1 lF.2.2).trans hF
  have x2 : w'.cell? ⟨B, 0, none⟩ = some (.int .i64 (b : Int)) := (hk.cell lB.1 lB.2.1 lB.2.2).trans hB
  have x3 : w'.cell? ⟨S, 0, none⟩ = some (.int .i64 s) := (hk.cell lS.1 lS.2.1 lS.2.2).trans hS
  have HX1 := Lib.hid x1
  have HX2 := Lib.hid x2
  have HX3 := Lib.hid x3
  have HSZ := Lib.hid hk.size
  have HLF := Lib.hid lF
  have HLB := Lib.hid lB
  have HLS := Lib.hid lS
  have e0 := hI.c0
  have g0 : (0 : Int) ≤ (b : Int) := by omega
  have g1 : (b : Int) < (fl'.n : Int) := by omega
  have ew := hI.wear (b := b) (by omega)
  have hz := hI.gz (b * 4113 + 4112)
  have HP := Lib.hid (hI.put (i := b * 4113 + 4112) (by omega) (IntKind.i64.wrap (fl'.c (b * 4113 + 4112) + 1)))
  rw [kdAt_wear] at HP
  have HC := Lib.hid hc
  clear hF hB hS hk hI hc hn lF lB lS hb
  go_enter Try.func40, Try.ntmps40
  go_wp2
  go_region
  clear e0 ew hz x1 x2 x3
  go_wp2
  go_loopw [15] (fun i wr => ∃ j : Nat, i = .int .i64 (j : Int) ∧ j ≤ 16 ∧ RowKit.Hid (IsF wr f g { fl' with c := eraseC fl.c b s j }) ∧ RowKit.Hid (KeepF f g w' wr)) (fun i _ => 16 - (intOf i).toNat)
  case atStart =>
    refine ⟨0, rfl, Nat.zero_le _, Lib.hid ?_, Lib.hid ?_⟩
    · have := HP.out
      have e : eraseC fl.c b s 0 = updC fl'.c (b * 4113 + 4112) (wrap64 (fl'.c (b * 4113 + 4112) + 1)) := by rw [HC.out]; rfl
      rw [e]
      rw [i64_w] at this
      first | exact this.drew | exact this
    · first | exact ((KeepF.refl _ _ _).setG _ _).drew | exact (KeepF.refl _ _ _).setG _ _
  case round =>
    obtain ⟨j, rfl, hj, HI, HK⟩ := hrel
    have hsz : w.heap.size ≤ w'.heap.size := HSZ.out
    have x1 : wr.cell? ⟨F, 0, none⟩ = some (.pointer (some ⟨f, 0, none⟩)) := (HK.out.cell (p := ⟨F, 0, none⟩) (Nat.lt_of_lt_of_le HLF.out.1 hsz) HLF.out.2.1 HLF.out.2.2).trans HX1.out
    have x2 : wr.cell? ⟨B, 0, none⟩ = some (.int .i64 (b : Int)) := (HK.out.cell (p := ⟨B, 0, none⟩) (Nat.lt_of_lt_of_le HLB.out.1 hsz) HLB.out.2.1 HLB.out.2.2).trans HX2.out
    have x3 : wr.cell? ⟨S, 0, none⟩ = some (.int .i64 s) := (HK.out.cell (p := ⟨S, 0, none⟩) (Nat.lt_of_lt_of_le HLS.out.1 hsz) HLS.out.2.1 HLS.out.2.2).trans HX3.out
    by_cases hlt : j < 16
    · have hlt0 : (j : Int) < 16 := by omega
      have j0 : (0 : Int) ≤ (j : Int) := by omega
      have e1 := HI.out.c0
      obtain ⟨W, hrun, hIW, hKW⟩ := store_pg HI.out.drew (b := b) (p := j) (by show b < fl'.n; omega) hlt s HZ.out
      have HIW := Lib.hid hIW
      have HKW := Lib.hid (HK.out.drew.trans hKW)
      have hj1 : IntKind.i64.wrap ((j : Int) + 1) = ((j + 1 : Nat) : Int) := by rw [IntKind.wrap_i64]; omega
      clear hIW hKW
      go_wp2
      go_region
      go_wp2
      go_roundw
      case rel => exact ⟨j + 1, by first | rfl | (congr 1), by omega, Lib.hid (by rw [eraseC]; exact HIW.out), HKW⟩
      case measure => simp [intOf]; omega
    · have hje : j = 16 := by omega
      subst hje
      clear hlt
      go_wp2
      go_end0
      exact ⟨rfl, HI.out, HK.out⟩
end Go.Proofs.Ytandhpnpodkemaa.M
