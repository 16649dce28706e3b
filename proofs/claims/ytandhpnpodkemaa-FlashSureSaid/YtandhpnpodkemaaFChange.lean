/- Contract of a flash's change, over what its two functions do to the cells. -/
import Derived.Test.YtandhpnpodkemaaFFuse
set_option linter.unusedVariables false
set_option linter.unusedSimpArgs false
namespace Go.Proofs.Ytandhpnpodkemaa.M
open Go.RowKit

def changeE (fl : Fl) : Int := if fl.fuse = 1 then 7 else 0
def changeF (fl : Fl) (cW cT : Nat → Int) : Fl :=
  if fl.fuse = 1 then { fl with c := if fl.keep = 1 then cT else if fl.keep = 2 then cW else fl.c, down := true, fuse := 0 }
  else { fl with fuse := max (fl.fuse - 1) 0, c := cW }
/-- What a change's function does: the cells become c. -/
def Makes (w : World) (f g : Nat) (fl : Fl) (id : FuncId) (cap : Array Value) (c : Nat → Int) : Prop :=
  ∀ (w' : World) (fl' : Fl), KeepF f g w w' → IsF w' f g fl' → fl'.c = fl.c → fl'.n = fl.n →
    Calls Try.prog id cap w' fun e w'' => e = .returned (.tuple #[]) ∧ IsF w'' f g { fl' with c := c } ∧ KeepF f g w' w''
theorem change_is {w : World} {f g : Nat} {fl : Fl} (h : IsF w f g fl) (hfu : 0 ≤ fl.fuse ∧ fl.fuse ≤ 9223372036854775807) (wid tid : FuncId) (wcap tcap : Array Value) (cW cT : Nat → Int)
    (hw : ∀ (args : Array Value) (W : World), (callFunc wid args).run Try.prog W = .ok (.enter wid args) W) (ht : ∀ (args : Array Value) (W : World), (callFunc tid args).run Try.prog W = .ok (.enter tid args) W)
    (HW : Makes w f g fl wid wcap cW) (HT : Makes w f g fl tid tcap cT) :
    Calls Try.prog 35 #[.pointer (some ⟨f, 0, none⟩), .func (.func wid) #[] wcap, .func (.func tid) #[] tcap] w fun e w' => e = .returned (.int .i64 (changeE fl)) ∧ IsF w' f g (changeF fl cW cT) ∧ KeepF f g w w' := by
  have HI := Lib.hid h
  have HWW := Lib.hid HW
  have HTT := Lib.hid HT
  have e1 := h.c1
  have e2 := h.c2
  have e3 := h.c3
  have z1 := h.z 1
  have z3 := h.z 3
  obtain ⟨er, her⟩ : ∃ er, changeE fl = er := ⟨_, rfl⟩
  obtain ⟨R, HR⟩ : ∃ R, RowKit.Hid (changeF fl cW cT = R) := ⟨_, Lib.hid rfl⟩
  rw [her, HR.out]
  clear h HW HT
  by_cases h1 : fl.fuse = 1
  · have hq : (fl.fuse != 1) = false := bne_eq_false_iff_eq.2 h1
    unfold changeE at her
    rw [if_pos h1] at her
    subst her
    have H1 := Lib.hid h1
    by_cases k1 : fl.keep = 1
    · have g1 : (fl.keep == 1) = true := beq_iff_eq.2 k1
      have HF := Lib.hid (show { fl with c := cT, down := true, fuse := 0 } = R by rw [← HR.out]; unfold changeF; rw [if_pos h1, if_pos k1])
      clear h1 k1 hfu
      go_enter Try.func35, Try.ntmps35
      go_wp2_with fail
      refine (HTT.out _ fl (KeepF.refl _ _ _) HI.out rfl rfl).mono ?_
      rintro e w1 ⟨rfl, hI1, hk1⟩
      have d1 := hI1.c1
      have d3 := hI1.c3
      have y1 := hI1.z 1
      have y3 := hI1.z 3
      have HI1 := Lib.hid hI1
      have HK1 := Lib.hid hk1
      clear hI1 hk1 e1 e2 e3 z1 z3
      go_wp2
      go_ret
      refine ⟨rfl, ?_, (HK1.out.setF _ _).setF _ _⟩
      rw [← HF.out]
      exact (HI1.out.setDown true).setFuse 0
    · have g1 : (fl.keep == 1) = false := beq_eq_false_iff_ne.2 k1
      by_cases k2 : fl.keep = 2
      · have g2 : (fl.keep == 2) = true := beq_iff_eq.2 k2
        have HF := Lib.hid (show { fl with c := cW, down := true, fuse := 0 } = R by rw [← HR.out]; unfold changeF; rw [if_pos h1, if_neg k1, if_pos k2])
        clear h1 k1 k2 hfu
        go_enter Try.func35, Try.ntmps35
        go_wp2_with fail
        refine (HWW.out _ fl (KeepF.refl _ _ _) HI.out rfl rfl).mono ?_
        rintro e w1 ⟨rfl, hI1, hk1⟩
        have d1 := hI1.c1
        have d3 := hI1.c3
        have y1 := hI1.z 1
        have y3 := hI1.z 3
        have HI1 := Lib.hid hI1
        have HK1 := Lib.hid hk1
        clear hI1 hk1 e1 e2 e3 z1 z3
        go_wp2
        go_ret
        refine ⟨rfl, ?_, (HK1.out.setF _ _).setF _ _⟩
        rw [← HF.out]
        exact (HI1.out.setDown true).setFuse 0
      · have g2 : (fl.keep == 2) = false := beq_eq_false_iff_ne.2 k2
        have HF := Lib.hid (show { fl with down := true, fuse := 0 } = R by rw [← HR.out]; unfold changeF; rw [if_pos h1, if_neg k1, if_neg k2])
        clear h1 k1 k2 hfu
        go_enter Try.func35, Try.ntmps35
        go_wp2
        go_ret
        refine ⟨rfl, ?_, ((KeepF.refl _ _ _).setF _ _).setF _ _⟩
        rw [← HF.out]
        exact (HI.out.setDown true).setFuse 0
  · have hq : (fl.fuse != 1) = true := bne_iff_ne.2 h1
    unfold changeE at her
    rw [if_neg h1] at her
    subst her
    have HF := Lib.hid (show ∀ x : Int, max (fl.fuse - 1) 0 = x → { fl with fuse := x, c := cW } = R by intro x hx; rw [← HR.out]; unfold changeF; rw [if_neg h1, hx])
    have hs : IntKind.i64.wrap (fl.fuse - 1) = fl.fuse - 1 := by rw [IntKind.wrap_i64]; omega
    clear h1 hfu
    go_enter Try.func35, Try.ntmps35
    go_wp2_with fail
    all_goals
      first
        | refine (HWW.out _ _ ((KeepF.refl _ _ _).setF 1 (.int .i64 0)) (HI.out.setFuse 0) rfl rfl).mono ?_
        | refine (HWW.out _ _ ((KeepF.refl _ _ _).setF 1 (.int .i64 (fl.fuse - 1))) (HI.out.setFuse (fl.fuse - 1)) rfl rfl).mono ?_
      rintro e w1 ⟨rfl, hI1, hk1⟩
      have HI1 := Lib.hid hI1
      have HK1 := Lib.hid (((KeepF.refl f g w).setF 1 _).trans hk1)
      clear hI1 hk1 e1 e2 e3 z1 z3
      go_wp2
      go_ret
      first
        | exact ⟨rfl, by rw [← HF.out 0 (by omega)]; exact HI1.out, HK1.out⟩
        | exact ⟨rfl, by rw [← HF.out (fl.fuse - 1) (by omega)]; exact HI1.out, HK1.out⟩
end Go.Proofs.Ytandhpnpodkemaa.M
