/- FlashSure's walk. -/
import Derived.Test.YtandhpnpodkemaaFSurePure
import Derived.Test.YtandhpnpodkemaaFOne
import Derived.Test.YtandhpnpodkemaaMKeep
import Derived.Test.YtandhpnpodkemaaMKey2
import Derived.StillTailTactics
set_option linter.unusedVariables false
set_option linter.unusedSimpArgs false
set_option maxRecDepth 100000
namespace Go.Proofs.Ytandhpnpodkemaa.M
open Go.RowKit Go.Maps Go.Proofs.YtandhpnpodkemaaW.PrintWords Go.Proofs.YtandhpnpodkemaaW.PrintMore Go.Proofs.YtandhpnpodkemaaW.PrintLast

theorem keyB : KeyT Try.prog 34 (mk2 .i64 .i64) (wf2 .i64 .i64) :=
  keyT_arr2 Try.underlying34 Try.underlying3 (by kernel_rfl) (by kernel_rfl) (by kernel_rfl) ⟨Try.prog.types.size - 1, by have h : 0 < Try.prog.types.size := of_decide_eq_true (by kernel_rfl); omega⟩
    (keyed_deep laidOut (of_decide_eq_true (by kernel_rfl)) (by kernel_rfl) (by rw [Try.underlying34]))
theorem zeroBytes (u : World) : (zeroValue 29).run Try.prog u = .ok (.slice none 0 0) u := by kernel_rfl
/-- The flash's blocks and the map's. -/
def S3 (f g m : Nat) (i : Nat) : Prop := i = f ∨ i = g ∨ i = m
theorem KeepF.s3 {f g : Nat} {w w' : World} (h : KeepF f g w w') (m : Nat) : KeepS (S3 f g m) w w' :=
  ⟨h.os, h.tape, h.output, h.size, fun i hi hs => h.block i hi (fun e => hs (.inl e)) (fun e => hs (.inr (.inl e)))⟩
theorem IsF.keepS {w w' : World} {f g m : Nat} {fl : Fl} (h : IsF w f g fl) {S : Nat → Prop} (hk : KeepS S w w') (hf : ¬ S f) (hg : ¬ S g) : IsF w' f g fl := h.move (hk.block f h.flt hf) (hk.block g h.glt hg)
/-- The map's elements are rows of bytes that nobody writes. -/
def Vals (f g m : Nat) (W : World) (MV : Int × Int → Option Value) (ML : Int × Int → Option (List Int)) : Prop :=
  (∀ x, MV x = none → ML x = none) ∧ ∀ x v, MV x = some v → ∃ (l : List Int) (A : Option Addr) (c : Nat), ML x = some l ∧ v = .slice A l.length c ∧ Kd.F (Kd.int .u8) W (fun k => ¬ S3 f g m k) A l.length l
theorem Vals.keep {f g m : Nat} {W W' : World} {MV : Int × Int → Option Value} {ML : Int × Int → Option (List Int)} (h : Vals f g m W MV ML) (hk : KeepS (S3 f g m) W W') : Vals f g m W' MV ML :=
  ⟨h.1, fun x v hv => by obtain ⟨l, A, c, h1, h2, h3⟩ := h.2 x v hv; exact ⟨l, A, c, h1, h2, hk.foot h3 (fun _ h => h)⟩⟩
theorem Vals.put {f g m : Nat} {W : World} {MV : Int × Int → Option Value} {ML : Int × Int → Option (List Int)} (h : Vals f g m W MV ML) (x : Int × Int) {l : List Int} {A : Option Addr} {c : Nat} (hl : Kd.F (Kd.int .u8) W (fun k => ¬ S3 f g m k) A l.length l) :
    Vals f g m W (fun y => if y = x then some (.slice A l.length c) else MV y) (fun y => if y = x then some l else ML y) :=
  ⟨fun y hy => by
    by_cases e : y = x
    · simp [e] at hy
    · simp only [e, if_false] at hy ⊢; exact h.1 y hy,
   fun y v hv => by
    by_cases e : y = x
    · simp only [e, if_true, Option.some.injEq] at hv ⊢
      subst hv
      exact ⟨l, A, c, rfl, rfl, hl⟩
    · simp only [e, if_false] at hv ⊢; exact h.2 y v hv⟩
theorem Vals.del {f g m : Nat} {W : World} {MV : Int × Int → Option Value} {ML : Int × Int → Option (List Int)} (h : Vals f g m W MV ML) (p : Int × Int → Prop) [DecidablePred p] : Vals f g m W (fun y => if p y then none else MV y) (fun y => if p y then none else ML y) :=
  ⟨fun y hy => by
    by_cases e : p y
    · simp [e]
    · simp only [e, if_false] at hy ⊢; exact h.1 y hy,
   fun y v hv => by
    by_cases e : p y
    · simp [e] at hv
    · simp only [e, if_false] at hv ⊢; exact h.2 y v hv⟩
/-- Between two operations. -/
def SureL (f g m n : Nat) (w2 : World) (i : Value) (wr : World) : Prop :=
  ∃ (k : Nat) (fl : Fl) (ML : Int × Int → Option (List Int)) (MV : Int × Int → Option Value) (sz : Nat), i = .int .i64 k ∧ k ≤ n ∧ SureI fl ML ∧ IsF wr f g fl ∧ IsM Try.prog 34 (mk2 .i64 .i64) wr m k MV sz ∧ Vals f g m wr MV ML ∧ KeepS (S3 f g m) w2 wr
/-- Behind an operation, ahead of the power. -/
def SureC (f g m k : Nat) (w2 : World) (wr : World) : Prop :=
  ∃ (fl : Fl) (ML : Int × Int → Option (List Int)) (MV : Int × Int → Option Value) (sz : Nat), SureI (backF fl) ML ∧ IsF wr f g fl ∧ IsM Try.prog 34 (mk2 .i64 .i64) wr m (k + 1) MV sz ∧ Vals f g m wr MV ML ∧ KeepS (S3 f g m) w2 wr
/-- Keys of block b are struck, up to the page j. -/
def delM (MV : Int × Int → Option Value) (b : Int) (j : Nat) : Int × Int → Option Value := fun y => if y.1 = b ∧ 0 ≤ y.2 ∧ y.2 < (j : Int) then none else MV y
theorem delM_step (MV : Int × Int → Option Value) (b : Int) (j : Nat) : (fun y => if y = (b, (j : Int)) then none else delM MV b j y) = delM MV b (j + 1) := by
  funext y
  obtain ⟨y1, y2⟩ := y
  unfold delM
  simp only [Prod.mk.injEq]
  by_cases h1 : y1 = b
  · subst h1
    by_cases h2 : y2 = (j : Int)
    · subst h2
      rw [if_pos ⟨rfl, rfl⟩, if_pos ⟨rfl, by omega, by omega⟩]
    · rw [if_neg (fun e => h2 e.2)]
      by_cases h3 : 0 ≤ y2 ∧ y2 < (j : Int)
      · rw [if_pos ⟨rfl, h3⟩, if_pos ⟨rfl, h3.1, by omega⟩]
      · rw [if_neg (fun e => h3 e.2), if_neg (fun e => h3 ⟨e.2.1, by omega⟩)]
  · rw [if_neg (fun e => h1 e.1), if_neg (fun e => h1 e.1), if_neg (fun e => h1 e.1)]
theorem delM_zero (MV : Int × Int → Option Value) (b : Int) : delM MV b 0 = MV := by
  funext y
  unfold delM
  rw [if_neg (by rintro ⟨_, h1, h2⟩; omega)]
def DelL (m k : Nat) (b : Int) (MV : Int × Int → Option Value) (w4 : World) (i : Value) (wr : World) : Prop :=
  ∃ (j sz : Nat), i = .int .i64 j ∧ j ≤ 16 ∧ IsM Try.prog 34 (mk2 .i64 .i64) wr m k (delM MV b j) sz ∧ KeepS (fun i => i = m) w4 wr
/-- Between two rounds of the range over the map. -/
def SureR (f g m r k : Nat) (MV : Int × Int → Option Value) (sz : Nat) (w4 wq : World) : Prop :=
  ∃ (L : Int × Int → Bool) (cnt : Nat), IsMR Try.prog 34 (mk2 .i64 .i64) wq m r k MV sz L cnt ∧ KeepS (fun i => i = r) w4 wq
set_option maxHeartbeats 4000000 in
theorem sure_walk (w : World) (A : Option Addr) (c : Nat) (l : List OpD) (hl : Kd.F opK w (fun k => k < w.heap.size) A l.length l) (hok : ∀ o ∈ l, okOp o) :
    Calls Try.prog 3 #[.slice A l.length c] w fun e w' => e = .returned (.bool true) ∧ Below w.heap.size w w' := by
  have hmm := @run_makeMap Try.prog
  go_enter Try.func3, Try.ntmps3
  go_wp2_with fail
  refine (bgcN4 _).mono ?_
  rintro e w1 ⟨rfl, hI, hb⟩
  have HI := Lib.hid hI; have HB1 := Lib.hid hb; clear hI hb
  go_wp2_with fail
  refine (begun_is _).mono ?_
  rintro e w2 ⟨rfl, hb⟩
  have HI2 := Lib.hid (HI.out.below hb); have HB2 := Lib.hid hb; clear hb
  go_wp2_with fail
  have hlm : l.length ≤ 9223372036854775807 := Kd.F_max hl
  obtain ⟨fp, hfp⟩ : ∃ fp, fp = w.heap.size + 1 := ⟨_, rfl⟩
  obtain ⟨gp, hgp⟩ : ∃ gp, gp = w.heap.size := ⟨_, rfl⟩
  obtain ⟨mp, hmp⟩ : ∃ mp, mp = w2.heap.size := ⟨_, rfl⟩
  obtain ⟨w3, hw3⟩ : ∃ w3, w3 = w2.alloc (.map #[] 0) := ⟨_, rfl⟩
  have HM3 : RowKit.Hid (IsM Try.prog 34 (mk2 .i64 .i64) w3 mp 0 (fun _ => none) 0) := by rw [hw3, hmp]; exact Lib.hid (isM_made w2 _ _ _)
  have HI3 : RowKit.Hid (IsF w3 fp gp (newF 4)) := by rw [hw3, hfp, hgp]; exact Lib.hid (HI2.out.alloc _)
  have HB3 : RowKit.Hid (Below w.heap.size w w3) := by rw [hw3]; exact Lib.hid ((HB1.out.trans (HB2.out.mono HB1.out.size)).alloc (Nat.le_trans HB1.out.size HB2.out.size) _)
  have HL := Lib.hid (Kd.F_below hl HB3.out)
  have hf3 : w.heap.size ≤ fp ∧ w.heap.size ≤ gp ∧ w.heap.size ≤ mp := ⟨by omega, by omega, by rw [hmp]; exact Nat.le_trans HB1.out.size HB2.out.size⟩
  have hne : fp ≠ mp ∧ gp ≠ mp := by have := HI2.out.flt; have := HI2.out.glt; constructor <;> omega
  rw [← hw3, ← hfp, ← hmp]
  have Hw := Lib.hid hw3
  clear hl HI HI2 hfp hgp hmp hw3 hmm
  go_loopw [33] (fun i wr => SureL fp gp mp l.length w3 i wr) (fun i _ => l.length - (intOf i).toNat)
  case atStart => exact ⟨0, newF 4, _, _, 0, rfl, by omega, sure_new, HI3.out, HM3.out, ⟨fun _ _ => rfl, fun _ _ h => by cases h⟩, KeepS.refl _ _⟩
  case round =>
    obtain ⟨k, fl, ML, MV, sz, rfl, hk, hs, hI, hM, hV, hK⟩ := hrel
    have HS := Lib.hid hs; have HI := Lib.hid hI; have HM := Lib.hid hM; have HV := Lib.hid hV; have HK := Lib.hid hK
    clear hs hI hM hV hK HI3 HM3
    by_cases hlt : k < l.length
    · have ho : l[k]? = some l[k] := List.getElem?_eq_getElem hlt
      obtain ⟨x, hx⟩ : ∃ x, l[k] = x := ⟨_, rfl⟩
      have HOK := Lib.hid (hok l[k] (List.getElem_mem hlt))
      rw [hx] at ho HOK
      clear hx
      have HLr := Lib.hid (HK.out.foot HL.out (fun i hi => by rintro (rfl | rfl | rfl) <;> omega))
      obtain ⟨ad, B', cb', rfl, ⟨hc0, hc1, hc2, hc3, hc4, hc5⟩, hB', hcb'⟩ := op_get HLr.out ho
      clear ho
      have HB' := Lib.hid hB'; clear hB' hok
      go_upto_block 2 with fail
      have hbox : (.cells #[.int .i64 x.Do, .int .i64 x.Block, .int .i64 x.Page, .int .i64 x.At, .int .i64 x.Keep, .slice B' x.B.length cb'] 31 : Obj) = .cells #[.int .i64 x.Do, .int .i64 x.Block, .int .i64 x.Page, .int .i64 x.At, .int .i64 x.Keep, .slice B' x.B.length cb'] 31 := rfl
      clear hbox
      have HIa := Lib.hid (HI.out.alloc (.cells #[.int .i64 x.Do, .int .i64 x.Block, .int .i64 x.Page, .int .i64 x.At, .int .i64 x.Keep, .slice B' x.B.length cb'] 31))
      have HKa := Lib.hid (HK.out.alloc (.cells #[.int .i64 x.Do, .int .i64 x.Block, .int .i64 x.Page, .int .i64 x.At, .int .i64 x.Keep, .slice B' x.B.length cb'] 31))
      have HMa := Lib.hid (HM.out.alloc (.cells #[.int .i64 x.Do, .int .i64 x.Block, .int .i64 x.Page, .int .i64 x.At, .int .i64 x.Keep, .slice B' x.B.length cb'] 31))
      have HVa := Lib.hid (HV.out.keep ((KeepS.refl (S3 fp gp mp) wr).alloc (.cells #[.int .i64 x.Do, .int .i64 x.Block, .int .i64 x.Page, .int .i64 x.At, .int .i64 x.Keep, .slice B' x.B.length cb'] 31)))
      have HBa := Lib.hid (Kd.F_mono (Kd.F_alloc HB'.out (.cells #[.int .i64 x.Do, .int .i64 x.Block, .int .i64 x.Page, .int .i64 x.At, .int .i64 x.Keep, .slice B' x.B.length cb'] 31)) (fun k hk => (by rintro (rfl | rfl | rfl) <;> omega : ¬ S3 fp gp mp k)))
      have HOX := Lib.hid (show OpBox (wr.alloc (.cells #[.int .i64 x.Do, .int .i64 x.Block, .int .i64 x.Page, .int .i64 x.At, .int .i64 x.Keep, .slice B' x.B.length cb'] 31)) wr.heap.size x B' cb' from heap_alloc_new wr _)
      obtain ⟨wa, hwa⟩ : ∃ wa, wr.alloc (.cells #[.int .i64 x.Do, .int .i64 x.Block, .int .i64 x.Page, .int .i64 x.At, .int .i64 x.Keep, .slice B' x.B.length cb'] 31) = wa := ⟨_, rfl⟩
      obtain ⟨ob, hob⟩ : ∃ ob, wr.heap.size = ob := ⟨_, rfl⟩
      rw [hwa] at HIa HKa HMa HVa HBa HOX ⊢
      rw [hob] at HOX ⊢
      have hobs : ob ≠ fp ∧ ob ≠ gp ∧ ob ≠ mp := by
        have := HI.out.flt; have := HI.out.glt; have := HM.out.lt
        refine ⟨?_, ?_, ?_⟩ <;> omega
      have hobN : ¬ S3 fp gp mp ob := by rintro (h | h | h); exact hobs.1 h; exact hobs.2.1 h; exact hobs.2.2 h
      clear HLr HI HK HM HV HB' hwa hob hc0 hc1 hc2 hc3 hc4 hc5
      go_cut [] (fun wx => SureC fp gp mp k w3 wx)
      case first =>
        obtain ⟨hc0, hc1, hc2, hc3, hc4, hc5⟩ := HOX.out.cell
        have HP := Lib.hid (program_is HIa.out HS.out.fu x.Block x.Page B' cb' x.B (Kd.F_mono HBa.out (fun k hk => (⟨fun e => hk (.inl e), fun e => hk (.inr (.inl e))⟩ : k ≠ fp ∧ k ≠ gp))))
        obtain ⟨E, HEq⟩ : ∃ E, RowKit.Hid (progE fl x.Block x.Page x.B.length = E) := ⟨_, Lib.hid rfl⟩
        rw [HEq.out] at HP
        have HE := Lib.hid (erase_is HIa.out HS.out.fu x.Block)
        obtain ⟨EE, HEEq⟩ : ∃ E, RowKit.Hid (eraseE fl x.Block = E) := ⟨_, Lib.hid rfl⟩
        rw [HEEq.out] at HE
        have HF := Lib.hid (setfuse_is HIa.out x.At x.Keep)
        have HC := Lib.hid (crash_is HIa.out)
        go_wp2_with fail
        · refine HP.out.mono ?_
          rintro e w4 ⟨rfl, hI, hK⟩
          have HI4 := Lib.hid hI; have HK4 := Lib.hid (hK.s3 mp); have HM4 := Lib.hid (HMa.out.move (hK.block mp HMa.out.lt hne.1.symm hne.2.symm)); clear hI hK
          have HO4 := Lib.hid (show OpBox w4 ob x B' cb' from (HK4.out.block ob HOX.out.lt hobN).trans HOX.out)
          obtain ⟨hd0, hd1, hd2, hd3, hd4, hd5⟩ := HO4.out.cell
          clear hc0 hc1 hc2 hc3 hc4 hc5
          by_cases h0 : E = 0
          · subst h0
            obtain ⟨hno, hl256, hS4⟩ := prog_ok HS.out _ _ _ HEq.out
            have hmv : MV (x.Block, x.Page) = none := by
              cases hq : MV (x.Block, x.Page) with
              | none => rfl
              | some v =>
                obtain ⟨l', _, _, h1, _⟩ := HVa.out.2 _ v hq
                exact (hno l' h1).elim
            have HMV := Lib.hid hmv; have HS4 := Lib.hid hS4
            have HWF := Lib.hid (show wf2 .i64 .i64 (x.Block, x.Page) from ⟨HOK.out.2.1, HOK.out.2.2.1⟩)
            have HB4 := Lib.hid (HK4.out.foot HBa.out (fun _ h => h))
            have HL256 := Lib.hid hl256
            have HV4 := Lib.hid (HVa.out.keep HK4.out)
            clear hno hmv hS4 hl256 HMa HBa HVa HP HE HF HC HIa
            go_wp2_with (at_lookup; refine m_get_no _ HM4.out keyB 28 Try.underlying28 zeroBytes rfl (.tmp 51) (.tmp 56) rfl (x.Block, x.Page) HWF.out HMV.out rfl rfl ?_)
            refine start_ (n := 10) (S := (fun w' => w'.cell? ⟨ob, 0, none⟩ = some (.int .i64 x.Do) ∧ w'.cell? ⟨ob, 1, none⟩ = some (.int .i64 x.Block) ∧ w'.cell? ⟨ob, 2, none⟩ = some (.int .i64 x.Page) ∧ w'.cell? ⟨ob, 3, none⟩ = some (.int .i64 x.At) ∧ w'.cell? ⟨ob, 4, none⟩ = some (.int .i64 x.Keep) ∧ w'.cell? ⟨ob, 5, none⟩ = some (.slice B' x.B.length cb'))) (ds := []) #[false, false, false, false, false, false, false, false, false, false] (by kernel_rfl) rfl rfl ?_ (fun hHeld => ?_)
            rotate_left
            refine pure_ (i := 0) (N := some 61) (v := ?_) (a' := ?_) #[true, false, false, false, false, false, false, false, false, false] rfl rfl (by kernel_rfl) (fun _ _ _ h => h) (Or.inl ⟨by rfl, ?_⟩) ?_ ?_
            rotate_left
            · intro w'
              go_simp
              try with_reducible rfl
            rotate_left
            · simp only [Act.put, List.setIfInBounds_toArray, List.set_cons_zero, List.set_cons_succ, i64_w, i32_w]
              rfl
            refine pure_ (i := 1) (N := some 62) (v := ?_) (a' := ?_) #[true, true, false, false, false, false, false, false, false, false] rfl rfl (by kernel_rfl) (fun _ _ _ h => h) (Or.inl ⟨by rfl, ?_⟩) ?_ ?_
            rotate_left
            · intro w'
              go_simp
              try with_reducible rfl
            rotate_left
            · simp only [Act.put, List.setIfInBounds_toArray, List.set_cons_zero, List.set_cons_succ, i64_w, i32_w]
              rfl
            refine take_ (i := 2) (N := some 63) (v := ?_) (a' := ?_) #[true, true, true, false, false, false, false, false, false, false] rfl rfl (by kernel_rfl) (fun _ _ _ h => h) (Or.inl ⟨by rfl, ?_⟩) hHeld ?_ ?_
            rotate_left
            · intro w' hS
              go_simp
              try with_reducible rfl
            rotate_left
            · simp only [Act.put, List.setIfInBounds_toArray, List.set_cons_zero, List.set_cons_succ, i64_w, i32_w]
              rfl
            refine pure_ (i := 3) (N := some 64) (v := ?_) (a' := ?_) #[true, true, true, true, false, false, false, false, false, false] rfl rfl (by kernel_rfl) (fun _ _ _ h => h) (Or.inl ⟨by rfl, ?_⟩) ?_ ?_
            rotate_left
            · intro w'
              go_simp
              try with_reducible rfl
            rotate_left
            · simp only [Act.put, List.setIfInBounds_toArray, List.set_cons_zero, List.set_cons_succ, i64_w, i32_w]
              rfl
            refine take_ (i := 4) (N := some 65) (v := ?_) (a' := ?_) #[true, true, true, true, true, false, false, false, false, false] rfl rfl (by kernel_rfl) (fun _ _ _ h => h) (Or.inl ⟨by rfl, ?_⟩) hHeld ?_ ?_
            rotate_left
            · intro w' hS
              go_simp
              try with_reducible rfl
            rotate_left
            · simp only [Act.put, List.setIfInBounds_toArray, List.set_cons_zero, List.set_cons_succ, i64_w, i32_w]
              rfl
            refine pure_ (i := 5) (N := some 66) (v := ?_) (a' := ?_) #[true, true, true, true, true, true, false, false, false, false] rfl rfl (by kernel_rfl) (fun _ _ _ h => h) (Or.inl ⟨by rfl, ?_⟩) ?_ ?_
            rotate_left
            · intro w'
              go_simp
              try with_reducible rfl
            rotate_left
            · simp only [Act.put, List.setIfInBounds_toArray, List.set_cons_zero, List.set_cons_succ, i64_w, i32_w]
              rfl
            refine pure_ (i := 6) (N := some 67) (v := ?_) (a' := ?_) #[true, true, true, true, true, true, true, false, false, false] rfl rfl (by kernel_rfl) (fun _ _ _ h => h) (Or.inl ⟨by rfl, ?_⟩) ?_ ?_
            rotate_left
            · intro w'
              go_simp
              try with_reducible rfl
            rotate_left
            · simp only [Act.put, List.setIfInBounds_toArray, List.set_cons_zero, List.set_cons_succ, i64_w, i32_w]
              rfl
            refine take_ (i := 7) (N := some 68) (v := ?_) (a' := ?_) #[true, true, true, true, true, true, true, true, false, false] rfl rfl (by kernel_rfl) (fun _ _ _ h => h) (Or.inl ⟨by rfl, ?_⟩) hHeld ?_ ?_
            rotate_left
            · intro w' hS
              go_simp
              try with_reducible rfl
            rotate_left
            · simp only [Act.put, List.setIfInBounds_toArray, List.set_cons_zero, List.set_cons_succ, i64_w, i32_w]
              rfl
            refine one_ (i := 8) (N := some 69) #[true, true, true, true, true, true, true, true, true, false] rfl rfl (by kernel_rfl) (by decide) (fun K hK => ?_)
            go_simp
            refine (bclone_calls B' cb' x.B _ (Kd.C_drew (Kd.F_now HB4.out)) hcb' (by have := HL256.out; omega)).mono ?_
            rintro e w5 ⟨v, rfl, ho, hb⟩
            obtain ⟨Av, cv, rfl, hcv, hFv⟩ := Kd.R_V (base' := 0) (Kd.R_mono (Kd.R_bound ho) (fun k hk => (hk.2.1 : w4.drew.heap.size ≤ k)))
            have hb' : Below w4.heap.size w4 w5 := ((Below.refl _ w4).drew).trans hb
            have HB5 := Lib.hid hb'
            have HI5 := Lib.hid (HI4.out.below hb'); have HM5 := Lib.hid (HM4.out.below hb'); have HK5 := Lib.hid (KeepS.of_below (S3 fp gp mp) hb')
            have HF5 := Lib.hid (Kd.F_mono hFv (fun k (hk : w4.heap.size ≤ k) => (by have := HI4.out.flt; have := HI4.out.glt; have := HM4.out.lt; rintro (rfl | rfl | rfl) <;> omega : ¬ S3 fp gp mp k)))
            refine hK.out _ _ (HO4.out.below hb').cell (fun hHeld => ?_)
            obtain ⟨w6, hrun, hM6, hg6⟩ := HM5.out.put keyB Try.underlying28 (by simp only [maxLen]; omega) HWF.out (.slice Av x.B.length cv)
            have hrun' : (Instr.mapUpdate 28 (.map (some mp)) (.agg #[.int .i64 x.Block, .int .i64 x.Page]) (.slice Av x.B.length cv)).run Try.prog w5 = .ok () w6 := hrun
            have HM6 := Lib.hid hM6; have HG6 := Lib.hid hg6; clear hrun hM6 hg6 ho hb hb' hFv
            refine one_ (i := 9) (N := none) #[true, true, true, true, true, true, true, true, true, true] rfl rfl (by kernel_rfl) (by decide) (fun K hK => ?_)
            go_simp
            refine hK.out _ _ ?_ (fun _ => ?_)
            · exact (show OpBox w6 ob x B' cb' from (HG6.out.block ob (HO4.out.below HB5.out).lt (by simp only [ne_eq, Option.some.injEq]; exact hobs.2.2)).trans (HO4.out.below HB5.out)).cell
            · refine done_ (by kernel_rfl) ?_
              have HK6 := Lib.hid (HK5.out.trans (KeepS.of_grown (S := S3 fp gp mp) HG6.out (fun i e => by cases e; exact .inr (.inr rfl))))
              have HI6 := Lib.hid (HI5.out.move (HG6.out.block fp HI5.out.flt (by simp only [ne_eq, Option.some.injEq]; exact hne.1)) (HG6.out.block gp HI5.out.glt (by simp only [ne_eq, Option.some.injEq]; exact hne.2)))
              have HV6 := Lib.hid ((HV4.out.keep HK6.out).put (x.Block, x.Page) (c := cv) ((KeepS.of_grown (S := S3 fp gp mp) HG6.out (fun i e => by cases e; exact .inr (.inr rfl))).foot HF5.out (fun _ h => h)))
              go_wp2_with fail
              go_meet
              exact ⟨_, _, _, _, HS4.out, HI6.out, HM6.out, HV6.out, HKa.out.trans (HK4.out.trans HK6.out)⟩
            · exact ⟨hd0, hd1, hd2, hd3, hd4, hd5⟩
          · have hbe : (E == 0) = false := beq_eq_false_iff_ne.2 h0
            have HS4 := Lib.hid (prog_ne HS.out x.Block x.Page x.B (by rw [HEq.out]; exact h0))
            clear h0
            go_wp2_with fail
            go_meet
            exact ⟨_, ML, MV, sz, HS4.out, HI4.out, HM4.out.mono (by omega), HVa.out.keep HK4.out, HKa.out.trans HK4.out⟩
        · refine HE.out.mono ?_
          rintro e w4 ⟨rfl, hI, hK⟩
          have HI4 := Lib.hid hI; have HK4 := Lib.hid (hK.s3 mp); have HM4 := Lib.hid (HMa.out.move (hK.block mp HMa.out.lt hne.1.symm hne.2.symm)); clear hI hK
          have HO4 := Lib.hid (show OpBox w4 ob x B' cb' from (HK4.out.block ob HOX.out.lt hobN).trans HOX.out)
          have HV4 := Lib.hid (HVa.out.keep HK4.out)
          have HK4' := Lib.hid (HKa.out.trans HK4.out)
          clear hc0 hc1 hc2 hc3 hc4 hc5 HMa HBa HVa HP HE HF HC HIa HKa HK4 HOX
          go_upto_region 17 with fail
          go_cut [81] (fun s wx => wx = w4 ∧ ∃ d : Bool, s = .bool d ∧ (d = false → eraseF fl x.Block = fl))
          case first =>
            have HD := Lib.hid (down_is HI4.out)
            by_cases h0 : EE = 0
            · have hbe : (EE == 0) = true := by simp [h0]
              clear h0
              go_wp2_with fail
              go_meet
              exact ⟨rfl, true, rfl, fun e => by cases e⟩
            · have hbe : (EE == 0) = false := beq_eq_false_iff_ne.2 h0
              cases hd : (eraseF fl x.Block).down with
              | true =>
                rw [hd] at HD
                clear hd h0
                go_wp2_with fail
                refine HD.out.mono ?_
                rintro e w' ⟨rfl, rfl⟩
                go_wp2_with fail
                go_meet
                exact ⟨rfl, true, rfl, fun e => by cases e⟩
              | false =>
                have HNO := Lib.hid (erase_no HS.out x.Block (by rw [HEEq.out]; exact h0) hd)
                rw [hd] at HD
                clear hd h0
                go_wp2_with fail
                refine HD.out.mono ?_
                rintro e w' ⟨rfl, rfl⟩
                go_wp2_with fail
                go_meet
                exact ⟨rfl, false, rfl, fun _ => HNO.out⟩
          case rest =>
            obtain ⟨rfl, d, rfl, hd⟩ := hcut
            cases d with
            | false =>
              have HNO := Lib.hid (hd rfl)
              clear hd
              go_wp2_with fail
              go_meet
              exact ⟨_, ML, MV, sz, by rw [HNO.out, back_same HS.out.down]; exact HS.out, HI4.out, HM4.out.mono (by omega), HV4.out, HK4'.out⟩
            | true =>
              clear hd
              go_wp2_with fail
              go_loopw [82] (fun i wr => DelL mp k x.Block MV wc i wr) (fun i _ => 16 - (intOf i).toNat)
              case atStart => exact ⟨0, sz, rfl, by omega, by rw [delM_zero]; exact HM4.out, KeepS.refl _ _⟩
              case round =>
                obtain ⟨j, szj, rfl, hj, hMj, hKj⟩ := hrel
                have HMj := Lib.hid hMj; have HKj := Lib.hid hKj
                clear hMj hKj
                by_cases hj16 : j < 16
                · obtain ⟨hd0, hd1, hd2, hd3, hd4, hd5⟩ := (show OpBox wr ob x B' cb' from (HKj.out.block ob HO4.out.lt hobs.2.2).trans HO4.out).cell
                  have HWF := Lib.hid (show wf2 .i64 .i64 (x.Block, (j : Int)) from ⟨HOK.out.2.1, WalkArith.wf_i64 (by omega)⟩)
                  go_wp2_with (at_delete; refine m_del _ HMj.out keyB 28 Try.underlying28 rfl (.tmp 85) (.tmp 89) rfl (x.Block, (j : Int)) HWF.out rfl rfl ?_; intro w5 hM5 hg5; have HM5 := Lib.hid hM5; have HG5 := Lib.hid hg5; clear hM5 hg5)
                  go_roundw
                  case rel => exact ⟨j + 1, _, by go_num, by omega, by rw [← delM_step]; exact HM5.out, HKj.out.trans (KeepS.of_grown HG5.out (fun i e => by cases e; rfl))⟩
                  case measure => simp [intOf]; omega
                · have hj2 : j = 16 := by omega
                  have HDM := Lib.hid hj2
                  have hdn : decide ((j : Int) < 16) = false := decide_eq_false (by omega)
                  clear hj2
                  go_wp2_with fail
                  go_meet
                  have e1 : delM MV x.Block j = fun y => if y.1 = x.Block ∧ 0 ≤ y.2 ∧ y.2 < 16 then none else MV y := by rw [HDM.out]; rfl
                  rw [e1] at HMj
                  have HK5 := HKj.out.mono (S' := S3 fp gp mp) (fun i e => .inr (.inr e))
                  exact ⟨_, _, _, _, erase_del HS.out x.Block, HI4.out.move (HKj.out.block fp HI4.out.flt hne.1) (HKj.out.block gp HI4.out.glt hne.2), HMj.out.mono (by omega), (HV4.out.keep HK5).del _, HK4'.out.trans HK5⟩
        · refine HF.out.mono ?_
          rintro e w4 ⟨rfl, hI, hK⟩
          have HI4 := Lib.hid hI; have HK4 := Lib.hid (hK.s3 mp); have HM4 := Lib.hid (HMa.out.move (hK.block mp HMa.out.lt hne.1.symm hne.2.symm)); clear hI hK
          go_wp2_with fail
          go_meet
          exact ⟨_, ML, MV, sz, fuse_sure HS.out _ _ (by have := HOK.out.2.2.2.1; simp [I64, Lit.wf] at this; omega), HI4.out, HM4.out.mono (by omega), HVa.out.keep HK4.out, HKa.out.trans HK4.out⟩
        · refine HC.out.mono ?_
          rintro e w4 ⟨rfl, hI, hK⟩
          have HI4 := Lib.hid hI; have HK4 := Lib.hid (hK.s3 mp); have HM4 := Lib.hid (HMa.out.move (hK.block mp HMa.out.lt hne.1.symm hne.2.symm)); clear hI hK
          go_wp2_with fail
          go_meet
          exact ⟨_, ML, MV, sz, crash_sure HS.out, HI4.out, HM4.out.mono (by omega), HVa.out.keep HK4.out, HKa.out.trans HK4.out⟩
        · go_meet
          exact ⟨_, ML, MV, sz, by rw [back_same HS.out.down]; exact HS.out, HIa.out, HMa.out.mono (by omega), HVa.out, HKa.out⟩
      case rest =>
        obtain ⟨fl4, ML4, MV4, sz4, hS4, hI4, hM4, hV4, hK4⟩ := hcut
        have HS4 := Lib.hid hS4; have HI4 := Lib.hid hI4; have HM4 := Lib.hid hM4; have HV4 := Lib.hid hV4; have HK4 := Lib.hid hK4
        clear hS4 hI4 hM4 hV4 hK4 HOX HBa HVa HMa HKa HIa
        go_upto_region 27 with fail
        go_cut [109] (fun s wx => s = .bool false ∧ IsF wx fp gp (backF fl4) ∧ KeepF fp gp wc wx)
        case first =>
          have HD := Lib.hid (down_is HI4.out)
          have HR := Lib.hid (restart_is HI4.out)
          cases hd : fl4.down with
          | true =>
            have hre : restartE fl4 = 0 := by unfold restartE; rw [if_pos hd]
            have HBK := Lib.hid (show backF fl4 = restartF fl4 by unfold backF; rw [if_pos hd])
            rw [hd] at HD
            rw [hre] at HR
            clear hd hre
            go_wp2_with fail
            refine HD.out.mono ?_
            rintro e w' ⟨rfl, rfl⟩
            go_wp2_with fail
            refine HR.out.mono ?_
            rintro e w6 ⟨rfl, hI, hK⟩
            have HI6 := Lib.hid hI; have HK6 := Lib.hid hK
            clear hI hK
            go_wp2_with fail
            go_meet
            exact ⟨rfl, by rw [HBK.out]; exact HI6.out, HK6.out⟩
          | false =>
            have HBK := Lib.hid (show backF fl4 = fl4 by unfold backF; rw [if_neg (by rw [hd]; simp)])
            rw [hd] at HD
            clear hd HR
            go_wp2_with fail
            refine HD.out.mono ?_
            rintro e w' ⟨rfl, rfl⟩
            go_wp2_with fail
            go_meet
            exact ⟨rfl, by rw [HBK.out]; exact HI4.out, KeepF.refl _ _ _⟩
        case rest =>
          obtain ⟨rfl, hI, hK⟩ := hcut
          have HI6 := Lib.hid hI; have HK6 := Lib.hid (hK.s3 mp)
          have HM6 := Lib.hid (HM4.out.move (hK.block mp HM4.out.lt hne.1.symm hne.2.symm))
          clear hI hK
          go_wp2_with fail
          go_roundw
          case rel => exact ⟨k + 1, _, _, _, _, by go_num, by omega, HS4.out, HI6.out, HM6.out, HV4.out.keep HK6.out, HK4.out.trans HK6.out⟩
          case measure => simp [intOf]; omega
    · clear hok
      go_wp2_with (at_range; refine m_range _ HM.out keyB 28 Try.underlying28 rfl (.tmp 111) rfl rfl ?_; intro w4 hR hg4 hz4; have HR := Lib.hid hR; have HG4 := Lib.hid hg4; clear hR hg4 hz4)
      obtain ⟨rp, hrp⟩ : ∃ rp, rp = wr.heap.size := ⟨_, rfl⟩
      have hr3 : fp ≠ rp ∧ gp ≠ rp ∧ mp ≠ rp := by
        have := HI.out.flt; have := HI.out.glt; have := HM.out.lt
        refine ⟨?_, ?_, ?_⟩ <;> omega
      rw [← hrp] at HR ⊢
      have HRP := Lib.hid hrp
      have HI4 := Lib.hid (HI.out.move (HG4.out.block fp HI.out.flt (by simp)) (HG4.out.block gp HI.out.glt (by simp)))
      have HV4 : RowKit.Hid (∀ x v, MV x = some v → ∃ (l : List Int) (A : Option Addr) (c : Nat), ML x = some l ∧ v = .slice A l.length c ∧ Kd.F (Kd.int .u8) w4 (fun k => k < rp) A l.length l) := Lib.hid (fun x v hv => by
        obtain ⟨l', A', c', h1, h2, h3⟩ := HV.out.2 x v hv
        refine ⟨l', A', c', h1, h2, ?_⟩
        have h4 := Kd.F_mono (Kd.F_bound h3) (fun k hk => (show k < rp by rw [HRP.out]; exact hk.2))
        exact Kd.F_step h4 (fun i hi hlt => HG4.out.block i hlt (by simp)))
      have HK4 := Lib.hid (HK.out.trans (KeepS.of_grown (S := S3 fp gp mp) HG4.out (by simp)))
      clear hrp HI HV HM
      go_frame
      go_loopw [13] (fun _ wq => SureR fp gp mp rp k MV sz w4 wq) (fun _ wq => wq.rangeLeft mp rp)
      case atStart => exact ⟨_, _, HR.out, KeepS.refl _ _⟩
      case round =>
        obtain ⟨L, cnt, hR, hKq⟩ := hrel
        have HRq := Lib.hid hR; have HKq := Lib.hid hKq
        clear hR hKq HR
        go_wp2_with (at_next; refine m_next _ HRq.out keyB rfl (.tmp 112) rfl rfl ?_ ?_)
        · intro _ _
          go_wp2_with fail
          go_ret
          refine ⟨rfl, ?_⟩
          have h1 := HK4.out.trans (KeepS.of_grown (S := S3 fp gp mp) HG4.out (by simp) |> fun _ => KeepS.refl _ _)
          have h2 : Below w.heap.size w w4 := HB3.out.trans (h1.below HB3.out.size (by rintro i (rfl | rfl | rfl) <;> omega))
          exact h2.trans (HKq.out.below h2.size (by rintro i rfl; have := HRP.out; have := HK.out.size; have := HB3.out.size; omega))
        · intro kb kp v w5 cnt5 hwf hmv hL hR5 hlt5 hg5 hz5 hen
          have hen' : (Instr.entry (.pointer (some ⟨rp, 0, none⟩))).run Try.prog w5 = .ok (.tuple #[.agg #[.int .i64 kb, .int .i64 kp], v]) w5 := hen
          clear hen
          have HR5 := Lib.hid hR5
          have HK5 := Lib.hid (HKq.out.trans (KeepS.of_grown (S := fun i => i = rp) hg5 (fun i e => by cases e; rfl)))
          obtain ⟨lb, Ab, cb, hml, rfl, hFb⟩ := HV4.out _ v hmv
          obtain ⟨hr0, hr1, hr2, hr3'⟩ := read_sure HS.out hml
          have HI5 := Lib.hid ((HI4.out.move (HK5.out.block fp HI4.out.flt hr3.1) (HK5.out.block gp HI4.out.glt hr3.2.1)).alloc (.cells #[.int .i64 kb, .int .i64 kp] 34))
          have hRd := read_is HI5.out kb kp
          rw [hr0] at hRd
          obtain ⟨LL, hLL⟩ : ∃ LL, readL fl kb kp = LL := ⟨_, rfl⟩
          rw [hLL] at hRd hr1 hr2
          have HRd := Lib.hid hRd; have HL1 := Lib.hid hr1; have HL2 := Lib.hid hr2
          have hFb5 := HK5.out.foot hFb (fun i hi e => by omega)
          have HFb5 := Lib.hid (Kd.F_alloc hFb5 (.cells #[.int .i64 kb, .int .i64 kp] 34))
          have HLT := Lib.hid hlt5
          clear hmv hml hFb hr0 hr1 hr2 hRd hLL hR5 hg5 hz5 hFb5 hlt5 hwf hL
          go_wp2_with fail
          refine HRd.out.mono ?_
          rintro e w6 ⟨v6, rfl, ho6, hb6⟩
          obtain ⟨g6, c6, rfl, hg6, hg6', _⟩ := Kd.R_form ho6 (by rw [HL1.out]; omega)
          obtain ⟨_, hc6, hC6⟩ := Kd.R_reads' ho6
          rw [HL1.out] at hc6
          have HC6 := Lib.hid (Kd.C_take hC6 (m := lb.length) (by rw [HL1.out]; omega))
          rw [HL2.out] at HC6
          rw [HL1.out]
          have HFb6 := Lib.hid (Kd.C_below (Kd.F_now HFb5.out) hb6)
          have HB6 := Lib.hid hb6
          clear ho6 hb6 hC6 hg6 hg6'
          go_wp2_with fail
          refine (equal_same _ Ab _ _ c6 cb lb (HC6.out) HFb6.out).mono ?_
          rintro e w' ⟨rfl, rfl⟩
          go_wp2_with fail
          go_roundw
          case rel => exact ⟨_, _, HR5.out.below (((Below.refl _ _).alloc (Nat.le_refl _) _).trans (HB6.out.mono (by simp))), HK5.out.trans ((KeepS.of_below _ ((Below.refl _ _).alloc (Nat.le_refl _) _)).trans (KeepS.of_below _ HB6.out))⟩
          case measure =>
            have e1 := (HR5.out.below (((Below.refl _ _).alloc (Nat.le_refl _) (.cells #[.int .i64 kb, .int .i64 kp] 34)).trans (HB6.out.mono (by simp)))).left_eq
            have e2 := HRq.out.left_eq
            have := HLT.out
            rw [e1, e2]
            exact this
end Go.Proofs.Ytandhpnpodkemaa.M
