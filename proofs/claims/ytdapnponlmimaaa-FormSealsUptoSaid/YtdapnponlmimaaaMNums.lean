/- Contract of trivet/shape.Nums. -/
import Derived.Test.YtdapnponlmimaaaMTakeBlob
set_option linter.unusedVariables false
set_option linter.unusedSimpArgs false
namespace Go.Proofs.Ytdapnponlmimaaa.M
open Go.RowKit Go.Proofs.YtdapnponlmimaaaW.PrintWords Go.Proofs.YtdapnponlmimaaaW.PrintLast Go.Proofs.YtdapnponlmimaaaW.PrintMore Go.Proofs.Ytdapnponlmimaaa.G

/-- The first n numbers of bytes: what is wrong; the numbers; what is left. -/
def nuE : Nat → List Int → Int
  | 0, _ => 0
  | n + 1, l => if tkE l = 0 then nuE n (l.drop (tkS l).toNat) else tkE l
def nuL : Nat → List Int → List Int
  | 0, _ => []
  | n + 1, l => if tkE l = 0 then tkN l :: nuL n (l.drop (tkS l).toNat) else []
def nuR : Nat → List Int → List Int
  | 0, l => l
  | n + 1, l => if tkE l = 0 then nuR n (l.drop (tkS l).toNat) else l
def OwnI (w : World) (base : Nat) (v : Value) (l : List Int) : Prop := Kd.R (Kd.int .i64) 2 w base (fun _ => True) v l
theorem OwnI.set {W : World} {base : Nat} {v : Value} {l : List Int} (h : OwnI W base v l) {p : Addr} (hp : p.block < base) (u : Value) : OwnI (W.setCell p u) base v l :=
  Kd.R_mono (Kd.R_far (Kd.R_bound h) (p := p) (fun k hk e => by have := hk.2.1; omega) u) (fun _ _ => trivial)
theorem OwnI.nil (W : World) (base : Nat) : OwnI W base (.slice none 0 0) [] := Kd.R_nil _ _ _ _ _
theorem OwnI.form {W : World} {base : Nat} {v : Value} {l : List Int} (h : OwnI W base v l) : ∃ A c, v = .slice A l.length c := Kd.R_slice h
theorem Keep2.onto {b : Nat} {x y z : World} (h : Keep2 b x y) (hb : Below x.heap.size y z) : Keep2 b x z :=
  ⟨hb.os.trans h.os, hb.tape.trans h.tape, hb.output.trans h.output, Nat.le_trans h.size hb.size, fun i hi h1 h2 => (hb.block i hi).trans (h.block i hi h1 h2)⟩
/-- What lies below b is read where only b + 1, b + 2 and what is new have turned. -/
theorem F_keep2 {b : Nat} {w W : World} {P : Nat → Prop} {A : Option Addr} {l : List Int} (h : Kd.F (Kd.int .u8) w (fun k => P k ∧ k < b) A l.length l) (hk : Keep2 b w W) : Kd.F (Kd.int .u8) W (fun k => P k ∧ k < b) A l.length l :=
  Kd.F_step h (fun k hp hlt => hk.block k hlt (by omega) (by omega))

theorem infoI64 : (Try.prog.info? 2).map (fun i => (i.zero, i.size, i.bytes)) = some (some (.int .i64 0), 1, 8) := by kernel_rfl

set_option maxHeartbeats 2000000 in
theorem nums1 (A : Option Addr) (c : Nat) (l : List Int) (n : Int) (P : Nat → Prop) (w : World) (b : Nat) (hf : Kd.F (Kd.int .u8) w (fun k => P k ∧ k < b) A l.length l) (hc : l.length ≤ c) (hb : okB l = true) (hlen : l.length < 17592186044416)
    (h0 : w.cell? ⟨b, 0, none⟩ = some (.int .i64 n)) (h1 : w.cell? ⟨b + 1, 0, none⟩ = some (.slice none 0 0)) (f1 : w.frozen? ⟨b + 1, 0, none⟩ = false) (h2 : w.cell? ⟨b + 2, 0, none⟩ = some (.slice A l.length c)) (f2 : w.frozen? ⟨b + 2, 0, none⟩ = false) (hbs : b + 3 ≤ w.heap.size) :
    Calls Try.prog 41 #[.pointer (some ⟨b, 0, none⟩), .pointer (some ⟨b + 2, 0, none⟩), .pointer (some ⟨b + 1, 0, none⟩)] w fun e W => Keep2 b w W ∧
      (∃ (Al : Option Addr) (cl : Nat) (Ar : Option Addr) (cr : Nat) (acc rest : List Int), W.cell? ⟨b + 1, 0, none⟩ = some (.slice Al acc.length cl) ∧ W.cell? ⟨b + 2, 0, none⟩ = some (.slice Ar rest.length cr) ∧ rest.length ≤ cr ∧ OwnI W w.heap.size (.slice Al acc.length cl) acc ∧
        Kd.F (Kd.int .u8) W (fun k => P k ∧ k < b) Ar rest.length rest ∧ (nuE n.toNat l = 0 → acc = nuL n.toNat l ∧ rest = nuR n.toNat l)) ∧
      ((e = .returned (.tuple #[]) ∧ nuE n.toNat l = 0) ∨ e = .panicked [{ v := wrongV (nuE n.toNat l), recovered := false }]) := by
  have HF := Aside0.mk hf
  have HC := Aside0.mk hc
  have HB := Aside0.mk hb
  have HLEN := Aside0.mk hlen
  have H1 := Aside0.mk h1
  have H2 := Aside0.mk h2
  have F1 := Aside0.mk f1
  have F2 := Aside0.mk f2
  have HBS := Aside0.mk hbs
  clear hf hc hb hlen h1 h2 f1 f2 hbs
  go_enter Try.func41, Try.ntmps41
  go_wp2
  go_loopw [6] (fun i wr => ∃ (j : Nat) (Al : Option Addr) (cl : Nat) (Ar : Option Addr) (cr : Nat) (acc rest : List Int), i = .int .i64 (j : Int) ∧ Aside0 (j + rest.length ≤ l.length) ∧ Aside0 (acc.length + rest.length ≤ l.length) ∧ Aside0 (Keep2 b w wr) ∧
      Aside0 (wr.cell? ⟨b + 1, 0, none⟩ = some (.slice Al acc.length cl)) ∧ Aside0 (wr.cell? ⟨b + 2, 0, none⟩ = some (.slice Ar rest.length cr)) ∧ Aside0 (wr.frozen? ⟨b + 1, 0, none⟩ = false) ∧ Aside0 (wr.frozen? ⟨b + 2, 0, none⟩ = false) ∧ Aside0 (rest.length ≤ cr) ∧ Aside0 (okB rest = true) ∧
      Aside0 (OwnI wr w.heap.size (.slice Al acc.length cl) acc) ∧ Aside0 (Kd.F (Kd.int .u8) w (fun k => P k ∧ k < b) Ar rest.length rest) ∧
      Aside0 (nuE (n.toNat - j) rest = nuE n.toNat l) ∧ Aside0 (acc ++ nuL (n.toNat - j) rest = nuL n.toNat l ∧ nuR (n.toNat - j) rest = nuR n.toNat l)) (fun i _ => l.length + 1 - (intOf i).toNat)
  case atStart => exact ⟨0, none, 0, A, c, [], l, rfl, ⟨by omega⟩, ⟨by simp⟩, ⟨Keep2.refl _ _⟩, H1, H2, F1, F2, HC, HB, ⟨OwnI.nil _ _⟩, HF, ⟨rfl⟩, ⟨rfl, rfl⟩⟩
  case round =>
    obtain ⟨j, Al, cl, Ar, cr, acc, rest, rfl, HJ, HA, HK, HL1, HL2, HF1, HF2, HCR, HBR, HO, HFR, HE, HT⟩ := hrel
    by_cases hlt : (j : Int) < n
    · have hq2 := HL2.out
      have hq1 := HL1.out
      have hz1 := HF1.out
      have hz2 := HF2.out
      have hkb : wr.cell? ⟨b, 0, none⟩ = some (.int .i64 n) := (HK.out.cell (by have := HBS.out; simp; omega) (by simp) (by simp)).trans h0
      have HM := Aside0.mk (show n.toNat - j = (n.toNat - (j + 1)) + 1 by omega)
      have HT0 := Lib.hid (take_any Ar cr rest wr (Kd.F_now (F_keep2 HFR.out HK.out)) HCR.out HBR.out)
      by_cases he : tkE rest = 0
      · have HS1 := Aside0.mk (tkE_size he)
        have HS0 := Aside0.mk (tkS_pos rest)
        have HEE := Aside0.mk he
        have HTE := Aside0.mk (takeEnd_good he)
        obtain ⟨x, HX⟩ : ∃ x, Aside0 (tkN rest = x) := ⟨_, ⟨rfl⟩⟩
        obtain ⟨s, HS⟩ : ∃ s, Aside0 (tkS rest = s) := ⟨_, ⟨rfl⟩⟩
        rw [HX.out, HS.out] at HTE
        rw [HS.out] at HS1 HS0
        have hs1 := HS1.out
        have hs0 : 0 ≤ s := by have := HS0.out; omega
        obtain ⟨i0, hi0, hi1, hi2, hi3⟩ := info_parts infoU8
        have hcut := cut_from (P := Try.prog) 22 5 .i64 Try.underlying22 hi0 1 hi2 Ar rest.length cr s hs0 hs1
        have HFN := Aside0.mk (Kd.F_cut (m := s.toNat) (c := cr) HFR.out (by omega) HCR.out)
        obtain ⟨A', HA'⟩ : ∃ A', A' = (if cr = s.toNat then Ar else Ar.map (·.add (s.toNat * 1))) := ⟨_, rfl⟩
        rw [← HA'] at hcut
        have HFN' := Aside0.mk (show Kd.F (Kd.int .u8) w (fun k => P k ∧ k < b) A' (rest.drop s.toNat).length (rest.drop s.toNat) by rw [HA']; exact HFN.out)
        have hdl : rest.length - s.toNat = (rest.drop s.toNat).length := by rw [List.length_drop]
        rw [hdl] at hcut
        have HDL := Aside0.mk hdl
        clear HFN HA' he hi0 hi1 hi2 hi3 hdl
        have hj1 : IntKind.i64.wrap ((j : Int) + 1) = ((j + 1 : Nat) : Int) := by have := HJ.out; have := HLEN.out; rw [IntKind.wrap_i64]; omega
        go_wp2_with (first
          | (go_at_call 33; refine HT0.out.mono ?_; rintro e w' ⟨rfl, rfl⟩; rw [HTE.out])
          | ((with_reducible refine gate_builtin (b := .append) (xs := #[.tmp 13, .tmp 15]) rfl ?_); at_builtin; refine Kd.R_append (Kd.int .i64) (w0 := w') w.heap.size rfl (.tmp 13) (.tmp 15) 23 2 (.int .i64 0) 8 rfl Try.underlying23 infoI64 rfl (by decide) (by omega) _ acc x [.int .i64 x] (fun _ => True) (fun _ => False) rfl rfl rfl (fun _ hk => hk.elim) (fun _ _ => trivial) HO.out (Below.refl _ _) HK.out.size (by have := HA.out; have := HLEN.out; have := HS0.out; omega) ?_; intro v1 w1 ho hb hg hat; obtain ⟨A1, c1, rfl⟩ := OwnI.form ho; have HO1 := Aside0.mk (show OwnI w1 w.heap.size (.slice A1 (acc ++ [x]).length c1) (acc ++ [x]) from ho); have HB1 := Aside0.mk (show Below w.heap.size w' w1 from hb); have p1 : w1.cell? ⟨b + 1, 0, none⟩ = some (.slice Al acc.length cl) := (hb.cell (by have := HBS.out; simp; omega)).trans HL1.out; have p2 : w1.cell? ⟨b + 2, 0, none⟩ = some (.slice Ar rest.length cr) := (hb.cell (by have := HBS.out; simp; omega)).trans HL2.out; have p3 : w1.frozen? ⟨b + 1, 0, none⟩ = false := (hb.frozen (by have := HBS.out; simp; omega)).trans HF1.out; have p4 : w1.frozen? ⟨b + 2, 0, none⟩ = false := (hb.frozen (by have := HBS.out; simp; omega)).trans HF2.out; clear ho hb hg hat HO hq1 hq2 hz1 hz2))
        go_roundw
        case rel =>
          refine ⟨j + 1, A1, c1, A', cr - s.toNat, acc ++ [x], rest.drop s.toNat, by first | rfl | (congr 1), ⟨?_⟩, ⟨?_⟩, ⟨((HK.out.onto HB1.out).set1 _).set2 _⟩, ⟨?_⟩, ⟨?_⟩, ⟨?_⟩, ⟨?_⟩, ⟨?_⟩, ⟨okB_drop HBR.out _⟩, ⟨?_⟩, HFN', ⟨?_⟩, ⟨?_⟩⟩
          · have := HJ.out; have := HS0.out; have := HS1.out; rw [List.length_drop]; omega
          · have := HA.out; have := HS0.out; have := HS1.out; rw [List.length_drop, List.length_append, List.length_singleton]; omega
          · rw [World.cell?_setCell_other _ _ _ _ (by simp), List.length_append, List.length_singleton]
            refine World.cell?_setCell_same' _ _ _ ?_
            rw [p1]; rfl
          · rw [List.length_drop]
            refine World.cell?_setCell_same' _ _ _ ?_
            rw [World.cell?_setCell_other _ _ _ _ (by simp), p2]; rfl
          · simp [p3]
          · simp [p4]
          · rw [List.length_drop]; have := HCR.out; omega
          · refine OwnI.set (OwnI.set ?_ (p := ⟨b + 1, 0, none⟩) (by have := HBS.out; show b + 1 < _; omega) _) (p := ⟨b + 2, 0, none⟩) (by have := HBS.out; show b + 2 < _; omega) _
            exact HO1.out
          · rw [← HE.out, HM.out]
            conv => rhs; unfold nuE
            rw [if_pos HEE.out, HS.out]
          · rw [← HT.out.1, ← HT.out.2, HM.out]
            conv => enter [1, 2]; unfold nuL
            conv => enter [2, 2]; unfold nuR
            rw [if_pos HEE.out, if_pos HEE.out, HS.out, HX.out, List.append_assoc]
            exact ⟨rfl, rfl⟩
        case measure => have := HJ.out; have := HS0.out; have := HS1.out; simp [intOf]; omega
      · have HTE := Aside0.mk (takeEnd_bad rfl he)
        have HEE := Aside0.mk (show nuE n.toNat l = tkE rest by
          rw [← HE.out, HM.out]; unfold nuE; rw [if_neg he])
        have HNE := Aside0.mk he
        clear he
        go_wp2_with (go_at_call 33; refine HT0.out.mono ?_; rintro e w' ⟨rfl, rfl⟩; rw [HTE.out])
        rw [HEE.out]
        exact ⟨rfl, HK.out, ⟨Al, cl, Ar, cr, acc, rest, HL1.out, HL2.out, HCR.out, HO.out, F_keep2 HFR.out HK.out, fun h => absurd h HNE.out⟩, .inr rfl⟩
    · have HZ := Aside0.mk (show n.toNat - j = 0 by omega)
      have HEE := Aside0.mk (show nuE n.toNat l = 0 by rw [← HE.out, HZ.out]; rfl)
      have HTT := Aside0.mk (show acc = nuL n.toNat l ∧ rest = nuR n.toNat l by
        have := HT.out; rw [HZ.out] at this; simpa [nuL, nuR] using this)
      go_wp2
      go_end0
      exact ⟨HK.out, ⟨Al, cl, Ar, cr, acc, HL1.out, rest, HL2.out, HCR.out, HO.out, F_keep2 HFR.out HK.out, fun _ => HTT.out⟩, .inl ⟨rfl, HEE.out⟩⟩
theorem nums_calls (P : Nat → Prop) (A : Option Addr) (c : Nat) (l : List Int) (n : Int) (w : World) (hv : Kd.V (Kd.int .u8) 5 w w.heap.size (fun k => P k) (.slice A l.length c) l) (hb : okB l = true) (hlen : l.length < 17592186044416) :
    Calls Try.prog 22 #[.slice A l.length c, .int .i64 n] w fun e w' => ∃ v0_ v1_ : Value, e = .returned (.tuple #[v0_, v1_, .int .i64 (nuE n.toNat l)]) ∧
      Kd.R (Kd.int .i64) 2 w' w.heap.size (fun k => w.heap.size ≤ k) v0_ (if nuE n.toNat l = 0 then nuL n.toNat l else []) ∧
      Kd.V (Kd.int .u8) 5 w' w.heap.size (fun k => (P k ∨ w.heap.size ≤ k) ∧ some k ≠ (v0_ : Value).ownBlock) v1_ (if nuE n.toNat l = 0 then nuR n.toNat l else l) ∧ Below w.heap.size w w' := by
  have HC := Aside0.mk (Kd.V_at hv).2.1
  have HF := Aside0.mk (Kd.F_bound (Kd.V_at hv).2.2)
  have HB := Aside0.mk hb
  have HL := Aside0.mk hlen
  clear hv hb hlen
  obtain ⟨R1, HR1⟩ : ∃ R, Aside0 ((if nuE n.toNat l = 0 then nuL n.toNat l else []) = R) := ⟨_, ⟨rfl⟩⟩
  obtain ⟨R2, HR2⟩ : ∃ R, Aside0 ((if nuE n.toNat l = 0 then nuR n.toNat l else l) = R) := ⟨_, ⟨rfl⟩⟩
  obtain ⟨er, HER⟩ : ∃ R, Aside0 (nuE n.toNat l = R) := ⟨_, ⟨rfl⟩⟩
  rw [HR1.out, HR2.out, HER.out]
  have hmf : ∀ (fn : Fn) (first cap : Array Value) (w : World), (Instr.makeFunc fn first cap).run Try.prog w = .ok (.func fn first cap) w := fun _ _ _ _ => rfl
  go_enter Try.func22, Try.ntmps22
  go_wp2_with fail
  refine (try_calls 41 _ w.heap.size _ _ er (by simp) (enter_any _ _ _ Try.func41 rfl (by kernel_rfl))
    (HER.out ▸ nums1 A c l n P _ w.heap.size (Kd.F_alloc (Kd.F_alloc (Kd.F_alloc (Kd.F_alloc HF.out _) _) _) _) HC.out HB.out HL.out (by simp [go_sem]) (by simp [go_sem]) (by simp [go_sem]) (by simp [go_sem]) (by simp [go_sem]) (by simp))).mono ?_
  rintro e w1 ⟨W, ⟨Al, cl, Ar, cr, acc, rest, hq1, hq2, hcr, ho, hf, hh⟩, rfl, hk, hz, hbl, hg⟩
  simp only [World.size_alloc] at hz hbl hg ho
  have k1 : w1.cell? ⟨w.heap.size + 1, 0, none⟩ = some (.slice Al acc.length cl) := (hbl.cell (by simp)).trans hq1
  have k2 : w1.cell? ⟨w.heap.size + 1 + 1, 0, none⟩ = some (.slice Ar rest.length cr) := (hbl.cell (by simp)).trans hq2
  have HO1 := Aside0.mk (show Kd.R (Kd.int .i64) 2 w1 (w.heap.size + 1 + 1 + 1 + 1) (fun k => w.heap.size + 1 + 1 + 1 + 1 ≤ k) (.slice Al acc.length cl) acc from
    Kd.R_mono (Kd.R_grown (Kd.R_bound ho) hg (fun k hk e => by have := hk.2.1; have := Option.some.inj e; omega)) (fun _ h => h.2.1))
  have HBL := Aside0.mk (show Below w.heap.size w w1 from
    (((((Below.refl w.heap.size w).alloc (Nat.le_refl _) _).alloc (by simp) _).alloc (by simp; omega) _).trans (hk.below (by omega) (by simp; omega))).trans (hbl.mono (by omega)))
  have HF1 := Aside0.mk (show Kd.F (Kd.int .u8) w1 (fun k => P k ∧ k < w.heap.size) Ar rest.length rest from Kd.F_step hf (fun k hp hlt => hbl.block k (by have := hp.2; omega)))
  have HCR := Aside0.mk hcr
  have HH := Aside0.mk hh
  clear hq1 hq2 hk hz hbl hg ho hf hh hcr
  by_cases he : er = 0
  · subst he
    have HH2 := Aside0.mk (HH.out rfl)
    have e1 := Aside0.mk (show acc = R1 by rw [← HR1.out, if_pos HER.out]; exact HH2.out.1)
    have e2 := Aside0.mk (show rest = R2 by rw [← HR2.out, if_pos HER.out]; exact HH2.out.2)
    go_wp2
    go_quiet (fail)
    go_wp2
    refine bodyPost_ret (v := .tuple #[.slice Al acc.length cl, .slice Ar rest.length cr, .int .i64 0]) (by simp [results, Try.results22, go_sem]) rfl ⟨_, _, rfl, ?_, ?_, ?_⟩
    · rw [← e1.out]
      exact Kd.R_mono (Kd.R_lower (base := w.heap.size + 1 + 1 + 1 + 1) (Kd.R_drewN HO1.out _) (by omega)) (fun k hk => (by omega : w.heap.size ≤ k))
    · rw [← e2.out]
      refine Kd.V_mk HCR.out ?_
      refine Kd.F_mono (ok := fun k => P k ∧ k < w.heap.size) (Kd.F_drewN HF1.out _) (fun k hk => ⟨.inl hk.1, fun e => ?_⟩)
      have := HO1.out.1 k e.symm
      have := hk.2
      omega
    · exact pw_below_drewN HBL.out _
  · have hne : (er != 0) = true := bne_iff_ne.2 he
    have e1 := Aside0.mk (show [] = R1 by rw [← HR1.out, if_neg (by rw [HER.out]; exact he)])
    have e2 := Aside0.mk (show l = R2 by rw [← HR2.out, if_neg (by rw [HER.out]; exact he)])
    clear he
    go_wp2
    refine bodyPost_ret (v := .tuple #[.slice none 0 0, .slice A l.length c, .int .i64 er]) (by simp [results, Try.results22, go_sem]) rfl ⟨_, _, rfl, ?_, ?_, ?_⟩
    · rw [← e1.out]
      exact Kd.R_nil _ _ _ _ _
    · rw [← e2.out]
      refine Kd.V_mk HC.out ?_
      exact Kd.F_mono (Kd.F_below HF.out HBL.out) (fun k hk => ⟨.inl hk.1, by simp [Value.ownBlock]⟩)
    · exact HBL.out
end Go.Proofs.Ytdapnponlmimaaa.M
namespace Go.Proofs.Ytdapnponlmimaaa.G
open Go.RowKit Go.Proofs.YtdapnponlmimaaaW.PrintWords Go.Proofs.Ytdapnponlmimaaa.M
def numsT (l : List Int) (n : Int) : List Int × List Int × Int := (if nuE n.toNat l = 0 then nuL n.toNat l else [], if nuE n.toNat l = 0 then nuR n.toNat l else l, nuE n.toNat l)
def shape_Nums.f (k : Nat) (l0 : List Int) (a1 : Int) : Option (List Int × List Int × Int) := if okB l0 = true ∧ l0.length < 17592186044416 then some (numsT l0 a1) else none
theorem shape_Nums.mono : ∀ a0 a1 k, LeO (shape_Nums.f k a0 a1) (shape_Nums.f (k + 1) a0 a1) := fun _ _ _ _ h => h
theorem shape_Nums.calls (k : Nat) (P0_ : Nat → Prop) (A0 : Option Addr) (c0 : Nat) (l0 : List Int) (a1 : Int) (r1 : List Int) (r2 : List Int) (r3 : Int) (w : World) (hs0 : Kd.V (Kd.int .u8) 5 w w.heap.size (fun k_ => P0_ k_) (.slice A0 l0.length c0) l0) (h : shape_Nums.f k l0 a1 = some (r1, r2, r3)) :
    Calls Try.prog 22 #[.slice A0 l0.length c0, .int .i64 a1] w fun e w' => ∃ v0_ v1_ : Value, e = .returned (.tuple #[v0_, v1_, .int .i64 r3]) ∧ Kd.R (Kd.int .i64) 2 w' w.heap.size (fun k_ => (w.heap.size ≤ k_)) v0_ r1 ∧ Kd.V (Kd.int .u8) 5 w' w.heap.size (fun k_ => (P0_ k_ ∨ w.heap.size ≤ k_) ∧ some k_ ≠ (v0_ : Value).ownBlock) v1_ r2 ∧ Below w.heap.size w w' := by
  unfold shape_Nums.f at h
  split at h
  · rename_i hb
    have h := Option.some.inj h
    have h1 : r1 = (numsT l0 a1).1 := by rw [h]
    have h2 : r2 = (numsT l0 a1).2.1 := by rw [h]
    have h3 : r3 = (numsT l0 a1).2.2 := by rw [h]
    rw [h1, h2, h3]
    exact nums_calls P0_ A0 c0 l0 a1 w hs0 hb.1 hb.2
  · cases h
end Go.Proofs.Ytdapnponlmimaaa.G
