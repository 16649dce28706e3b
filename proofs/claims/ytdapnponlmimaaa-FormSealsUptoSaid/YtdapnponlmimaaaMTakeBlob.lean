/- Contracts of trivet/shape.blob and trivet/shape.TakeBlob. -/
import Derived.Test.YtdapnponlmimaaaMTakeNum
import Derived.Test.YtdapnponlmimaaaMClone
set_option linter.unusedVariables false
set_option linter.unusedSimpArgs false
namespace Go.Proofs.Ytdapnponlmimaaa.M
open Go.RowKit Go.Proofs.YtdapnponlmimaaaW.PrintWords

theorem tkN_bound {l : List Int} (hb : okB l = true) (h : tkE l = 0) : -9223372036854775808 ≤ tkN l ∧ tkN l ≤ 9223372036854775807 := by
  have h0 : 0 ≤ tkU l := by rw [← upFrom_zero]; exact upFrom_nonneg hb _ _
  unfold tkE at h
  split at h
  · omega
  · split at h
    · omega
    · split at h
      · omega
      · split at h
        · omega
        · split at h
          · omega
          · rename_i hh
            unfold big63 at hh
            unfold tkN
            have hr := okB_rd hb 0
            split
            · unfold wrap64; omega
            · omega

def blobV (A : Option Addr) (c : Nat) (l : List Int) : Value := .slice (if c = (blLo l).toNat then A else A.map (·.add ((blLo l).toNat * 1))) ((blHi l).toNat - (blLo l).toNat) (c - (blLo l).toNat)

set_option maxHeartbeats 1000000 in
theorem blob_any (A : Option Addr) (c : Nat) (l : List Int) (most more : Int) (w : World) (hr : Kd.C (Kd.int .u8) w A l.length l) (hc : l.length ≤ c) (hb : okB l = true) (hm0 : 0 ≤ more) (hm1 : more ≤ 8) (hlen : l.length < 140737488355328) :
    Calls Try.prog 39 #[.slice A l.length c, .int .i64 most, .int .i64 more] w fun e w' => w = w' ∧
      ((blE l most more = 0 ∧ e = .returned (.tuple #[blobV A c l, .int .i64 (blHi l)])) ∨ (¬ blE l most more = 0 ∧ e = .panicked [{ v := wrongV (blE l most more), recovered := false }])) := by
  have HT := Lib.hid (take_any A c l w hr hc hb)
  have HR := Aside0.mk hr
  have HBD := Aside0.mk (fun h => tkN_bound hb h)
  have HSZ := Aside0.mk (fun h => tkE_size (l := l) h)
  clear hr hb
  by_cases he : tkE l = 0
  · have HE := Aside0.mk (takeEnd_good he)
    have hn := HBD.out he
    have hs := HSZ.out he
    have hs1 := tkS_pos l
    obtain ⟨n, HN⟩ : ∃ n, Aside0 (tkN l = n) := ⟨_, ⟨rfl⟩⟩
    obtain ⟨s, HS⟩ : ∃ s, Aside0 (tkS l = s) := ⟨_, ⟨rfl⟩⟩
    rw [HN.out, HS.out] at HE
    rw [HN.out] at hn
    rw [HS.out] at hs hs1
    have HBE := Aside0.mk (show blE l most more = if n < 0 then 11 else if most < n then 3 else if (l.length : Int) - s - more < n then 10 else 0 by unfold blE; rw [if_neg (by omega), HN.out, HS.out])
    clear he HBD HSZ
    by_cases h1 : n < 0
    · have HZ := Aside0.mk (HBE.out.trans (if_pos h1))
      go_enter Try.func39, Try.ntmps39
      go_wp2_with (first | (go_at_call 33; refine HT.out.mono ?_; rintro e w' ⟨rfl, rfl⟩; rw [HE.out]) | (go_at_call 44; first | ((with_reducible refine (give_no _ _).mono ?_); rintro e w' ⟨rfl, rfl⟩) | ((with_reducible refine (give_yes _ _).mono ?_); rintro e w' ⟨rfl, rfl⟩)))
      exact ⟨rfl, rfl, .inr ⟨by rw [HZ.out]; decide, by rw [HZ.out]⟩⟩
    have g1 : decide (n < 0) = false := decide_eq_false h1
    by_cases h2 : most < n
    · have HZ := Aside0.mk (HBE.out.trans ((if_neg h1).trans (if_pos h2)))
      go_enter Try.func39, Try.ntmps39
      go_wp2_with (first | (go_at_call 33; refine HT.out.mono ?_; rintro e w' ⟨rfl, rfl⟩; rw [HE.out]) | (go_at_call 44; first | ((with_reducible refine (give_no _ _).mono ?_); rintro e w' ⟨rfl, rfl⟩) | ((with_reducible refine (give_yes _ _).mono ?_); rintro e w' ⟨rfl, rfl⟩)))
      exact ⟨rfl, rfl, .inr ⟨by rw [HZ.out]; decide, by rw [HZ.out]⟩⟩
    have g2 : decide (most < n) = false := decide_eq_false h2
    by_cases h3 : (l.length : Int) - s - more < n
    · have HZ := Aside0.mk (HBE.out.trans ((if_neg h1).trans ((if_neg h2).trans (if_pos h3))))
      go_enter Try.func39, Try.ntmps39
      go_wp2_with (first | (go_at_call 33; refine HT.out.mono ?_; rintro e w' ⟨rfl, rfl⟩; rw [HE.out]) | (go_at_call 44; first | ((with_reducible refine (give_no _ _).mono ?_); rintro e w' ⟨rfl, rfl⟩) | ((with_reducible refine (give_yes _ _).mono ?_); rintro e w' ⟨rfl, rfl⟩)))
      exact ⟨rfl, rfl, .inr ⟨by rw [HZ.out]; decide, by rw [HZ.out]⟩⟩
    have HZ := Aside0.mk (HBE.out.trans ((if_neg h1).trans ((if_neg h2).trans (if_neg h3))))
    have g3 : decide ((l.length : Int) - s - more < n) = false := decide_eq_false h3
    obtain ⟨i0, hi, hz0, hz1, hz2⟩ := info_parts infoU8
    have hcut := cut_mid (P := Try.prog) 22 5 .i64 .i64 Try.underlying22 hi 1 hz1 A l.length c s (s + n) (by omega) (by omega) (by omega) hc
    have hV0 : blobV A c l = .slice (if c = s.toNat then A else A.map (·.add (s.toNat * 1))) ((s + n).toNat - s.toNat) (c - s.toNat) := by unfold blobV blHi blLo; rw [HS.out, HN.out]
    rw [← hV0] at hcut
    clear hV0
    have HH := Aside0.mk (show blHi l = s + n by unfold blHi; rw [HS.out, HN.out])
    clear hi hz0 hz1 hz2
    go_enter Try.func39, Try.ntmps39
    go_wp2_with (first | (go_at_call 33; refine HT.out.mono ?_; rintro e w' ⟨rfl, rfl⟩; rw [HE.out]) | (go_at_call 44; first | ((with_reducible refine (give_no _ _).mono ?_); rintro e w' ⟨rfl, rfl⟩) | ((with_reducible refine (give_yes _ _).mono ?_); rintro e w' ⟨rfl, rfl⟩)))
    go_ret2
    exact ⟨rfl, .inl ⟨HZ.out, by rw [HH.out]; rfl⟩⟩
  · have HE := Aside0.mk (takeEnd_bad rfl he)
    have HZ := Aside0.mk (show blE l most more = tkE l by unfold blE; rw [if_pos he])
    have HZ2 := Aside0.mk he
    clear he HBD HSZ
    go_enter Try.func39, Try.ntmps39
    go_wp2_with (go_at_call 33; refine HT.out.mono ?_; rintro e w' ⟨rfl, rfl⟩; rw [HE.out])
    exact ⟨rfl, rfl, .inr ⟨by rw [HZ.out]; exact HZ2.out, by rw [HZ.out]⟩⟩
theorem blD_length {l : List Int} (h : 1 ≤ blLo l ∧ blLo l ≤ blHi l ∧ blHi l ≤ (l.length : Int)) : (blD l).length = (blHi l).toNat - (blLo l).toNat := by
  unfold blD
  rw [List.length_drop, List.length_take]
  omega
theorem blobV_form {A : Option Addr} {c : Nat} {l : List Int} {w : World} (hr : Kd.C (Kd.int .u8) w A l.length l) (hc : l.length ≤ c) (h : 1 ≤ blLo l ∧ blLo l ≤ blHi l ∧ blHi l ≤ (l.length : Int)) :
    ∃ A' c', blobV A c l = .slice A' (blD l).length c' ∧ (blD l).length ≤ c' ∧ Kd.C (Kd.int .u8) w A' (blD l).length (blD l) := by
  refine ⟨_, c - (blLo l).toNat, ?_, ?_, Kd.C_mid (c := c) hr (by omega : (blLo l).toNat ≤ (blHi l).toNat) (by omega) hc⟩
  · unfold blobV
    rw [blD_length h]
    rfl
  · rw [blD_length h]; omega

/-- A row of the call's own outlives a store below it. -/
theorem Own.set {W : World} {base : Nat} {v : Value} {l : List Int} (h : Own W base v l) {p : Addr} (hp : p.block < base) (u : Value) : Own (W.setCell p u) base v l :=
  Kd.R_mono (Kd.R_far (Kd.R_bound h) (p := p) (fun k hk e => by have := hk.2.1; omega) u) (fun _ _ => trivial)
theorem Own.below {W W' : World} {base : Nat} {v : Value} {l : List Int} (h : Own W base v l) (hb : Below W.heap.size W W') : Own W' base v l := Kd.R_below h hb
theorem Own.lower {W : World} {base base' : Nat} {v : Value} {l : List Int} (h : Own W base v l) (hb : base' ≤ base) : Own W base' v l := Kd.R_lower h hb
theorem Own.drew {W : World} {base : Nat} {v : Value} {l : List Int} (h : Own W base v l) : Own W.drew base v l := Kd.R_drew h
theorem Own.nil (W : World) (base : Nat) : Own W base (.slice none 0 0) [] := Kd.R_nil _ _ _ _ _
theorem Own.form {W : World} {base : Nat} {v : Value} {l : List Int} (h : Own W base v l) : ∃ A c, v = .slice A l.length c := Kd.R_slice h

theorem C_cells_imp {w W : World} {k : IntKind} {A : Option Addr} {n : Nat} {l : List Int} (h : Kd.C (Kd.int k) w A n l) (hk : ∀ (p : Addr) (x : Int), w.cell? p = some (.int k x) → W.cell? p = some (.int k x)) : Kd.C (Kd.int k) W A n l := by
  obtain ⟨h1, h2, h3⟩ := Kd.reads_of_C (d := (0 : Int)) h
  refine Kd.C_of_reads (d := (0 : Int)) (h1 := fun _ => rfl) ⟨h1, h2, fun hp => ?_⟩
  obtain ⟨ad, e, hc⟩ := h3 hp
  exact ⟨ad, e, fun j hj => hk _ _ (hc j hj)⟩
/-- What is read lives on where a variable that holds something else is written. -/
theorem C_over1 {w : World} {k : IntKind} {A : Option Addr} {n : Nat} {l : List Int} (h : Kd.C (Kd.int k) w A n l) {q : Addr} {z u : Value} (h1 : w.cell? q = some z) (hz : ∀ x, z ≠ .int k x) : Kd.C (Kd.int k) (w.setCell q u) A n l :=
  C_cells_imp h fun p x hp => (World.cell?_setCell_other _ _ _ _ (fun e => by subst e; rw [h1] at hp; exact hz x (Option.some.inj hp))).trans hp

def big62 : Int := 9223372036854775807
def takeBlob (l : List Int) : List Int × Int × Int := if blE l big62 0 = 0 then (blD l, blHi l, 0) else ([], 0, blE l big62 0)

set_option maxHeartbeats 1000000 in
theorem takeblob1 (A : Option Addr) (c : Nat) (l : List Int) (w : World) (hr : Kd.C (Kd.int .u8) w A l.length l) (hc : l.length ≤ c) (hb : okB l = true) (hlen : l.length < 140737488355328) (b : Nat) (hx : Boxes b A c l.length (.slice none 0 0) (.int .i64 0) w) (hbs : b + 3 ≤ w.heap.size) :
    Calls Try.prog 38 #[.pointer (some ⟨b, 0, none⟩), .pointer (some ⟨b + 1, 0, none⟩), .pointer (some ⟨b + 2, 0, none⟩)] w fun e W => Keep2 b w W ∧
      (∃ v, W.cell? ⟨b + 1, 0, none⟩ = some v ∧ W.cell? ⟨b + 2, 0, none⟩ = some (.int .i64 (takeBlob l).2.1) ∧ W.frozen? ⟨b + 1, 0, none⟩ = false ∧ W.frozen? ⟨b + 2, 0, none⟩ = false ∧ Own W w.heap.size v (takeBlob l).1) ∧
      ((e = .returned (.tuple #[]) ∧ blE l big62 0 = 0) ∨ e = .panicked [{ v := wrongV (blE l big62 0), recovered := false }]) := by
  have hT := blob_any A c l big62 0 w hr hc hb (by decide) (by decide) hlen
  obtain ⟨hb0, hn0, hn1, hs0, hs1⟩ := hx
  by_cases he : blE l big62 0 = 0
  · obtain ⟨g1, g2, g3, g4, g5, g6⟩ := blE_good he
    obtain ⟨A', c', hV, hc', hr'⟩ := blobV_form hr hc ⟨g6, g5, by omega⟩
    have hl' : (blD l).length < 140737488355328 := by rw [blD_length ⟨g6, g5, by omega⟩]; omega
    have HN := Aside0.mk (show takeBlob l = (blD l, blHi l, 0) by unfold takeBlob; rw [if_pos he])
    have HZ := Aside0.mk he
    have HT := Lib.hid (hT.mono (R' := fun e w' => w = w' ∧ e = .returned (.tuple #[.slice A' (blD l).length c', .int .i64 (blHi l)])) (by
      rintro e w' ⟨rfl, ⟨_, rfl⟩ | ⟨h, _⟩⟩
      · exact ⟨rfl, by rw [hV]⟩
      · exact absurd he h))
    have HR := Aside0.mk hr'
    clear he hV hr' g1 g2 g3 g4 g5 g6 hr hT
    unfold big62 at HT
    go_enter Try.func38, Try.ntmps38
    go_wp2_with (go_at_call 39; refine HT.out.mono ?_; rintro e w' ⟨rfl, rfl⟩)
    refine (clone_calls A' c' (blD l) _ (C_over1 (C_over1 HR.out hn0 (by simp)) (z := .int .i64 0) (by rw [World.cell?_setCell_other _ _ _ _ (by simp)]; exact hs0) (by simp)) hc' hl').mono ?_
    rintro e w1 ⟨v, rfl, ho, hbl⟩
    obtain ⟨Av, cv, rfl⟩ := ho.form
    have HO := Aside0.mk ho
    have HBL := Aside0.mk hbl
    have k1 : w1.cell? ⟨b + 1, 0, none⟩ = some (.slice A' (blD l).length c') := by
      rw [hbl.cell (by simp [World.setCell]; omega), World.cell?_setCell_other _ _ _ _ (by simp)]; exact World.cell?_setCell_same' _ _ _ (by rw [hn0]; rfl)
    have k2 : w1.cell? ⟨b + 2, 0, none⟩ = some (.int .i64 (blHi l)) := by
      rw [hbl.cell (by simp [World.setCell]; omega)]; exact World.cell?_setCell_same' _ _ _ (by rw [World.cell?_setCell_other _ _ _ _ (by simp), hs0]; rfl)
    have k3 : w1.frozen? ⟨b + 1, 0, none⟩ = false := by
      rw [hbl.frozen (by simp [World.setCell]; omega)]; simp [hn1]
    have k4 : w1.frozen? ⟨b + 2, 0, none⟩ = false := by
      rw [hbl.frozen (by simp [World.setCell]; omega)]; simp [hs1]
    clear ho hbl
    go_wp2
    go_end0
    rw [HN.out]
    refine ⟨(((Keep2.refl b w).set1 _).set2 _ |>.trans (Keep2.of_below HBL.out)).set1 _, ⟨_, World.cell?_setCell_same' _ _ _ (by rw [k1]; rfl), ?_, ?_, ?_, ?_⟩, .inl ⟨rfl, HZ.out⟩⟩
    · rw [World.cell?_setCell_other _ _ _ _ (by simp)]; exact k2
    · simp [k3]
    · simp [k4]
    · exact (HO.out.lower (by simp [World.setCell])).set (p := ⟨b + 1, 0, none⟩) (by show b + 1 < _; omega) _
  · have HN := Aside0.mk (show takeBlob l = ([], 0, blE l big62 0) by unfold takeBlob; rw [if_neg he])
    have HT := Lib.hid (hT.mono (R' := fun e w' => w = w' ∧ e = .panicked [{ v := wrongV (blE l big62 0), recovered := false }]) (by
      rintro e w' ⟨rfl, ⟨h, _⟩ | ⟨_, rfl⟩⟩
      · exact absurd h he
      · exact ⟨rfl, rfl⟩))
    clear he hr hT
    obtain ⟨er, HER⟩ : ∃ er, Aside0 (blE l big62 0 = er) := ⟨_, ⟨rfl⟩⟩
    rw [HER.out] at HT HN ⊢
    unfold big62 at HT
    go_enter Try.func38, Try.ntmps38
    go_wp2_with (go_at_call 39; refine HT.out.mono ?_; rintro e w' ⟨rfl, rfl⟩)
    rw [HN.out]
    exact ⟨rfl, Keep2.refl _ _, ⟨_, hn0, hs0, hn1, hs1, Own.nil _ _⟩, .inr rfl⟩
end Go.Proofs.Ytdapnponlmimaaa.M
namespace Go.Proofs.Ytdapnponlmimaaa.M
open Go.RowKit Go.Proofs.YtdapnponlmimaaaW.PrintWords
theorem takeBlob_calls (A : Option Addr) (c : Nat) (l : List Int) (w : World) (hr : Kd.C (Kd.int .u8) w A l.length l) (hc : l.length ≤ c) (hb : okB l = true) (hlen : l.length < 140737488355328) :
    Calls Try.prog 17 #[.slice A l.length c] w fun e w' => ∃ v0_ : Value, e = .returned (.tuple #[v0_, .int .i64 (takeBlob l).2.1, .int .i64 (takeBlob l).2.2]) ∧ Own w' w.heap.size v0_ (takeBlob l).1 ∧ Below w.heap.size w w' := by
  have HR := Aside0.mk hr
  have HC := Aside0.mk hc
  have HB := Aside0.mk hb
  have HL := Aside0.mk hlen
  clear hr hc hb hlen
  have hmf : ∀ (fn : Fn) (first cap : Array Value) (w : World), (Instr.makeFunc fn first cap).run Try.prog w = .ok (.func fn first cap) w := fun _ _ _ _ => rfl
  go_enter Try.func17, Try.ntmps17
  go_wp2_with fail
  have HX : Boxes w.heap.size A c l.length (.slice none 0 0) (.int .i64 0) ((((w.alloc (.cells #[.slice A l.length c] 22)).alloc (.cells #[.slice none 0 0] 22)).alloc (.cells #[.int .i64 0] 3)).alloc (.cells #[.int .i64 0] 24)) := by
    constructor <;> simp [go_sem]
  refine (try_calls 38 _ w.heap.size _ _ (blE l big62 0) (by simp) (enter_any _ _ _ Try.func38 rfl (by kernel_rfl))
    (takeblob1 A c l _ (Kd.C_alloc (Kd.C_alloc (Kd.C_alloc (Kd.C_alloc HR.out _) _) _) _) HC.out HB.out HL.out w.heap.size HX (by simp))).mono ?_
  rintro e w1 ⟨W, ⟨v, hn, hs, hnf, hsf, ho⟩, rfl, hk, hz, hbl, hg⟩
  simp only [World.size_alloc] at hz hbl hg ho
  obtain ⟨Av, cv, rfl⟩ := ho.form
  have hn1 : w1.cell? ⟨w.heap.size + 1, 0, none⟩ = some (.slice Av (takeBlob l).1.length cv) := (hbl.cell (by simp)).trans hn
  have hs1 : w1.cell? ⟨w.heap.size + 1 + 1, 0, none⟩ = some (.int .i64 (takeBlob l).2.1) := (hbl.cell (by simp)).trans hs
  have hnf1 : w1.frozen? ⟨w.heap.size + 1, 0, none⟩ = false := (hbl.frozen (by simp)).trans hnf
  have hsf1 : w1.frozen? ⟨w.heap.size + 1 + 1, 0, none⟩ = false := (hbl.frozen (by simp)).trans hsf
  have HO1 := Aside0.mk (show Own w1 (w.heap.size + 1 + 1 + 1 + 1) (.slice Av (takeBlob l).1.length cv) (takeBlob l).1 from
    Kd.R_mono (Kd.R_grown (Kd.R_bound ho) hg (fun k hk e => by have := hk.2.1; have := Option.some.inj e; omega)) (fun _ _ => trivial))
  have HBL := Aside0.mk (show Below w.heap.size w w1 from
    (((((Below.refl w.heap.size w).alloc (Nat.le_refl _) _).alloc (by simp) _).alloc (by simp; omega) _).trans (hk.below (by omega) (by simp; omega))).trans (hbl.mono (by omega)))
  have HT := Aside0.mk (show blE l big62 0 = (takeBlob l).2.2 by unfold takeBlob; split <;> simp [*])
  obtain ⟨er, her⟩ : ∃ er, blE l big62 0 = er := ⟨_, rfl⟩
  rw [her] at HT ⊢
  clear hn hs hnf hsf hk hz hbl HX hg ho her
  go_wp2
  go_region
  all_goals
    go_wp2
    refine bodyPost_ret (v := .tuple #[.slice Av (takeBlob l).1.length cv, .int .i64 (takeBlob l).2.1, .int .i64 er]) (by simp [results, Try.results17, go_sem, hn1, hs1]) rfl ⟨_, by rw [HT.out], ?_, ?_⟩
    · refine Own.lower (base := w.heap.size + 1 + 1 + 1 + 1) ?_ (by omega)
      repeat first | exact HO1.out | apply Own.drew | refine Own.set ?_ (by first | (simp; done) | (simp; omega)) _
    · repeat first | exact HBL.out | exact (by assumption) | apply Below.drew | refine Below.setCell ?_ (by first | (simp; done) | (simp; omega)) _
end Go.Proofs.Ytdapnponlmimaaa.M

namespace Go.Proofs.Ytdapnponlmimaaa.G
open Go.RowKit Go.Proofs.YtdapnponlmimaaaW.PrintWords Go.Proofs.Ytdapnponlmimaaa.M
def shape_TakeBlob.f (l0 : List Int) : Option (List Int × Int × Int) := if okB l0 = true ∧ l0.length < 140737488355328 then some (takeBlob l0) else none
theorem shape_TakeBlob.calls (A0 : Option Addr) (c0 : Nat) (l0 : List Int) (r1 : List Int) (r2 : Int) (r3 : Int) (w : World) (hr0 : Kd.C (Kd.int .u8) w A0 l0.length l0) (hc0 : l0.length ≤ c0) (h : shape_TakeBlob.f l0 = some (r1, r2, r3)) :
    Calls Try.prog 17 #[.slice A0 l0.length c0] w fun e w' => ∃ v0_ : Value, e = .returned (.tuple #[v0_, .int .i64 r2, .int .i64 r3]) ∧ Kd.R (Kd.int .u8) 5 w' w.heap.size (fun _ => True) v0_ r1 ∧ Below w.heap.size w w' := by
  unfold shape_TakeBlob.f at h
  split at h
  · rename_i hb
    have h := Option.some.inj h
    have h1 : r1 = (takeBlob l0).1 := by rw [h]
    have h2 : r2 = (takeBlob l0).2.1 := by rw [h]
    have h3 : r3 = (takeBlob l0).2.2 := by rw [h]
    rw [h1, h2, h3]
    exact takeBlob_calls A0 c0 l0 w hr0 hc0 hb.1 hb.2
  · cases h
end Go.Proofs.Ytdapnponlmimaaa.G
