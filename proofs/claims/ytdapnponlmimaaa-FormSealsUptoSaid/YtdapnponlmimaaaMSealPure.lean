/- Sealed bytes, in plain Lean: they are taken whatever stands behind; a beginning of them ends too early; one byte changed is seen. -/
import Derived.Test.YtdapnponlmimaaaMRefBlob
import Derived.Test.YtdapnponlmimaaaMUnseal
import Derived.Test.YtdapnponlmimaaaGx0
import Derived.Test.YtdapnponlmimaaaGx8
set_option linter.unusedVariables false
set_option linter.unusedSimpArgs false
namespace Go.Proofs.Ytdapnponlmimaaa.M
open Go.RowKit Go.Proofs.YtdapnponlmimaaaW.PrintWords Go.Proofs.Ytdapnponlmimaaa.G

/-! ### The eight bytes -/
theorem leNum_append (l m : List Int) : leNum (l ++ m) = leNum l + 256 ^ l.length * leNum m := by
  induction l with
  | nil => simp [leNum]
  | cons b r ih => simp only [List.cons_append, leNum, ih, List.length_cons, Int.pow_succ]; rw [Int.mul_add, ← Int.mul_assoc, Int.mul_comm 256 (256 ^ r.length)]; omega
theorem leNum_zeros (n : Nat) : leNum (List.replicate n 0) = 0 := by
  induction n with
  | zero => rfl
  | succ n ih => simp [List.replicate_succ, leNum, ih]
theorem leNum_pad8 (l : List Int) : leNum (pad8 l) = leNum l := by
  unfold pad8
  rw [leNum_append, leNum_zeros]
  simp
theorem eightB_inj {a b : Nat} (h : eightB a = eightB b) : a = b := by
  have := congrArg leNum h
  unfold eightB at this
  rw [leNum_pad8, leNum_pad8, leNum_lowB, leNum_lowB] at this
  omega
theorem sealB_len (l : List Int) : (sealB l).length = 8 := by
  have h := chk_range l
  have := lowB_len (chk l).toNat 8 (by omega)
  unfold sealB eightB pad8
  rw [List.length_append, List.length_replicate]
  omega
theorem zeros_ok (n : Nat) : okB (List.replicate n 0) = true := by
  unfold okB
  rw [List.all_eq_true]
  intro x hx
  rw [(List.mem_replicate.1 hx).2]
  rfl
theorem sealB_ok (l : List Int) : okB (sealB l) = true := okB_append (lowB_ok _) (zeros_ok _)
theorem sealB_inj {l m : List Int} (h : sealB l = sealB m) : chk l = chk m := by
  have h1 := chk_range l
  have h2 := chk_range m
  have := eightB_inj h
  omega

/-! ### The check -/
def stepN (h c : Int) : Int := IntKind.u64.wrap ((Go.bits .xor .u64 h (IntKind.u64.wrap c)) * 1099511628211)
theorem prime_back {a : Int} (ha : 0 ≤ a ∧ a < 18446744073709551616) : a * 1099511628211 * 14886173955864302971 % 18446744073709551616 = a := by
  have e : a * 1099511628211 * 14886173955864302971 = a + 18446744073709551616 * (a * 887285111055) := by
    rw [Int.mul_assoc, show (1099511628211 : Int) * 14886173955864302971 = 1 + 18446744073709551616 * 887285111055 from by decide, Int.mul_add, Int.mul_one, Int.mul_left_comm]
  rw [e, Int.add_mul_emod_self_left]
  exact Int.emod_eq_of_lt ha.1 ha.2
theorem mul_prime {a b : Int} (ha : 0 ≤ a ∧ a < 18446744073709551616) (hb : 0 ≤ b ∧ b < 18446744073709551616) (h : a * 1099511628211 % 18446744073709551616 = b * 1099511628211 % 18446744073709551616) : a = b := by
  rw [← prime_back ha, ← prime_back hb, Int.mul_emod, h, ← Int.mul_emod]
theorem xor_back (a c : Nat) : (a ^^^ c) ^^^ c = a := by rw [Nat.xor_assoc, Nat.xor_self, Nat.xor_zero]
theorem step_xor {h c : Int} (hh : 0 ≤ h ∧ h ≤ 18446744073709551615) (hc : 0 ≤ c ∧ c ≤ 255) : stepN h c = ((h.toNat ^^^ c.toNat : Nat) : Int) * 1099511628211 % 18446744073709551616 := by
  unfold stepN
  have e : IntKind.u64.wrap c = c := by rw [IntKind.wrap_u64]; omega
  rw [e, u64_xor h c (by omega) (by omega) (by omega) (by omega), IntKind.wrap_u64]
theorem xor_lt64 {a c : Nat} (ha : a < 18446744073709551616) (hc : c < 256) : a ^^^ c < 18446744073709551616 := by
  have : a ^^^ c < 2 ^ 64 := Nat.xor_lt_two_pow (by omega) (by omega)
  omega
theorem step_inj_h {h h' c : Int} (hh : 0 ≤ h ∧ h ≤ 18446744073709551615) (hh' : 0 ≤ h' ∧ h' ≤ 18446744073709551615) (hc : 0 ≤ c ∧ c ≤ 255) (e : stepN h c = stepN h' c) : h = h' := by
  have E := Aside0.mk e
  clear e
  have l1 := xor_lt64 (a := h.toNat) (c := c.toNat) (by omega) (by omega)
  have l2 := xor_lt64 (a := h'.toNat) (c := c.toNat) (by omega) (by omega)
  have r1 : 0 ≤ ((h.toNat ^^^ c.toNat : Nat) : Int) ∧ ((h.toNat ^^^ c.toNat : Nat) : Int) < 18446744073709551616 := by omega
  have r2 : 0 ≤ ((h'.toNat ^^^ c.toNat : Nat) : Int) ∧ ((h'.toNat ^^^ c.toNat : Nat) : Int) < 18446744073709551616 := by omega
  have := mul_prime r1 r2 (by have e := E.out; rw [step_xor hh hc, step_xor hh' hc] at e; exact e)
  have e2 : h.toNat ^^^ c.toNat = h'.toNat ^^^ c.toNat := by omega
  have := congrArg (· ^^^ c.toNat) e2
  simp only [xor_back] at this
  omega
theorem step_inj_c {h c c' : Int} (hh : 0 ≤ h ∧ h ≤ 18446744073709551615) (hc : 0 ≤ c ∧ c ≤ 255) (hc' : 0 ≤ c' ∧ c' ≤ 255) (e : stepN h c = stepN h c') : c = c' := by
  have E := Aside0.mk e
  clear e
  have l1 := xor_lt64 (a := h.toNat) (c := c.toNat) (by omega) (by omega)
  have l2 := xor_lt64 (a := h.toNat) (c := c'.toNat) (by omega) (by omega)
  have r1 : 0 ≤ ((h.toNat ^^^ c.toNat : Nat) : Int) ∧ ((h.toNat ^^^ c.toNat : Nat) : Int) < 18446744073709551616 := by omega
  have r2 : 0 ≤ ((h.toNat ^^^ c'.toNat : Nat) : Int) ∧ ((h.toNat ^^^ c'.toNat : Nat) : Int) < 18446744073709551616 := by omega
  have := mul_prime r1 r2 (by have e := E.out; rw [step_xor hh hc, step_xor hh hc'] at e; exact e)
  have e2 : h.toNat ^^^ c.toNat = h.toNat ^^^ c'.toNat := by omega
  have e3 : c.toNat ^^^ h.toNat = c'.toNat ^^^ h.toNat := by rw [Nat.xor_comm c.toNat, Nat.xor_comm c'.toNat]; exact e2
  have := congrArg (· ^^^ h.toNat) e3
  simp only [xor_back] at this
  omega
theorem step_range (h c : Int) : 0 ≤ stepN h c ∧ stepN h c ≤ 18446744073709551615 := by unfold stepN; rw [IntKind.wrap_u64]; omega
theorem chkFrom_step (h c : Int) (l : List Int) : chkFrom h (c :: l) = chkFrom (stepN h c) l := rfl
theorem chkFrom_inj {l : List Int} (hl : okB l = true) : ∀ {h h' : Int}, (0 ≤ h ∧ h ≤ 18446744073709551615) → (0 ≤ h' ∧ h' ≤ 18446744073709551615) → chkFrom h l = chkFrom h' l → h = h' := by
  induction l with
  | nil => intro h h' _ _ e; exact e
  | cons c r ih =>
    intro h h' hh hh' e
    have hc := okB_rd hl 0
    rw [rd_cons0] at hc
    rw [chkFrom_step, chkFrom_step] at e
    exact step_inj_h hh hh' hc (ih (okB_drop hl 1) (step_range _ _) (step_range _ _) e)
theorem chkFrom_set {l : List Int} (hl : okB l = true) : ∀ {h : Int} (i : Nat) (v : Int), (0 ≤ h ∧ h ≤ 18446744073709551615) → i < l.length → (0 ≤ v ∧ v ≤ 255) → v ≠ rd l (i : Int) → chkFrom h (l.set i v) ≠ chkFrom h l := by
  induction l with
  | nil => intro h i v _ hi; simp at hi
  | cons c r ih =>
    intro h i v hh hi hv hne
    have hc := okB_rd hl 0
    rw [rd_cons0] at hc
    cases i with
    | zero =>
      rw [List.set_cons_zero, chkFrom_step, chkFrom_step]
      intro e
      have := chkFrom_inj (okB_drop hl 1) (step_range _ _) (step_range _ _) e
      exact hne (step_inj_c hh hv hc this)
    | succ i =>
      rw [List.set_cons_succ, chkFrom_step, chkFrom_step]
      refine ih (okB_drop hl 1) i v (step_range _ _) (by simpa using hi) hv ?_
      have : rd (c :: r) ((i + 1 : Nat) : Int) = rd r (i : Int) := by simp [rd]
      rw [← this]
      exact hne
theorem chk_set {l : List Int} (hl : okB l = true) (i : Nat) (v : Int) (hi : i < l.length) (hv : 0 ≤ v ∧ v ≤ 255) (hne : v ≠ rd l (i : Int)) : chk (l.set i v) ≠ chk l := chkFrom_set hl i v (by decide) hi hv hne

/-! ### What is sealed -/
def sealedB (l : List Int) : List Int := blobB [] l ++ sealB l
theorem blob_len (l : List Int) : (blobB [] l).length = (numB (l.length : Int)).length + l.length := by unfold blobB; simp
theorem sealed_len (l : List Int) : (sealedB l).length = (numB (l.length : Int)).length + l.length + 8 := by unfold sealedB; rw [List.length_append, blob_len, sealB_len]
theorem shape_seal (l : List Int) (hl : l.length ≤ 1048576) : ∃ K, ∀ k, K ≤ k → shape_Seal.f k l = some (sealedB l, 0) := by
  obtain ⟨K, hK⟩ := check_f [l] (by simp) (by simp; omega)
  rw [show ([l] : List (List Int)).flatten = l by simp] at hK
  refine ⟨K, fun k hk => ?_⟩
  have hb := blob_f [] l (by simp; omega)
  have hc := hK k hk
  have he : shape_eight.f (chk l) = some (sealB l) := by unfold shape_eight.f sealB; rw [if_pos (chk_range _)]
  have hn := numB_len (isI64_len (d := l) (by omega))
  have hx := sealB_len l
  have hy := blob_len l
  unfold shape_Seal.f
  rw [if_neg (by omega), hb, Option.bind_some, hc, Option.bind_some, he, Option.bind_some, if_pos (by omega)]
  rfl
theorem shape_seal_long (l : List Int) (hl : 1048576 < l.length) (k : Nat) : shape_Seal.f k l = some ([], 3) := by
  unfold shape_Seal.f
  rw [if_pos (by omega)]
theorem unE_of {d t rest : List Int} (hd : d.length ≤ 1048576) (ht : t.length = 8) : unE (blobB [] d ++ (t ++ rest)) = (if sealB d = t then 0 else 12) ∧ takeSeal (blobB [] d ++ (t ++ rest)) = (if sealB d = t then (d, ((numB (d.length : Int)).length : Int) + (d.length : Int) + 8, 0) else ([], 0, 12)) := by
  obtain ⟨c1, c2, c3, c4⟩ := blob_back (d := d) (by omega) (t ++ rest) 1048576 8 (by omega) (by simp; omega) (by omega)
  have hy := blob_len d
  have htail : tail8 (blobB [] d ++ (t ++ rest)) = t := by
    unfold tail8
    rw [c3]
    have e1 : (((numB (d.length : Int)).length : Int) + (d.length : Int) + 8).toNat = (blobB [] d).length + t.length := by omega
    have e2 : (((numB (d.length : Int)).length : Int) + (d.length : Int)).toNat = (blobB [] d).length := by omega
    rw [e1, e2, List.take_length_add_append, List.drop_left]
    simp
  have hu : unE (blobB [] d ++ (t ++ rest)) = (if sealB d = t then 0 else 12) := by
    unfold unE
    rw [c1, c4, htail, if_neg (by simp)]
  refine ⟨hu, ?_⟩
  unfold takeSeal
  rw [hu, c3, c4]
  split <;> simp
theorem seal_back {d : List Int} (rest : List Int) (hd : d.length ≤ 1048576) : takeSeal (sealedB d ++ rest) = (d, ((sealedB d).length : Int), 0) := by
  have h := (unE_of (d := d) (t := sealB d) (rest := rest) hd (sealB_len d)).2
  have hl := sealed_len d
  rw [if_pos rfl] at h
  unfold sealedB at hl ⊢
  rw [List.append_assoc, h]
  congr 2
  omega
/-- A beginning of sealed bytes ends too early. -/
theorem seal_short {d : List Int} (hd : d.length ≤ 1048576) (m : Nat) (hm : m < (sealedB d).length) : takeSeal ((sealedB d).take m) = ([], 0, 10) := by
  have hi := isI64_len (d := d) (by omega)
  have hn := numB_len hi
  have hl := sealed_len d
  have hlow := lowB_len _ 8 (mag_lt hi)
  have hcons : sealedB d = (2 * ((lowB (mag d.length)).length : Int)) :: (lowB (mag d.length) ++ (d ++ sealB d)) := by
    unfold sealedB blobB
    rw [List.nil_append]
    unfold numB
    rw [if_neg (by omega)]
    simp
  have hnb : (numB (d.length : Int)).length = (lowB (mag d.length)).length + 1 := by unfold numB; simp
  have hb : blE ((sealedB d).take m) 1048576 8 = 10 := by
    rcases Nat.lt_or_ge m ((numB (d.length : Int)).length) with hs | hs
    · have ht : tkE ((sealedB d).take m) = 10 := by
        cases m with
        | zero => rfl
        | succ m =>
          rw [hcons, List.take_succ_cons]
          unfold tkE
          have hr : rd (2 * ((lowB (mag d.length)).length : Int) :: (lowB (mag d.length) ++ (d ++ sealB d)).take m) 0 = 2 * ((lowB (mag d.length)).length : Int) := rfl
          rw [if_neg (by simp), hr, if_neg (by omega), if_pos]
          unfold tkK
          rw [hr, List.length_cons, List.length_take]
          omega
      unfold blE
      rw [ht, if_pos (by decide)]
    · have e : (sealedB d).take m = numB (d.length : Int) ++ (d ++ sealB d).take (m - (numB (d.length : Int)).length) := by
        have e0 : sealedB d = numB (d.length : Int) ++ (d ++ sealB d) := by unfold sealedB blobB; simp
        rw [e0, List.take_append, List.take_of_length_le hs]
      obtain ⟨h1, h2, h3⟩ := form_back hi ((d ++ sealB d).take (m - (numB (d.length : Int)).length))
      have hlen : ((sealedB d).take m).length = m := by rw [List.length_take]; omega
      rw [e] at hlen ⊢
      unfold blE
      rw [h1, h2, h3, hlen, if_neg (by omega), if_neg (by omega), if_neg (by omega), if_pos (by omega)]
  have hu : unE ((sealedB d).take m) = 10 := by unfold unE; rw [hb, if_pos (by decide)]
  unfold takeSeal
  rw [hu, if_neg (by decide)]
/-- One byte changed, behind the number, is seen. -/
theorem seal_changed {d : List Int} (hok : okB d = true) (hd : d.length ≤ 1048576) (i : Nat) (v : Int) (hi : i < d.length + 8) (hv : 0 ≤ v ∧ v ≤ 255) (hne : v ≠ rd (sealedB d) (((numB (d.length : Int)).length + i : Nat) : Int)) :
    takeSeal ((sealedB d).set ((numB (d.length : Int)).length + i) v) = ([], 0, 12) := by
  have e0 : sealedB d = numB (d.length : Int) ++ (d ++ sealB d) := by unfold sealedB blobB; simp
  have hs8 := sealB_len d
  have hrd : rd (sealedB d) (((numB (d.length : Int)).length + i : Nat) : Int) = rd (d ++ sealB d) (i : Int) := by
    rw [e0]
    unfold rd
    rw [Int.toNat_natCast, Int.toNat_natCast, List.getD_eq_getElem?_getD, List.getD_eq_getElem?_getD, List.getElem?_append_right (by omega)]
    congr 2
    omega
  rw [hrd] at hne
  have hset : (sealedB d).set ((numB (d.length : Int)).length + i) v = numB (d.length : Int) ++ (d ++ sealB d).set i v := by
    rw [e0, List.set_append_right _ _ (by omega)]
    congr 2
    omega
  rw [hset]
  rcases Nat.lt_or_ge i d.length with hlt | hge
  · rw [List.set_append_left _ _ hlt]
    have e1 : numB (d.length : Int) ++ (d.set i v ++ sealB d) = blobB [] (d.set i v) ++ (sealB d ++ []) := by unfold blobB; rw [List.length_set]; simp
    have hr : rd (d ++ sealB d) (i : Int) = rd d (i : Int) := by
      unfold rd
      rw [Int.toNat_natCast, List.getD_eq_getElem?_getD, List.getD_eq_getElem?_getD, List.getElem?_append_left hlt]
    rw [hr] at hne
    have h := (unE_of (d := d.set i v) (t := sealB d) (rest := []) (by rw [List.length_set]; exact hd) hs8).2
    rw [if_neg (fun e => chk_set hok i v hlt hv hne (sealB_inj e))] at h
    rw [e1, h]
  · rw [List.set_append_right _ _ hge]
    have e1 : numB (d.length : Int) ++ (d ++ (sealB d).set (i - d.length) v) = blobB [] d ++ ((sealB d).set (i - d.length) v ++ []) := by unfold blobB; simp
    have hr : rd (d ++ sealB d) (i : Int) = rd (sealB d) ((i - d.length : Nat) : Int) := by
      unfold rd
      rw [Int.toNat_natCast, Int.toNat_natCast, List.getD_eq_getElem?_getD, List.getD_eq_getElem?_getD, List.getElem?_append_right hge]
    rw [hr] at hne
    have h := (unE_of (d := d) (t := (sealB d).set (i - d.length) v) (rest := []) hd (by rw [List.length_set]; exact hs8)).2
    rw [if_neg] at h
    · rw [e1, h]
    · intro e
      apply hne
      conv => rhs; rw [e]
      unfold rd
      rw [Int.toNat_natCast, List.getD_eq_getElem?_getD, List.getElem?_set_self (by omega)]
      rfl
theorem sealed_ok {d : List Int} (h : okB d = true) (hd : d.length ≤ 1048576) : okB (sealedB d) = true := okB_append (blobB_ok rfl h (by omega)) (sealB_ok d)
end Go.Proofs.Ytdapnponlmimaaa.M
