/- make([]T, 0, n): an empty row of one's own that has room. -/
import Derived.Test.YtdapnponlmimaaaWWords
set_option linter.unusedVariables false
set_option linter.unusedSimpArgs false
namespace Go.Proofs.Ytdapnponlmimaaa.M
open Go.RowKit Go.Proofs.YtdapnponlmimaaaW.PrintWords Go.Proofs.YtdapnponlmimaaaW.PrintWords.Kd
variable {P : Program} {ops : Array Oper} {rest : List Oper} {o : Oper} {a : Act} {Q : Exit → Act → World → Prop} {α : Type}
theorem R_make0 (d : Kd α) {w0 W : World} (base e : Nat) (hgd : o.guard = none) {N : Tmp} (hd : o.dst = some N) (t : TypeId) (x y : Operand) (ho : o.op = .makeSlice t x y) (n : Int) (hx : a.eval x = .int .i64 0) (hy : a.eval y = .int .i64 n)
    (ht : P.underlying t = some (.slice e)) (z : Value) (bytes : Nat) (hinfo : (P.info? e).map (fun i => (i.zero, i.size, i.bytes)) = some (some z, d.sz, bytes)) (hz : z.cells.size = d.sz) (hs0 : 0 < d.sz) (hb0 : 0 < bytes)
    (z0 : α) {ok okp : Nat → Prop} (hzero : d.M W base okp z0 z.cells.toList) (hok : ∀ k, okp k → ok k) (hfresh : ok W.heap.size) (h0 : 0 ≤ n) (hl : n.toNat * bytes ≤ 281474976710656) (HB : Below base w0 W) (hbase : base ≤ W.heap.size)
    (h : ∀ v1 w1, d.R e w1 base ok v1 (List.replicate 0 z0) → Below base w0 w1 → W.grownBy w1 none → (∃ b, v1.ownBlock = some b ∧ W.heap.size ≤ b) → wpList P ops Q rest (a.put o.dst v1) w1) : wpList P ops Q (o :: rest) a W := by
  obtain ⟨m, rfl⟩ := Int.eq_ofNat_of_zero_le h0
  simp only [Int.toNat_natCast] at hl
  obtain ⟨i0, hi, hzz⟩ := Option.map_eq_some_iff.1 hinfo
  simp only [Prod.mk.injEq] at hzz
  obtain ⟨hz0, hz1, hz2⟩ := hzz
  have hm : m ≤ 281474976710656 := Nat.le_trans (Nat.le_mul_of_pos_right _ hb0) hl
  have hr := run_make (P := P) W t e i0 z ht hi hz0 .i64 .i64 0 (m : Int) (by omega) (by omega)
    (by
      have h3 : ((i0.bytes * m : Nat) : Int) ≤ 281474976710656 := by rw [hz2, Nat.mul_comm]; omega
      rwa [Int.natCast_mul] at h3) (by omega)
  simp only [Int.toNat_natCast, Int.toNat_zero] at hr
  rw [hz1] at hr
  have hrep := reps_made hz hs0 hzero m
  have big : d.R e (W.alloc (.cells (madeCells z.cells (m * d.sz)) e)) base ok (.slice (some ⟨W.heap.size, 0, none⟩) m m) (List.replicate m z0) := by
    refine ⟨fun k hk => ?_, (madeCells z.cells (m * d.sz)).toList, ?_, ?_⟩
    · have : W.heap.size = k := by simpa [Value.ownBlock] using hk
      subst this
      exact hfresh
    · have h2 := World.ownsRow_lit (base := base) (e := e) (size := d.sz) W (madeCells z.cells (m * d.sz)) m hbase (by simp [maxLen]; omega) (by simpa using hrep.1)
      simpa using h2
    · refine hrep.imp_ (fun p c hp => d.M_mono (fun k hk => ⟨hok k hk.1, fun he => ?_⟩) (M_below (d.M_bound hp) (below_alloc (Below.refl _ _) _)))
      have h3 : k = W.heap.size := by simpa [Value.ownBlock] using he
      have := hk.2.2.1
      omega
  have small := R_take (m := 0) big (by omega)
  rw [List.take_zero] at small
  refine event_run hgd ?_ (h _ _ (by simpa using small) (HB.alloc hbase _) (World.grownBy_alloc W _ none) ⟨W.heap.size, by simp [Value.ownBlock], Nat.le_refl _⟩)
  simp [execOp, ho, hx, hy, hr]
theorem freeze_cell (W : World) (b : Addr) (n : Nat) (p : Addr) : (W.freeze b n).cell? p = W.cell? p := by
  unfold World.freeze
  split
  · rfl
  · unfold World.cell?
    simp only [Array.getElem?_modify]
    by_cases h : b.block = p.block
    · rw [if_pos h]
      cases W.heap[p.block]? with
      | none => rfl
      | some ob => cases ob <;> rfl
    · rw [if_neg h]
theorem freeze_heap (W : World) (b : Addr) (n i : Nat) (h : i ≠ b.block) : (W.freeze b n).heap[i]? = W.heap[i]? := by
  unfold World.freeze
  split
  · rfl
  · simp only [Array.getElem?_modify]
    rw [if_neg (fun e => h e.symm)]
theorem freeze_size (W : World) (b : Addr) (n : Nat) : (W.freeze b n).heap.size = W.heap.size := by
  unfold World.freeze
  split <;> simp
theorem freeze_rest (W : World) (b : Addr) (n : Nat) : (W.freeze b n).os = W.os ∧ (W.freeze b n).tape = W.tape ∧ (W.freeze b n).output = W.output := by
  unfold World.freeze
  split <;> exact ⟨rfl, rfl, rfl⟩
/-- []byte("abc") of a constant: the literal's row gets a mark; it is read as before. -/
theorem conv_const {W : World} (hgd : o.guard = none) (t e : TypeId) (x : Operand) (ho : o.op = .convert t t x) (ht : P.underlying t = some (.slice e)) (he : P.underlying e = some (.int .u8)) (base : Nat) (ok : Nat → Prop) (A : Option Addr) (n c : Nat) (l : List Int)
    (hx : a.eval x = .slice A n c) (HO : Kd.R (Kd.int .u8) e W base ok (.slice A n c) l) (hn : 0 < l.length)
    (h : ∀ w1, W.grownBy w1 (Value.slice A n c).ownBlock → Kd.C (Kd.int .u8) w1 A l.length l → (∀ k, (Value.slice A n c).ownBlock = some k → k < w1.heap.size) → Below base W w1 → wpList P ops Q rest (a.put o.dst (.slice A n c)) w1) : wpList P ops Q (o :: rest) a W := by
  have hlt := Kd.R_lt HO
  have hread := (Kd.R_reads' HO)
  have hbase : ∀ k, (Value.slice A n c).ownBlock = some k → base ≤ k := Kd.R_base HO
  cases A with
  | none =>
    obtain ⟨_, h1⟩ := Kd.reads_of_C (enc := Value.int .u8) (d := (0 : Int)) (h1 := fun _ => rfl) hread.2.2
    obtain ⟨h2, h3⟩ := h1
    obtain ⟨ad, e1, _⟩ := h3 hn
    cases e1
  | some ad =>
    have key : ∃ w1, (convert t t (.slice (some ad) n c)).run P W = .ok (.slice (some ad) n c) w1 ∧ (∀ p, w1.cell? p = W.cell? p) ∧ (∀ i, i ≠ ad.block → w1.heap[i]? = W.heap[i]?) ∧ w1.heap.size = W.heap.size ∧ w1.os = W.os ∧ w1.tape = W.tape ∧ w1.output = W.output := by
      cases hs : W.shape? ad.block with
      | none => exact ⟨W, by simp [convert, run_underlying ht, run_underlying he, markStringish, hs], fun _ => rfl, fun _ _ => rfl, rfl, rfl, rfl, rfl⟩
      | some q =>
        obtain ⟨e', m⟩ := q
        obtain ⟨r1, r2, r3⟩ := freeze_rest W ⟨ad.block, m, none⟩ 1
        exact ⟨W.freeze ⟨ad.block, m, none⟩ 1, by simp [convert, run_underlying ht, run_underlying he, markStringish, hs], fun p => freeze_cell _ _ _ p, fun i hi => freeze_heap _ _ _ _ hi, freeze_size _ _ _, r1, r2, r3⟩
    obtain ⟨w1, hrun, hc, hh, hz, e1, e2, e3⟩ := key
    have hown : (Value.slice (some ad) n c).ownBlock = some ad.block := rfl
    refine event_run hgd (w1 := w1) (v := .slice (some ad) n c) (by simp [execOp, ho, hx, hrun]) (h w1 ⟨e1, e2, e3, Nat.le_of_eq hz.symm, fun i _ hne => hh i (fun e => hne (by rw [hown, e]))⟩ ?_ (fun k hk => by rw [hz]; exact hlt k hk) ⟨e1, e2, e3, Nat.le_of_eq hz.symm, fun i hi => hh i (fun e => ?_)⟩)
    · obtain ⟨h1, h2, h3⟩ := Kd.reads_of_C (enc := Value.int .u8) (d := (0 : Int)) (h1 := fun _ => rfl) hread.2.2
      refine Kd.C_of_reads (d := (0 : Int)) (h1 := fun _ => rfl) ⟨h1, h2, fun hp => ?_⟩
      obtain ⟨ad', e, hcell⟩ := h3 hp
      exact ⟨ad', e, fun j hj => (hc _).trans (hcell j hj)⟩
    · have := hbase ad.block hown
      omega
end Go.Proofs.Ytdapnponlmimaaa.M
