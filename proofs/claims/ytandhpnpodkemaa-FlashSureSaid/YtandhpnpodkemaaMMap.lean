/- Maps of the call's own as partial functions: keys of any type, elements as the values they are. -/
import Derived.Maps.OwnSet
import Derived.Maps.OwnOps
import Derived.Maps.RangeWalk
import Derived.Maps.Views
import Derived.DeepKeys4
import Derived.KernelRfl
set_option linter.unusedVariables false
set_option linter.unusedSimpArgs false
namespace Go.Proofs.Ytandhpnpodkemaa.M
open Go.RowKit Go.Maps

/-- An element is read as the value it is. -/
def idE (v : Value) : Option (DataW Value × List MemPlace) := some (.held v, [])
/-- Keys of type k: the values mk x of the x that are well. -/
structure KeyT {α : Type} (P : Program) (k : TypeId) (mk : α → Value) (wf : α → Prop) : Prop where
  K : Keyed P k
  to : ∀ x, wf x → ∃ kl, keyOf P k (mk x) = some kl
  from_ : ∀ v kl, keyOf P k v = some kl → ∃ x, wf x ∧ v = mk x
  inj : ∀ x y, mk x = mk y → x = y
/-- Block b is a map of at most n entries: at x it has M x; sz: how many there are. -/
def IsM {α : Type} (P : Program) (k : TypeId) (mk : α → Value) (w : World) (b n : Nat) (M : α → Option Value) (sz : Nat) : Prop :=
  ∃ D : DataW Value, w.ownsMap P k idE b n D ∧ Maps.size D = sz ∧ ∀ x kl, keyOf P k (mk x) = some kl → (∀ z, D.atKey kl (.held z) = .held ((M x).getD z)) ∧ Maps.has D kl = (M x).isSome
section
variable {α : Type} {P : Program} {k e t : TypeId} {mk : α → Value} {wf : α → Prop} {w w' : World} {b n sz : Nat} {M : α → Option Value}
theorem IsM.lt (h : IsM P k mk w b n M sz) : b < w.heap.size := by obtain ⟨D, h1, _⟩ := h; exact h1.lt
theorem IsM.move (h : IsM P k mk w b n M sz) (hb : w'.heap[b]? = w.heap[b]?) : IsM P k mk w' b n M sz := by
  obtain ⟨D, ⟨es, clock, h1, h2⟩, h3⟩ := h
  exact ⟨D, ⟨es, clock, hb.trans h1, h2⟩, h3⟩
theorem IsM.below (h : IsM P k mk w b n M sz) (hb : Below w.heap.size w w') : IsM P k mk w' b n M sz := h.move (hb.block b h.lt)
theorem IsM.alloc (h : IsM P k mk w b n M sz) (o : Obj) : IsM P k mk (w.alloc o) b n M sz := h.move (Below.heap_alloc w o b h.lt)
theorem IsM.mono (h : IsM P k mk w b n M sz) {n' : Nat} (hn : n ≤ n') : IsM P k mk w b n' M sz := by obtain ⟨D, h1, h2⟩ := h; exact ⟨D, h1.mono hn, h2⟩
theorem IsM.sz_le (h : IsM P k mk w b n M sz) : sz ≤ n := by obtain ⟨D, h1, rfl, _⟩ := h; exact h1.size_le
theorem isM_made (w : World) (P : Program) (k : TypeId) (mk : α → Value) : IsM P k mk (w.alloc (.map #[] 0)) w.heap.size 0 (fun _ => none) 0 :=
  ⟨.map [], World.ownsMap_made w P k idE, rfl, fun x kl _ => ⟨fun z => rfl, rfl⟩⟩
theorem IsM.get (h : IsM P k mk w b n M sz) (hk : KeyT P k mk wf) (ht : P.underlying t = some (.map k e)) {z : Value} (hz : ∀ u : World, (zeroValue e).run P u = .ok z u) {x : α} (hx : wf x) :
    (Instr.lookup t (.map (some b)) (mk x) false).run P w = .ok ((M x).getD z) w := by
  obtain ⟨D, h1, h2, h3⟩ := h
  obtain ⟨kl, hkl⟩ := hk.to x hx
  obtain ⟨v, ps, hrun, hv⟩ := h1.lookup hk.K ht (hz w) (zd := .held z) (zp := []) rfl hkl
  rw [(h3 x kl hkl).1 z] at hv
  simp only [idE, Option.some.injEq, Prod.mk.injEq, DataW.held.injEq] at hv
  rw [hrun, hv.1]
theorem IsM.get_ok (h : IsM P k mk w b n M sz) (hk : KeyT P k mk wf) (ht : P.underlying t = some (.map k e)) {z : Value} (hz : ∀ u : World, (zeroValue e).run P u = .ok z u) {x : α} (hx : wf x) :
    (Instr.lookup t (.map (some b)) (mk x) true).run P w = .ok (.tuple #[(M x).getD z, .bool (M x).isSome]) w := by
  obtain ⟨D, h1, h2, h3⟩ := h
  obtain ⟨kl, hkl⟩ := hk.to x hx
  obtain ⟨v, ps, hrun, hv⟩ := h1.look_ok hk.K ht (hz w) (zd := .held z) (zp := []) rfl hkl
  rw [(h3 x kl hkl).1 z] at hv
  simp only [idE, Option.some.injEq, Prod.mk.injEq, DataW.held.injEq] at hv
  rw [hrun, hv.1, (h3 x kl hkl).2]
theorem KeyT.ne (hk : KeyT P k mk wf) {x y : α} {a c : Lit} (ha : keyOf P k (mk x) = some a) (hc : keyOf P k (mk y) = some c) (hne : x ≠ y) : a ≠ c := by
  rintro rfl
  exact hne (hk.inj x y (hk.K.inj ha hc))
theorem IsM.put [DecidableEq α] (h : IsM P k mk w b n M sz) (hk : KeyT P k mk wf) (ht : P.underlying t = some (.map k e)) (hn : n < maxLen) {x : α} (hx : wf x) (v : Value) :
    ∃ w', (Instr.mapUpdate t (.map (some b)) (mk x) v).run P w = .ok () w' ∧ IsM P k mk w' b (n + 1) (fun y => if y = x then some v else M y) (if (M x).isSome then sz else sz + 1) ∧ w.grownBy w' (some b) := by
  obtain ⟨D, h1, h2, h3⟩ := h
  obtain ⟨kl, hkl⟩ := hk.to x hx
  obtain ⟨w', hrun, h4, h5⟩ := h1.update hk.K ht hn hkl (val := v) (d := .held v) (ps := []) rfl
  refine ⟨w', hrun, ⟨_, h4, ?_, fun y kl' hy => ?_⟩, h5⟩
  · rw [Maps.size_put (h1.tidy hk.K), (h3 x kl hkl).2, h2]
  · by_cases e : y = x
    · subst e
      rw [hkl] at hy
      cases hy
      simp only [if_true]
      exact ⟨fun z => Maps.atKey_put_same h1.isMap (hk.K.key hkl) _ _, Maps.has_put_same h1.isMap (hk.K.key hkl) _⟩
    · simp only [if_neg e]
      have hne := hk.ne hy hkl e
      exact ⟨fun z => by rw [Maps.atKey_put_other hne]; exact (h3 y kl' hy).1 z, by rw [Maps.has_put_other hne]; exact (h3 y kl' hy).2⟩
theorem IsM.del [DecidableEq α] (h : IsM P k mk w b n M sz) (hk : KeyT P k mk wf) (ht : P.underlying t = some (.map k e)) {x : α} (hx : wf x) (ty : TypeId) :
    ∃ w', (Builtin.delete_ #[t, k] ty #[.map (some b), mk x]).run P w = .ok (.tuple #[]) w' ∧ IsM P k mk w' b n (fun y => if y = x then none else M y) (if (M x).isSome then sz - 1 else sz) ∧ w.grownBy w' (some b) := by
  obtain ⟨D, h1, h2, h3⟩ := h
  obtain ⟨kl, hkl⟩ := hk.to x hx
  obtain ⟨w', hrun, h4, h5⟩ := h1.drop hk.K ht hkl ty
  refine ⟨w', hrun, ⟨_, h4, ?_, fun y kl' hy => ?_⟩, h5.grown⟩
  · have := Maps.size_del (k := kl) (h1.tidy hk.K)
    rw [(h3 x kl hkl).2, h2] at this
    split <;> simp_all <;> omega
  · by_cases e : y = x
    · subst e
      rw [hkl] at hy
      cases hy
      simp only [if_true]
      exact ⟨fun z => Maps.atKey_del_same _, Maps.has_del_same⟩
    · simp only [if_neg e]
      have hne := hk.ne hy hkl e
      exact ⟨fun z => by rw [Maps.atKey_del_other hne]; exact (h3 y kl' hy).1 z, by rw [Maps.has_del_other hne]; exact (h3 y kl' hy).2⟩
theorem IsM.len (h : IsM P k mk w b n M sz) (ht : P.underlying t = some (.map k e)) (ty : TypeId) : (Builtin.len_ #[t] ty #[.map (some b)]).run P w = .ok (.int .i64 sz) w := by
  obtain ⟨D, h1, rfl, h3⟩ := h
  exact h1.len ht ty
end

/-! ### at the operation -/
section
variable {α : Type} {P : Program} {k e : TypeId} {mk : α → Value} {wf : α → Prop} {b n sz : Nat} {M : α → Option Value} (w : World) {ops : Array Oper} {rest : List Oper} {o : Oper} {a : Act} {Q : Exit → Act → World → Prop}
theorem m_get (h : IsM P k mk w b n M sz) (hk : KeyT P k mk wf) (t : TypeId) (ht : P.underlying t = some (.map k e)) {z : Value} (hz : ∀ u : World, (zeroValue e).run P u = .ok z u) (hg : o.guard = none) (m y : Operand) (hop : o.op = Op.lookup t m y false)
    (x : α) (hx : wf x) (hm : a.eval m = .map (some b)) (hy : a.eval y = mk x) (hK : wpList P ops Q rest (a.put o.dst ((M x).getD z)) w) : wpList P ops Q (o :: rest) a w := by
  refine wpList_plain hg fun K' hK' => ?_
  unfold Oper.wp
  simp [execOp, hop, hm, hy, h.get hk ht hz hx, Result.andThen]
  exact hK' _ _ hK
theorem m_get_ok (h : IsM P k mk w b n M sz) (hk : KeyT P k mk wf) (t : TypeId) (ht : P.underlying t = some (.map k e)) {z : Value} (hz : ∀ u : World, (zeroValue e).run P u = .ok z u) (hg : o.guard = none) (m y : Operand) (hop : o.op = Op.lookup t m y true)
    (x : α) (hx : wf x) (hm : a.eval m = .map (some b)) (hy : a.eval y = mk x) (hK : wpList P ops Q rest (a.put o.dst (.tuple #[(M x).getD z, .bool (M x).isSome])) w) : wpList P ops Q (o :: rest) a w := by
  refine wpList_plain hg fun K' hK' => ?_
  unfold Oper.wp
  simp [execOp, hop, hm, hy, h.get_ok hk ht hz hx, Result.andThen]
  exact hK' _ _ hK
theorem m_get_no (h : IsM P k mk w b n M sz) (hk : KeyT P k mk wf) (t : TypeId) (ht : P.underlying t = some (.map k e)) {z : Value} (hz : ∀ u : World, (zeroValue e).run P u = .ok z u) (hg : o.guard = none) (m y : Operand) (hop : o.op = Op.lookup t m y true)
    (x : α) (hx : wf x) (hM : M x = none) (hm : a.eval m = .map (some b)) (hy : a.eval y = mk x) (hK : wpList P ops Q rest (a.put o.dst (.tuple #[z, .bool false])) w) : wpList P ops Q (o :: rest) a w :=
  m_get_ok w h hk t ht hz hg m y hop x hx hm hy (by rw [hM]; exact hK)
theorem m_get_yes (h : IsM P k mk w b n M sz) (hk : KeyT P k mk wf) (t : TypeId) (ht : P.underlying t = some (.map k e)) {z : Value} (hz : ∀ u : World, (zeroValue e).run P u = .ok z u) (hg : o.guard = none) (m y : Operand) (hop : o.op = Op.lookup t m y true)
    (x : α) (hx : wf x) {v : Value} (hM : M x = some v) (hm : a.eval m = .map (some b)) (hy : a.eval y = mk x) (hK : wpList P ops Q rest (a.put o.dst (.tuple #[v, .bool true])) w) : wpList P ops Q (o :: rest) a w :=
  m_get_ok w h hk t ht hz hg m y hop x hx hm hy (by rw [hM]; exact hK)
theorem m_put [DecidableEq α] (h : IsM P k mk w b n M sz) (hk : KeyT P k mk wf) (t : TypeId) (ht : P.underlying t = some (.map k e)) (hn : n < maxLen) (hg : o.guard = none) (m y v : Operand) (hop : o.op = Op.mapUpdate t m y v)
    (x : α) (hx : wf x) (val : Value) (hm : a.eval m = .map (some b)) (hy : a.eval y = mk x) (hv : a.eval v = val)
    (hK : ∀ w', IsM P k mk w' b (n + 1) (fun y => if y = x then some val else M y) (if (M x).isSome then sz else sz + 1) → w.grownBy w' (some b) → wpList P ops Q rest (a.put o.dst undef) w') : wpList P ops Q (o :: rest) a w := by
  refine wpList_plain hg fun K' hK' => ?_
  obtain ⟨w', hrun, h1, h2⟩ := h.put hk ht hn hx val
  unfold Oper.wp
  simp [execOp, hop, hm, hy, hv, hrun, Result.andThen]
  exact hK' _ _ (hK w' h1 h2)
theorem m_del [DecidableEq α] (h : IsM P k mk w b n M sz) (hk : KeyT P k mk wf) (t : TypeId) (ht : P.underlying t = some (.map k e)) (hg : o.guard = none) (m y : Operand) (hop : o.op = Op.call { callee := Callee.builtin Builtin.delete, args := #[m, y], argTypes := #[t, k] })
    (x : α) (hx : wf x) (hm : a.eval m = .map (some b)) (hy : a.eval y = mk x)
    (hK : ∀ w', IsM P k mk w' b n (fun y => if y = x then none else M y) (if (M x).isSome then sz - 1 else sz) → w.grownBy w' (some b) → wpList P ops Q rest (a.put o.dst (.tuple #[])) w') : wpList P ops Q (o :: rest) a w := by
  refine wpList_plain hg fun K' hK' => ?_
  obtain ⟨w', hrun, h1, h2⟩ := h.del hk ht hx o.type
  unfold Oper.wp
  simp [execOp, hop, resolve, invoke, builtin, hm, hy, hrun, Result.andThen]
  exact hK' _ _ (hK w' h1 h2)
end

/-! ### a range over it -/
/-- Block r is a walk over the map b; L x: is x still to come; cnt: how many are. -/
def IsMR {α : Type} (P : Program) (k : TypeId) (mk : α → Value) (w : World) (b r n : Nat) (M : α → Option Value) (sz : Nat) (L : α → Bool) (cnt : Nat) : Prop :=
  ∃ (D : DataW Value) (left : Lit → Bool), w.ranges P k idE b r n D left cnt ∧ Maps.size D = sz ∧ ∀ x kl, keyOf P k (mk x) = some kl → ((∀ z, D.atKey kl (.held z) = .held ((M x).getD z)) ∧ Maps.has D kl = (M x).isSome) ∧ left kl = L x
section
variable {α : Type} {P : Program} {k e : TypeId} {mk : α → Value} {wf : α → Prop} {b r n sz cnt : Nat} {M : α → Option Value} {L : α → Bool} {w w' : World}
theorem IsMR.map (h : IsMR P k mk w b r n M sz L cnt) : IsM P k mk w b n M sz := by
  obtain ⟨D, left, h1, h2, h3⟩ := h
  exact ⟨D, h1.owns, h2, fun x kl hx => (h3 x kl hx).1⟩
theorem IsMR.left_eq (h : IsMR P k mk w b r n M sz L cnt) : w.rangeLeft b r = cnt := by obtain ⟨D, left, h1, _⟩ := h; exact h1.left_eq
theorem IsMR.lt (h : IsMR P k mk w b r n M sz L cnt) : r < w.heap.size := by obtain ⟨D, left, h1, _⟩ := h; exact h1.lt
theorem IsMR.ne (h : IsMR P k mk w b r n M sz L cnt) : r ≠ b := by obtain ⟨D, left, h1, _⟩ := h; exact h1.ne
theorem IsMR.kept (h : IsMR P k mk w b r n M sz L cnt) {row : Option Nat} (hg : w.grownBy w' row) (hb : some b ≠ row) (hr : some r ≠ row) : IsMR P k mk w' b r n M sz L cnt := by
  obtain ⟨D, left, h1, h2⟩ := h
  exact ⟨D, left, h1.kept hg hb hr, h2⟩
theorem IsMR.below (h : IsMR P k mk w b r n M sz L cnt) (hb : Below w.heap.size w w') : IsMR P k mk w' b r n M sz L cnt :=
  h.kept (row := none) ⟨hb.os, hb.tape, hb.output, hb.size, fun i hi _ => hb.block i hi⟩ (by simp) (by simp)
end
section
variable {α : Type} {P : Program} {k e : TypeId} {mk : α → Value} {wf : α → Prop} {b r n sz cnt : Nat} {M : α → Option Value} {L : α → Bool} (w : World) {ops : Array Oper} {rest : List Oper} {o : Oper} {a : Act} {Q : Exit → Act → World → Prop}
theorem m_range (h : IsM P k mk w b n M sz) (hk : KeyT P k mk wf) (t : TypeId) (ht : P.underlying t = some (.map k e)) (hg : o.guard = none) (m : Operand) (hop : o.op = Op.range t m) (hm : a.eval m = .map (some b))
    (hK : ∀ w', IsMR P k mk w' b w.heap.size n M sz (fun x => (M x).isSome) sz → w.grownBy w' none → w'.heap.size = w.heap.size + 1 → wpList P ops Q rest (a.put o.dst (.pointer (some ⟨w.heap.size, 0, none⟩))) w') : wpList P ops Q (o :: rest) a w := by
  obtain ⟨D, h1, h2, h3⟩ := h
  refine wpList_range_own w hg m t hop k e hk.K ht idE b n D hm h1 fun w' h4 h5 h6 => ?_
  rw [h2] at h4
  exact hK w' ⟨D, _, h4, h2, fun x kl hx => ⟨h3 x kl hx, (h3 x kl hx).2⟩⟩ h5 h6
theorem m_next [DecidableEq α] (h : IsMR P k mk w b r n M sz L cnt) (hk : KeyT P k mk wf) (hg : o.guard = none) (it : Operand) (hop : o.op = Op.next it false) (hit : a.eval it = .pointer (some ⟨r, 0, none⟩))
    (hDone : cnt = 0 → (∀ x, wf x → L x = false) → wpList P ops Q rest (a.put o.dst (.tuple #[.bool false])) w)
    (hMore : ∀ (x : α) (v : Value) (w' : World) (cnt' : Nat), wf x → M x = some v → L x = true → IsMR P k mk w' b r n M sz (fun y => L y && !decide (y = x)) cnt' → cnt' < cnt → w.grownBy w' (some r) → w'.heap.size = w.heap.size →
      (Instr.entry (.pointer (some ⟨r, 0, none⟩))).run P w' = .ok (.tuple #[mk x, v]) w' → wpList P ops Q rest (a.put o.dst (.tuple #[.bool true, mk x, v])) w') : wpList P ops Q (o :: rest) a w := by
  obtain ⟨D, left, h1, h2, h3⟩ := h
  refine wpList_next_ranges w hg it hop k hk.K idE mk id (fun v kl hv => by obtain ⟨x, _, e⟩ := hk.from_ v kl hv; exact ⟨x, e⟩) (fun v y hv => ⟨v, rfl⟩) b r n D left cnt hit h1 (fun h0 hl => hDone h0 (fun x hx => ?_)) ?_
  · obtain ⟨kl, hkl⟩ := hk.to x hx
    rw [← (h3 x kl hkl).2]
    exact hl kl
  · intro x v kl y w' cnt' hkl hlk hv hat hrg hlt hgr hsz hen
    simp only [idE, id, Option.some.injEq] at hv
    subst hv
    have hM : M x = some v := by
      have e1 := (h3 x kl hkl).1.1 (.bool true)
      have e2 := (h3 x kl hkl).1.1 (.bool false)
      rw [hat] at e1 e2
      simp only [DataW.held.injEq] at e1 e2
      cases hm : M x with
      | none =>
        rw [hm] at e1 e2
        simp only [Option.getD_none] at e1 e2
        rw [e1] at e2
        cases e2
      | some u =>
        rw [hm] at e1
        simp only [Option.getD_some] at e1
        rw [e1]
    obtain ⟨x', hx', e⟩ := hk.from_ _ kl hkl
    have := hk.inj _ _ e
    subst this
    refine hMore x v w' cnt' hx' hM (by rw [← (h3 x kl hkl).2]; exact hlk) ⟨D, _, hrg, h2, fun z kz hz => ⟨(h3 z kz hz).1, ?_⟩⟩ hlt hgr hsz hen
    rw [(h3 z kz hz).2]
    congr 1
    congr 1
    by_cases e : z = x
    · subst e
      rw [hkl] at hz
      cases hz
      simp
      cases hq : kl.sameKey kl with
      | true => rfl
      | false =>
        exfalso
        have := hk.K.key hkl
        exact absurd hq (by simpa using (WideAt.sameKey_self this))
    · simp only [e, decide_false]
      exact Maps.sameKey_ne (hk.ne hz hkl e)
end
end Go.Proofs.Ytandhpnpodkemaa.M
