/- SequencerOwnUptoSaid: contracts of the functions that the law goes through, put together in build order (part 4 of 5). -/
import Derived.Test.YtgmlpmdfkaadhaaPart2
import Derived.Laws.ResultCell
import Derived.Maps.OwnSet
import Derived.Maps.OwnOps
import Derived.Maps.RangeWalk
import Derived.Maps.Views
import Derived.DeepKeys4
import Derived.KernelRfl
import Derived.Laws.Rows
import Derived.WalkKit
import Derived.Laws.CopyRow
import Derived.Laws.MakeOwn
set_option linter.unusedVariables false
set_option linter.unusedSimpArgs false
set_option maxRecDepth 100000
section
/- A sequencer that no call made: what its methods answer. -/
namespace Go.Proofs.Ytgmlpmdfkaadhaa.M
open Go.RowKit Go.Proofs.YtgmlpmdfkaadhaaW.PrintWords Go.Proofs.YtgmlpmdfkaadhaaW.PrintLast Go.Proofs.YtgmlpmdfkaadhaaW.PrintMore Go.Proofs.Ytgmlpmdfkaadhaa.G
def NoSq (W : World) (v : Value) : Prop := v = .pointer none ∨ ∃ g, v = .pointer (some ⟨g, 0, none⟩) ∧ W.cell? ⟨g, 0, none⟩ = some (.bool false)
theorem NoSq.below {w W : World} {v : Value} (h : NoSq w v) (hb : Below w.heap.size w W) : NoSq W v := by
 rcases h with h | ⟨g, h, h0⟩
 ·exact .inl h
 ·exact .inr ⟨g, h, (hb.cell (World.block_lt_of_cell? w _ h0)).trans h0⟩
end Go.Proofs.Ytgmlpmdfkaadhaa.M
end

section
/- Maps of the call's own as partial functions: keys of any type, elements as the values they are. -/
namespace Go.Proofs.Ytgmlpmdfkaadhaa.M
open Go.RowKit Go.Maps
def idE (v : Value) : Option (DataW Value × List MemPlace) := some (.held v, [])
structure KeyT {α : Type} (P : Program) (k : TypeId) (mk : α → Value) (wf : α → Prop) : Prop where
 K : Keyed P k
 toK : ∀ x, wf x → ∃ kl, keyOf P k (mk x) = some kl
 from_ : ∀ v kl, keyOf P k v = some kl → ∃ x, wf x ∧ v = mk x
 inj : ∀ x y, mk x = mk y → x = y
def IsM {α : Type} (P : Program) (k : TypeId) (mk : α → Value) (w : World) (b n : Nat) (M : α → Option Value) (sz : Nat) : Prop :=
 ∃ D : DataW Value, w.ownsMap P k idE b n D ∧ Maps.size D = sz ∧ ∀ x kl, keyOf P k (mk x) = some kl → (∀ z, D.atKey kl (.held z) = .held ((M x).getD z)) ∧ Maps.has D kl = (M x).isSome
section
variable {α : Type} {P : Program} {k e t : TypeId} {mk : α → Value} {wf : α → Prop} {w w' : World} {b n sz : Nat} {M : α → Option Value}
theorem IsM.lt (h : IsM P k mk w b n M sz) : b < w.heap.size := by obtain ⟨D, h1, _⟩ := h; exact h1.lt
theorem IsM.move (h : IsM P k mk w b n M sz) (hb : w'.heap[b]? = w.heap[b]?) : IsM P k mk w' b n M sz := by
 obtain ⟨D, ⟨es, clock, h1, h2⟩, h3⟩ := h
 exact ⟨D, ⟨es, clock, hb.trans h1, h2⟩, h3⟩
theorem IsM.below (h : IsM P k mk w b n M sz) (hb : Below w.heap.size w w') : IsM P k mk w' b n M sz := h.move (hb.block b h.lt)
theorem IsM.alloc (h : IsM P k mk w b n M sz) (o : Obj) : IsM P k mk (w.alloc o) b n M sz := h.move (Below.heap_alloc w o b h.lt)
theorem IsM.mono (h : IsM P k mk w b n M sz) {n' : Nat} (hn : n ≤ n') : IsM P k mk w b n' M sz := by obtain ⟨D, h1, h2⟩ := h; exact ⟨D, h1.mono hn, h2⟩
theorem isM_made (w : World) (P : Program) (k : TypeId) (mk : α → Value) : IsM P k mk (w.alloc (.map #[] 0)) w.heap.size 0 (fun _ => none) 0 :=
 ⟨.map [], World.ownsMap_made w P k idE, rfl, fun x kl _ => ⟨fun z => rfl, rfl⟩⟩
theorem IsM.get (h : IsM P k mk w b n M sz) (hk : KeyT P k mk wf) (ht : P.underlying t = some (.map k e)) {z : Value} (hz : ∀ u : World, (zeroValue e).run P u = .ok z u) {x : α} (hx : wf x) :
  (Instr.lookup t (.map (some b)) (mk x) false).run P w = .ok ((M x).getD z) w := by
 obtain ⟨D, h1, h2, h3⟩ := h
 obtain ⟨kl, hkl⟩ := hk.toK x hx
 obtain ⟨v, ps, hrun, hv⟩ := h1.lookup hk.K ht (hz w) (zd := .held z) (zp := []) rfl hkl
 rw [(h3 x kl hkl).1 z] at hv
 simp only [idE, Option.some.injEq, Prod.mk.injEq, DataW.held.injEq] at hv
 rw [hrun, hv.1]
theorem KeyT.ne (hk : KeyT P k mk wf) {x y : α} {a c : Lit} (ha : keyOf P k (mk x) = some a) (hc : keyOf P k (mk y) = some c) (hne : x ≠ y) : a ≠ c := by
 rintro rfl
 exact hne (hk.inj x y (hk.K.inj ha hc))
theorem IsM.put [DecidableEq α] (h : IsM P k mk w b n M sz) (hk : KeyT P k mk wf) (ht : P.underlying t = some (.map k e)) (hn : n < maxLen) {x : α} (hx : wf x) (v : Value) :
  ∃ w', (Instr.mapUpdate t (.map (some b)) (mk x) v).run P w = .ok () w' ∧ IsM P k mk w' b (n + 1) (fun y => if y = x then some v else M y) (if (M x).isSome then sz else sz + 1) ∧ w.grownBy w' (some b) := by
 obtain ⟨D, h1, h2, h3⟩ := h
 obtain ⟨kl, hkl⟩ := hk.toK x hx
 obtain ⟨w', hrun, h4, h5⟩ := h1.update hk.K ht hn hkl (val := v) (d := .held v) (ps := []) rfl
 refine ⟨w', hrun, ⟨_, h4, ?_, fun y kl' hy => ?_⟩, h5⟩
 ·rw [Maps.size_put (h1.tidy hk.K), (h3 x kl hkl).2, h2]
 ·by_cases e : y = x
  ·subst e
   rw [hkl] at hy
   cases hy
   simp only [if_true]
   exact ⟨fun z => Maps.atKey_put_same h1.isMap (hk.K.key hkl) _ _, Maps.has_put_same h1.isMap (hk.K.key hkl) _⟩
  ·simp only [if_neg e]
   have hne := hk.ne hy hkl e
   exact ⟨fun z => by rw [Maps.atKey_put_other hne]; exact (h3 y kl' hy).1 z, by rw [Maps.has_put_other hne]; exact (h3 y kl' hy).2⟩
theorem IsM.del [DecidableEq α] (h : IsM P k mk w b n M sz) (hk : KeyT P k mk wf) (ht : P.underlying t = some (.map k e)) {x : α} (hx : wf x) (ty : TypeId) :
  ∃ w', (Builtin.delete_ #[t, k] ty #[.map (some b), mk x]).run P w = .ok (.tuple #[]) w' ∧ IsM P k mk w' b n (fun y => if y = x then none else M y) (if (M x).isSome then sz - 1 else sz) ∧ w.grownBy w' (some b) := by
 obtain ⟨D, h1, h2, h3⟩ := h
 obtain ⟨kl, hkl⟩ := hk.toK x hx
 obtain ⟨w', hrun, h4, h5⟩ := h1.drop hk.K ht hkl ty
 refine ⟨w', hrun, ⟨_, h4, ?_, fun y kl' hy => ?_⟩, h5.grown⟩
 ·have := Maps.size_del (k := kl) (h1.tidy hk.K)
  rw [(h3 x kl hkl).2, h2] at this
  split <;> simp_all <;> omega
 ·by_cases e : y = x
  ·subst e
   rw [hkl] at hy
   cases hy
   simp only [if_true]
   exact ⟨fun z => Maps.atKey_del_same _, Maps.has_del_same⟩
  ·simp only [if_neg e]
   have hne := hk.ne hy hkl e
   exact ⟨fun z => by rw [Maps.atKey_del_other hne]; exact (h3 y kl' hy).1 z, by rw [Maps.has_del_other hne]; exact (h3 y kl' hy).2⟩
theorem IsM.len (h : IsM P k mk w b n M sz) (ht : P.underlying t = some (.map k e)) (ty : TypeId) : (Builtin.len_ #[t] ty #[.map (some b)]).run P w = .ok (.int .i64 sz) w := by
 obtain ⟨D, h1, rfl, h3⟩ := h
 exact h1.len ht ty
end
section
variable {α : Type} {P : Program} {k e : TypeId} {mk : α → Value} {wf : α → Prop} {b n sz : Nat} {M : α → Option Value} (w : World) {ops : Array Oper} {rest : List Oper} {o : Oper} {a : Act} {Q : Exit → Act → World → Prop}
theorem m_get (h : IsM P k mk w b n M sz) (hk : KeyT P k mk wf) (t : TypeId) (ht : P.underlying t = some (.map k e)) {z : Value} (hz : ∀ u : World, (zeroValue e).run P u = .ok z u) (hg : o.guard = none) (m y : Operand) (hop : o.op = Op.lookup t m y false)
  (x : α) (hx : wf x) (hm : a.eval m = .map (some b)) (hy : a.eval y = mk x) (hK : wpList P ops Q rest (a.put o.dst ((M x).getD z)) w) : wpList P ops Q (o :: rest) a w := by
 refine wpList_plain hg fun K' hK' => ?_
 unfold Oper.wp
 simp [execOp, hop, hm, hy, h.get hk ht hz hx, Result.andThen]
 exact hK' _ _ hK
theorem m_put [DecidableEq α] (h : IsM P k mk w b n M sz) (hk : KeyT P k mk wf) (t : TypeId) (ht : P.underlying t = some (.map k e)) (hn : n < maxLen) (hg : o.guard = none) (m y v : Operand) (hop : o.op = Op.mapUpdate t m y v)
  (x : α) (hx : wf x) (val : Value) (hm : a.eval m = .map (some b)) (hy : a.eval y = mk x) (hv : a.eval v = val)
  (hK : ∀ w', IsM P k mk w' b (n + 1) (fun y => if y = x then some val else M y) (if (M x).isSome then sz else sz + 1) → w.grownBy w' (some b) → wpList P ops Q rest (a.put o.dst undef) w') : wpList P ops Q (o :: rest) a w := by
 refine wpList_plain hg fun K' hK' => ?_
 obtain ⟨w', hrun, h1, h2⟩ := h.put hk ht hn hx val
 unfold Oper.wp
 simp [execOp, hop, hm, hy, hv, hrun, Result.andThen]
 exact hK' _ _ (hK w' h1 h2)
theorem m_del [DecidableEq α] (h : IsM P k mk w b n M sz) (hk : KeyT P k mk wf) (t : TypeId) (ht : P.underlying t = some (.map k e)) (hg : o.guard = none) (m y : Operand) (hop : o.op = Op.call { callee := Callee.builtin Builtin.delete, args := #[m, y], argTypes := #[t, k] })
  (x : α) (hx : wf x) (hm : a.eval m = .map (some b)) (hy : a.eval y = mk x)
  (hK : ∀ w', IsM P k mk w' b n (fun y => if y = x then none else M y) (if (M x).isSome then sz - 1 else sz) → w.grownBy w' (some b) → wpList P ops Q rest (a.put o.dst (.tuple #[])) w') : wpList P ops Q (o :: rest) a w := by
 refine wpList_plain hg fun K' hK' => ?_
 obtain ⟨w', hrun, h1, h2⟩ := h.del hk ht hx o.type
 unfold Oper.wp
 simp [execOp, hop, resolve, invoke, builtin, hm, hy, hrun, Result.andThen]
 exact hK' _ _ (hK w' h1 h2)
end
def IsMR {α : Type} (P : Program) (k : TypeId) (mk : α → Value) (w : World) (b r n : Nat) (M : α → Option Value) (sz : Nat) (L : α → Bool) (cnt : Nat) : Prop :=
 ∃ (D : DataW Value) (left : Lit → Bool), w.ranges P k idE b r n D left cnt ∧ Maps.size D = sz ∧ ∀ x kl, keyOf P k (mk x) = some kl → ((∀ z, D.atKey kl (.held z) = .held ((M x).getD z)) ∧ Maps.has D kl = (M x).isSome) ∧ left kl = L x
section
variable {α : Type} {P : Program} {k e : TypeId} {mk : α → Value} {wf : α → Prop} {b r n sz cnt : Nat} {M : α → Option Value} {L : α → Bool} {w w' : World}
theorem IsMR.map (h : IsMR P k mk w b r n M sz L cnt) : IsM P k mk w b n M sz := by
 obtain ⟨D, left, h1, h2, h3⟩ := h
 exact ⟨D, h1.owns, h2, fun x kl hx => (h3 x kl hx).1⟩
theorem IsMR.lt (h : IsMR P k mk w b r n M sz L cnt) : r < w.heap.size := by obtain ⟨D, left, h1, _⟩ := h; exact h1.lt
theorem IsMR.ne (h : IsMR P k mk w b r n M sz L cnt) : r ≠ b := by obtain ⟨D, left, h1, _⟩ := h; exact h1.ne
theorem IsMR.kept (h : IsMR P k mk w b r n M sz L cnt) {row : Option Nat} (hg : w.grownBy w' row) (hb : some b ≠ row) (hr : some r ≠ row) : IsMR P k mk w' b r n M sz L cnt := by
 obtain ⟨D, left, h1, h2⟩ := h
 exact ⟨D, left, h1.kept hg hb hr, h2⟩
theorem IsMR.below (h : IsMR P k mk w b r n M sz L cnt) (hb : Below w.heap.size w w') : IsMR P k mk w' b r n M sz L cnt :=
 h.kept (row := none) ⟨hb.os, hb.tape, hb.output, hb.size, fun i hi _ => hb.block i hi⟩ (by simp) (by simp)
end
section
variable {α : Type} {P : Program} {k e : TypeId} {mk : α → Value} {wf : α → Prop} {b r n sz cnt : Nat} {M : α → Option Value} {L : α → Bool} (w : World) {ops : Array Oper} {rest : List Oper} {o : Oper} {a : Act} {Q : Exit → Act → World → Prop}
end
end Go.Proofs.Ytgmlpmdfkaadhaa.M
end

section
/- Of the eye's text: what every seat has. -/
namespace Go.Proofs.Ytgmlpmdfkaadhaa.M
open Go.RowKit Go.Proofs.YtgmlpmdfkaadhaaW.PrintWords Go.Proofs.YtgmlpmdfkaadhaaW.PrintLast Go.Proofs.YtgmlpmdfkaadhaaW.PrintMore Go.Proofs.Ytgmlpmdfkaadhaa.G
end Go.Proofs.Ytgmlpmdfkaadhaa.M
end

section
/- A function that reads with a state at x into a struct variable g, its result's box being the first new one; what it has read stays. -/
namespace Go.Proofs.Ytgmlpmdfkaadhaa.M
open Go.RowKit Go.Proofs.YtgmlpmdfkaadhaaW.PrintWords Go.Proofs.YtgmlpmdfkaadhaaW.PrintLast Go.Proofs.YtgmlpmdfkaadhaaW.PrintMore Go.Proofs.Ytgmlpmdfkaadhaa.G
def Held (S : Nat → Prop) (W : World) (P : World → Prop) : Prop := ∀ W' : World, W.heap.size ≤ W'.heap.size → (∀ k, k < W.heap.size → ¬ S k → W'.heap[k]? = W.heap[k]?) → P W'
theorem Held.now {S : Nat → Prop} {W : World} {P : World → Prop} (h : Held S W P) : P W := h W (Nat.le_refl _) (fun _ _ _ => rfl)
theorem Held.step {S : Nat → Prop} {W W' : World} {P : World → Prop} (h : Held S W P) (hz : W.heap.size ≤ W'.heap.size) (hm : ∀ k, k < W.heap.size → ¬ S k → W'.heap[k]? = W.heap[k]?) : Held S W' P :=
 fun V hV hk => h V (Nat.le_trans hz hV) (fun k h1 h2 => (hk k (Nat.lt_of_lt_of_le h1 hz) h2).trans (hm k h1 h2))
theorem Held.keep {S S' : Nat → Prop} {W W' : World} {P : World → Prop} (h : Held S W P) (k : KeepS S' W W') (hs : ∀ i, S' i → S i) : Held S W' P := h.step k.size (fun i h1 h2 => k.block i h1 (fun e => h2 (hs i e)))
theorem Held.set {S : Nat → Prop} {W : World} {P : World → Prop} (h : Held S W P) (p : Addr) (hp : S p.block) (v : Value) : Held S (W.setCell p v) P :=
 h.step (by rw [World.size_setCell]; exact Nat.le_refl _) (fun k _ h2 => Below.heap_setCell W p v k (fun e => h2 (e ▸ hp)))
theorem Held.and {S : Nat → Prop} {W : World} {P Q : World → Prop} (h : Held S W P) (k : Held S W Q) : Held S W (fun V => P V ∧ Q V) := fun V h1 h2 => ⟨h V h1 h2, k V h1 h2⟩
theorem Held.true (S : Nat → Prop) (W : World) : Held S W (fun _ => True) := fun _ _ _ => trivial
abbrev Iv {α : Type} (d : Kd α) (e : Nat) (w : World) (lo hi : Nat) (v : Value) (l : List α) (W : World) : Prop := Kd.R d e W w.heap.size (fun k => lo ≤ k ∧ k < hi) v l
theorem Iv.of {α : Type} {d : Kd α} {e : Nat} {w W : World} {base : Nat} {ok : Nat → Prop} {v : Value} {l : List α} (h : Kd.R d e W base ok v l) (hb : w.heap.size ≤ base) : Iv d e w base W.heap.size v l W :=
 Kd.R_mono (Kd.R_lower (Kd.R_bound h) hb) (fun k hk => ⟨hk.2.1, hk.2.2.1⟩)
theorem Iv.held {α : Type} {d : Kd α} {e : Nat} {w W : World} {lo hi : Nat} {v : Value} {l : List α} {S : Nat → Prop} (h : Iv d e w lo hi v l W) (hS : ∀ k, S k → k < lo ∨ hi ≤ k) : Held S W (Iv d e w lo hi v l) :=
 fun V _ hk => Kd.R_step h (fun k h1 h2 => hk k h2 (fun e => by have := hS k e; omega))
abbrev Sv {α : Type} (d : Kd α) (e : Nat) (w : World) (lo hi : Nat) (v : Value) (l : List α) (W : World) : Prop := Kd.S d e W w.heap.size (fun k => lo ≤ k ∧ k < hi) v l
theorem Sv.of {α : Type} {d : Kd α} {e : Nat} {w W : World} {base : Nat} {ok : Nat → Prop} {v : Value} {l : List α} (h : Kd.S d e W base ok v l) (hb : w.heap.size ≤ base) : Sv d e w base W.heap.size v l W :=
 Kd.S_mono (Kd.S_lower (Kd.S_bound h) hb) (fun k hk => ⟨hk.2.1, hk.2.2.1⟩)
theorem Sv.held {α : Type} {d : Kd α} {e : Nat} {w W : World} {lo hi : Nat} {v : Value} {l : List α} {S : Nat → Prop} (h : Sv d e w lo hi v l W) (hS : ∀ k, S k → k < lo ∨ hi ≤ k) : Held S W (Sv d e w lo hi v l) :=
 fun V _ hk => Kd.S_step h (fun k h1 h2 => hk k h2 (fun e => by have := hS k e; omega))
theorem Iv.apart {α β : Type} {d : Kd α} {d' : Kd β} {e e' : Nat} {w W : World} {lo hi lo' hi' : Nat} {v v' : Value} {l : List α} {l' : List β} (h : Iv d e w lo hi v l W) (h' : Iv d' e' w lo' hi' v' l' W) (hh : hi ≤ lo' ∨ hi' ≤ lo) : Kd.R d e W w.heap.size (fun k => some k ≠ v'.ownBlock) v l :=
 Kd.R_mono h (fun k hk e => by have := h'.1 k e.symm; omega)
end Go.Proofs.Ytgmlpmdfkaadhaa.M
end

section
/- A function that turns its parameter's box g and answers it out of the result's box r; what it has made stays. -/
namespace Go.Proofs.Ytgmlpmdfkaadhaa.M
open Go.RowKit Go.Proofs.YtgmlpmdfkaadhaaW.PrintWords Go.Proofs.YtgmlpmdfkaadhaaW.PrintLast Go.Proofs.YtgmlpmdfkaadhaaW.PrintMore Go.Proofs.Ytgmlpmdfkaadhaa.G
structure Bx (w : World) (g r T : Nat) (zs cs : Array Value) (P : World → Prop) (W : World) : Prop where
 g0 : W.heap[r]? = some (.cells zs T)
 y : W.heap[g]? = some (.cells cs T)
 d : Below w.heap.size w W
 hr : w.heap.size ≤ r
 hg : w.heap.size ≤ g
 ne : r ≠ g
 hz : g < W.heap.size
 hz2 : r < W.heap.size
 h : Held (fun k => k = r ∨ k = g) W P
section
variable {w W W' : World} {g r T : Nat} {zs cs : Array Value} {P Q : World → Prop}
theorem Bx.below (h : Bx w g r T zs cs P W) (hb : Below W.heap.size W W') : Bx w g r T zs cs P W' :=
 ⟨(hb.block r h.hz2).trans h.g0, (hb.block g h.hz).trans h.y, h.d.trans (hb.mono h.d.size), h.hr, h.hg, h.ne, Nat.lt_of_lt_of_le h.hz hb.size, Nat.lt_of_lt_of_le h.hz2 hb.size, h.h.step hb.size (fun k h1 _ => hb.block k h1)⟩
theorem Bx.drew (h : Bx w g r T zs cs P W) : Bx w g r T zs cs P W.drew := ⟨h.g0, h.y, h.d.drew, h.hr, h.hg, h.ne, h.hz, h.hz2, h.h.step (Nat.le_refl _) (fun _ _ _ => rfl)⟩
theorem Bx.and (h : Bx w g r T zs cs P W) (k : Held (fun k => k = r ∨ k = g) W Q) : Bx w g r T zs cs (fun V => P V ∧ Q V) W := ⟨h.g0, h.y, h.d, h.hr, h.hg, h.ne, h.hz, h.hz2, h.h.and k⟩
theorem Bx.lt (h : Bx w g r T zs cs P W) : w.heap.size ≤ W.heap.size := h.d.size
theorem Bx.callR {α : Type} {d : Kd α} {e : Nat} {ok : Nat → Prop} {v : Value} {l : List α} (h : Bx w g r T zs cs P W) (b : Below W.heap.size W W') (hv : Kd.R d e W' W.heap.size ok v l) :
  Bx w g r T zs cs (fun V => P V ∧ Iv d e w W.heap.size W'.heap.size v l V) W' :=
 (h.below b).and ((Iv.of hv h.lt).held (fun k hk => by have h1 := h.hz; have h2 := h.hz2; rcases hk with rfl | rfl <;> omega))
theorem Bx.set (h : Bx w g r T zs cs P W) (j : Nat) (v : Value) (cs' : Array Value) (hy : (W.setCell ⟨g, j, none⟩ v).heap[g]? = some (.cells cs' T)) : Bx w g r T zs cs' P (W.setCell ⟨g, j, none⟩ v) :=
 ⟨(Below.heap_setCell W ⟨g, j, none⟩ v r h.ne).trans h.g0, hy, h.d.setCell (p := ⟨g, j, none⟩) h.hg v, h.hr, h.hg, h.ne, by rw [World.size_setCell]; exact h.hz, by rw [World.size_setCell]; exact h.hz2, h.h.set ⟨g, j, none⟩ (.inr rfl) v⟩
theorem Bx.put (h : Bx w g r T zs cs P W) (j : Nat) (v : Value) : Bx w g r T zs (cs.setIfInBounds j v) P (W.setCell ⟨g, j, none⟩ v) := h.set j v _ (blk_put h.y j v rfl)
theorem Bx.done (h : Bx w g r T zs cs P W) (hk : KeepS (fun k => k = r ∨ k = g) W W') : P W' ∧ Below w.heap.size w W' := by
 have h1 := h.hg; have h2 := h.hr; have h3 := h.lt
 exact ⟨(h.h.keep hk (fun _ e => e)).now, h.d.trans (hk.below (B := w.heap.size) h3 (fun i e => by omega))⟩
end
theorem Bx.start (w : World) (T : Nat) (zs cs : Array Value) : Bx w w.heap.size (w.heap.size + 1) T zs cs (fun _ => True) ((w.alloc (.cells cs T)).alloc (.cells zs T)) := by
 have hz1 : (w.alloc (.cells cs T)).heap.size = w.heap.size + 1 := by simp
 have hz2 : ((w.alloc (.cells cs T)).alloc (.cells zs T)).heap.size = w.heap.size + 1 + 1 := by simp
 have hy := heap_alloc_new (w.alloc (.cells cs T)) (.cells zs T)
 rw [hz1] at hy
 exact ⟨hy, (((Below.refl _ (w.alloc (.cells cs T))).alloc (Nat.le_refl _) _).block w.heap.size (by omega)).trans (heap_alloc_new w _), ((Below.refl _ _).alloc (Nat.le_refl _) _).alloc (by simp) _, by omega, Nat.le_refl _, by omega, by omega, by omega, Held.true _ _⟩
end Go.Proofs.Ytgmlpmdfkaadhaa.M
end

section
/- What trivet/trivetref01's Num and Put come to, in plain Lean. -/
namespace Go.Proofs.Ytgmlpmdfkaadhaa.M
open Go.RowKit Go.Proofs.YtgmlpmdfkaadhaaW.PrintWords Go.Proofs.YtgmlpmdfkaadhaaW.PrintLast Go.Proofs.YtgmlpmdfkaadhaaW.PrintMore Go.Proofs.Ytgmlpmdfkaadhaa.G
theorem ref_num_l0 (j : Nat) : ∀ (k m : Nat) (acc : List Int) (z : Int), m < 256 ^ j → j < k → acc.length + j ≤ 8 → (z = 0 ∨ z = 1) →
  trivetref01_Num.l0 k (m : Int) z acc = some ((2 * ((acc ++ lowB m).length : Int) + z) :: (acc ++ lowB m)) := by
 induction j with
 | zero =>
  intro k m acc z hm hk ha hz
  obtain ⟨k, rfl⟩ : ∃ q, k = q + 1 := ⟨k - 1, by omega⟩
  obtain rfl : m = 0 := by simpa using hm
  simp only [trivetref01_Num.l0]
  rw [if_neg (by simp), lowB_zero, List.append_nil, Option.bind_some, if_pos (by simp; omega)]
  congr 1
  simp only [List.singleton_append]
  congr 1
  unfold wrap64
  omega
 | succ j ih =>
  intro k m acc z hm hk ha hz
  obtain ⟨k, rfl⟩ : ∃ q, k = q + 1 := ⟨k - 1, by omega⟩
  by_cases h0 : m = 0
  ·subst h0
   simp only [trivetref01_Num.l0]
   rw [if_neg (by simp), lowB_zero, List.append_nil, Option.bind_some, if_pos (by simp; omega)]
   congr 1
   simp only [List.singleton_append]
   congr 1
   unfold wrap64
   omega
  ·have hj : m < 256 ^ 8 := Nat.lt_of_lt_of_le hm (Nat.pow_le_pow_right (by omega) (by omega))
   simp only [trivetref01_Num.l0]
   rw [if_pos (by omega), if_pos (by omega)]
   have e1 : IntKind.u64.wrap (Int.tdiv (m : Int) 256) = ((m / 256 : Nat) : Int) := by
    rw [Int.tdiv_eq_ediv_of_nonneg (by omega), IntKind.wrap_u64]; omega
   have e2 : Int.tmod (m : Int) 256 % 256 = ((m % 256 : Nat) : Int) := by
    rw [Int.tmod_eq_emod_of_nonneg (by omega)]; omega
   rw [e1, e2, ih k (m / 256) _ z (by rw [Nat.pow_succ] at hm; omega) (by omega) (by simp; omega) hz, lowB_pos h0]
   simp only [List.append_assoc, List.singleton_append]
theorem ref_num {n : Int} (h : isI64 n) (k : Nat) (hk : 10 ≤ k) : trivetref01_Num.f k n = some (numB n) := by
 have hm := mag_lt h
 obtain ⟨k, rfl⟩ : ∃ q, k = q + 1 := ⟨k - 1, by omega⟩
 unfold isI64 at h
 unfold trivetref01_Num.f
 by_cases h0 : n < 0
 ·rw [if_pos h0]
  have e : IntKind.u64.wrap (IntKind.u64.wrap (wrap64 (-wrap64 (n + 1))) + 1) = (mag n : Int) := by
   simp only [IntKind.wrap_u64]; unfold wrap64 mag; omega
  rw [e]
  simp only [trivetref01_Num.j0]
  rw [ref_num_l0 8 k _ _ _ hm (by omega) (by simp) (.inr rfl)]
  unfold numB
  rw [if_pos h0]
  simp
 ·rw [if_neg h0]
  have e : IntKind.u64.wrap n = (mag n : Int) := by
   simp only [IntKind.wrap_u64]; unfold mag; omega
  rw [e]
  simp only [trivetref01_Num.j0]
  rw [ref_num_l0 8 k _ _ _ hm (by omega) (by simp) (.inl rfl)]
  unfold numB
  rw [if_neg h0]
  simp
theorem ref_put_l0 (l : List Int) (hi : okI l = true) (d : Nat) : ∀ (k j : Nat) (acc : List Int), l.length - j = d → j ≤ l.length → acc.length + 9 * d < 140737488355328 → l.length < 140737488355328 → d + 10 ≤ k →
  trivetref01_Put.l0 k l acc (j : Int) = some (acc ++ numsB (l.drop j)) := by
 induction d with
 | zero =>
  intro k j acc hd hj ha hl hk
  obtain ⟨k, rfl⟩ : ∃ q, k = q + 1 := ⟨k - 1, by omega⟩
  simp only [trivetref01_Put.l0]
  rw [if_neg (by omega), List.drop_eq_nil_of_le (by omega)]
  simp [numsB]
 | succ d ih =>
  intro k j acc hd hj ha hl hk
  obtain ⟨k, rfl⟩ : ∃ q, k = q + 1 := ⟨k - 1, by omega⟩
  have hlt : j < l.length := by omega
  have hr : rd l (j : Int) = l[j] := by simp [rd, List.getD_eq_getElem?_getD, List.getElem?_eq_getElem hlt]
  have hx := okI_mem hi (List.getElem_mem hlt)
  have hn := numB_len hx
  simp only [trivetref01_Put.l0]
  rw [if_pos (by omega), if_pos (by omega), hr, ref_num hx k (by omega), Option.bind_some, if_pos (by omega)]
  have hw : wrap64 ((j : Int) + 1) = ((j + 1 : Nat) : Int) := by unfold wrap64; omega
  rw [hw, ih k (j + 1) _ (by omega) (by omega) (by simp only [List.length_append]; omega) hl (by omega), List.drop_eq_getElem_cons hlt]
  simp only [numsB, List.flatMap_cons, List.append_assoc]
theorem ref_put (l0 l1 : List Int) (hi : okI l1 = true) (hs : l0.length + 9 * l1.length < 140737488355328) (k : Nat) (hk : l1.length + 10 ≤ k) : trivetref01_Put.f k l0 l1 = some (l0 ++ numsB l1) := by
 unfold trivetref01_Put.f
 rw [if_pos (by simp; omega)]
 have := ref_put_l0 l1 hi l1.length k 0 ([] ++ l0) (by omega) (by omega) (by simpa using hs) (by omega) hk
 rw [show ((0 : Nat) : Int) = 0 from rfl] at this
 rw [this]
 simp
end Go.Proofs.Ytgmlpmdfkaadhaa.M
end

section
-- Written by a program of this session's (wip/gprint.py over the kit's printer).
namespace Go.Proofs.Ytgmlpmdfkaadhaa.G
open Go.RowKit Go.Proofs.YtgmlpmdfkaadhaaW.PrintWords Go.Proofs.YtgmlpmdfkaadhaaW.PrintLast Go.Proofs.YtgmlpmdfkaadhaaW.PrintMore
attribute [local go_sem] max2_int min2_int max_two min_two max_three min_three max_four min_four   -- for this text's walks alone
def trivetref04_keys.l0 : Nat → List Int → List (S54) → Int → Option (List Int)
 | 0, _, _, _ => none
 | k + 1, x0, x1, x5 => if x5 < (x1.length : Int) then (if 0 ≤ x5 then ((trivetref04_num.f k x0 (([wrap64 ((rd_T54 x1 x5).f0), (rd_T54 x1 x5).f1] : List Int))).bind fun t195 => (trivetref04_keys.l0 k t195 x1 (wrap64 (x5 + 1)))) else (none)) else (some x0)
def trivetref04_keys.f (k : Nat) (l0 : List Int) (l1 : List (S54)) : Option (List Int) := (trivetref04_num.f k l0 (([(l1.length : Int)] : List Int))).bind fun t187 => (trivetref04_keys.l0 k t187 l1 0)
def trivetref04_keys.T5 : Bool × List (List Nat × List Nat) := (true, [([], []), ([], []), ([], []), ([1, 2], [1, 2]), ([3], [3]), ([4], [4]), ([5], [5]), ([], []), ([], []), ([7, 8], [7, 8]), ([9], [9]), ([10], [10]), ([6, 11], [6, 11]), ([0, 12], [0, 12]), ([13, 13, 0, 1, 2, 3, 4, 5, 6, 7, 8, 9, 10, 11, 12, 13], [0, 13])])
def trivetref04_keys.B5 : List Nat := [0, 0, 0, 6, 14, 30, 62, 0, 0, 384, 896, 1920, 4094, 8191, 16383]
theorem trivetref04_keys.tab5 : rtab .any (opsOf Try.f68 5) = trivetref04_keys.T5 := by kernel_rfl
theorem trivetref04_keys.bits5 : waitsOk trivetref04_keys.T5.2 trivetref04_keys.B5 = true := by kernel_rfl
set_option maxHeartbeats 8000000 in
set_option maxRecDepth 100000 in
theorem trivetref04_keys.calls (k : Nat) (A0 : Option Addr) (c0 : Nat) (l0 : List Int) (A1 : Option Addr) (c1 : Nat) (l1 : List (S54)) (r : List Int) (w : World) (hr0 : Kd.C (Kd.int .u8) w A0 l0.length l0) (hc0 : l0.length ≤ c0) (hr1 : Kd.C k54 w A1 l1.length l1) (hc1 : l1.length ≤ c1) (h : trivetref04_keys.f k l0 l1 = some r) :
  Calls Try.prog 68 #[.slice A0 l0.length c0, .slice A1 l1.length c1] w fun e w' => ∃ v0_ : Value, e = .returned (v0_) ∧ Kd.R (Kd.int .u8) 5 w' w.heap.size (fun _ => True) v0_ r ∧ Below w.heap.size w w' := by
 have HR0 := Aside0.mk hr0
 have HC0 := Aside0.mk hc0
 clear hr0 hc0
 have HR1 := Aside0.mk hr1
 have HC1 := Aside0.mk hc1
 clear hr1 hc1
 have HB := Aside0.mk (Below.refl w.heap.size w)
 have H : ((trivetref04_num.f k l0 (([(l1.length : Int)] : List Int))).bind fun t187 => (trivetref04_keys.l0 k t187 l1 0)) = some r := h
 clear h
 obtain ⟨y184, hy184⟩ : ∃ y_ : List Int, y_ = (([(l1.length : Int)] : List Int)) := ⟨_, rfl⟩
 replace H : ((trivetref04_num.f k l0 y184).bind fun t187 => (trivetref04_keys.l0 k t187 l1 0)) = some r := by first | (rw [hy184]; with_reducible exact H) | (have H2_ := (Option.bind_some _ _).symm.trans H; rw [hy184]; with_reducible exact H2_) | (have H2_ := (Option.bind_some _ _).symm.trans H; with_reducible exact H2_) | with_reducible exact H | (rw [hy184]; exact H) | exact H
 have Ny184 := Aside0.mk hy184
 clear hy184
 replace H := Option.bind_eq_some_iff.mp H
 obtain ⟨t187, A30, H⟩ := H
 replace H : (trivetref04_keys.l0 k t187 l1 0) = some r := H
 have A3 := Aside0.mk A30
 clear A30
 have H' := Aside0.mk H
 clear H
 go_enter Try.func68, Try.ntmps68
 go_wp2_with (first | ((with_reducible refine gate_dst (N := 9) rfl ?_); refine Kd.R_lit (Kd.int .i64) _ 2 ?hg (N := 9) ?hd (xs := ([(l1.length : Int)] : List Int)) (inner := [.int .i64 (l1.length : Int)]) (ok := fun _ => True) (okp := fun _ => True) ?hr ?hp (fun _ hk => hk) trivial (Below.refl _ _) (Nat.le_refl _) (by simp) ?_; (case hd => rfl); (case hg => rfl); (case hr => first | (go_simp; done) | (go_simp; rfl)); (case hp => exact (Reps.one (show Kd.M (Kd.int .i64) _ _ _ (l1.length : Int) [.int .i64 (l1.length : Int)] from rfl) (Reps.none _ _))); intro v185 w4 ho5 hb hg_ hnew_; clear hg_ hnew_; (first | rw [← Ny184.out] at ho5 | (simp only [Int.reduceToNat] at ho5; rw [← Ny184.out] at ho5)); have n0_ := Aside0.mk (Kd.R_lower ho5 (below_size (stB HB.out))); have n1_ := Aside0.mk (below_step (stB HB.out) hb); clear HB; have HO186 := n0_; have HB := n1_; clear n0_ n1_; clear hb ho5; obtain ⟨Ao6, co6, eo6⟩ := Kd.R_slice HO186.out; subst eo6) | ((with_reducible refine gate_callee (f := 51) rfl ?_); refine goesL_ (some 10) rfl rfl Try.func51 (by kernel_rfl) rfl #[.slice A0 l0.length c0, .slice Ao6 y184.length co6] rfl (by (try simp only [List.map_toArray, List.map_cons, List.map_nil]); first | done | rfl | (simp only [List.length_drop, List.length_take]; rfl)) ?_; (with_reducible refine (trivetref04_num.calls k _ _ l0 _ _ y184 t187 _ ?side1 ?side2 ?side3 ?side4 A3.out).mono ?_); (case side1 => exact stC (Kd.C_below HR0.out HB.out)); (case side2 => exact HC0.out); (case side3 => exact stC ((Kd.R_reads' HO186.out).2.2)); (case side4 => exact (Kd.R_reads' HO186.out).2.1); rintro e w7 ⟨v188, rfl, ho0, hb⟩; refine ⟨_, rfl, ?_⟩; have n0_ := Aside0.mk (Kd.R_below (stR HO186.out) hb); have n1_ := Aside0.mk (Kd.R_lower ho0 (below_size (stB HB.out))); have n2_ := Aside0.mk (below_step (stB HB.out) hb); clear HO186; clear HB; have HO186 := n0_; have HO189 := n1_; have HB := n2_; clear n0_ n1_ n2_; (try clear hb); (try clear hb2); (try clear hk); (try clear hi); (try clear ho0)))
 go_loopg [0, 5] k (fun kq v0 v5 w' => ∃ (x0_1 : List Int) (x5_1 : Int), v5 = .int .i64 x5_1 ∧ Aside0 (trivetref04_keys.l0 kq x0_1 l1 x5_1 = some r) ∧ Aside0 (kq ≤ k) ∧ Aside0 (Kd.R (Kd.int .u8) 5 w' w.heap.size (fun _ => True) v0 x0_1) ∧ Aside0 (Below w.heap.size w w'))
 case atStart => exact ⟨(t187), (0), (by first | rfl | (simp; done) | (simp [*]; done)), H', ⟨Nat.le_refl _⟩, ⟨stR HO189.out⟩, ⟨stB HB.out⟩⟩
 case round =>
  clear H'
  try clear c1
  try clear p2
  try clear c5
  try clear c6
  obtain ⟨x0_1, x5_1, rfl, HA, HK1, HO_0, HB⟩ := hrel
  cases gk with
  | zero => exact absurd HA.out (by simp [trivetref04_keys.l0])
  | succ k1 =>
   have H := HA.out
   clear HA
   simp only [trivetref04_keys.l0] at H
   by_cases c8 : x5_1 < (l1.length : Int)
   ·rw [if_pos c8] at H
    have c8b0 : decide (x5_1 < (l1.length : Int)) = true := decide_eq_true c8
    clear c8
    by_cases c9 : 0 ≤ x5_1
    ·rw [if_pos c9] at H
     have c9b0 : decide (0 ≤ x5_1) = true := decide_eq_true c9
     clear c9
     obtain ⟨y192, hy192⟩ : ∃ y_ : List Int, y_ = (([wrap64 ((rd_T54 l1 x5_1).f0), (rd_T54 l1 x5_1).f1] : List Int)) := ⟨_, rfl⟩
     replace H : ((trivetref04_num.f k1 x0_1 y192).bind fun t195 => (trivetref04_keys.l0 k1 t195 l1 (wrap64 (x5_1 + 1)))) = some r := by first | (rw [hy192]; with_reducible exact H) | (have H2_ := (Option.bind_some _ _).symm.trans H; rw [hy192]; with_reducible exact H2_) | (have H2_ := (Option.bind_some _ _).symm.trans H; with_reducible exact H2_) | with_reducible exact H | (rw [hy192]; exact H) | exact H
     have Ny192 := Aside0.mk hy192
     clear hy192
     replace H := Option.bind_eq_some_iff.mp H
     obtain ⟨t195, A100, H⟩ := H
     replace H : (trivetref04_keys.l0 k1 t195 l1 (wrap64 (x5_1 + 1))) = some r := H
     have A10 := Aside0.mk A100
     clear A100
     have H' := Aside0.mk H
     clear H
     try go_wp2
     have n0_ := Aside0.mk (Kd.R_drew HO_0.out)
     have n1_ := Aside0.mk (below_drew1 HB.out)
     clear HO_0
     clear HB
     have HO_0 := n0_
     have HB := n1_
     clear n0_ n1_
     have p190 : 0 ≤ (x5_1 : Int) := of_decide_eq_true (by first | (with_reducible assumption) | assumption)
     have q190 : x5_1 < (l1.length : Int) := of_decide_eq_true (by first | (with_reducible assumption) | assumption)
     obtain ⟨ad190, e190, hx190_0, hx190_1⟩ := at_T54 HR1.out x5_1 p190 q190
     have hw190_1 := hx190_1
     have hw190_0 := hx190_0
     cases e190
     replace hx190_0 := cu HB.out hx190_0
     replace hx190_1 := cu HB.out hx190_1
     replace p190 := eq_true p190
     replace q190 := eq_true q190
     have p191 : 0 ≤ (x5_1 : Int) := of_decide_eq_true (by first | (with_reducible assumption) | assumption)
     have q191 : x5_1 < (l1.length : Int) := of_decide_eq_true (by first | (with_reducible assumption) | assumption)
     obtain ⟨ad191, e191, hx191_0, hx191_1⟩ := at_T54 HR1.out x5_1 p191 q191
     have hw191_1 := hx191_1
     have hw191_0 := hx191_0
     obtain rfl : ad190 = ad191 := (by injection e191)
     replace hx191_0 := cu HB.out hx191_0
     replace hx191_1 := cu HB.out hx191_1
     replace p191 := eq_true p191
     replace q191 := eq_true q191
     refine start_ (n := 15) (S := fun w' => w'.cell? (ad190.add ((x5_1).toNat * 2)) = some (.int .i32 ((rd_T54 l1 x5_1).f0)) ∧ w'.cell? ⟨(ad190.add ((x5_1).toNat * 2)).block, (ad190.add ((x5_1).toNat * 2)).off + 1, none⟩ = some (.int .i64 ((rd_T54 l1 x5_1).f1)) ∧ w'.cell? (ad190.add ((x5_1).toNat * 2)) = some (.int .i32 ((rd_T54 l1 x5_1).f0)) ∧ w'.cell? ⟨(ad190.add ((x5_1).toNat * 2)).block, (ad190.add ((x5_1).toNat * 2)).off + 1, none⟩ = some (.int .i64 ((rd_T54 l1 x5_1).f1))) (ds := []) #[false, false, false, false, false, false, false, false, false, false, false, false, false, false, false] (by kernel_rfl) rfl rfl ⟨(cu HB.out hw190_0), (cu HB.out hw190_1), (cu HB.out hw191_0), (cu HB.out hw191_1)⟩ (fun hHeld => ?_); refine with_tabW trivetref04_keys.tab5 trivetref04_keys.bits5 (fun HT_ HW_ => ?_)
     generalize wr.drew = w11 at HO_0 HB hx190_0 hx190_1 hx191_0 hx191_1 hHeld ⊢
     refine pure_ (i := 0) (N := some 17) (v := ?_) (a' := ?_) #[true, false, false, false, false, false, false, false, false, false, false, false, false, false, false] rfl rfl (any_of HT_.out (by kernel_rfl)) (fun _ _ _ h => h) (Or.inl ⟨by rfl, ?_⟩) ?_ ?_
     rotate_left
     ·intro w'
      go_simp
      with_reducible rfl
     rotate_left
     ·simp only [Act.put, sq1, sq2, sq3, i64_w, i32_w]
      rfl
     refine pure_ (i := 1) (N := some 18) (v := ?_) (a' := ?_) #[true, true, false, false, false, false, false, false, false, false, false, false, false, false, false] rfl rfl (any_of HT_.out (by kernel_rfl)) (fun _ _ _ h => h) (Or.inl ⟨by rfl, ?_⟩) ?_ ?_
     rotate_left
     ·intro w'
      go_simp
      with_reducible rfl
     rotate_left
     ·simp only [Act.put, sq1, sq2, sq3, i64_w, i32_w]
      rfl
     refine pure_ (i := 2) (N := some 19) (v := ?_) (a' := ?_) #[true, true, true, false, false, false, false, false, false, false, false, false, false, false, false] rfl rfl (any_of HT_.out (by kernel_rfl)) (fun _ _ _ h => h) (Or.inl ⟨by rfl, ?_⟩) ?_ ?_
     rotate_left
     ·intro w'
      go_simp
      with_reducible rfl
     rotate_left
     ·simp only [Act.put, sq1, sq2, sq3, i64_w, i32_w]
      rfl
     refine pure_ (i := 3) (N := some 20) (v := ?_) (a' := ?_) #[true, true, true, true, false, false, false, false, false, false, false, false, false, false, false] rfl rfl (any_of HT_.out (by kernel_rfl)) (fun _ _ _ h => h) (Or.inl ⟨by rfl, ?_⟩) ?_ ?_
     rotate_left
     ·intro w'
      go_simp
      with_reducible rfl
     rotate_left
     ·simp only [Act.put, sq1, sq2, sq3, i64_w, i32_w]
      rfl
     refine pure_ (i := 4) (N := some 21) (v := ?_) (a' := ?_) #[true, true, true, true, true, false, false, false, false, false, false, false, false, false, false] rfl rfl (any_of HT_.out (by kernel_rfl)) (fun _ _ _ h => h) (Or.inl ⟨by rfl, ?_⟩) ?_ ?_
     rotate_left
     ·intro w'
      go_simp
      with_reducible rfl
     rotate_left
     ·simp only [Act.put, sq1, sq2, sq3, i64_w, i32_w]
      rfl
     refine pure_ (i := 7) (N := some 24) (v := ?_) (a' := ?_) #[true, true, true, true, true, false, false, true, false, false, false, false, false, false, false] rfl rfl (any_of HT_.out (by kernel_rfl)) (fun _ _ _ h => h) (Or.inl ⟨by rfl, ?_⟩) ?_ ?_
     rotate_left
     ·intro w'
      go_simp
      with_reducible rfl
     rotate_left
     ·simp only [Act.put, sq1, sq2, sq3, i64_w, i32_w]
      rfl
     refine pure_ (i := 8) (N := some 25) (v := ?_) (a' := ?_) #[true, true, true, true, true, false, false, true, true, false, false, false, false, false, false] rfl rfl (any_of HT_.out (by kernel_rfl)) (fun _ _ _ h => h) (Or.inl ⟨by rfl, ?_⟩) ?_ ?_
     rotate_left
     ·intro w'
      go_simp
      with_reducible rfl
     rotate_left
     ·simp only [Act.put, sq1, sq2, sq3, i64_w, i32_w]
      rfl
     refine pure_ (i := 9) (N := some 26) (v := ?_) (a' := ?_) #[true, true, true, true, true, false, false, true, true, true, false, false, false, false, false] rfl rfl (any_of HT_.out (by kernel_rfl)) (fun _ _ _ h => h) (Or.inl ⟨by rfl, ?_⟩) ?_ ?_
     rotate_left
     ·intro w'
      go_simp
      with_reducible rfl
     rotate_left
     ·simp only [Act.put, sq1, sq2, sq3, i64_w, i32_w]
      rfl
     refine pure_ (i := 10) (N := some 27) (v := ?_) (a' := ?_) #[true, true, true, true, true, false, false, true, true, true, true, false, false, false, false] rfl rfl (any_of HT_.out (by kernel_rfl)) (fun _ _ _ h => h) (Or.inl ⟨by rfl, ?_⟩) ?_ ?_
     rotate_left
     ·intro w'
      go_simp
      with_reducible rfl
     rotate_left
     ·simp only [Act.put, sq1, sq2, sq3, i64_w, i32_w]
      rfl
     refine take_ (i := 5) (N := some 22) (v := ?_) (a' := ?_) #[true, true, true, true, true, true, false, true, true, true, true, false, false, false, false] rfl rfl (take_ofW HT_.out HW_.out (by kernel_rfl)) (fun _ _ _ h => h) (Or.inl ⟨by rfl, ?_⟩) hHeld ?_ ?_
     rotate_left
     ·rintro w' ⟨s0, s1, s2, s3⟩
      go_simp
      with_reducible rfl
     rotate_left
     ·simp only [Act.put, sq1, sq2, sq3, i64_w, i32_w]
      rfl
     refine pure_ (i := 6) (N := some 23) (v := ?_) (a' := ?_) #[true, true, true, true, true, true, true, true, true, true, true, false, false, false, false] rfl rfl (any_of HT_.out (by kernel_rfl)) (fun _ _ _ h => h) (Or.inl ⟨by rfl, ?_⟩) ?_ ?_
     rotate_left
     ·intro w'
      go_simp
      with_reducible rfl
     rotate_left
     ·simp only [Act.put, sq1, sq2, sq3, i64_w, i32_w]
      rfl
     refine take_ (i := 11) (N := some 28) (v := ?_) (a' := ?_) #[true, true, true, true, true, true, true, true, true, true, true, true, false, false, false] rfl rfl (take_ofW HT_.out HW_.out (by kernel_rfl)) (fun _ _ _ h => h) (Or.inl ⟨by rfl, ?_⟩) hHeld ?_ ?_
     rotate_left
     ·rintro w' ⟨s0, s1, s2, s3⟩
      go_simp
      with_reducible rfl
     rotate_left
     ·simp only [Act.put, sq1, sq2, sq3, i64_w, i32_w]
      rfl
     refine one_ (i := 12) (N := some 29) #[true, true, true, true, true, true, true, true, true, true, true, true, true, false, false] rfl rfl (one_of HT_.out (by kernel_rfl)) (by decide) (fun K hK => ?_)
     refine Kd.R_lit_step (Kd.int .i64) _ 2 ?hg (N := 29) ?hd (xs := ([wrap64 ((rd_T54 l1 x5_1).f0), (rd_T54 l1 x5_1).f1] : List Int)) (inner := [.int .i64 (wrap64 ((rd_T54 l1 x5_1).f0)), .int .i64 ((rd_T54 l1 x5_1).f1)]) (ok := fun _ => True) (okp := fun _ => True) ?hr ?hp (fun _ hk => hk) trivial (Below.refl _ _) (Nat.le_refl _) (by simp) ?_; (case hd => rfl); (case hg => rfl); (case hr => first | (go_simp; done) | (go_simp; rfl)); (case hp => exact (Reps.one (show Kd.M (Kd.int .i64) _ _ _ (wrap64 ((rd_T54 l1 x5_1).f0)) [.int .i64 (wrap64 ((rd_T54 l1 x5_1).f0))] from rfl) (Reps.one (show Kd.M (Kd.int .i64) _ _ _ ((rd_T54 l1 x5_1).f1) [.int .i64 ((rd_T54 l1 x5_1).f1)] from rfl) (Reps.none _ _))))
     intro v193 w12 ho13 hb hg_ hnew_
     clear hg_ hnew_
     (first | rw [← Ny192.out] at ho13 | (simp only [Int.reduceToNat] at ho13; rw [← Ny192.out] at ho13))
     have n0_ := Aside0.mk (Kd.R_below (stR HO_0.out) hb)
     have n1_ := Aside0.mk (Kd.R_lower ho13 (below_size (stB HB.out)))
     have n2_ := Aside0.mk (below_step (stB HB.out) hb)
     clear HO_0
     clear HB
     have HO_0 := n0_
     have HO194 := n1_
     have HB := n2_
     clear n0_ n1_ n2_
     clear hb ho13
     obtain ⟨Ao14, co14, eo14⟩ := Kd.R_slice HO_0.out
     (first | subst eo14 | (injection eo14 with f1_ f2_ f3_; have f4_ := f1_.symm; have f5_ := f3_.symm; clear f1_ f2_ f3_; subst f4_; subst f5_))
     obtain ⟨Ao15, co15, eo15⟩ := Kd.R_slice HO194.out
     (first | subst eo15 | (injection eo15 with f1_ f2_ f3_; have f4_ := f1_.symm; have f5_ := f3_.symm; clear f1_ f2_ f3_; subst f4_; subst f5_))
     refine hK.out _ _ ⟨(cu HB.out hw190_0), (cu HB.out hw190_1), (cu HB.out hw191_0), (cu HB.out hw191_1)⟩ (fun hHeld => ?_)
     clear hK K
     refine norm_ (a' := ?_) ?_ ?_
     rotate_left
     ·show Act.put _ (some 29) _ = _
      simp only [Act.put, sq1, sq2, sq3, i64_w, i32_w]
      rfl
     refine one_ (i := 13) (N := some 30) #[true, true, true, true, true, true, true, true, true, true, true, true, true, true, false] rfl rfl (one_of HT_.out (by kernel_rfl)) (by decide) (fun K hK => ?_)
     refine goes_ Try.func51 (by kernel_rfl) rfl #[.slice Ao14 x0_1.length co14, .slice Ao15 y192.length co15] (by rfl) rfl rfl (by (try simp only [List.map_toArray, List.map_cons, List.map_nil]); first | done | rfl | (simp only [List.length_drop, List.length_take]; rfl)) ?_
     with_reducible refine (trivetref04_num.calls k1 _ _ x0_1 _ _ y192 t195 _ ?side1 ?side2 ?side3 ?side4 A10.out).mono ?_
     (case side1 => exact stC ((Kd.R_reads' HO_0.out).2.2))
     (case side2 => exact (Kd.R_reads' HO_0.out).2.1)
     (case side3 => exact stC ((Kd.R_reads' HO194.out).2.2))
     (case side4 => exact (Kd.R_reads' HO194.out).2.1)
     rintro e w16 ⟨v196, rfl, ho0, hb⟩
     refine ⟨_, rfl, ?_⟩
     have n0_ := Aside0.mk (Kd.R_elder' (stR HO_0.out) (Kd.R_base ho0) hb)
     have n1_ := Aside0.mk (Kd.R_below (stR HO194.out) hb)
     have n2_ := Aside0.mk (Kd.R_lower (Kd.R_new' ho0 (Kd.R_lt (stR HO_0.out))) (below_size (stB HB.out)))
     have n3_ := Aside0.mk (below_step (stB HB.out) hb)
     clear HO_0
     clear HO194
     clear HB
     have HO_0 := n0_
     have HO194 := n1_
     have HO197 := n2_
     have HB := n3_
     clear n0_ n1_ n2_ n3_
     (try clear hb)
     (try clear hb2)
     (try clear hk)
     (try clear hi)
     (try clear ho0)
     refine hK.out _ _ ⟨(cu HB.out hw190_0), (cu HB.out hw190_1), (cu HB.out hw191_0), (cu HB.out hw191_1)⟩ (fun hHeld => ?_)
     clear hK K
     refine norm_ (a' := ?_) ?_ ?_
     rotate_left
     ·show Act.put _ (some 30) _ = _
      simp only [Act.put, sq1, sq2, sq3, i64_w, i32_w]
      rfl
     refine pure_ (i := 14) (N := some 0) (v := ?_) (a' := ?_) #[true, true, true, true, true, true, true, true, true, true, true, true, true, true, true] rfl rfl (any_of HT_.out (by kernel_rfl)) (fun _ _ _ h => h) (Or.inl ⟨by rfl, ?_⟩) ?_ ?_
     rotate_left
     ·intro w'
      go_simp
      with_reducible rfl
     rotate_left
     ·simp only [Act.put, sq1, sq2, sq3, i64_w, i32_w]
      rfl
     refine done_ (done_of HT_.out (by kernel_rfl)) ?_
     try go_wp2
     go_roundg k1
     case measure => have := HK1.out; omega
     case rel => exact ⟨(t195), (wrap64 (x5_1 + 1)), (by first | rfl | (simp; done) | (simp [*]; done)), H', ⟨by have := HK1.out; omega⟩, ⟨by (with_reducible repeat (first|apply Kd.R_alloc | apply Kd.R_drewN | apply Kd.R_drew)); exact Kd.R_mono HO197.out (fun _ hk => trivial)⟩, ⟨stB HB.out⟩⟩
    ·rw [if_neg c9] at H
     exact absurd H (by simp)
   ·rw [if_neg c8] at H
    have c8b0 : decide (x5_1 < (l1.length : Int)) = false := decide_eq_false c8
    clear c8
    obtain rfl := Option.some.inj H
    go_wp2
    go_ret
    exact ⟨_, by first | rfl | (simp [errW_none, errW_some] <;> rfl) | (simp [*, errW_none, errW_some] <;> rfl), stR HO_0.out, stB HB.out⟩
end Go.Proofs.Ytgmlpmdfkaadhaa.G
end

section
-- Written by a program of this session's (wip/gprint.py over the kit's printer).
namespace Go.Proofs.Ytgmlpmdfkaadhaa.G
open Go.RowKit Go.Proofs.YtgmlpmdfkaadhaaW.PrintWords Go.Proofs.YtgmlpmdfkaadhaaW.PrintLast Go.Proofs.YtgmlpmdfkaadhaaW.PrintMore
attribute [local go_sem] max2_int min2_int max_two min_two max_three min_three max_four min_four   -- for this text's walks alone
def trivetref04_TxnForm.f (k : Nat) (a0_0 : Int) (a0_1 : Int) (l0_2 : List Int) (l0_3 : List Int) (l0_4 : List (S54)) (l0_5 : List (S54)) : Option (List Int) := (trivetref04_num.f k ([] : List Int) (([a0_0, a0_1] : List Int))).bind fun t202 => ((trivetref01_Blob.f k t202 l0_2).bind fun t205 => ((trivetref04_num.f k t205 (([(l0_3.length : Int)] : List Int))).bind fun t211 => ((trivetref04_num.f k t211 l0_3).bind fun t214 => ((trivetref04_keys.f k t214 l0_4).bind fun t217 => ((trivetref04_keys.f k t217 l0_5).bind fun t220 => (some t220))))))
def trivetref04_TxnForm.T1 : Bool × List (List Nat × List Nat) := (true, [([], []), ([0], [0]), ([], []), ([2], [2]), ([1, 3], [1, 3]), ([4], [4]), ([], []), ([6], [6]), ([5, 7, 5], [5, 7]), ([8, 8, 0, 1, 2, 3, 4, 5, 6, 7, 8], [8])])
def trivetref04_TxnForm.B1 : List Nat := [0, 1, 0, 4, 15, 31, 0, 64, 255, 511]
theorem trivetref04_TxnForm.tab1 : rtab .any (opsOf Try.f52 1) = trivetref04_TxnForm.T1 := by kernel_rfl
theorem trivetref04_TxnForm.bits1 : waitsOk trivetref04_TxnForm.T1.2 trivetref04_TxnForm.B1 = true := by kernel_rfl
def trivetref04_TxnForm.T2 : Bool × List (List Nat × List Nat) := (true, [([], []), ([], []), ([1], [1]), ([2], [2]), ([3], [3]), ([0, 4], [0, 4]), ([], []), ([6], [6]), ([5, 7, 5], [5, 7]), ([8, 8, 0, 1, 2, 3, 4, 5, 6, 7, 8], [0, 8])])
def trivetref04_TxnForm.B2 : List Nat := [0, 0, 2, 6, 14, 31, 0, 64, 255, 511]
theorem trivetref04_TxnForm.tab2 : rtab .any (opsOf Try.f52 2) = trivetref04_TxnForm.T2 := by kernel_rfl
theorem trivetref04_TxnForm.bits2 : waitsOk trivetref04_TxnForm.T2.2 trivetref04_TxnForm.B2 = true := by kernel_rfl
def trivetref04_TxnForm.T3 : Bool × List (List Nat × List Nat) := (true, [([], []), ([], []), ([1], [1]), ([0, 2], [0, 2]), ([], []), ([4], [4]), ([3, 5, 3], [3, 5]), ([6, 6, 0, 1, 2, 3, 4, 5, 6], [6])])
def trivetref04_TxnForm.B3 : List Nat := [0, 0, 2, 7, 0, 16, 63, 127]
theorem trivetref04_TxnForm.tab3 : rtab .any (opsOf Try.f52 3) = trivetref04_TxnForm.T3 := by kernel_rfl
theorem trivetref04_TxnForm.bits3 : waitsOk trivetref04_TxnForm.T3.2 trivetref04_TxnForm.B3 = true := by kernel_rfl
set_option maxHeartbeats 8000000 in
set_option maxRecDepth 100000 in
theorem trivetref04_TxnForm.calls (k : Nat) (a0_0 : Int) (a0_1 : Int) (A0_2 : Option Addr) (c0_2 : Nat) (l0_2 : List Int) (A0_3 : Option Addr) (c0_3 : Nat) (l0_3 : List Int) (A0_4 : Option Addr) (c0_4 : Nat) (l0_4 : List (S54)) (A0_5 : Option Addr) (c0_5 : Nat) (l0_5 : List (S54)) (r : List Int) (w : World) (hr0_2 : Kd.C (Kd.int .u8) w A0_2 l0_2.length l0_2) (hc0_2 : l0_2.length ≤ c0_2) (hr0_3 : Kd.C (Kd.int .i64) w A0_3 l0_3.length l0_3) (hc0_3 : l0_3.length ≤ c0_3) (hr0_4 : Kd.C k54 w A0_4 l0_4.length l0_4) (hc0_4 : l0_4.length ≤ c0_4) (hr0_5 : Kd.C k54 w A0_5 l0_5.length l0_5) (hc0_5 : l0_5.length ≤ c0_5) (h : trivetref04_TxnForm.f k a0_0 a0_1 l0_2 l0_3 l0_4 l0_5 = some r) :
  Calls Try.prog 52 #[.agg #[.int .i64 a0_0, .int .i64 a0_1, .slice A0_2 l0_2.length c0_2, .slice A0_3 l0_3.length c0_3, .slice A0_4 l0_4.length c0_4, .slice A0_5 l0_5.length c0_5]] w fun e w' => ∃ v0_ : Value, e = .returned (v0_) ∧ Kd.R (Kd.int .u8) 5 w' w.heap.size (fun _ => True) v0_ r ∧ Below w.heap.size w w' := by
 have hu32 := Try.underlying32
 have HR0_2 := Aside0.mk hr0_2
 have HC0_2 := Aside0.mk hc0_2
 clear hr0_2 hc0_2
 have HR0_3 := Aside0.mk hr0_3
 have HC0_3 := Aside0.mk hc0_3
 clear hr0_3 hc0_3
 have HR0_4 := Aside0.mk hr0_4
 have HC0_4 := Aside0.mk hc0_4
 clear hr0_4 hc0_4
 have HR0_5 := Aside0.mk hr0_5
 have HC0_5 := Aside0.mk hc0_5
 clear hr0_5 hc0_5
 have HB := Aside0.mk (Below.refl w.heap.size w)
 have H : ((trivetref04_num.f k ([] : List Int) (([a0_0, a0_1] : List Int))).bind fun t202 => ((trivetref01_Blob.f k t202 l0_2).bind fun t205 => ((trivetref04_num.f k t205 (([(l0_3.length : Int)] : List Int))).bind fun t211 => ((trivetref04_num.f k t211 l0_3).bind fun t214 => ((trivetref04_keys.f k t214 l0_4).bind fun t217 => ((trivetref04_keys.f k t217 l0_5).bind fun t220 => (some t220))))))) = some r := h
 clear h
 obtain ⟨y199, hy199⟩ : ∃ y_ : List Int, y_ = (([a0_0, a0_1] : List Int)) := ⟨_, rfl⟩
 replace H : ((trivetref04_num.f k ([] : List Int) y199).bind fun t202 => ((trivetref01_Blob.f k t202 l0_2).bind fun t205 => ((trivetref04_num.f k t205 (([(l0_3.length : Int)] : List Int))).bind fun t211 => ((trivetref04_num.f k t211 l0_3).bind fun t214 => ((trivetref04_keys.f k t214 l0_4).bind fun t217 => ((trivetref04_keys.f k t217 l0_5).bind fun t220 => (some t220))))))) = some r := by first | (rw [hy199]; with_reducible exact H) | (have H2_ := (Option.bind_some _ _).symm.trans H; rw [hy199]; with_reducible exact H2_) | (have H2_ := (Option.bind_some _ _).symm.trans H; with_reducible exact H2_) | with_reducible exact H | (rw [hy199]; exact H) | exact H
 have Ny199 := Aside0.mk hy199
 clear hy199
 replace H := Option.bind_eq_some_iff.mp H
 obtain ⟨t202, A20, H⟩ := H
 replace H : ((trivetref01_Blob.f k t202 l0_2).bind fun t205 => ((trivetref04_num.f k t205 (([(l0_3.length : Int)] : List Int))).bind fun t211 => ((trivetref04_num.f k t211 l0_3).bind fun t214 => ((trivetref04_keys.f k t214 l0_4).bind fun t217 => ((trivetref04_keys.f k t217 l0_5).bind fun t220 => (some t220)))))) = some r := H
 have A2 := Aside0.mk A20
 clear A20
 replace H := Option.bind_eq_some_iff.mp H
 obtain ⟨t205, A30, H⟩ := H
 replace H : ((trivetref04_num.f k t205 (([(l0_3.length : Int)] : List Int))).bind fun t211 => ((trivetref04_num.f k t211 l0_3).bind fun t214 => ((trivetref04_keys.f k t214 l0_4).bind fun t217 => ((trivetref04_keys.f k t217 l0_5).bind fun t220 => (some t220))))) = some r := H
 have A3 := Aside0.mk A30
 clear A30
 obtain ⟨y208, hy208⟩ : ∃ y_ : List Int, y_ = (([(l0_3.length : Int)] : List Int)) := ⟨_, rfl⟩
 replace H : ((trivetref04_num.f k t205 y208).bind fun t211 => ((trivetref04_num.f k t211 l0_3).bind fun t214 => ((trivetref04_keys.f k t214 l0_4).bind fun t217 => ((trivetref04_keys.f k t217 l0_5).bind fun t220 => (some t220))))) = some r := by first | (rw [hy208]; with_reducible exact H) | (have H2_ := (Option.bind_some _ _).symm.trans H; rw [hy208]; with_reducible exact H2_) | (have H2_ := (Option.bind_some _ _).symm.trans H; with_reducible exact H2_) | with_reducible exact H | (rw [hy208]; exact H) | exact H
 have Ny208 := Aside0.mk hy208
 clear hy208
 replace H := Option.bind_eq_some_iff.mp H
 obtain ⟨t211, A40, H⟩ := H
 replace H : ((trivetref04_num.f k t211 l0_3).bind fun t214 => ((trivetref04_keys.f k t214 l0_4).bind fun t217 => ((trivetref04_keys.f k t217 l0_5).bind fun t220 => (some t220)))) = some r := H
 have A4 := Aside0.mk A40
 clear A40
 replace H := Option.bind_eq_some_iff.mp H
 obtain ⟨t214, A50, H⟩ := H
 replace H : ((trivetref04_keys.f k t214 l0_4).bind fun t217 => ((trivetref04_keys.f k t217 l0_5).bind fun t220 => (some t220))) = some r := H
 have A5 := Aside0.mk A50
 clear A50
 replace H := Option.bind_eq_some_iff.mp H
 obtain ⟨t217, A60, H⟩ := H
 replace H : ((trivetref04_keys.f k t217 l0_5).bind fun t220 => (some t220)) = some r := H
 have A6 := Aside0.mk A60
 clear A60
 replace H := Option.bind_eq_some_iff.mp H
 obtain ⟨t220, A70, H⟩ := H
 replace H : (some t220) = some r := H
 have A7 := Aside0.mk A70
 clear A70
 obtain rfl := Option.some.inj H
 go_enter Try.func52, Try.ntmps52
 try go_wp2_with (first | ((with_reducible refine gate_dst (N := 1) rfl ?_); refine box_event ?hg (N := 1) ?hd (cs := #[.int .i64 a0_0, .int .i64 a0_1, .slice A0_2 l0_2.length c0_2, .slice A0_3 l0_3.length c0_3, .slice A0_4 l0_4.length c0_4, .slice A0_5 l0_5.length c0_5]) (t := 32) ?hr ?_; (case hd => rfl); (case hg => rfl); (case hr => first | (go_simp; done) | (go_simp; rfl)); intro gb198 hg w8 hbox hb; have n0_ := Aside0.mk (below_step (stB HB.out) hb); have n1_ := Aside0.mk (hbox); have n2_ := Aside0.mk ((by rw [hg]; exact (below_size (stB HB.out)) : w.heap.size ≤ gb198)); have n3_ := Aside0.mk ((by rw [hg]; exact (below_size (stB HB.out)) : w.heap.size ≤ gb198)); clear HB; have HB := n0_; have BK198 := n1_; have GW198 := n2_; have GE198 := n3_; clear n0_ n1_ n2_ n3_; clear hb hbox hg))
 have n0_ := Aside0.mk (blk_drew BK198.out)
 have n1_ := Aside0.mk (below_drew1 HB.out)
 clear BK198
 clear HB
 have BK198 := n0_
 have HB := n1_
 clear n0_ n1_
 refine start_ (n := 10) (S := fun w' => w'.cell? ⟨gb198, 0, none⟩ = some (.int .i64 a0_0) ∧ w'.cell? ⟨gb198, 1, none⟩ = some (.int .i64 a0_1) ∧ w'.cell? ⟨gb198, 2, none⟩ = some (.slice A0_2 l0_2.length c0_2) ∧ w'.cell? ⟨gb198, 3, none⟩ = some (.slice A0_3 l0_3.length c0_3) ∧ w'.cell? ⟨gb198, 4, none⟩ = some (.slice A0_4 l0_4.length c0_4) ∧ w'.cell? ⟨gb198, 5, none⟩ = some (.slice A0_5 l0_5.length c0_5)) (ds := []) #[false, false, false, false, false, false, false, false, false, false] (by kernel_rfl) rfl rfl (bc6 BK198.out) (fun hHeld => ?_); refine with_tabW trivetref04_TxnForm.tab1 trivetref04_TxnForm.bits1 (fun HT_ HW_ => ?_)
 generalize w8.drew = w9 at BK198 HB hHeld ⊢
 refine pure_ (i := 0) (N := some 4) (v := ?_) (a' := ?_) #[true, false, false, false, false, false, false, false, false, false] rfl rfl (any_of HT_.out (by kernel_rfl)) (fun _ _ _ h => h) (Or.inl ⟨by rfl, ?_⟩) ?_ ?_
 rotate_left
 ·intro w'
  go_simp
  with_reducible rfl
 rotate_left
 ·simp only [Act.put, sq1, sq2, sq3, i64_w, i32_w]
  rfl
 refine pure_ (i := 2) (N := some 6) (v := ?_) (a' := ?_) #[true, false, true, false, false, false, false, false, false, false] rfl rfl (any_of HT_.out (by kernel_rfl)) (fun _ _ _ h => h) (Or.inl ⟨by rfl, ?_⟩) ?_ ?_
 rotate_left
 ·intro w'
  go_simp
  with_reducible rfl
 rotate_left
 ·simp only [Act.put, sq1, sq2, sq3, i64_w, i32_w]
  rfl
 refine pure_ (i := 6) (N := some 10) (v := ?_) (a' := ?_) #[true, false, true, false, false, false, true, false, false, false] rfl rfl (any_of HT_.out (by kernel_rfl)) (fun _ _ _ h => h) (Or.inl ⟨by rfl, ?_⟩) ?_ ?_
 rotate_left
 ·intro w'
  go_simp
  with_reducible rfl
 rotate_left
 ·simp only [Act.put, sq1, sq2, sq3, i64_w, i32_w]
  rfl
 refine take_ (i := 1) (N := some 5) (v := ?_) (a' := ?_) #[true, true, true, false, false, false, true, false, false, false] rfl rfl (take_ofW HT_.out HW_.out (by kernel_rfl)) (fun _ _ _ h => h) (Or.inl ⟨by rfl, ?_⟩) hHeld ?_ ?_
 rotate_left
 ·rintro w' ⟨s0, s1, s2, s3, s4, s5⟩
  go_simp
  with_reducible rfl
 rotate_left
 ·simp only [Act.put, sq1, sq2, sq3, i64_w, i32_w]
  rfl
 refine take_ (i := 3) (N := some 7) (v := ?_) (a' := ?_) #[true, true, true, true, false, false, true, false, false, false] rfl rfl (take_ofW HT_.out HW_.out (by kernel_rfl)) (fun _ _ _ h => h) (Or.inl ⟨by rfl, ?_⟩) hHeld ?_ ?_
 rotate_left
 ·rintro w' ⟨s0, s1, s2, s3, s4, s5⟩
  go_simp
  with_reducible rfl
 rotate_left
 ·simp only [Act.put, sq1, sq2, sq3, i64_w, i32_w]
  rfl
 refine take_ (i := 7) (N := some 11) (v := ?_) (a' := ?_) #[true, true, true, true, false, false, true, true, false, false] rfl rfl (take_ofW HT_.out HW_.out (by kernel_rfl)) (fun _ _ _ h => h) (Or.inl ⟨by rfl, ?_⟩) hHeld ?_ ?_
 rotate_left
 ·rintro w' ⟨s0, s1, s2, s3, s4, s5⟩
  go_simp
  with_reducible rfl
 rotate_left
 ·simp only [Act.put, sq1, sq2, sq3, i64_w, i32_w]
  rfl
 refine one_ (i := 4) (N := some 8) #[true, true, true, true, true, false, true, true, false, false] rfl rfl (one_of HT_.out (by kernel_rfl)) (by decide) (fun K hK => ?_)
 refine Kd.R_lit_step (Kd.int .i64) _ 2 ?hg (N := 8) ?hd (xs := ([a0_0, a0_1] : List Int)) (inner := [.int .i64 a0_0, .int .i64 a0_1]) (ok := fun _ => True) (okp := fun _ => True) ?hr ?hp (fun _ hk => hk) trivial (Below.refl _ _) (Nat.le_refl _) (by simp) ?_; (case hd => rfl); (case hg => rfl); (case hr => first | (go_simp; done) | (go_simp; rfl)); (case hp => exact (Reps.one (show Kd.M (Kd.int .i64) _ _ _ a0_0 [.int .i64 a0_0] from rfl) (Reps.one (show Kd.M (Kd.int .i64) _ _ _ a0_1 [.int .i64 a0_1] from rfl) (Reps.none _ _))))
 intro v200 w10 ho11 hb hg_ hnew_
 clear hg_ hnew_
 (first | rw [← Ny199.out] at ho11 | (simp only [Int.reduceToNat] at ho11; rw [← Ny199.out] at ho11))
 have n0_ := Aside0.mk (Kd.R_lower ho11 (below_size (by repeat (first | (with_reducible first | exact HB.out | apply below_alloc | apply pw_below_drewN | apply below_drew1 | refine below_set ?_ GE198.out) | exact HB.out))))
 have n1_ := Aside0.mk (blk_below (g := gb198) (o := .cells #[.int .i64 a0_0, .int .i64 a0_1, .slice A0_2 l0_2.length c0_2, .slice A0_3 l0_3.length c0_3, .slice A0_4 l0_4.length c0_4, .slice A0_5 l0_5.length c0_5] 32 (0, 0)) (stK BK198.out) hb)
 have n2_ := Aside0.mk (below_step (by repeat (first | (with_reducible first | exact HB.out | apply below_alloc | apply pw_below_drewN | apply below_drew1 | refine below_set ?_ GE198.out) | exact HB.out)) hb)
 clear BK198
 clear HB
 have HO201 := n0_
 have BK198 := n1_
 have HB := n2_
 clear n0_ n1_ n2_
 clear hb ho11
 obtain ⟨Ao12, co12, eo12⟩ := Kd.R_slice HO201.out
 (first | subst eo12 | (injection eo12 with f1_ f2_ f3_; have f4_ := f1_.symm; have f5_ := f3_.symm; clear f1_ f2_ f3_; subst f4_; subst f5_))
 refine hK.out _ _ (bc6 BK198.out) (fun hHeld => ?_)
 clear hK K
 refine norm_ (a' := ?_) ?_ ?_
 rotate_left
 ·show Act.put _ (some 8) _ = _
  simp only [Act.put, sq1, sq2, sq3, i64_w, i32_w]
  rfl
 refine one_ (i := 5) (N := some 9) #[true, true, true, true, true, true, true, true, false, false] rfl rfl (one_of HT_.out (by kernel_rfl)) (by decide) (fun K hK => ?_)
 refine goes_ Try.func51 (by kernel_rfl) rfl #[.slice none 0 0, .slice Ao12 y199.length co12] (by rfl) rfl rfl (by (try simp only [List.map_toArray, List.map_cons, List.map_nil]); first | done | rfl | (simp only [List.length_drop, List.length_take]; rfl)) ?_
 refine (trivetref04_num.calls k _ _ ([] : List Int) _ _ y199 t202 _ ?side1 ?side2 ?side3 ?side4 A2.out).mono ?_
 (case side1 => exact Kd.C_nil _ _)
 (case side2 => exact Nat.le_refl _)
 (case side3 => exact stC ((Kd.R_reads' HO201.out).2.2))
 (case side4 => exact (Kd.R_reads' HO201.out).2.1)
 rintro e w13 ⟨v203, rfl, ho0, hb⟩
 refine ⟨_, rfl, ?_⟩
 have n0_ := Aside0.mk (Kd.R_below (stR HO201.out) hb)
 have n1_ := Aside0.mk (Kd.R_lower ho0 (below_size (by repeat (first | (with_reducible first | exact HB.out | apply below_alloc | apply pw_below_drewN | apply below_drew1 | refine below_set ?_ GE198.out) | exact HB.out))))
 have n2_ := Aside0.mk (blk_below (g := gb198) (o := .cells #[.int .i64 a0_0, .int .i64 a0_1, .slice A0_2 l0_2.length c0_2, .slice A0_3 l0_3.length c0_3, .slice A0_4 l0_4.length c0_4, .slice A0_5 l0_5.length c0_5] 32 (0, 0)) (stK BK198.out) hb)
 have n3_ := Aside0.mk (below_step (by repeat (first | (with_reducible first | exact HB.out | apply below_alloc | apply pw_below_drewN | apply below_drew1 | refine below_set ?_ GE198.out) | exact HB.out)) hb)
 clear HO201
 clear BK198
 clear HB
 have HO201 := n0_
 have HO204 := n1_
 have BK198 := n2_
 have HB := n3_
 clear n0_ n1_ n2_ n3_
 (try clear hb)
 (try clear hb2)
 (try clear hk)
 (try clear hi)
 (try clear ho0)
 obtain ⟨Ao14, co14, eo14⟩ := Kd.R_slice HO204.out
 (first | subst eo14 | (injection eo14 with f1_ f2_ f3_; have f4_ := f1_.symm; have f5_ := f3_.symm; clear f1_ f2_ f3_; subst f4_; subst f5_))
 refine hK.out _ _ (bc6 BK198.out) (fun hHeld => ?_)
 clear hK K
 refine norm_ (a' := ?_) ?_ ?_
 rotate_left
 ·show Act.put _ (some 9) _ = _
  simp only [Act.put, sq1, sq2, sq3, i64_w, i32_w]
  rfl
 refine one_ (i := 8) (N := some 12) #[true, true, true, true, true, true, true, true, true, false] rfl rfl (one_of HT_.out (by kernel_rfl)) (by decide) (fun K hK => ?_)
 refine goes_ Try.func67 (by kernel_rfl) rfl #[.slice Ao14 t202.length co14, .slice A0_2 l0_2.length c0_2] (by rfl) rfl rfl (by (try simp only [List.map_toArray, List.map_cons, List.map_nil]); first | done | rfl | (simp only [List.length_drop, List.length_take]; rfl)) ?_
 with_reducible refine (trivetref01_Blob.calls k _ _ t202 _ _ l0_2 t205 _ ?side1 ?side2 ?side3 ?side4 A3.out).mono ?_
 (case side1 => exact stC ((Kd.R_reads' HO204.out).2.2))
 (case side2 => exact (Kd.R_reads' HO204.out).2.1)
 (case side3 => exact stC (Kd.C_below HR0_2.out HB.out))
 (case side4 => exact HC0_2.out)
 rintro e w15 ⟨v206, rfl, ho0, hb⟩
 refine ⟨_, rfl, ?_⟩
 have n0_ := Aside0.mk (Kd.R_below (stR HO201.out) hb)
 have n1_ := Aside0.mk (Kd.R_elder' (stR HO204.out) (Kd.R_base ho0) hb)
 have n2_ := Aside0.mk (Kd.R_lower (Kd.R_new' ho0 (Kd.R_lt (stR HO204.out))) (below_size (by repeat (first | (with_reducible first | exact HB.out | apply below_alloc | apply pw_below_drewN | apply below_drew1 | refine below_set ?_ GE198.out) | exact HB.out))))
 have n3_ := Aside0.mk (blk_below (g := gb198) (o := .cells #[.int .i64 a0_0, .int .i64 a0_1, .slice A0_2 l0_2.length c0_2, .slice A0_3 l0_3.length c0_3, .slice A0_4 l0_4.length c0_4, .slice A0_5 l0_5.length c0_5] 32 (0, 0)) (stK BK198.out) hb)
 have n4_ := Aside0.mk (below_step (by repeat (first | (with_reducible first | exact HB.out | apply below_alloc | apply pw_below_drewN | apply below_drew1 | refine below_set ?_ GE198.out) | exact HB.out)) hb)
 clear HO201
 clear HO204
 clear BK198
 clear HB
 have HO201 := n0_
 have HO204 := n1_
 have HO207 := n2_
 have BK198 := n3_
 have HB := n4_
 clear n0_ n1_ n2_ n3_ n4_
 (try clear hb)
 (try clear hb2)
 (try clear hk)
 (try clear hi)
 (try clear ho0)
 refine hK.out _ _ (bc6 BK198.out) (fun hHeld => ?_)
 clear hK K
 refine norm_ (a' := ?_) ?_ ?_
 rotate_left
 ·show Act.put _ (some 12) _ = _
  simp only [Act.put, sq1, sq2, sq3, i64_w, i32_w]
  rfl
 refine pure_ (i := 9) (N := some 3) (v := ?_) (a' := ?_) #[true, true, true, true, true, true, true, true, true, true] rfl rfl (any_of HT_.out (by kernel_rfl)) (fun _ _ _ h => h) (Or.inl ⟨by rfl, ?_⟩) ?_ ?_
 rotate_left
 ·intro w'
  go_simp
  with_reducible rfl
 rotate_left
 ·simp only [Act.put, sq1, sq2, sq3, i64_w, i32_w]
  rfl
 refine done_ (done_of HT_.out (by kernel_rfl)) ?_
 try go_wp2
 have n0_ := Aside0.mk (Kd.R_drew HO201.out)
 have n1_ := Aside0.mk (Kd.R_drew HO204.out)
 have n2_ := Aside0.mk (Kd.R_drew HO207.out)
 have n3_ := Aside0.mk (blk_drew BK198.out)
 have n4_ := Aside0.mk (below_drew1 HB.out)
 clear HO201
 clear HO204
 clear HO207
 clear BK198
 clear HB
 have HO201 := n0_
 have HO204 := n1_
 have HO207 := n2_
 have BK198 := n3_
 have HB := n4_
 clear n0_ n1_ n2_ n3_ n4_
 refine start_ (n := 10) (S := fun w' => w'.cell? ⟨gb198, 0, none⟩ = some (.int .i64 a0_0) ∧ w'.cell? ⟨gb198, 1, none⟩ = some (.int .i64 a0_1) ∧ w'.cell? ⟨gb198, 2, none⟩ = some (.slice A0_2 l0_2.length c0_2) ∧ w'.cell? ⟨gb198, 3, none⟩ = some (.slice A0_3 l0_3.length c0_3) ∧ w'.cell? ⟨gb198, 4, none⟩ = some (.slice A0_4 l0_4.length c0_4) ∧ w'.cell? ⟨gb198, 5, none⟩ = some (.slice A0_5 l0_5.length c0_5)) (ds := []) #[false, false, false, false, false, false, false, false, false, false] (by kernel_rfl) rfl rfl (bc6 BK198.out) (fun hHeld => ?_); refine with_tabW trivetref04_TxnForm.tab2 trivetref04_TxnForm.bits2 (fun HT_ HW_ => ?_)
 generalize w15.drew = w16 at HO201 HO204 HO207 BK198 HB hHeld ⊢
 refine pure_ (i := 0) (N := some 13) (v := ?_) (a' := ?_) #[true, false, false, false, false, false, false, false, false, false] rfl rfl (any_of HT_.out (by kernel_rfl)) (fun _ _ _ h => h) (Or.inl ⟨by rfl, ?_⟩) ?_ ?_
 rotate_left
 ·intro w'
  go_simp
  with_reducible rfl
 rotate_left
 ·simp only [Act.put, sq1, sq2, sq3, i64_w, i32_w]
  rfl
 refine pure_ (i := 1) (N := some 14) (v := ?_) (a' := ?_) #[true, true, false, false, false, false, false, false, false, false] rfl rfl (any_of HT_.out (by kernel_rfl)) (fun _ _ _ h => h) (Or.inl ⟨by rfl, ?_⟩) ?_ ?_
 rotate_left
 ·intro w'
  go_simp
  with_reducible rfl
 rotate_left
 ·simp only [Act.put, sq1, sq2, sq3, i64_w, i32_w]
  rfl
 refine pure_ (i := 6) (N := some 19) (v := ?_) (a' := ?_) #[true, true, false, false, false, false, true, false, false, false] rfl rfl (any_of HT_.out (by kernel_rfl)) (fun _ _ _ h => h) (Or.inl ⟨by rfl, ?_⟩) ?_ ?_
 rotate_left
 ·intro w'
  go_simp
  with_reducible rfl
 rotate_left
 ·simp only [Act.put, sq1, sq2, sq3, i64_w, i32_w]
  rfl
 refine take_ (i := 2) (N := some 15) (v := ?_) (a' := ?_) #[true, true, true, false, false, false, true, false, false, false] rfl rfl (take_ofW HT_.out HW_.out (by kernel_rfl)) (fun _ _ _ h => h) (Or.inl ⟨by rfl, ?_⟩) hHeld ?_ ?_
 rotate_left
 ·rintro w' ⟨s0, s1, s2, s3, s4, s5⟩
  go_simp
  with_reducible rfl
 rotate_left
 ·simp only [Act.put, sq1, sq2, sq3, i64_w, i32_w]
  rfl
 refine pure_ (i := 3) (N := some 16) (v := ?_) (a' := ?_) #[true, true, true, true, false, false, true, false, false, false] rfl rfl (any_of HT_.out (by kernel_rfl)) (fun _ _ _ h => h) (Or.inl ⟨by rfl, ?_⟩) ?_ ?_
 rotate_left
 ·intro w'
  go_simp
  with_reducible rfl
 rotate_left
 ·simp only [Act.put, sq1, sq2, sq3, i64_w, i32_w]
  rfl
 refine take_ (i := 7) (N := some 20) (v := ?_) (a' := ?_) #[true, true, true, true, false, false, true, true, false, false] rfl rfl (take_ofW HT_.out HW_.out (by kernel_rfl)) (fun _ _ _ h => h) (Or.inl ⟨by rfl, ?_⟩) hHeld ?_ ?_
 rotate_left
 ·rintro w' ⟨s0, s1, s2, s3, s4, s5⟩
  go_simp
  with_reducible rfl
 rotate_left
 ·simp only [Act.put, sq1, sq2, sq3, i64_w, i32_w]
  rfl
 refine one_ (i := 4) (N := some 17) #[true, true, true, true, true, false, true, true, false, false] rfl rfl (one_of HT_.out (by kernel_rfl)) (by decide) (fun K hK => ?_)
 refine Kd.R_lit_step (Kd.int .i64) _ 2 ?hg (N := 17) ?hd (xs := ([(l0_3.length : Int)] : List Int)) (inner := [.int .i64 (l0_3.length : Int)]) (ok := fun _ => True) (okp := fun _ => True) ?hr ?hp (fun _ hk => hk) trivial (Below.refl _ _) (Nat.le_refl _) (by simp) ?_; (case hd => rfl); (case hg => rfl); (case hr => first | (go_simp; done) | (go_simp; rfl)); (case hp => exact (Reps.one (show Kd.M (Kd.int .i64) _ _ _ (l0_3.length : Int) [.int .i64 (l0_3.length : Int)] from rfl) (Reps.none _ _)))
 intro v209 w17 ho18 hb hg_ hnew_
 clear hg_ hnew_
 (first | rw [← Ny208.out] at ho18 | (simp only [Int.reduceToNat] at ho18; rw [← Ny208.out] at ho18))
 have n0_ := Aside0.mk (Kd.R_elder' (stR HO201.out) (Kd.R_base ho18) hb)
 have n1_ := Aside0.mk (Kd.R_below (stR HO204.out) hb)
 have n2_ := Aside0.mk (Kd.R_below (stR HO207.out) hb)
 have n3_ := Aside0.mk (Kd.R_lower (Kd.R_new' ho18 (Kd.R_lt (stR HO201.out))) (below_size (by repeat (first | (with_reducible first | exact HB.out | apply below_alloc | apply pw_below_drewN | apply below_drew1 | refine below_set ?_ GE198.out) | exact HB.out))))
 have n4_ := Aside0.mk (blk_below (g := gb198) (o := .cells #[.int .i64 a0_0, .int .i64 a0_1, .slice A0_2 l0_2.length c0_2, .slice A0_3 l0_3.length c0_3, .slice A0_4 l0_4.length c0_4, .slice A0_5 l0_5.length c0_5] 32 (0, 0)) (stK BK198.out) hb)
 have n5_ := Aside0.mk (below_step (by repeat (first | (with_reducible first | exact HB.out | apply below_alloc | apply pw_below_drewN | apply below_drew1 | refine below_set ?_ GE198.out) | exact HB.out)) hb)
 clear HO201
 clear HO204
 clear HO207
 clear BK198
 clear HB
 have HO201 := n0_
 have HO204 := n1_
 have HO207 := n2_
 have HO210 := n3_
 have BK198 := n4_
 have HB := n5_
 clear n0_ n1_ n2_ n3_ n4_ n5_
 clear hb ho18
 obtain ⟨Ao19, co19, eo19⟩ := Kd.R_slice HO207.out
 (first | subst eo19 | (injection eo19 with f1_ f2_ f3_; have f4_ := f1_.symm; have f5_ := f3_.symm; clear f1_ f2_ f3_; subst f4_; subst f5_))
 obtain ⟨Ao20, co20, eo20⟩ := Kd.R_slice HO210.out
 (first | subst eo20 | (injection eo20 with f1_ f2_ f3_; have f4_ := f1_.symm; have f5_ := f3_.symm; clear f1_ f2_ f3_; subst f4_; subst f5_))
 refine hK.out _ _ (bc6 BK198.out) (fun hHeld => ?_)
 clear hK K
 refine norm_ (a' := ?_) ?_ ?_
 rotate_left
 ·show Act.put _ (some 17) _ = _
  simp only [Act.put, sq1, sq2, sq3, i64_w, i32_w]
  rfl
 refine one_ (i := 5) (N := some 18) #[true, true, true, true, true, true, true, true, false, false] rfl rfl (one_of HT_.out (by kernel_rfl)) (by decide) (fun K hK => ?_)
 refine goes_ Try.func51 (by kernel_rfl) rfl #[.slice Ao19 t205.length co19, .slice Ao20 y208.length co20] (by rfl) rfl rfl (by (try simp only [List.map_toArray, List.map_cons, List.map_nil]); first | done | rfl | (simp only [List.length_drop, List.length_take]; rfl)) ?_
 with_reducible refine (trivetref04_num.calls k _ _ t205 _ _ y208 t211 _ ?side1 ?side2 ?side3 ?side4 A4.out).mono ?_
 (case side1 => exact stC ((Kd.R_reads' HO207.out).2.2))
 (case side2 => exact (Kd.R_reads' HO207.out).2.1)
 (case side3 => exact stC ((Kd.R_reads' HO210.out).2.2))
 (case side4 => exact (Kd.R_reads' HO210.out).2.1)
 rintro e w21 ⟨v212, rfl, ho0, hb⟩
 refine ⟨_, rfl, ?_⟩
 have n0_ := Aside0.mk (Kd.R_below (stR HO201.out) hb)
 have n1_ := Aside0.mk (Kd.R_elder' (stR HO204.out) (Kd.R_base ho0) hb)
 have n2_ := Aside0.mk (Kd.R_elder' (stR HO207.out) (Kd.R_base ho0) hb)
 have n3_ := Aside0.mk (Kd.R_below (stR HO210.out) hb)
 have n4_ := Aside0.mk (Kd.R_lower (Kd.R_new' (Kd.R_new' ho0 (Kd.R_lt (stR HO204.out))) (Kd.R_lt (stR HO207.out))) (below_size (by repeat (first | (with_reducible first | exact HB.out | apply below_alloc | apply pw_below_drewN | apply below_drew1 | refine below_set ?_ GE198.out) | exact HB.out))))
 have n5_ := Aside0.mk (blk_below (g := gb198) (o := .cells #[.int .i64 a0_0, .int .i64 a0_1, .slice A0_2 l0_2.length c0_2, .slice A0_3 l0_3.length c0_3, .slice A0_4 l0_4.length c0_4, .slice A0_5 l0_5.length c0_5] 32 (0, 0)) (stK BK198.out) hb)
 have n6_ := Aside0.mk (below_step (by repeat (first | (with_reducible first | exact HB.out | apply below_alloc | apply pw_below_drewN | apply below_drew1 | refine below_set ?_ GE198.out) | exact HB.out)) hb)
 clear HO201
 clear HO204
 clear HO207
 clear HO210
 clear BK198
 clear HB
 have HO201 := n0_
 have HO204 := n1_
 have HO207 := n2_
 have HO210 := n3_
 have HO213 := n4_
 have BK198 := n5_
 have HB := n6_
 clear n0_ n1_ n2_ n3_ n4_ n5_ n6_
 (try clear hb)
 (try clear hb2)
 (try clear hk)
 (try clear hi)
 (try clear ho0)
 obtain ⟨Ao22, co22, eo22⟩ := Kd.R_slice HO213.out
 (first | subst eo22 | (injection eo22 with f1_ f2_ f3_; have f4_ := f1_.symm; have f5_ := f3_.symm; clear f1_ f2_ f3_; subst f4_; subst f5_))
 refine hK.out _ _ (bc6 BK198.out) (fun hHeld => ?_)
 clear hK K
 refine norm_ (a' := ?_) ?_ ?_
 rotate_left
 ·show Act.put _ (some 18) _ = _
  simp only [Act.put, sq1, sq2, sq3, i64_w, i32_w]
  rfl
 refine one_ (i := 8) (N := some 21) #[true, true, true, true, true, true, true, true, true, false] rfl rfl (one_of HT_.out (by kernel_rfl)) (by decide) (fun K hK => ?_)
 refine goes_ Try.func51 (by kernel_rfl) rfl #[.slice Ao22 t211.length co22, .slice A0_3 l0_3.length c0_3] (by rfl) rfl rfl (by (try simp only [List.map_toArray, List.map_cons, List.map_nil]); first | done | rfl | (simp only [List.length_drop, List.length_take]; rfl)) ?_
 with_reducible refine (trivetref04_num.calls k _ _ t211 _ _ l0_3 t214 _ ?side1 ?side2 ?side3 ?side4 A5.out).mono ?_
 (case side1 => exact stC ((Kd.R_reads' HO213.out).2.2))
 (case side2 => exact (Kd.R_reads' HO213.out).2.1)
 (case side3 => exact stC (Kd.C_below HR0_3.out HB.out))
 (case side4 => exact HC0_3.out)
 rintro e w23 ⟨v215, rfl, ho0, hb⟩
 refine ⟨_, rfl, ?_⟩
 have n0_ := Aside0.mk (Kd.R_below (stR HO201.out) hb)
 have n1_ := Aside0.mk (Kd.R_elder' (stR HO204.out) (Kd.R_base ho0) hb)
 have n2_ := Aside0.mk (Kd.R_elder' (stR HO207.out) (Kd.R_base ho0) hb)
 have n3_ := Aside0.mk (Kd.R_below (stR HO210.out) hb)
 have n4_ := Aside0.mk (Kd.R_elder' (stR HO213.out) (Kd.R_base ho0) hb)
 have n5_ := Aside0.mk (Kd.R_lower (Kd.R_new' (Kd.R_new' (Kd.R_new' ho0 (Kd.R_lt (stR HO204.out))) (Kd.R_lt (stR HO207.out))) (Kd.R_lt (stR HO213.out))) (below_size (by repeat (first | (with_reducible first | exact HB.out | apply below_alloc | apply pw_below_drewN | apply below_drew1 | refine below_set ?_ GE198.out) | exact HB.out))))
 have n6_ := Aside0.mk (blk_below (g := gb198) (o := .cells #[.int .i64 a0_0, .int .i64 a0_1, .slice A0_2 l0_2.length c0_2, .slice A0_3 l0_3.length c0_3, .slice A0_4 l0_4.length c0_4, .slice A0_5 l0_5.length c0_5] 32 (0, 0)) (stK BK198.out) hb)
 have n7_ := Aside0.mk (below_step (by repeat (first | (with_reducible first | exact HB.out | apply below_alloc | apply pw_below_drewN | apply below_drew1 | refine below_set ?_ GE198.out) | exact HB.out)) hb)
 clear HO201
 clear HO204
 clear HO207
 clear HO210
 clear HO213
 clear BK198
 clear HB
 have HO201 := n0_
 have HO204 := n1_
 have HO207 := n2_
 have HO210 := n3_
 have HO213 := n4_
 have HO216 := n5_
 have BK198 := n6_
 have HB := n7_
 clear n0_ n1_ n2_ n3_ n4_ n5_ n6_ n7_
 (try clear hb)
 (try clear hb2)
 (try clear hk)
 (try clear hi)
 (try clear ho0)
 refine hK.out _ _ (bc6 BK198.out) (fun hHeld => ?_)
 clear hK K
 refine norm_ (a' := ?_) ?_ ?_
 rotate_left
 ·show Act.put _ (some 21) _ = _
  simp only [Act.put, sq1, sq2, sq3, i64_w, i32_w]
  rfl
 refine pure_ (i := 9) (N := some 3) (v := ?_) (a' := ?_) #[true, true, true, true, true, true, true, true, true, true] rfl rfl (any_of HT_.out (by kernel_rfl)) (fun _ _ _ h => h) (Or.inl ⟨by rfl, ?_⟩) ?_ ?_
 rotate_left
 ·intro w'
  go_simp
  with_reducible rfl
 rotate_left
 ·simp only [Act.put, sq1, sq2, sq3, i64_w, i32_w]
  rfl
 refine done_ (done_of HT_.out (by kernel_rfl)) ?_
 try go_wp2
 have n0_ := Aside0.mk (Kd.R_drew HO201.out)
 have n1_ := Aside0.mk (Kd.R_drew HO204.out)
 have n2_ := Aside0.mk (Kd.R_drew HO207.out)
 have n3_ := Aside0.mk (Kd.R_drew HO210.out)
 have n4_ := Aside0.mk (Kd.R_drew HO213.out)
 have n5_ := Aside0.mk (Kd.R_drew HO216.out)
 have n6_ := Aside0.mk (blk_drew BK198.out)
 have n7_ := Aside0.mk (below_drew1 HB.out)
 clear HO201
 clear HO204
 clear HO207
 clear HO210
 clear HO213
 clear HO216
 clear BK198
 clear HB
 have HO201 := n0_
 have HO204 := n1_
 have HO207 := n2_
 have HO210 := n3_
 have HO213 := n4_
 have HO216 := n5_
 have BK198 := n6_
 have HB := n7_
 clear n0_ n1_ n2_ n3_ n4_ n5_ n6_ n7_
 obtain ⟨Ao25, co25, eo25⟩ := Kd.R_slice HO216.out
 (first | subst eo25 | (injection eo25 with f1_ f2_ f3_; have f4_ := f1_.symm; have f5_ := f3_.symm; clear f1_ f2_ f3_; subst f4_; subst f5_))
 refine start_ (n := 8) (S := fun w' => w'.cell? ⟨gb198, 0, none⟩ = some (.int .i64 a0_0) ∧ w'.cell? ⟨gb198, 1, none⟩ = some (.int .i64 a0_1) ∧ w'.cell? ⟨gb198, 2, none⟩ = some (.slice A0_2 l0_2.length c0_2) ∧ w'.cell? ⟨gb198, 3, none⟩ = some (.slice A0_3 l0_3.length c0_3) ∧ w'.cell? ⟨gb198, 4, none⟩ = some (.slice A0_4 l0_4.length c0_4) ∧ w'.cell? ⟨gb198, 5, none⟩ = some (.slice A0_5 l0_5.length c0_5)) (ds := []) #[false, false, false, false, false, false, false, false] (by kernel_rfl) rfl rfl (bc6 BK198.out) (fun hHeld => ?_); refine with_tabW trivetref04_TxnForm.tab3 trivetref04_TxnForm.bits3 (fun HT_ HW_ => ?_)
 generalize w23.drew = w24 at HO201 HO204 HO207 HO210 HO213 HO216 BK198 HB hHeld ⊢
 refine pure_ (i := 0) (N := some 22) (v := ?_) (a' := ?_) #[true, false, false, false, false, false, false, false] rfl rfl (any_of HT_.out (by kernel_rfl)) (fun _ _ _ h => h) (Or.inl ⟨by rfl, ?_⟩) ?_ ?_
 rotate_left
 ·intro w'
  go_simp
  with_reducible rfl
 rotate_left
 ·simp only [Act.put, sq1, sq2, sq3, i64_w, i32_w]
  rfl
 refine pure_ (i := 1) (N := some 23) (v := ?_) (a' := ?_) #[true, true, false, false, false, false, false, false] rfl rfl (any_of HT_.out (by kernel_rfl)) (fun _ _ _ h => h) (Or.inl ⟨by rfl, ?_⟩) ?_ ?_
 rotate_left
 ·intro w'
  go_simp
  with_reducible rfl
 rotate_left
 ·simp only [Act.put, sq1, sq2, sq3, i64_w, i32_w]
  rfl
 refine pure_ (i := 4) (N := some 26) (v := ?_) (a' := ?_) #[true, true, false, false, true, false, false, false] rfl rfl (any_of HT_.out (by kernel_rfl)) (fun _ _ _ h => h) (Or.inl ⟨by rfl, ?_⟩) ?_ ?_
 rotate_left
 ·intro w'
  go_simp
  with_reducible rfl
 rotate_left
 ·simp only [Act.put, sq1, sq2, sq3, i64_w, i32_w]
  rfl
 refine take_ (i := 2) (N := some 24) (v := ?_) (a' := ?_) #[true, true, true, false, true, false, false, false] rfl rfl (take_ofW HT_.out HW_.out (by kernel_rfl)) (fun _ _ _ h => h) (Or.inl ⟨by rfl, ?_⟩) hHeld ?_ ?_
 rotate_left
 ·rintro w' ⟨s0, s1, s2, s3, s4, s5⟩
  go_simp
  with_reducible rfl
 rotate_left
 ·simp only [Act.put, sq1, sq2, sq3, i64_w, i32_w]
  rfl
 refine take_ (i := 5) (N := some 27) (v := ?_) (a' := ?_) #[true, true, true, false, true, true, false, false] rfl rfl (take_ofW HT_.out HW_.out (by kernel_rfl)) (fun _ _ _ h => h) (Or.inl ⟨by rfl, ?_⟩) hHeld ?_ ?_
 rotate_left
 ·rintro w' ⟨s0, s1, s2, s3, s4, s5⟩
  go_simp
  with_reducible rfl
 rotate_left
 ·simp only [Act.put, sq1, sq2, sq3, i64_w, i32_w]
  rfl
 refine one_ (i := 3) (N := some 25) #[true, true, true, true, true, true, false, false] rfl rfl (one_of HT_.out (by kernel_rfl)) (by decide) (fun K hK => ?_)
 refine goes_ Try.func68 (by kernel_rfl) rfl #[.slice Ao25 t214.length co25, .slice A0_4 l0_4.length c0_4] (by rfl) rfl rfl (by (try simp only [List.map_toArray, List.map_cons, List.map_nil]); first | done | rfl | (simp only [List.length_drop, List.length_take]; rfl)) ?_
 with_reducible refine (trivetref04_keys.calls k _ _ t214 _ _ l0_4 t217 _ ?side1 ?side2 ?side3 ?side4 A6.out).mono ?_
 (case side1 => exact stC ((Kd.R_reads' HO216.out).2.2))
 (case side2 => exact (Kd.R_reads' HO216.out).2.1)
 (case side3 => exact stC (Kd.C_below HR0_4.out HB.out))
 (case side4 => exact HC0_4.out)
 rintro e w26 ⟨v218, rfl, ho0, hb⟩
 refine ⟨_, rfl, ?_⟩
 have n0_ := Aside0.mk (Kd.R_below (stR HO201.out) hb)
 have n1_ := Aside0.mk (Kd.R_elder' (stR HO204.out) (Kd.R_base ho0) hb)
 have n2_ := Aside0.mk (Kd.R_elder' (stR HO207.out) (Kd.R_base ho0) hb)
 have n3_ := Aside0.mk (Kd.R_below (stR HO210.out) hb)
 have n4_ := Aside0.mk (Kd.R_elder' (stR HO213.out) (Kd.R_base ho0) hb)
 have n5_ := Aside0.mk (Kd.R_elder' (stR HO216.out) (Kd.R_base ho0) hb)
 have n6_ := Aside0.mk (Kd.R_lower (Kd.R_new' (Kd.R_new' (Kd.R_new' (Kd.R_new' ho0 (Kd.R_lt (stR HO204.out))) (Kd.R_lt (stR HO207.out))) (Kd.R_lt (stR HO213.out))) (Kd.R_lt (stR HO216.out))) (below_size (by repeat (first | (with_reducible first | exact HB.out | apply below_alloc | apply pw_below_drewN | apply below_drew1 | refine below_set ?_ GE198.out) | exact HB.out))))
 have n7_ := Aside0.mk (blk_below (g := gb198) (o := .cells #[.int .i64 a0_0, .int .i64 a0_1, .slice A0_2 l0_2.length c0_2, .slice A0_3 l0_3.length c0_3, .slice A0_4 l0_4.length c0_4, .slice A0_5 l0_5.length c0_5] 32 (0, 0)) (stK BK198.out) hb)
 have n8_ := Aside0.mk (below_step (by repeat (first | (with_reducible first | exact HB.out | apply below_alloc | apply pw_below_drewN | apply below_drew1 | refine below_set ?_ GE198.out) | exact HB.out)) hb)
 clear HO201
 clear HO204
 clear HO207
 clear HO210
 clear HO213
 clear HO216
 clear BK198
 clear HB
 have HO201 := n0_
 have HO204 := n1_
 have HO207 := n2_
 have HO210 := n3_
 have HO213 := n4_
 have HO216 := n5_
 have HO219 := n6_
 have BK198 := n7_
 have HB := n8_
 clear n0_ n1_ n2_ n3_ n4_ n5_ n6_ n7_ n8_
 (try clear hb)
 (try clear hb2)
 (try clear hk)
 (try clear hi)
 (try clear ho0)
 obtain ⟨Ao27, co27, eo27⟩ := Kd.R_slice HO219.out
 (first | subst eo27 | (injection eo27 with f1_ f2_ f3_; have f4_ := f1_.symm; have f5_ := f3_.symm; clear f1_ f2_ f3_; subst f4_; subst f5_))
 refine hK.out _ _ (bc6 BK198.out) (fun hHeld => ?_)
 clear hK K
 refine norm_ (a' := ?_) ?_ ?_
 rotate_left
 ·show Act.put _ (some 25) _ = _
  simp only [Act.put, sq1, sq2, sq3, i64_w, i32_w]
  rfl
 refine one_ (i := 6) (N := some 28) #[true, true, true, true, true, true, true, false] rfl rfl (one_of HT_.out (by kernel_rfl)) (by decide) (fun K hK => ?_)
 refine goes_ Try.func68 (by kernel_rfl) rfl #[.slice Ao27 t217.length co27, .slice A0_5 l0_5.length c0_5] (by rfl) rfl rfl (by (try simp only [List.map_toArray, List.map_cons, List.map_nil]); first | done | rfl | (simp only [List.length_drop, List.length_take]; rfl)) ?_
 with_reducible refine (trivetref04_keys.calls k _ _ t217 _ _ l0_5 t220 _ ?side1 ?side2 ?side3 ?side4 A7.out).mono ?_
 (case side1 => exact stC ((Kd.R_reads' HO219.out).2.2))
 (case side2 => exact (Kd.R_reads' HO219.out).2.1)
 (case side3 => exact stC (Kd.C_below HR0_5.out HB.out))
 (case side4 => exact HC0_5.out)
 rintro e w28 ⟨v221, rfl, ho0, hb⟩
 refine ⟨_, rfl, ?_⟩
 have n0_ := Aside0.mk (Kd.R_below (stR HO201.out) hb)
 have n1_ := Aside0.mk (Kd.R_elder' (stR HO204.out) (Kd.R_base ho0) hb)
 have n2_ := Aside0.mk (Kd.R_elder' (stR HO207.out) (Kd.R_base ho0) hb)
 have n3_ := Aside0.mk (Kd.R_below (stR HO210.out) hb)
 have n4_ := Aside0.mk (Kd.R_elder' (stR HO213.out) (Kd.R_base ho0) hb)
 have n5_ := Aside0.mk (Kd.R_elder' (stR HO216.out) (Kd.R_base ho0) hb)
 have n6_ := Aside0.mk (Kd.R_elder' (stR HO219.out) (Kd.R_base ho0) hb)
 have n7_ := Aside0.mk (Kd.R_lower (Kd.R_new' (Kd.R_new' (Kd.R_new' (Kd.R_new' (Kd.R_new' ho0 (Kd.R_lt (stR HO204.out))) (Kd.R_lt (stR HO207.out))) (Kd.R_lt (stR HO213.out))) (Kd.R_lt (stR HO216.out))) (Kd.R_lt (stR HO219.out))) (below_size (by repeat (first | (with_reducible first | exact HB.out | apply below_alloc | apply pw_below_drewN | apply below_drew1 | refine below_set ?_ GE198.out) | exact HB.out))))
 have n8_ := Aside0.mk (blk_below (g := gb198) (o := .cells #[.int .i64 a0_0, .int .i64 a0_1, .slice A0_2 l0_2.length c0_2, .slice A0_3 l0_3.length c0_3, .slice A0_4 l0_4.length c0_4, .slice A0_5 l0_5.length c0_5] 32 (0, 0)) (stK BK198.out) hb)
 have n9_ := Aside0.mk (below_step (by repeat (first | (with_reducible first | exact HB.out | apply below_alloc | apply pw_below_drewN | apply below_drew1 | refine below_set ?_ GE198.out) | exact HB.out)) hb)
 clear HO201
 clear HO204
 clear HO207
 clear HO210
 clear HO213
 clear HO216
 clear HO219
 clear BK198
 clear HB
 have HO201 := n0_
 have HO204 := n1_
 have HO207 := n2_
 have HO210 := n3_
 have HO213 := n4_
 have HO216 := n5_
 have HO219 := n6_
 have HO222 := n7_
 have BK198 := n8_
 have HB := n9_
 clear n0_ n1_ n2_ n3_ n4_ n5_ n6_ n7_ n8_ n9_
 (try clear hb)
 (try clear hb2)
 (try clear hk)
 (try clear hi)
 (try clear ho0)
 refine hK.out _ _ (bc6 BK198.out) (fun hHeld => ?_)
 clear hK K
 refine norm_ (a' := ?_) ?_ ?_
 rotate_left
 ·show Act.put _ (some 28) _ = _
  simp only [Act.put, sq1, sq2, sq3, i64_w, i32_w]
  rfl
 refine pure_ (i := 7) (N := some 2) (v := ?_) (a' := ?_) #[true, true, true, true, true, true, true, true] rfl rfl (any_of HT_.out (by kernel_rfl)) (fun _ _ _ h => h) (Or.inl ⟨by rfl, ?_⟩) ?_ ?_
 rotate_left
 ·intro w'
  go_simp
  with_reducible rfl
 rotate_left
 ·simp only [Act.put, sq1, sq2, sq3, i64_w, i32_w]
  rfl
 refine done_ (done_of HT_.out (by kernel_rfl)) ?_
 try go_wp2
 go_ret
 exact ⟨_, by first | rfl | (simp [errW_none, errW_some] <;> rfl) | (simp [*, errW_none, errW_some] <;> rfl), by (with_reducible repeat (first|apply Kd.R_alloc | apply Kd.R_drewN | apply Kd.R_drew)); exact Kd.R_mono HO222.out (fun _ hk => trivial), by repeat (first | (with_reducible first | exact HB.out | apply below_alloc | apply pw_below_drewN | apply below_drew1 | refine below_set ?_ GE198.out) | exact HB.out)⟩
end Go.Proofs.Ytgmlpmdfkaadhaa.G
end

section
/- A transaction's form. -/
namespace Go.Proofs.Ytgmlpmdfkaadhaa.M
open Go.RowKit Go.Proofs.YtgmlpmdfkaadhaaW.PrintWords Go.Proofs.YtgmlpmdfkaadhaaW.PrintLast Go.Proofs.YtgmlpmdfkaadhaaW.PrintMore Go.Proofs.Ytgmlpmdfkaadhaa.G
theorem rnum_f (k : Nat) (l0 l1 : List Int) (hi : okI l1 = true) (hs : l0.length + 9 * l1.length < 140737488355328) (hk : l1.length + 10 ≤ k) : G.trivetref04_num.f k l0 l1 = some (l0 ++ numsB l1) := by
 unfold G.trivetref04_num.f
 rw [ref_put l0 l1 hi hs k hk]
 rfl
theorem okI1 {n : Int} (h : isI64 n) : okI [n] = true := by simp [okI, h]
theorem numsB1 (n : Int) : numsB [n] = numB n := by simp [numsB]
theorem rblob_f (k : Nat) (l d : List Int) (h : l.length + d.length + 9 < 140737488355328) (hk : 11 ≤ k) : G.trivetref01_Blob.f k l d = some (l ++ (numB d.length ++ d)) := by
 have hn : isI64 (d.length : Int) := by unfold isI64; omega
 unfold G.trivetref01_Blob.f
 rw [ref_put l [(d.length : Int)] (okI1 hn) (by simp; omega) k (by simp; omega), Option.bind_some, numsB1, if_pos]
 ·rw [List.append_assoc]
 ·have := (numB_len hn).2
  rw [List.length_append]
  omega
theorem rkeys_l : ∀ (k : Nat) (acc : List Int) (a : List KeyD) (i : Nat), a.length + 12 < i + k → i ≤ a.length → (∀ x ∈ a, okK x = true) → acc.length + 18 * (a.length - i) < 140737488355000 → a.length ≤ 1000000 → G.trivetref04_keys.l0 k acc a (i : Int) = some (acc ++ (a.drop i).flatMap keyB)
 | 0, acc, a, i, hk, hi, _, _, _ => by omega
 | k + 1, acc, a, i, hk, hi, ho, hs, hm => by
  simp only [G.trivetref04_keys.l0]
  by_cases hlt : i < a.length
  ·obtain ⟨x, hx⟩ : ∃ x, a[i]? = some x := ⟨_, List.getElem?_eq_getElem hlt⟩
   have d1 := drop_cons hx
   have hw : wrap64 ((i : Int) + 1) = ((i + 1 : Nat) : Int) := by unfold wrap64; omega
   have hox := ho x (List.mem_of_getElem? hx)
   have hkx := of_decide_eq_true hox
   have hwx : wrap64 x.f0 = x.f0 := by unfold wrap64; omega
   have hl := keyB_len hox
   rw [if_pos (by omega : (i : Int) < (a.length : Int)), if_pos (by omega : (0 : Int) ≤ (i : Int)), rdK_eq hx, hwx, rnum_f k acc [x.f0, x.f1] (okK_i x hox) (by simp; omega) (by simp; omega), Option.bind_some, hw]
   have hl2 : (numsB [x.f0, x.f1]).length ≤ 18 := hl
   rw [rkeys_l k _ a (i + 1) (by omega) (by omega) ho (by rw [List.length_append]; omega) hm, d1, List.flatMap_cons, List.append_assoc]
   rfl
  ·rw [if_neg (by omega), List.drop_of_length_le (by omega)]
   simp
theorem rkeys_f (k : Nat) (acc : List Int) (a : List KeyD) (hk : a.length + 12 < k) (ho : ∀ x ∈ a, okK x = true) (hs : acc.length + 9 + 18 * a.length < 140737488355000) (hm : a.length ≤ 1000000) : G.trivetref04_keys.f k acc a = some (acc ++ keysB a) := by
 have hn : isI64 (a.length : Int) := by unfold isI64; omega
 have hl := (numB_len hn).2
 unfold G.trivetref04_keys.f keysB
 rw [rnum_f k acc [(a.length : Int)] (okI1 hn) (by simp; omega) (by simp; omega), Option.bind_some, numsB1]
 have := rkeys_l k (acc ++ numB a.length) a 0 (by omega) (by omega) ho (by rw [List.length_append]; omega) hm
 rw [show ((0 : Nat) : Int) = 0 from rfl] at this
 rw [this, List.drop_zero, List.append_assoc]
theorem txform_f (k : Nat) (t : TxD) (ho : okT t = true) (hm : mayT t = true) (hk : 100 ≤ k) : G.trivetref04_TxnForm.f k t.f0 t.f1 t.f2 t.f3 t.f4 t.f5 = some (txB t) := by
 have hl := mayT_len hm
 obtain ⟨h0, h1, h2, h3, h4, h5⟩ := okT_all ho
 have e3 : okI t.f3 = true := List.all_eq_true.2 (fun x hx => by simpa using h3 x hx)
 have e0 : okI [t.f0, t.f1] = true := by simp [okI, h0, h1]
 have n0 := numsB2_len e0
 have n2 := (numB_len (nat_i64 t.f2.length (by omega))).2
 have n3 := (numB_len (nat_i64 t.f3.length (by omega))).2
 have n3' := numsB_len e3
 have n4 := keysB_len (l := t.f4) (List.all_eq_true.2 h4) (by omega)
 unfold G.trivetref04_TxnForm.f
 rw [rnum_f k [] [t.f0, t.f1] e0 (by simp) (by simp; omega), Option.bind_some]
 rw [rblob_f k _ t.f2 (by simp only [List.length_append, List.length_nil]; omega) (by omega), Option.bind_some]
 rw [rnum_f k _ [(t.f3.length : Int)] (okI1 (nat_i64 _ (by omega))) (by simp only [List.length_append, List.length_nil, List.length_cons]; omega) (by simp; omega), Option.bind_some]
 rw [rnum_f k _ t.f3 e3 (by simp only [List.length_append, List.length_nil, numsB1]; omega) (by omega), Option.bind_some]
 rw [rkeys_f k _ t.f4 (by omega) h4 (by simp only [List.length_append, List.length_nil, numsB1]; omega) (by omega), Option.bind_some]
 rw [rkeys_f k _ t.f5 (by omega) h5 (by simp only [List.length_append, List.length_nil, numsB1]; omega) (by omega), Option.bind_some]
 unfold txB
 rw [numsB1]
 simp only [List.nil_append, List.append_assoc]
end Go.Proofs.Ytgmlpmdfkaadhaa.M
end

section
/- The reference's functions over transactions, as this session's words say them. -/
namespace Go.Proofs.Ytgmlpmdfkaadhaa.M
open Go.RowKit Go.Proofs.YtgmlpmdfkaadhaaW.PrintWords Go.Proofs.YtgmlpmdfkaadhaaW.PrintLast Go.Proofs.YtgmlpmdfkaadhaaW.PrintMore Go.Proofs.Ytgmlpmdfkaadhaa.G
abbrev txV (t : TxD) (A2 : Option Addr) (c2 : Nat) (A3 : Option Addr) (c3 : Nat) (A4 : Option Addr) (c4 : Nat) (A5 : Option Addr) (c5 : Nat) : Value := .agg #[.int .i64 t.f0, .int .i64 t.f1, .slice A2 t.f2.length c2, .slice A3 t.f3.length c3, .slice A4 t.f4.length c4, .slice A5 t.f5.length c5]
theorem TxC.ls {w : World} {t : TxD} {A2 A3 A4 A5 : Option Addr} {c2 c3 c4 c5 : Nat} (h : TxC w t A2 c2 A3 c3 A4 c4 A5 c5) : TxLs t := ⟨Kd.C_max h.g2, Kd.C_max h.g3, Kd.C_max h.g4, Kd.C_max h.g5⟩
theorem eqS_refl (a : List Int) : eqS a a = true := by unfold eqS; simp
end Go.Proofs.Ytgmlpmdfkaadhaa.M
end

section
/- record.CloneTxn (printed by genclone04.py). -/
attribute [local irreducible] Go.wpStill
namespace Go.Proofs.Ytgmlpmdfkaadhaa.M
open Go.RowKit Go.Proofs.YtgmlpmdfkaadhaaW.PrintWords Go.Proofs.YtgmlpmdfkaadhaaW.PrintLast Go.Proofs.YtgmlpmdfkaadhaaW.PrintMore Go.Proofs.Ytgmlpmdfkaadhaa.G
def SmT (t : TxD) : Prop := t.f2.length ≤ 1048576 ∧ t.f3.length ≤ 1048576 ∧ t.f4.length ≤ 1048576 ∧ t.f5.length ≤ 1048576
def TxNew (w : World) (t : TxD) (e : Ending) (w' : World) : Prop := ∃ v2 v3 v4 v5 : Value, e = .returned (.agg #[.int .i64 t.f0, .int .i64 t.f1, v2, v3, v4, v5]) ∧ Kd.R (Kd.int .u8) 5 w' w.heap.size (fun _ => True) v2 t.f2 ∧ Kd.R (Kd.int .i64) 2 w' w.heap.size (fun _ => True) v3 t.f3 ∧ Kd.R G.k54 54 w' w.heap.size (fun k => some k ≠ v5.ownBlock) v4 t.f4 ∧ Kd.R G.k54 54 w' w.heap.size (fun k => some k ≠ v4.ownBlock) v5 t.f5 ∧ Below w.heap.size w w'
set_option maxHeartbeats 4000000 in
theorem cloneTx_is {w : World} (t : TxD) {A2 A3 A4 A5 : Option Addr} {c2 c3 c4 c5 : Nat} (hC : TxC w t A2 c2 A3 c3 A4 c4 A5 c5) (hs : SmT t) :
  Calls Try.prog 30 #[txV t A2 c2 A3 c3 A4 c4 A5 c5] w fun e w' => TxNew w t e w' := by
 have HC := Lib.hid hC; have HS := Lib.hid hs
 have HT0 := Lib.hid (Bx.start w 32 #[.int .i64 0, .int .i64 0, .slice none 0 0, .slice none 0 0, .slice none 0 0, .slice none 0 0] #[.int .i64 t.f0, .int .i64 t.f1, .slice A2 t.f2.length c2, .slice A3 t.f3.length c3, .slice A4 t.f4.length c4, .slice A5 t.f5.length c5])
 clear hC hs
 go_enter Try.func30, Try.ntmps30
 go_upto_region 1 with fail
 obtain ⟨g, hg⟩ : ∃ g, w.heap.size = g := ⟨_, rfl⟩
 obtain ⟨w0, hw⟩ : ∃ w0, (w.alloc (.cells #[.int .i64 t.f0, .int .i64 t.f1, .slice A2 t.f2.length c2, .slice A3 t.f3.length c3, .slice A4 t.f4.length c4, .slice A5 t.f5.length c5] 32)).alloc (.cells #[.int .i64 0, .int .i64 0, .slice none 0 0, .slice none 0 0, .slice none 0 0, .slice none 0 0] 32) = w0 := ⟨_, rfl⟩
 have HG := Lib.hid hg
 rw [hw] at HT0 ⊢
 rw [hg] at HT0 ⊢
 clear hw hg
 have HT := Lib.hid HT0.out.drew
 clear HT0
 refine start_ (n := 10) (S := fun w' => w'.cell? ⟨g, 2, none⟩ = some (.slice A2 t.f2.length c2) ∧ w'.cell? ⟨g, 3, none⟩ = some (.slice A3 t.f3.length c3)) (ds := [7, 9]) #[false, false, false, false, false, false, false, false, false, false] (by kernel_rfl) rfl rfl ⟨(blk_cell HT.out.y 2).trans rfl, (blk_cell HT.out.y 3).trans rfl⟩ (fun hHeld => ?_)
 obtain ⟨wa, hwa⟩ : ∃ wa, w0.drew = wa := ⟨_, rfl⟩
 rw [hwa] at HT hHeld ⊢
 clear hwa
 refine pure_ (i := 0) (N := some 3) (v := ?_) (a' := ?_) #[true, false, false, false, false, false, false, false, false, false] rfl rfl (by kernel_rfl) (fun _ _ _ h => h) (Or.inl ⟨by rfl, ?_⟩) ?_ ?_
 rotate_left
 ·intro w'
  go_simp
  try with_reducible rfl
 rotate_left
 ·simp only [Act.put, sq1, sq2, sq3, i64_w, i32_w]
  rfl
 refine pure_ (i := 3) (N := some 6) (v := ?_) (a' := ?_) #[true, false, false, true, false, false, false, false, false, false] rfl rfl (by kernel_rfl) (fun _ _ _ h => h) (Or.inl ⟨by rfl, ?_⟩) ?_ ?_
 rotate_left
 ·intro w'
  go_simp
  try with_reducible rfl
 rotate_left
 ·simp only [Act.put, sq1, sq2, sq3, i64_w, i32_w]
  rfl
 refine take_ (i := 1) (N := some 4) (v := ?_) (a' := ?_) #[true, true, false, true, false, false, false, false, false, false] rfl rfl (by kernel_rfl) (fun _ _ _ h => h) (Or.inl ⟨by rfl, ?_⟩) hHeld ?_ ?_
 rotate_left
 ·intro w' hS
  go_simp
  try with_reducible rfl
 rotate_left
 ·simp only [Act.put, sq1, sq2, sq3, i64_w, i32_w]
  rfl
 refine take_ (i := 4) (N := some 7) (v := ?_) (a' := ?_) #[true, true, false, true, true, false, false, false, false, false] rfl rfl (by kernel_rfl) (fun _ _ _ h => h) (Or.inl ⟨by rfl, ?_⟩) hHeld ?_ ?_
 rotate_left
 ·intro w' hS
  go_simp
  try with_reducible rfl
 rotate_left
 ·simp only [Act.put, sq1, sq2, sq3, i64_w, i32_w]
  rfl
 refine one_ (i := 2) (N := some 5) #[true, true, true, true, true, false, false, false, false, false] rfl rfl (by kernel_rfl) (by decide) (fun K hK => ?_)
 go_simp
 refine (bclone_calls A2 c2 t.f2 wa (Kd.C_below HC.out.g2 HT.out.d) HC.out.l2 (by have := HS.out.1; omega)).mono ?_
 rintro e w1 ⟨v_, rfl, hv, hb⟩
 obtain ⟨N2, N2c, rfl⟩ := Kd.R_slice hv
 have HT1 := Lib.hid (HT.out.callR hb hv)
 have HLO1 := Lib.hid hb.size
 clear hv hb
 clear HT
 refine hK.out _ _ ⟨(blk_cell HT1.out.y 2).trans rfl, (blk_cell HT1.out.y 3).trans rfl⟩ (fun hHeld => ?_)
 clear hK K
 refine pure_ (i := 6) (N := some 9) (v := ?_) (a' := ?_) #[true, true, true, true, true, false, true, false, false, false] rfl rfl (by kernel_rfl) (fun _ _ _ h => h) (Or.inl ⟨by rfl, ?_⟩) ?_ ?_
 rotate_left
 ·intro w'
  go_simp
  try with_reducible rfl
 rotate_left
 ·simp only [Act.put, sq1, sq2, sq3, i64_w, i32_w]
  rfl
 refine one_ (i := 5) (N := some 8) #[true, true, true, true, true, true, true, false, false, false] rfl rfl (by kernel_rfl) (by decide) (fun K hK => ?_)
 go_simp
 refine (clone_ints A3 c3 t.f3 w1 (Kd.C_below HC.out.g3 HT1.out.d) HC.out.l3 (by have := HS.out.2.1; omega)).mono ?_
 rintro e w2 ⟨v_, rfl, hv, hb⟩
 obtain ⟨N3, N3c, rfl⟩ := Kd.R_slice hv
 have HT2 := Lib.hid (HT1.out.callR hb hv)
 have HLO2 := Lib.hid hb.size
 clear hv hb
 clear HT1
 refine hK.out _ _ ⟨(blk_cell HT2.out.y 2).trans rfl, (blk_cell HT2.out.y 3).trans rfl⟩ (fun hHeld => ?_)
 clear hK K
 have q2 : w2.cell? ⟨g, 2, none⟩ = some (.slice A2 t.f2.length c2) := (blk_cell HT2.out.y 2).trans rfl
 have z2 : w2.frozen? ⟨g, 2, none⟩ = false := blk_frozen HT2.out.y 2
 have q3 : w2.cell? ⟨g, 3, none⟩ = some (.slice A3 t.f3.length c3) := (blk_cell HT2.out.y 3).trans rfl
 have z3 : w2.frozen? ⟨g, 3, none⟩ = false := blk_frozen HT2.out.y 3
 refine last_ (i := 7) (N := none) #[true, true, true, true, true, true, true, true, false, false] rfl rfl (by kernel_rfl) (by decide) (fun K hK => ?_)
 refine skip_ (w1 := ?_) (by rfl) rfl ?_ ?_
 rotate_left
 ·go_simp
  rfl
 refine hK.out _ _ ?_
 clear hK K
 refine pure_ (i := 8) (N := some 10) (v := ?_) (a' := ?_) #[true, true, true, true, true, true, true, true, true, false] rfl rfl (by kernel_rfl) (fun _ _ _ h => h) (Or.inl ⟨by rfl, ?_⟩) ?_ ?_
 rotate_left
 ·intro w'
  go_simp
  try with_reducible rfl
 rotate_left
 ·simp only [Act.put, sq1, sq2, sq3, i64_w, i32_w]
  rfl
 refine last_ (i := 9) (N := none) #[true, true, true, true, true, true, true, true, true, true] rfl rfl (by kernel_rfl) (by decide) (fun K hK => ?_)
 refine skip_ (w1 := ?_) (by rfl) rfl ?_ ?_
 rotate_left
 ·go_simp
  rfl
 refine hK.out _ _ ?_
 clear hK K
 refine done_ (by kernel_rfl) ?_
 have HT3 := Lib.hid ((HT2.out.set 2 (.slice N2 t.f2.length N2c) #[.int .i64 t.f0, .int .i64 t.f1, .slice N2 t.f2.length N2c, .slice A3 t.f3.length c3, .slice A4 t.f4.length c4, .slice A5 t.f5.length c5] (blk_put HT2.out.y 2 _ rfl)).set 3 (.slice N3 t.f3.length N3c) #[.int .i64 t.f0, .int .i64 t.f1, .slice N2 t.f2.length N2c, .slice N3 t.f3.length N3c, .slice A4 t.f4.length c4, .slice A5 t.f5.length c5] (blk_put (blk_put HT2.out.y 2 _ rfl) 3 _ rfl))
 have HSZ3 := Lib.hid (show w2.heap.size ≤ ((w2.setCell ⟨g, 2, none⟩ (.slice N2 t.f2.length N2c)).setCell ⟨g, 3, none⟩ (.slice N3 t.f3.length N3c)).heap.size by rw [World.size_setCell, World.size_setCell]; exact Nat.le_refl _)
 obtain ⟨w3, hw⟩ : ∃ w3, (w2.setCell ⟨g, 2, none⟩ (.slice N2 t.f2.length N2c)).setCell ⟨g, 3, none⟩ (.slice N3 t.f3.length N3c) = w3 := ⟨_, rfl⟩
 rw [hw] at HT3 HSZ3 ⊢
 clear hw HT2 q2 z2 q3 z3
 go_upto_region 2 with fail
 have HT := Lib.hid HT3.out.drew
 clear HT3
 refine start_ (n := 10) (S := fun w' => w'.cell? ⟨g, 4, none⟩ = some (.slice A4 t.f4.length c4) ∧ w'.cell? ⟨g, 5, none⟩ = some (.slice A5 t.f5.length c5)) (ds := [7, 9]) #[false, false, false, false, false, false, false, false, false, false] (by kernel_rfl) rfl rfl ⟨(blk_cell HT.out.y 4).trans rfl, (blk_cell HT.out.y 5).trans rfl⟩ (fun hHeld => ?_)
 obtain ⟨wa, hwa⟩ : ∃ wa, w3.drew = wa := ⟨_, rfl⟩
 rw [hwa] at HT hHeld ⊢
 clear hwa
 refine pure_ (i := 0) (N := some 11) (v := ?_) (a' := ?_) #[true, false, false, false, false, false, false, false, false, false] rfl rfl (by kernel_rfl) (fun _ _ _ h => h) (Or.inl ⟨by rfl, ?_⟩) ?_ ?_
 rotate_left
 ·intro w'
  go_simp
  try with_reducible rfl
 rotate_left
 ·simp only [Act.put, sq1, sq2, sq3, i64_w, i32_w]
  rfl
 refine pure_ (i := 3) (N := some 14) (v := ?_) (a' := ?_) #[true, false, false, true, false, false, false, false, false, false] rfl rfl (by kernel_rfl) (fun _ _ _ h => h) (Or.inl ⟨by rfl, ?_⟩) ?_ ?_
 rotate_left
 ·intro w'
  go_simp
  try with_reducible rfl
 rotate_left
 ·simp only [Act.put, sq1, sq2, sq3, i64_w, i32_w]
  rfl
 refine take_ (i := 1) (N := some 12) (v := ?_) (a' := ?_) #[true, true, false, true, false, false, false, false, false, false] rfl rfl (by kernel_rfl) (fun _ _ _ h => h) (Or.inl ⟨by rfl, ?_⟩) hHeld ?_ ?_
 rotate_left
 ·intro w' hS
  go_simp
  try with_reducible rfl
 rotate_left
 ·simp only [Act.put, sq1, sq2, sq3, i64_w, i32_w]
  rfl
 refine take_ (i := 4) (N := some 15) (v := ?_) (a' := ?_) #[true, true, false, true, true, false, false, false, false, false] rfl rfl (by kernel_rfl) (fun _ _ _ h => h) (Or.inl ⟨by rfl, ?_⟩) hHeld ?_ ?_
 rotate_left
 ·intro w' hS
  go_simp
  try with_reducible rfl
 rotate_left
 ·simp only [Act.put, sq1, sq2, sq3, i64_w, i32_w]
  rfl
 refine one_ (i := 2) (N := some 13) #[true, true, true, true, true, false, false, false, false, false] rfl rfl (by kernel_rfl) (by decide) (fun K hK => ?_)
 go_simp
 refine (clone_keys A4 c4 t.f4 wa (Kd.C_below HC.out.g4 HT.out.d) HC.out.l4 (by have := HS.out.2.2.1; omega)).mono ?_
 rintro e w4 ⟨v_, rfl, hv, hb⟩
 obtain ⟨N4, N4c, rfl⟩ := Kd.R_slice hv
 have HT4 := Lib.hid (HT.out.callR hb hv)
 have HLO4 := Lib.hid hb.size
 clear hv hb
 clear HT
 refine hK.out _ _ ⟨(blk_cell HT4.out.y 4).trans rfl, (blk_cell HT4.out.y 5).trans rfl⟩ (fun hHeld => ?_)
 clear hK K
 refine pure_ (i := 6) (N := some 17) (v := ?_) (a' := ?_) #[true, true, true, true, true, false, true, false, false, false] rfl rfl (by kernel_rfl) (fun _ _ _ h => h) (Or.inl ⟨by rfl, ?_⟩) ?_ ?_
 rotate_left
 ·intro w'
  go_simp
  try with_reducible rfl
 rotate_left
 ·simp only [Act.put, sq1, sq2, sq3, i64_w, i32_w]
  rfl
 refine one_ (i := 5) (N := some 16) #[true, true, true, true, true, true, true, false, false, false] rfl rfl (by kernel_rfl) (by decide) (fun K hK => ?_)
 go_simp
 refine (clone_keys A5 c5 t.f5 w4 (Kd.C_below HC.out.g5 HT4.out.d) HC.out.l5 (by have := HS.out.2.2.2; omega)).mono ?_
 rintro e w5 ⟨v_, rfl, hv, hb⟩
 obtain ⟨N5, N5c, rfl⟩ := Kd.R_slice hv
 have HT5 := Lib.hid (HT4.out.callR hb hv)
 have HLO5 := Lib.hid hb.size
 clear hv hb
 clear HT4
 refine hK.out _ _ ⟨(blk_cell HT5.out.y 4).trans rfl, (blk_cell HT5.out.y 5).trans rfl⟩ (fun hHeld => ?_)
 clear hK K
 have q4 : w5.cell? ⟨g, 4, none⟩ = some (.slice A4 t.f4.length c4) := (blk_cell HT5.out.y 4).trans rfl
 have z4 : w5.frozen? ⟨g, 4, none⟩ = false := blk_frozen HT5.out.y 4
 have q5 : w5.cell? ⟨g, 5, none⟩ = some (.slice A5 t.f5.length c5) := (blk_cell HT5.out.y 5).trans rfl
 have z5 : w5.frozen? ⟨g, 5, none⟩ = false := blk_frozen HT5.out.y 5
 refine last_ (i := 7) (N := none) #[true, true, true, true, true, true, true, true, false, false] rfl rfl (by kernel_rfl) (by decide) (fun K hK => ?_)
 refine skip_ (w1 := ?_) (by rfl) rfl ?_ ?_
 rotate_left
 ·go_simp
  rfl
 refine hK.out _ _ ?_
 clear hK K
 refine pure_ (i := 8) (N := some 18) (v := ?_) (a' := ?_) #[true, true, true, true, true, true, true, true, true, false] rfl rfl (by kernel_rfl) (fun _ _ _ h => h) (Or.inl ⟨by rfl, ?_⟩) ?_ ?_
 rotate_left
 ·intro w'
  go_simp
  try with_reducible rfl
 rotate_left
 ·simp only [Act.put, sq1, sq2, sq3, i64_w, i32_w]
  rfl
 refine last_ (i := 9) (N := none) #[true, true, true, true, true, true, true, true, true, true] rfl rfl (by kernel_rfl) (by decide) (fun K hK => ?_)
 refine skip_ (w1 := ?_) (by rfl) rfl ?_ ?_
 rotate_left
 ·go_simp
  rfl
 refine hK.out _ _ ?_
 clear hK K
 refine done_ (by kernel_rfl) ?_
 have HT6 := Lib.hid ((HT5.out.set 4 (.slice N4 t.f4.length N4c) #[.int .i64 t.f0, .int .i64 t.f1, .slice N2 t.f2.length N2c, .slice N3 t.f3.length N3c, .slice N4 t.f4.length N4c, .slice A5 t.f5.length c5] (blk_put HT5.out.y 4 _ rfl)).set 5 (.slice N5 t.f5.length N5c) #[.int .i64 t.f0, .int .i64 t.f1, .slice N2 t.f2.length N2c, .slice N3 t.f3.length N3c, .slice N4 t.f4.length N4c, .slice N5 t.f5.length N5c] (blk_put (blk_put HT5.out.y 4 _ rfl) 5 _ rfl))
 have HSZ6 := Lib.hid (show w5.heap.size ≤ ((w5.setCell ⟨g, 4, none⟩ (.slice N4 t.f4.length N4c)).setCell ⟨g, 5, none⟩ (.slice N5 t.f5.length N5c)).heap.size by rw [World.size_setCell, World.size_setCell]; exact Nat.le_refl _)
 obtain ⟨w6, hw⟩ : ∃ w6, (w5.setCell ⟨g, 4, none⟩ (.slice N4 t.f4.length N4c)).setCell ⟨g, 5, none⟩ (.slice N5 t.f5.length N5c) = w6 := ⟨_, rfl⟩
 rw [hw] at HT6 HSZ6 ⊢
 clear hw HT5 q4 z4 q5 z5
 have d0 : w6.cell? ⟨g, 0, none⟩ = some (.int .i64 t.f0) := (blk_cell HT6.out.y 0).trans rfl
 have z0 : w6.frozen? ⟨g, 0, none⟩ = false := blk_frozen HT6.out.y 0
 have d1 : w6.cell? ⟨g, 1, none⟩ = some (.int .i64 t.f1) := (blk_cell HT6.out.y 1).trans rfl
 have z1 : w6.frozen? ⟨g, 1, none⟩ = false := blk_frozen HT6.out.y 1
 have d2 : w6.cell? ⟨g, 2, none⟩ = some (.slice N2 t.f2.length N2c) := (blk_cell HT6.out.y 2).trans rfl
 have z2 : w6.frozen? ⟨g, 2, none⟩ = false := blk_frozen HT6.out.y 2
 have d3 : w6.cell? ⟨g, 3, none⟩ = some (.slice N3 t.f3.length N3c) := (blk_cell HT6.out.y 3).trans rfl
 have z3 : w6.frozen? ⟨g, 3, none⟩ = false := blk_frozen HT6.out.y 3
 have d4 : w6.cell? ⟨g, 4, none⟩ = some (.slice N4 t.f4.length N4c) := (blk_cell HT6.out.y 4).trans rfl
 have z4 : w6.frozen? ⟨g, 4, none⟩ = false := blk_frozen HT6.out.y 4
 have d5 : w6.cell? ⟨g, 5, none⟩ = some (.slice N5 t.f5.length N5c) := (blk_cell HT6.out.y 5).trans rfl
 have z5 : w6.frozen? ⟨g, 5, none⟩ = false := blk_frozen HT6.out.y 5
 have e0 : w6.cell? ⟨g + 1, 0, none⟩ = some (.int .i64 0) := (blk_cell HT6.out.g0 0).trans rfl
 have y0 : w6.frozen? ⟨g + 1, 0, none⟩ = false := blk_frozen HT6.out.g0 0
 have e1 : w6.cell? ⟨g + 1, 1, none⟩ = some (.int .i64 0) := (blk_cell HT6.out.g0 1).trans rfl
 have y1 : w6.frozen? ⟨g + 1, 1, none⟩ = false := blk_frozen HT6.out.g0 1
 have e2 : w6.cell? ⟨g + 1, 2, none⟩ = some (.slice none 0 0) := (blk_cell HT6.out.g0 2).trans rfl
 have y2 : w6.frozen? ⟨g + 1, 2, none⟩ = false := blk_frozen HT6.out.g0 2
 have e3 : w6.cell? ⟨g + 1, 3, none⟩ = some (.slice none 0 0) := (blk_cell HT6.out.g0 3).trans rfl
 have y3 : w6.frozen? ⟨g + 1, 3, none⟩ = false := blk_frozen HT6.out.g0 3
 have e4 : w6.cell? ⟨g + 1, 4, none⟩ = some (.slice none 0 0) := (blk_cell HT6.out.g0 4).trans rfl
 have y4 : w6.frozen? ⟨g + 1, 4, none⟩ = false := blk_frozen HT6.out.g0 4
 have e5 : w6.cell? ⟨g + 1, 5, none⟩ = some (.slice none 0 0) := (blk_cell HT6.out.g0 5).trans rfl
 have y5 : w6.frozen? ⟨g + 1, 5, none⟩ = false := blk_frozen HT6.out.g0 5
 go_wp2_with fail
 have HEB := Lib.hid (blk_put (cs := #[.int .i64 t.f0, .int .i64 t.f1, .slice N2 t.f2.length N2c, .slice N3 t.f3.length N3c, .slice N4 t.f4.length N4c, .slice none 0 0]) (blk_put (cs := #[.int .i64 t.f0, .int .i64 t.f1, .slice N2 t.f2.length N2c, .slice N3 t.f3.length N3c, .slice none 0 0, .slice none 0 0]) (blk_put (cs := #[.int .i64 t.f0, .int .i64 t.f1, .slice N2 t.f2.length N2c, .slice none 0 0, .slice none 0 0, .slice none 0 0]) (blk_put (cs := #[.int .i64 t.f0, .int .i64 t.f1, .slice none 0 0, .slice none 0 0, .slice none 0 0, .slice none 0 0]) (blk_put (cs := #[.int .i64 t.f0, .int .i64 0, .slice none 0 0, .slice none 0 0, .slice none 0 0, .slice none 0 0]) (blk_put (cs := #[.int .i64 0, .int .i64 0, .slice none 0 0, .slice none 0 0, .slice none 0 0, .slice none 0 0]) HT6.out.g0 0 (.int .i64 t.f0) rfl) 1 (.int .i64 t.f1) rfl) 2 (.slice N2 t.f2.length N2c) rfl) 3 (.slice N3 t.f3.length N3c) rfl) 4 (.slice N4 t.f4.length N4c) rfl) 5 (.slice N5 t.f5.length N5c) rfl)
 have HD := Lib.hid (HT6.out.done (((((((KeepS.refl (fun k => k = g + 1 ∨ k = g) w6).set (p := ⟨g + 1, 0, none⟩) (.inl (.inl rfl)) (.int .i64 t.f0)).set (p := ⟨g + 1, 1, none⟩) (.inl (.inl rfl)) (.int .i64 t.f1)).set (p := ⟨g + 1, 2, none⟩) (.inl (.inl rfl)) (.slice N2 t.f2.length N2c)).set (p := ⟨g + 1, 3, none⟩) (.inl (.inl rfl)) (.slice N3 t.f3.length N3c)).set (p := ⟨g + 1, 4, none⟩) (.inl (.inl rfl)) (.slice N4 t.f4.length N4c)).set (p := ⟨g + 1, 5, none⟩) (.inl (.inl rfl)) (.slice N5 t.f5.length N5c)))
 obtain ⟨W, hW⟩ : ∃ W, ((((((w6.setCell ⟨g + 1, 0, none⟩ (.int .i64 t.f0)).setCell ⟨g + 1, 1, none⟩ (.int .i64 t.f1)).setCell ⟨g + 1, 2, none⟩ (.slice N2 t.f2.length N2c)).setCell ⟨g + 1, 3, none⟩ (.slice N3 t.f3.length N3c)).setCell ⟨g + 1, 4, none⟩ (.slice N4 t.f4.length N4c)).setCell ⟨g + 1, 5, none⟩ (.slice N5 t.f5.length N5c)) = W := ⟨_, rfl⟩
 rw [hW] at HEB HD ⊢
 clear hW
 refine bodyPost_ret (results_cell_row rfl _ _ (g + 1) 32 #[.int .i64 t.f0, .int .i64 t.f1, .slice N2 t.f2.length N2c, .slice N3 t.f3.length N3c, .slice N4 t.f4.length N4c, .slice N5 t.f5.length N5c] (0, 0) _ rfl HEB.out Try.underlying32 rfl (by kernel_rfl)) rfl ?_
 obtain ⟨⟨⟨⟨⟨-, p2⟩, p3⟩, p4⟩, p5⟩, dd⟩ := HD.out
 exact ⟨_, _, _, _, rfl, Kd.R_mono p2 (fun _ _ => trivial), Kd.R_mono p3 (fun _ _ => trivial), Iv.apart p4 p5 (.inl (Nat.le_refl _)), Iv.apart p5 p4 (.inr (Nat.le_refl _)), dd⟩
end Go.Proofs.Ytgmlpmdfkaadhaa.M
end

section
/- what a clone of an entry is. -/
attribute [local irreducible] Go.wpStill
namespace Go.Proofs.Ytgmlpmdfkaadhaa.M
open Go.RowKit Go.Proofs.YtgmlpmdfkaadhaaW.PrintWords Go.Proofs.YtgmlpmdfkaadhaaW.PrintLast Go.Proofs.YtgmlpmdfkaadhaaW.PrintMore Go.Proofs.Ytgmlpmdfkaadhaa.G
theorem Bx.grow {w W W' W0 : World} {g r T : Nat} {zs cs : Array Value} (h : Bx w g r T zs cs (fun _ => True) W) (hg : g < W0.heap.size) (hr : r < W0.heap.size) (hw : w.heap.size ≤ W0.heap.size) (hb : Below W0.heap.size W W') : Bx w g r T zs cs (fun _ => True) W' :=
 ⟨(hb.block r hr).trans h.g0, (hb.block g hg).trans h.y, h.d.trans (hb.mono hw), h.hr, h.hg, h.ne, Nat.lt_of_lt_of_le h.hz hb.size, Nat.lt_of_lt_of_le h.hz2 hb.size, Held.true _ _⟩
def SmE (e : EntD) : Prop := e.f3.length ≤ 1048576 ∧ ∀ t ∈ e.f3, SmT t
def EnNew (w : World) (x : EntD) (e : Ending) (w' : World) : Prop := ∃ v3 : Value, e = .returned (.agg #[.int .i64 x.f0, .int .i64 x.f1, .int .i64 x.f2, v3]) ∧ Kd.S G.k32 32 w' w.heap.size (fun _ => True) v3 x.f3 ∧ Below w.heap.size w w'
def CeI (x : EntD) (A : Option Addr) (c : Nat) (w W0 : World) (g : Nat) (v i : Value) (W : World) : Prop := ∃ k : Nat, i = .int .i64 (k : Int) ∧ k ≤ x.f3.length ∧ Kd.S G.k32 32 W W0.heap.size (fun _ => True) v (x.f3.take k) ∧ Bx w g (g + 1) 36 #[.int .i64 0, .int .i64 0, .int .i64 0, .slice none 0 0] #[.int .i64 x.f0, .int .i64 x.f1, .int .i64 x.f2, .slice A x.f3.length c] (fun _ => True) W ∧ Below W0.heap.size W0 W
end Go.Proofs.Ytgmlpmdfkaadhaa.M
namespace Go.Proofs.Ytgmlpmdfkaadhaa.G
theorem info32 : (Try.prog.info? 32).map (fun i => (i.zero, i.size, i.bytes)) = some (some (.agg #[.int .i64 0, .int .i64 0, .slice none 0 0, .slice none 0 0, .slice none 0 0, .slice none 0 0]), 6, 112) := by kernel_rfl
end Go.Proofs.Ytgmlpmdfkaadhaa.G
end

section
/- A row of transactions: its cells are the call's own, what its elements lead to is only read. -/
namespace Go.Proofs.Ytgmlpmdfkaadhaa.M
open Go.RowKit Go.Proofs.YtgmlpmdfkaadhaaW.PrintWords Go.Proofs.YtgmlpmdfkaadhaaW.PrintLast Go.Proofs.YtgmlpmdfkaadhaaW.PrintMore Go.Proofs.Ytgmlpmdfkaadhaa.G
def Inn (B : Nat) (W : World) (k : Nat) : Prop := k < B ∨ (k < W.heap.size ∧ ∃ q, q ∈ (G.k32).E ∧ ∃ cells, W.heap[k]? = some (.cells cells q (0, 0)))
def Calm (B : Nat) (W W' : World) : Prop := ∀ k, Inn B W k → k < W.heap.size → W'.heap[k]? = W.heap[k]?
theorem Inn.step {B : Nat} {W W' : World} {k : Nat} (h : Inn B W k) (hl : k < W.heap.size) (hm : W'.heap[k]? = W.heap[k]?) : Inn B W' k := by
 rcases h with h | ⟨_, q, hq, cells, hc⟩
 ·exact .inl h
 ·exact .inr ⟨heap_lt hm hl, q, hq, cells, hm.trans hc⟩
section
variable {B : Nat} {W W' V : World}
theorem Calm.refl (B : Nat) (W : World) : Calm B W W := fun _ _ _ => rfl
theorem Calm.trans (h : Calm B W W') (k : Calm B W' V) : Calm B W V := fun i hi hl => (k i (hi.step hl (h i hi hl)) (heap_lt (h i hi hl) hl)).trans (h i hi hl)
theorem Calm.of_keep {S : Nat → Prop} (h : KeepS S W W') (hs : ∀ k, S k → ¬ Inn B W k) : Calm B W W' := fun k hk hl => h.block k hl (fun e => hs k e hk)
theorem Calm.of_below (h : Below W.heap.size W W') : Calm B W W' := fun k _ hl => h.block k hl
theorem FK_calm {α : Type} {d : Kd α} {x : α} {c : List Value} (h : Kd.FK d W (Inn B W) x c) (hc : Calm B W W') : Kd.FK d W' (Inn B W') x c :=
 Kd.FK_mono (Kd.FK_step (Kd.FK_bound h) (fun k hk _ => hc k hk.1 hk.2)) (fun k hk => hk.1.step hk.2 (hc k hk.1 hk.2))
theorem not_inn {g t : Nat} {cells : Array Value} (hB : B ≤ g) (hb : W.heap[g]? = some (.cells cells t (0, 0))) (ht : t ∉ (G.k32).E) : ¬ Inn B W g := by
 rintro (h | ⟨_, q, hq, cells', hc⟩)
 ·omega
 ·rw [hc] at hb
  injection hb with hb
  injection hb with _ hb
  exact ht (hb ▸ hq)
theorem not_inn_map {g : Nat} {es : Array _} {n : Nat} (hB : B ≤ g) (hb : W.heap[g]? = some (.map es n)) : ¬ Inn B W g := by
 rintro (h | ⟨_, q, hq, cells', hc⟩)
 ·omega
 ·rw [hc] at hb
  cases hb
end
theorem txn_not : 32 ∉ (G.k32).E := by decide
theorem sq_not : 68 ∉ (G.k32).E := by decide
theorem rq_not : 62 ∉ (G.k32).E := by decide
def TR (B : Nat) (W : World) (v : Value) (l : List TxD) : Prop := ∃ inner, QRow W B 32 6 v l.length inner ∧ Reps (fun x c => Kd.FK G.k32 W (Inn B W) x c) 6 l inner
section
variable {B : Nat} {W W' : World} {v : Value} {l : List TxD} {A : Option Addr} {n c : Nat}
theorem TR.nil (B : Nat) (W : World) : TR B W (.slice none 0 0) [] := ⟨[], q_of_own (own_nil _ _ _ _), Reps.none _ _⟩
theorem TR.calm (h : TR B W v l) (hc : Calm B W W') (ho : ∀ k, v.ownBlock = some k → W'.heap[k]? = W.heap[k]?) : TR B W' v l := by
 obtain ⟨inner, hq, hr⟩ := h
 exact ⟨inner, q_move hq ho, hr.imp_ (fun _ _ hp => FK_calm hp hc)⟩
theorem TR.lt (h : TR B W v l) : ∀ k, v.ownBlock = some k → k < W.heap.size := by obtain ⟨inner, hq, _⟩ := h; exact q_lt hq
theorem TR.typed (h : TR B W v l) : ∀ k, v.ownBlock = some k → B ≤ k ∧ ∃ cells, W.heap[k]? = some (.cells cells 32 (0, 0)) := by obtain ⟨inner, hq, _⟩ := h; exact q_typed hq
theorem TR.not_inn (h : TR B W v l) : ∀ k, v.ownBlock = some k → ¬ Inn B W k := fun k hk => by
 obtain ⟨h1, cells, h2⟩ := h.typed k hk
 exact M.not_inn h1 h2 txn_not
theorem TR.below (h : TR B W v l) (hb : Below W.heap.size W W') : TR B W' v l := h.calm (.of_below hb) (fun k hk => hb.block k (h.lt k hk))
theorem TR.keep {S : Nat → Prop} (h : TR B W v l) (hk : KeepS S W W') (hs : ∀ k, S k → ¬ Inn B W k) (ho : ∀ k, v.ownBlock = some k → ¬ S k) : TR B W' v l :=
 h.calm (.of_keep hk hs) (fun k e => hk.block k (h.lt k e) (ho k e))
theorem TR.alloc (h : TR B W v l) (o : Obj) : TR B (W.alloc o) v l := h.below ((Below.refl _ _).alloc (Nat.le_refl _) o)
theorem TR.slice (h : TR B W v l) : ∃ A c, v = .slice A l.length c ∧ l.length ≤ c := by obtain ⟨inner, hq, _⟩ := h; exact q_slice hq
theorem TR.reads (h : TR B W (.slice A n c) l) : n = l.length ∧ n ≤ c ∧ Kd.C G.k32 W A l.length l := by
 obtain ⟨A', c', he, hl⟩ := h.slice
 injection he with h1 h2 h3
 subst h1; subst h2; subst h3
 refine ⟨rfl, hl, rfl, ?_, fun hn => ?_⟩
 ·obtain ⟨inner, hq, _⟩ := h
  exact q_max hq
 ·obtain ⟨inner, hq, hr⟩ := h
  obtain ⟨ad, rfl, hc⟩ := q_cells hq hn
  refine ⟨ad, rfl, fun j p hj => ⟨(inner.drop (j * 6)).take 6, Kd.K_len _ (Kd.FK_now (hr.2 j p hj)), Kd.FK_now (hr.2 j p hj), fun i u hu => ?_⟩⟩
  rw [List.getElem?_take] at hu
  split at hu
  ·rw [List.getElem?_drop] at hu
   exact hc _ u hu
  ·cases hu
theorem TR.f (h : TR B W (.slice A n c) l) : Kd.F G.k32 W (fun k => Inn B W k ∨ (Value.slice A n c).ownBlock = some k) A l.length l := fun W' hW =>
 (h.calm (fun k hk hl => hW k (.inl hk) hl) (fun k e => hW k (.inr e) (h.lt k e))).reads.2.2
theorem TR.take {m : Nat} (h : TR B W (.slice A l.length c) l) (hm : m ≤ l.length) : TR B W (.slice A m c) (l.take m) := by
 obtain ⟨inner, hq, hr⟩ := h
 exact ⟨inner.take (m * 6), by rw [List.length_take, Nat.min_eq_left hm]; exact q_take hq hm, Kd.reps_take hr hm⟩
theorem TR.drop {m : Nat} (h : TR B W (.slice A l.length c) l) (hm : m ≤ l.length) : TR B W (.slice (if c = m then A else A.map (·.add (m * 6))) (l.length - m) (c - m)) (l.drop m) := by
 obtain ⟨inner, hq, hr⟩ := h
 exact ⟨inner.drop (m * 6), by rw [List.length_drop]; exact q_drop hq hm, Kd.reps_drop hr⟩
def Src (B : Nat) (W : World) (a : Addr) (l : List TxD) (news : List Value) : Prop := (∀ j u, news[j]? = some u → W.cell? (a.add j) = some u) ∧ Reps (fun x c => Kd.FK G.k32 W (Inn B W) x c) 6 l news
theorem reps_one {l : List TxD} {news : List Value} (h : Reps (fun x c => Kd.FK G.k32 W (Inn B W) x c) 6 l news) : ∀ u ∈ news, u.oneCell' = true := by
 intro u hu
 obtain ⟨i, hi⟩ := List.getElem?_of_mem hu
 have hl := h.1
 have hilt := (List.getElem?_eq_some_iff.1 hi).1
 have hj : i / 6 < l.length := by omega
 have hp := h.2 (i / 6) l[i / 6] (List.getElem?_eq_getElem hj)
 refine Kd.K_one _ (Kd.FK_now hp) u (List.mem_of_getElem? (i := i % 6) ?_)
 rw [List.getElem?_take, if_pos (Nat.mod_lt _ (by decide)), List.getElem?_drop, ← hi]
 congr 1
 omega
theorem TR.src (h : TR B W (.slice A l.length c) l) (hp : 0 < l.length) : ∃ a news, A = some a ∧ Src B W a l news := by
 obtain ⟨inner, hq, hr⟩ := h
 obtain ⟨ad, rfl, hc⟩ := q_cells hq hp
 exact ⟨ad, inner, rfl, hc, hr⟩
theorem TR.append (h : TR B W v l) (ty : TypeId) {a : Addr} {m c : Nat} {l' : List TxD} {news : List Value} (hs : Src B W a l' news) (hm : m = l'.length) (h0 : 0 < m) (hl : l.length + m ≤ 1048576) (hB : B ≤ W.heap.size) :
  ∃ v' w', (Builtin.append_ #[22, 22] ty #[v, .slice (some a) m c]).run Try.prog W = .ok v' w' ∧ TR B w' v' (l ++ l') ∧ W.grownBy w' v.ownBlock ∧ (v'.ownBlock = v.ownBlock ∨ ∃ b, v'.ownBlock = some b ∧ W.heap.size ≤ b) := by
 subst hm
 have hni := h.not_inn
 obtain ⟨inner, hq, hr⟩ := h
 obtain ⟨i0, hi, hzz⟩ := Option.map_eq_some_iff.1 G.info32
 simp only [Prod.mk.injEq] at hzz
 obtain ⟨hz0, hz1, hz2⟩ := hzz
 obtain ⟨v', w', hrun, hq1, hg, hat⟩ := q_append (P := Try.prog) W B 22 ty 32 i0 _ 6 112 Try.underlying22 hi hz0 hz1 hz2 rfl (by decide) v l.length inner hq a l'.length c news (by rw [hs.2.1]) hs.1 (reps_one hs.2) h0 (by simp only [maxLen]; omega) (by omega) hB
 have hcalm : Calm B W w' := fun k hk hlt => hg.block k hlt (fun e => hni k e.symm hk)
 refine ⟨v', w', hrun, ⟨inner ++ news, by rw [List.length_append]; exact hq1, ?_⟩, hg, hat⟩
 have e1 := hr.imp_ (fun _ _ hp => FK_calm hp hcalm)
 have e2 := hs.2.imp_ (fun _ _ hp => FK_calm hp hcalm)
 refine ⟨by rw [List.length_append, List.length_append, e1.1, e2.1, Nat.add_mul], fun j p hj => ?_⟩
 rcases Nat.lt_or_ge j l.length with hjl | hjl
 ·rw [List.getElem?_append_left hjl] at hj
  have h2 := e1.2 j p hj
  rw [List.drop_append_of_le_length (by rw [e1.1]; omega), List.take_append_of_le_length (by rw [List.length_drop, e1.1]; omega)]
  exact h2
 ·rw [List.getElem?_append_right hjl] at hj
  have h2 := e2.2 _ p hj
  rw [show j * 6 = inner.length + (j - l.length) * 6 by rw [e1.1]; omega, ← List.drop_drop, List.drop_left]
  exact h2
theorem TR.block {g : Nat} {cur : Array Value} (hB : B ≤ g) (hb : W.heap[g]? = some (.cells cur 32 (0, 0))) (hr : Reps (fun x c => Kd.FK G.k32 W (Inn B W) x c) 6 l cur.toList) (hl : l.length ≤ 1048576) : TR B W (.slice (some ⟨g, 0, none⟩) l.length l.length) l := by
 have hz : cur.size = l.length * 6 := by rw [← Array.length_toList, hr.1]
 exact ⟨cur.toList, ⟨hr.1, .inr ⟨g, 0, l.length, cur, by rw [Nat.zero_mul], hB, hb, Nat.le_refl _, by simp only [maxLen]; omega, by rw [hz, Nat.zero_add], by rw [Nat.zero_mul, List.drop_zero, List.take_of_length_le (by rw [hr.1]; exact Nat.le_refl _)]⟩⟩, hr⟩
end
theorem fk_new {B : Nat} {W : World} {t : TxD} {lo : Nat} {o2 o3 o4 o5 : Nat → Prop} {v2 v3 v4 v5 : Value} (h2 : Kd.R (Kd.int .u8) 5 W lo o2 v2 t.f2) (h3 : Kd.R (Kd.int .i64) 2 W lo o3 v3 t.f3) (h4 : Kd.R G.k54 54 W lo o4 v4 t.f4) (h5 : Kd.R G.k54 54 W lo o5 v5 t.f5) :
  Kd.FK G.k32 W (Inn B W) t [.int .i64 t.f0, .int .i64 t.f1, v2, v3, v4, v5] := by
 have hM := G.k32_mkM W lo (fun _ => True) t (Kd.R_mono h2 (fun _ _ => trivial)) (Kd.R_mono h3 (fun _ _ => trivial)) (Kd.R_mono h4 (fun _ _ => trivial)) (Kd.R_mono h5 (fun _ _ => trivial))
 exact Kd.FK_mono (Kd.FK_of_M (Kd.M_bound _ hM)) (fun k hk => .inr ⟨hk.2.2.1, hk.2.2.2⟩)
theorem src_one {B : Nat} {W : World} {t : TxD} {cs : List Value} {e : TypeId} (h : Kd.FK G.k32 W (Inn B W) t cs) : Src B (W.alloc (.cells cs.toArray e)) ⟨W.heap.size, 0, none⟩ [t] cs := by
 have h' := FK_calm h (.of_below ((Below.refl _ W).alloc (Nat.le_refl _) (.cells cs.toArray e)))
 have hl : cs.length = 6 := Kd.K_len _ (Kd.FK_now h')
 refine ⟨fun j u hu => ?_, by rw [hl]; rfl, fun j p hj => ?_⟩
 ·rw [add_at, Nat.zero_add]
  have hb := heap_alloc_new W (.cells cs.toArray e)
  rw [cell_of_row _ _ _ _ _ (0, 0) hb]
  simpa using hu
 ·cases j with
  | zero =>
   simp at hj
   subst hj
   rw [Nat.zero_mul, List.drop_zero, List.take_of_length_le (by omega)]
   exact h'
  | succ j => simp at hj
section
variable {B : Nat} {W : World} {ops : Array Oper} {rest : List Oper} {o : Oper} {a : Act} {Q : Exit → Act → World → Prop} {Kc : Act → World → Prop}
theorem tr_append_step (hw : Region.wanted o (yielded ops a.tmps) = true) (s x : Operand) (ho : o.op = .call { callee := .builtin .append, args := #[s, x], argTypes := #[22, 22] })
  {v : Value} {l l' : List TxD} {news : List Value} {ad : Addr} {m c : Nat} (hs : a.eval s = v) (hx : a.eval x = .slice (some ad) m c) (h : TR B W v l) (hn : Src B W ad l' news) (hm : m = l'.length) (h0 : 0 < m) (hl : l.length + m ≤ 1048576) (hB : B ≤ W.heap.size)
  (hK : ∀ v' w', TR B w' v' (l ++ l') → W.grownBy w' v.ownBlock → (v'.ownBlock = v.ownBlock ∨ ∃ b, v'.ownBlock = some b ∧ W.heap.size ≤ b) → Kc (a.put o.dst v') w') :
  if Region.wanted o (yielded ops a.tmps) = true then Oper.wp Try.prog o a W Kc Q else Kc (a.put o.dst undef) W := by
 obtain ⟨v', w', hr, h1, h2, h3⟩ := h.append (c := c) o.type hn hm h0 hl hB
 rw [if_pos hw]
 unfold Oper.wp execOp
 simp only [ho, resolve, invoke, builtin, Sem.run_bind, Sem.run_pure, Result.andThen_ok, List.map_toArray, List.map_cons, List.map_nil, hs, hx, hr]
 exact hK v' w' h1 h2 h3
end
end Go.Proofs.Ytgmlpmdfkaadhaa.M
end

section
/- Keys of two numbers: arrays [2]int, structs of two numbers. -/
namespace Go.Proofs.Ytgmlpmdfkaadhaa.M
open Go.RowKit Go.Maps
theorem arr_two {α : Type} {cs : Array α} (h : cs.size = 2) : ∃ c0 c1, cs = #[c0, c1] := by
 obtain ⟨l⟩ := cs
 match l, h with
 | [c0, c1], _ => exact ⟨c0, c1, rfl⟩
def mk2 (p q : IntKind) (x : Int × Int) : Value := .agg #[.int p x.1, .int q x.2]
def wf2 (p q : IntKind) (x : Int × Int) : Prop := (Lit.int p x.1).wf = true ∧ (Lit.int q x.2).wf = true
theorem mk2_inj {p q : IntKind} (x y : Int × Int) (h : mk2 p q x = mk2 p q y) : x = y := by
 simp only [mk2, Value.agg.injEq, Array.mk.injEq, List.cons.injEq, Value.int.injEq, true_and, and_true] at h
 exact Prod.ext h.1 h.2
theorem keyT_struct2 {P : Program} {k : TypeId} {f0 f1 : Field} {p q : IntKind} (hk : P.underlying k = some (.struct #[f0, f1])) (h0 : P.underlying f0.type = some (.int p)) (h1 : P.underlying f1.type = some (.int q)) (ho : f0.offset = 0 ∧ f1.offset = 1) (hnm : (f0.name != "_") = true ∧ (f1.name != "_") = true)
  (hck : P.cellsOf k = 2) (hc0 : P.cellsOf f0.type = 1) (hc1 : P.cellsOf f1.type = 1) (hkt : P.keyType k = true) (hm : ∃ m, P.types.size = m + 1) (K : Keyed P k) :
  KeyT P k (mk2 p q) (wf2 p q) := by
 obtain ⟨m, hm⟩ := hm
 obtain ⟨n0, n1⟩ := hnm
 refine ⟨K, fun x hx => ?_, fun v kl h => ?_, mk2_inj⟩
 ·obtain ⟨w0, w1⟩ := hx
  simp only [bne_iff_ne, ne_eq] at n0 n1
  simp [keyOf, hk, hkt, mk2, Value.formed, hck, Program.keyLits, hm, h0, h1, hc0, hc1, ho.1, ho.2, n0, n1, Value.cells, w0, w1]
 ·unfold keyOf at h
  rw [hk] at h
  simp only [hkt, Bool.true_and] at h
  split at h
  ·rename_i hf
   rw [Option.map_eq_some_iff] at h
   obtain ⟨ls, h1', _⟩ := h
   cases v with
   | agg cs =>
    simp [Value.formed, hk, hck] at hf
    obtain ⟨c0, c1, rfl⟩ := arr_two hf
    simp only [bne_iff_ne, ne_eq] at n0 n1
    simp [Program.keyLits, hm, hk, hck, hc0, hc1, ho.1, ho.2, n0, n1, Value.cells] at h1'
    rw [Option.bind_eq_some_iff] at h1'
    obtain ⟨l0, h2, h3⟩ := h1'
    cases c0 <;> simp [h0] at h2
    obtain ⟨⟨rfl, w0⟩, rfl⟩ := h2
    cases c1 <;> simp [h1, Option.bind_eq_some_iff] at h3
    obtain ⟨_, ⟨_, ⟨⟨rfl, w1⟩, _⟩, _⟩, _⟩ := h3
    exact ⟨(_, _), ⟨w0, w1⟩, rfl⟩
   | _ => simp [Value.formed, hk] at hf
  ·cases h
theorem keyed_deep {P : Program} (hl : laidOutB P = true) {k : TypeId} (hrow : k < P.types.size) (hk : P.keyTypeAt 2 k = true) (hwide : (match P.underlying k with | some (.array _ _) | some (.struct _) => true | _ => false) = true) : Keyed P k :=
 Keyed.of_law (deep_law_laid hl (m := 2) (by omega) hrow hk hwide)
end Go.Proofs.Ytgmlpmdfkaadhaa.M
end

section
/- A sequencer in memory; New, Len, Number, Epoch, none. -/
namespace Go.Proofs.Ytgmlpmdfkaadhaa.M
open Go.RowKit Go.Proofs.YtgmlpmdfkaadhaaW.PrintWords Go.Proofs.YtgmlpmdfkaadhaaW.PrintLast Go.Proofs.YtgmlpmdfkaadhaaW.PrintMore Go.Proofs.Ytgmlpmdfkaadhaa.G
def mapQ (l : List TxD) (k : Int × Int) : Option Value := if waitsB l k = true then some (.bool true) else none
structure IsSq (B : Nat) (W : World) (g mp nb : Nat) (s : SqS) (A : Option Addr) (c : Nat) : Prop where
 y : W.heap[g]? = some (.cells #[.bool true, .int .i64 s.r, .slice A s.l.length c, .map (some mp), .int .i64 s.n, .int .i64 s.t] 68)
 m : IsM Try.prog 72 (mk2 .i64 .i64) W mp nb (mapQ s.l) s.l.length
 r : TR B W (.slice A s.l.length c) s.l
 o : OkQ s
 bg : B ≤ g
 bm : B ≤ mp
def sqS (g mp : Nat) (A : Option Addr) (k : Nat) : Prop := k = g ∨ k = mp ∨ ∃ a, A = some a ∧ a.block = k
def NewRow (W : World) (A A' : Option Addr) : Prop := ∀ a', A' = some a' → (∃ a, A = some a ∧ a.block = a'.block) ∨ W.heap.size ≤ a'.block
theorem own_iff {A : Option Addr} {n c k : Nat} : (Value.slice A n c).ownBlock = some k ↔ ∃ a, A = some a ∧ a.block = k := by
 cases A with
 | none => simp [Value.ownBlock]
 | some a => simp [Value.ownBlock]
theorem NewRow.refl (W : World) (A : Option Addr) : NewRow W A A := fun a' h => .inl ⟨a', h, rfl⟩
theorem NewRow.of {W : World} {A A' : Option Addr} {n c n' c' : Nat} (h : (Value.slice A' n' c').ownBlock = (Value.slice A n c).ownBlock ∨ ∃ b, (Value.slice A' n' c').ownBlock = some b ∧ W.heap.size ≤ b) : NewRow W A A' := by
 intro a' ha
 have h1 : (Value.slice A' n' c').ownBlock = some a'.block := own_iff.2 ⟨a', ha, rfl⟩
 rcases h with h | ⟨b, h, hb⟩
 ·exact .inl (own_iff.1 (h.symm.trans h1))
 ·rw [h1] at h
  injection h with h
  exact .inr (h ▸ hb)
theorem NewRow.trans {W W' : World} {A A' A'' : Option Addr} (h : NewRow W A A') (hz : W.heap.size ≤ W'.heap.size) (k : NewRow W' A' A'') : NewRow W A A'' := by
 intro a'' ha
 rcases k a'' ha with ⟨a', e1, e2⟩ | e
 ·rcases h a' e1 with ⟨a, f1, f2⟩ | f
  ·exact .inl ⟨a, f1, f2.trans e2⟩
  ·exact .inr (e2 ▸ f)
 ·exact .inr (Nat.le_trans hz e)
theorem NewRow.up {W W' : World} {A A' : Option Addr} (h : NewRow W' A A') (hz : W.heap.size ≤ W'.heap.size) : NewRow W A A' := (NewRow.refl W A).trans hz h
section
variable {B : Nat} {W W' : World} {g mp nb : Nat} {s : SqS} {A : Option Addr} {c : Nat}
theorem isM_obj {α : Type} {P : Program} {k : TypeId} {mk : α → Value} {w : World} {b n : Nat} {M : α → Option Value} {sz : Nat} (h : IsM P k mk w b n M sz) : ∃ es clock, w.heap[b]? = some (.map es clock) := by
 obtain ⟨D, ⟨es, clock, h1, h2⟩, h3⟩ := h
 exact ⟨es, clock, h1⟩
theorem IsSq.glt (h : IsSq B W g mp nb s A c) : g < W.heap.size := (Array.getElem?_eq_some_iff.1 h.y).1
theorem IsSq.ne (h : IsSq B W g mp nb s A c) : g ≠ mp := by
 rintro rfl
 obtain ⟨es, clock, e⟩ := isM_obj h.m
 have := h.y
 rw [e] at this
 cases this
theorem IsSq.own (h : IsSq B W g mp nb s A c) {a : Addr} (ha : A = some a) : B ≤ a.block ∧ ∃ cells, W.heap[a.block]? = some (.cells cells 32 (0, 0)) := h.r.typed _ (own_iff.2 ⟨a, ha, rfl⟩)
theorem IsSq.own_ne (h : IsSq B W g mp nb s A c) {a : Addr} (ha : A = some a) : a.block ≠ g ∧ a.block ≠ mp := by
 obtain ⟨_, cells, hc⟩ := h.own ha
 constructor
 ·intro e
  have := h.y
  rw [← e, hc] at this
  injection this with this
  injection this with _ this
  exact absurd this (by decide)
 ·intro e
  obtain ⟨es, clock, e2⟩ := isM_obj h.m
  rw [← e, hc] at e2
  cases e2
theorem IsSq.out (h : IsSq B W g mp nb s A c) : ∀ k, sqS g mp A k → ¬ Inn B W k := by
 rintro k (rfl | rfl | ⟨a, ha, rfl⟩)
 ·exact not_inn h.bg h.y sq_not
 ·obtain ⟨es, clock, e⟩ := isM_obj h.m
  exact not_inn_map h.bm e
 ·exact h.r.not_inn _ (own_iff.2 ⟨a, ha, rfl⟩)
theorem IsSq.lt (h : IsSq B W g mp nb s A c) : ∀ k, sqS g mp A k → k < W.heap.size := by
 rintro k (rfl | rfl | ⟨a, ha, rfl⟩)
 ·exact h.glt
 ·exact h.m.lt
 ·exact h.r.lt _ (own_iff.2 ⟨a, ha, rfl⟩)
theorem IsSq.ge (h : IsSq B W g mp nb s A c) : ∀ k, sqS g mp A k → B ≤ k := by
 rintro k (rfl | rfl | ⟨a, ha, rfl⟩)
 ·exact h.bg
 ·exact h.bm
 ·exact (h.own ha).1
theorem IsSq.keep {S : Nat → Prop} (h : IsSq B W g mp nb s A c) (hk : KeepS S W W') (hs : ∀ k, S k → ¬ Inn B W k) (hd : ∀ k, sqS g mp A k → ¬ S k) : IsSq B W' g mp nb s A c :=
 ⟨(hk.block g h.glt (hd g (.inl rfl))).trans h.y, h.m.move (hk.block mp h.m.lt (hd mp (.inr (.inl rfl)))), h.r.keep hk hs (fun k e => hd k (.inr (.inr (own_iff.1 e)))), h.o, h.bg, h.bm⟩
theorem IsSq.below (h : IsSq B W g mp nb s A c) (hb : Below W.heap.size W W') : IsSq B W' g mp nb s A c :=
 h.keep (KeepS.of_below (fun _ => False) hb) (fun _ h => h.elim) (fun _ _ h => h)
end
theorem noneOf {B : Nat} {W : World} {g mp nb : Nat} {s : SqS} {A : Option Addr} {c : Nat} (h : IsSq B W g mp nb s A c) : Calls Try.prog 28 #[.pointer (some ⟨g, 0, none⟩)] W fun e w' => e = .returned (.bool false) ∧ w' = W := by
 have h0 : W.cell? ⟨g, 0, none⟩ = some (.bool true) := (blk_cell h.y 0).trans rfl
 clear h
 go_enter Try.func28, Try.ntmps28
 go_wp2_with fail
 go_ret
 exact ⟨rfl, rfl⟩
theorem len_is {B : Nat} {W : World} {g mp nb : Nat} {s : SqS} {A : Option Addr} {c : Nat} (h : IsSq B W g mp nb s A c) : Calls Try.prog 11 #[.pointer (some ⟨g, 0, none⟩)] W fun e w' => e = .returned (.int .i64 s.l.length) ∧ w' = W := by
 have h2 : W.cell? ⟨g, 2, none⟩ = some (.slice A s.l.length c) := (blk_cell h.y 2).trans rfl
 have H := Lib.hid (noneOf h)
 clear h
 go_enter Try.func11, Try.ntmps11
 go_wp2_with fail
 refine H.out.mono ?_
 rintro e w' ⟨rfl, rfl⟩
 go_wp2_with fail
 go_ret
 exact ⟨rfl, rfl⟩
theorem number_is {B : Nat} {W : World} {g mp nb : Nat} {s : SqS} {A : Option Addr} {c : Nat} (h : IsSq B W g mp nb s A c) : Calls Try.prog 25 #[.pointer (some ⟨g, 0, none⟩)] W fun e w' => e = .returned (.int .i64 s.n) ∧ w' = W := by
 have h2 : W.cell? ⟨g, 4, none⟩ = some (.int .i64 s.n) := (blk_cell h.y 4).trans rfl
 have H := Lib.hid (noneOf h)
 clear h
 go_enter Try.func25, Try.ntmps25
 go_wp2_with fail
 refine H.out.mono ?_
 rintro e w' ⟨rfl, rfl⟩
 go_wp2_with fail
 go_ret
 exact ⟨rfl, rfl⟩
def newQ (r : Int) : SqS := ⟨r, [], 0, 0⟩
theorem newQ_ok {r : Int} (h : 0 ≤ r ∧ r ≤ 4) : OkQ (newQ r) where
 r := h
 n := by show (0 : Int) ≤ 0 ∧ (0 : Int) ≤ 1099511627776; decide
 t := by show (0 : Int) ≤ 0 ∧ (0 : Int) < 4; decide
 m := Nat.zero_le _
 a := fun t ht => by cases ht
 u := List.nodup_nil
theorem new_is {w : World} {r : Int} (h : 0 ≤ r ∧ r ≤ 4) {B : Nat} (hB : B ≤ w.heap.size) : Calls Try.prog 8 #[.int .i64 r] w fun e w' => e = .returned (.tuple #[.pointer (some ⟨w.heap.size + 1, 0, none⟩), .int .i64 0]) ∧ IsSq B w' (w.heap.size + 1) w.heap.size 0 (newQ r) none 0 ∧ Below w.heap.size w w' := by
 have q : decide (r < 0) = false := decide_eq_false (by omega)
 have q2 : decide (5 ≤ r) = false := decide_eq_false (by omega)
 have hmm := @run_makeMap Try.prog
 have HR := Lib.hid h
 have HB := Lib.hid hB
 clear h hB
 go_enter Try.func8, Try.ntmps8
 go_wp2_with fail
 go_ret2
 have hz : (w.alloc (.map #[] 0)).heap.size = w.heap.size + 1 := by simp
 have hB := HB.out
 refine ⟨by simp, ⟨?_, ?_, TR.nil _ _, newQ_ok HR.out, by omega, hB⟩, ?_⟩
 ·rw [← hz]; exact heap_alloc_new _ _
 ·exact (isM_made w _ _ _).alloc _
 ·exact ((Below.refl _ _).alloc (Nat.le_refl _) _).alloc (by simp) _
end Go.Proofs.Ytgmlpmdfkaadhaa.M
end

section
/- A whole struct's load, at once. -/
namespace Go.Proofs.Ytgmlpmdfkaadhaa.M
open Go
theorem exec_load_row {P : Program} {ρ : Operand → Value} {o : Oper} {w : World} {ty : TypeId} {x : Operand} {g t : Nat} {cs : Array Value} {fr : Nat × Nat} {d : TypeDesc} (ho : o.op = .load ty x) (hx : ρ x = .pointer (some ⟨g, 0, none⟩)) (hg : w.heap[g]? = some (.cells cs t fr))
  (hu : P.underlying ty = some d) (hd : (match d with | .struct _ | .array _ _ => true | _ => false) = true) (hi : (P.info? ty).map (·.size) = some cs.size) : (execOp ρ o).run P w = .ok (.value (.agg cs)) w := by
 unfold execOp
 simp only [ho, hx, Instr.loadAt, Instr.sureAddr, Sem.run_bind, Sem.run_pure, Result.andThen_ok, run_loadVar_row w g t ty cs fr d hg hu hd hi]
end Go.Proofs.Ytgmlpmdfkaadhaa.M
end

section
/- Take: a row of one transaction; its entry. -/
attribute [local irreducible] Go.wpStill
namespace Go.Proofs.Ytgmlpmdfkaadhaa.M
open Go.RowKit Go.Proofs.YtgmlpmdfkaadhaaW.PrintWords Go.Proofs.YtgmlpmdfkaadhaaW.PrintLast Go.Proofs.YtgmlpmdfkaadhaaW.PrintMore Go.Proofs.Ytgmlpmdfkaadhaa.G
theorem C_tx1 {w : World} {t : TxD} {A2 A3 A4 A5 : Option Addr} {c2 c3 c4 c5 : Nat} (h : TxC w t A2 c2 A3 c3 A4 c4 A5 c5) (e : TypeId) :
  Kd.C G.k32 (w.alloc (.cells #[.int .i64 t.f0, .int .i64 t.f1, .slice A2 t.f2.length c2, .slice A3 t.f3.length c3, .slice A4 t.f4.length c4, .slice A5 t.f5.length c5] e)) (some ⟨w.heap.size, 0, none⟩) 1 [t] := by
 refine ⟨rfl, by decide, fun _ => ⟨_, rfl, fun j p hj => ?_⟩⟩
 cases j with
 | zero =>
  simp at hj
  subst hj
  refine ⟨[.int .i64 t.f0, .int .i64 t.f1, .slice A2 t.f2.length c2, .slice A3 t.f3.length c3, .slice A4 t.f4.length c4, .slice A5 t.f5.length c5], rfl, G.k32_mk _ t h.l2 (Kd.C_alloc h.g2 _) h.l3 (Kd.C_alloc h.g3 _) h.l4 (Kd.C_alloc h.g4 _) h.l5 (Kd.C_alloc h.g5 _), fun i u hu => ?_⟩
  have hz : (0 : Nat) * Kd.sz G.k32 = 0 := Nat.zero_mul _
  match i, hu with
  | 0, hu => simp at hu; subst hu; rw [add_plain]; simp
  | 1, hu => simp at hu; subst hu; rw [add_plain]; simp
  | 2, hu => simp at hu; subst hu; rw [add_plain]; simp
  | 3, hu => simp at hu; subst hu; rw [add_plain]; simp
  | 4, hu => simp at hu; subst hu; rw [add_plain]; simp
  | 5, hu => simp at hu; subst hu; rw [add_plain]; simp
  | i + 6, hu => simp at hu
 | succ j => simp at hj
theorem smT_of {t : TxD} (h : mayT t = true) : SmT t := by
 obtain ⟨a, b, c, d⟩ := mayT_len h
 exact ⟨by omega, by omega, by omega, by omega⟩
open Go.Maps in
theorem keyQ : KeyT Try.prog 72 (mk2 .i64 .i64) (wf2 .i64 .i64) :=
 keyT_struct2 Try.underlying72 Try.underlying2 Try.underlying2 ⟨rfl, rfl⟩ ⟨by rfl, by rfl⟩ (by kernel_rfl) (by kernel_rfl) (by kernel_rfl) (by kernel_rfl) ⟨Try.prog.types.size - 1, by have h : 0 < Try.prog.types.size := of_decide_eq_true (by kernel_rfl); omega⟩
  (keyed_deep laidOut (of_decide_eq_true (by kernel_rfl)) (by kernel_rfl) (by rw [Try.underlying72]))
theorem zeroBool (u : World) : (zeroValue 4).run Try.prog u = .ok (.bool false) u := by kernel_rfl
theorem m_get_v {α : Type} {P : Program} {k e : TypeId} {mk : α → Value} {wf : α → Prop} {b n sz : Nat} {M : α → Option Value} (w : World) {ops : Array Oper} {rest : List Oper} {o : Oper} {a : Act} {Q : Exit → Act → World → Prop} (h : IsM P k mk w b n M sz) (hk : KeyT P k mk wf) (t : TypeId) (ht : P.underlying t = some (.map k e)) {z : Value} (hz : ∀ u : World, (zeroValue e).run P u = .ok z u) (hg : o.guard = none) (m y : Operand) (hop : o.op = Op.lookup t m y false)
  (x : α) (hx : wf x) {v : Value} (hv : (M x).getD z = v) (hm : a.eval m = .map (some b)) (hy : a.eval y = mk x) (hK : wpList P ops Q rest (a.put o.dst v) w) : wpList P ops Q (o :: rest) a w := by
 subst hv
 exact m_get w h hk t ht hz hg m y hop x hx hm hy hK
theorem mapQ_snoc (l : List TxD) (t : TxD) : mapQ (l ++ [t]) = fun y => if y = (t.f0, t.f1) then some (.bool true) else mapQ l y := by
 funext y
 unfold mapQ waitsB
 rw [List.any_append]
 by_cases h : y = (t.f0, t.f1)
 ·subst h
  simp [keyTx]
 ·have : (keyTx t == y) = false := by
   rw [beq_eq_false_iff_ne]
   exact fun e => h e.symm
  simp [h, this]
theorem IsSq.more {B : Nat} {W : World} {g mp nb : Nat} {s : SqS} {A : Option Addr} {c : Nat} (h : IsSq B W g mp nb s A c) : IsSq B W g mp (nb + 1) s A c := ⟨h.y, h.m.mono (Nat.le_succ _), h.r, h.o, h.bg, h.bm⟩
theorem txC_of {W : World} {ok : Nat → Prop} {t : TxD} {A2 A3 A4 A5 : Option Addr} {c2 c3 c4 c5 : Nat} (h : Kd.FK G.k32 W ok t [.int .i64 t.f0, .int .i64 t.f1, .slice A2 t.f2.length c2, .slice A3 t.f3.length c3, .slice A4 t.f4.length c4, .slice A5 t.f5.length c5]) : TxC W t A2 c2 A3 c3 A4 c4 A5 c5 := by
 obtain ⟨B2, d2, B3, d3, B4, d4, B5, d5, he, l2, g2, l3, g3, l4, g4, l5, g5⟩ := G.k32_open (Kd.FK_now h)
 simp only [List.cons.injEq, Value.slice.injEq, and_true, true_and] at he
 obtain ⟨⟨rfl, rfl⟩, ⟨rfl, rfl⟩, ⟨rfl, rfl⟩, ⟨rfl, rfl⟩⟩ := he
 exact ⟨l2, g2, l3, g3, l4, g4, l5, g5⟩
set_option maxHeartbeats 2000000 in
theorem take_arg {B : Nat} {W : World} {g mp nb : Nat} {s : SqS} {A : Option Addr} {c : Nat} (h : IsSq B W g mp nb s A c) {t : TxD} {A2 A3 A4 A5 : Option Addr} {c2 c3 c4 c5 : Nat} (hC : TxC W t A2 c2 A3 c3 A4 c4 A5 c5) (ho : okT t = true) (hm : mayT t = false) :
  Calls Try.prog 10 #[.pointer (some ⟨g, 0, none⟩), .agg #[.int .i64 t.f0, .int .i64 t.f1, .slice A2 t.f2.length c2, .slice A3 t.f3.length c3, .slice A4 t.f4.length c4, .slice A5 t.f5.length c5]] W fun e w' => e = .returned (.int .i64 1) ∧ Below W.heap.size W w' := by
 obtain ⟨hx, hb⟩ : (W.alloc (.cells #[.int .i64 t.f0, .int .i64 t.f1, .slice A2 t.f2.length c2, .slice A3 t.f3.length c3, .slice A4 t.f4.length c4, .slice A5 t.f5.length c5] 32)).heap[W.heap.size]? = some (.cells #[.int .i64 t.f0, .int .i64 t.f1, .slice A2 t.f2.length c2, .slice A3 t.f3.length c3, .slice A4 t.f4.length c4, .slice A5 t.f5.length c5] 32) ∧ Below W.heap.size W (W.alloc (.cells #[.int .i64 t.f0, .int .i64 t.f1, .slice A2 t.f2.length c2, .slice A3 t.f3.length c3, .slice A4 t.f4.length c4, .slice A5 t.f5.length c5] 32)) := ⟨heap_alloc_new W _, (Below.refl _ W).alloc (Nat.le_refl _) _⟩
 obtain ⟨w0, hw⟩ : ∃ V, W.alloc (.cells #[.int .i64 t.f0, .int .i64 t.f1, .slice A2 t.f2.length c2, .slice A3 t.f3.length c3, .slice A4 t.f4.length c4, .slice A5 t.f5.length c5] 32) = V := ⟨_, rfl⟩
 rw [hw] at hx hb
 have H := Lib.hid (noneOf (h.below hb))
 have HC := Lib.hid (hC.below hb); have HX := Lib.hid hx; have HB := Lib.hid hb
 have HE := Lib.hid (show okE 1 0 0 [t] = true ∧ (entF 1 0 0 [t]).2 = 40 from ⟨by unfold okE; rw [List.all_cons, ho]; rfl, by rw [one_err ho, if_neg (by rw [hm]; simp)]⟩)
 clear h hC hx hb
 go_enter Try.func10, Try.ntmps10
 go_wp2_with fail
 refine H.out.mono ?_
 rintro e w' ⟨rfl, rfl⟩
 go_upto_region 3 with fail
 refine wp_region_list ?_
 refine wpList_load_row rfl 32 (.tmp 3) rfl W.heap.size rfl 32 #[.int .i64 t.f0, .int .i64 t.f1, .slice A2 t.f2.length c2, .slice A3 t.f3.length c3, .slice A4 t.f4.length c4, .slice A5 t.f5.length c5] (0, 0) _ HX.out Try.underlying32 rfl (by kernel_rfl) ?_
 go_wp2_with fail
 have h4 := entry_is 1 0 0 (some ⟨w'.heap.size, 0, none⟩) 1 [t] (w'.alloc (.cells #[.int .i64 t.f0, .int .i64 t.f1, .slice A2 t.f2.length c2, .slice A3 t.f3.length c3, .slice A4 t.f4.length c4, .slice A5 t.f5.length c5] 32)) (C_tx1 HC.out _) HE.out.1
 rw [HE.out.2] at h4
 have h5 := (Below.refl w'.heap.size w').alloc (Nat.le_refl _) (.cells #[.int .i64 t.f0, .int .i64 t.f1, .slice A2 t.f2.length c2, .slice A3 t.f3.length c3, .slice A4 t.f4.length c4, .slice A5 t.f5.length c5] 32)
 refine h4.mono ?_
 rintro e w2 ⟨v, rfl, hv, hb⟩
 have HB2 := Lib.hid (HB.out.trans ((h5.trans (hb.mono h5.size)).mono HB.out.size))
 clear h4 h5 hb hv
 go_wp2_with fail
 go_ret
 exact ⟨rfl, HB2.out⟩
def TakeP (B : Nat) (W : World) (g mp nb : Nat) (s : SqS) (A : Option Addr) (t : TxD) (e : Ending) (w' : World) : Prop :=
 ∃ A' c', e = .returned (.int .i64 (qTake s t).2) ∧ IsSq B w' g mp (nb + 1) (qTake s t).1 A' c' ∧ KeepS (sqS g mp A) W w' ∧ NewRow W A A'
set_option maxHeartbeats 8000000 in
theorem take_may {B : Nat} {W : World} {g mp nb : Nat} {s : SqS} {A : Option Addr} {c : Nat} (h : IsSq B W g mp nb s A c) {t : TxD} {A2 A3 A4 A5 : Option Addr} {c2 c3 c4 c5 : Nat} (hF : Kd.FK G.k32 W (Inn B W) t [.int .i64 t.f0, .int .i64 t.f1, .slice A2 t.f2.length c2, .slice A3 t.f3.length c3, .slice A4 t.f4.length c4, .slice A5 t.f5.length c5]) (ho : okT t = true) (hm : mayT t = true) (hn : nb < maxLen) (hwf : wf2 .i64 .i64 (t.f0, t.f1)) :
  Calls Try.prog 10 #[.pointer (some ⟨g, 0, none⟩), .agg #[.int .i64 t.f0, .int .i64 t.f1, .slice A2 t.f2.length c2, .slice A3 t.f3.length c3, .slice A4 t.f4.length c4, .slice A5 t.f5.length c5]] W fun e w' => TakeP B W g mp nb s A t e w' := by
 have HWF := Lib.hid hwf
 clear hwf
 obtain ⟨hx, hb⟩ : (W.alloc (.cells #[.int .i64 t.f0, .int .i64 t.f1, .slice A2 t.f2.length c2, .slice A3 t.f3.length c3, .slice A4 t.f4.length c4, .slice A5 t.f5.length c5] 32)).heap[W.heap.size]? = some (.cells #[.int .i64 t.f0, .int .i64 t.f1, .slice A2 t.f2.length c2, .slice A3 t.f3.length c3, .slice A4 t.f4.length c4, .slice A5 t.f5.length c5] 32) ∧ Below W.heap.size W (W.alloc (.cells #[.int .i64 t.f0, .int .i64 t.f1, .slice A2 t.f2.length c2, .slice A3 t.f3.length c3, .slice A4 t.f4.length c4, .slice A5 t.f5.length c5] 32)) := ⟨heap_alloc_new W _, (Below.refl _ W).alloc (Nat.le_refl _) _⟩
 obtain ⟨w0, hw⟩ : ∃ V, W.alloc (.cells #[.int .i64 t.f0, .int .i64 t.f1, .slice A2 t.f2.length c2, .slice A3 t.f3.length c3, .slice A4 t.f4.length c4, .slice A5 t.f5.length c5] 32) = V := ⟨_, rfl⟩
 rw [hw] at hx hb
 have H := Lib.hid (noneOf (h.below hb))
 have HQ := Lib.hid (h.below hb)
 have HF := Lib.hid (FK_calm hF (.of_below hb)); have HX := Lib.hid hx; have HB := Lib.hid hb; have HN := Lib.hid hn; have HM := Lib.hid hm; have HO := Lib.hid ho
 have HLT := Lib.hid (show ∀ k, sqS g mp A k → k < W.heap.size from h.lt)
 have HE := Lib.hid (show okE 1 0 0 [t] = true ∧ (entF 1 0 0 [t]).2 = 0 from ⟨by unfold okE; rw [List.all_cons, ho]; rfl, by rw [one_err ho, if_pos hm]⟩)
 clear h hF hx hb hn hm ho
 go_enter Try.func10, Try.ntmps10
 go_wp2_with fail
 refine H.out.mono ?_
 rintro e w' ⟨rfl, rfl⟩
 go_upto_region 3 with fail
 refine wp_region_list ?_
 refine wpList_load_row rfl 32 (.tmp 3) rfl W.heap.size rfl 32 #[.int .i64 t.f0, .int .i64 t.f1, .slice A2 t.f2.length c2, .slice A3 t.f3.length c3, .slice A4 t.f4.length c4, .slice A5 t.f5.length c5] (0, 0) _ HX.out Try.underlying32 rfl (by kernel_rfl) ?_
 go_wp2_with fail
 have h4 := entry_is 1 0 0 (some ⟨w'.heap.size, 0, none⟩) 1 [t] (w'.alloc (.cells #[.int .i64 t.f0, .int .i64 t.f1, .slice A2 t.f2.length c2, .slice A3 t.f3.length c3, .slice A4 t.f4.length c4, .slice A5 t.f5.length c5] 32)) (C_tx1 (txC_of HF.out) _) HE.out.1
 rw [HE.out.2] at h4
 have h5 := (Below.refl w'.heap.size w').alloc (Nat.le_refl _) (.cells #[.int .i64 t.f0, .int .i64 t.f1, .slice A2 t.f2.length c2, .slice A3 t.f3.length c3, .slice A4 t.f4.length c4, .slice A5 t.f5.length c5] 32)
 refine h4.mono ?_
 rintro e w2 ⟨v, rfl, hv, hb⟩
 have HB2 := Lib.hid (h5.trans (hb.mono h5.size))
 clear h4 h5 hb hv H
 have d0 : w2.cell? ⟨W.heap.size, 0, none⟩ = some (.int .i64 t.f0) := (blk_cell ((HB2.out.block _ (blk_lt HX.out)).trans HX.out) 0).trans rfl
 have d1 : w2.cell? ⟨W.heap.size, 1, none⟩ = some (.int .i64 t.f1) := (blk_cell ((HB2.out.block _ (blk_lt HX.out)).trans HX.out) 1).trans rfl
 go_upto_region 7 with fail
 have HB3 := Lib.hid (HB2.out.alloc (HB2.out.size) (.cells #[.int .i64 t.f0, .int .i64 t.f1] 72))
 have HK3 := Lib.hid (heap_alloc_new w2 (.cells #[.int .i64 t.f0, .int .i64 t.f1] 72))
 obtain ⟨kb, hkb⟩ : ∃ kb, w2.heap.size = kb := ⟨_, rfl⟩
 have HKB := Lib.hid (show w'.heap.size ≤ kb by have := HB2.out.size; omega)
 obtain ⟨w3, hw3⟩ : ∃ V, w2.alloc (.cells #[.int .i64 t.f0, .int .i64 t.f1] 72) = V := ⟨_, rfl⟩
 rw [hw3] at HB3 HK3 ⊢
 rw [hkb] at HK3 ⊢
 clear hw3 hkb d0 d1 HB2
 have HQ3 := Lib.hid (HQ.out.below HB3.out)
 have HX3 := Lib.hid ((HB3.out.block _ (blk_lt HX.out)).trans HX.out)
 have HF3 := Lib.hid (FK_calm HF.out (.of_below HB3.out))
 have HW3 := Lib.hid (show Below W.heap.size W w3 from HB.out.trans (HB3.out.mono HB.out.size))
 clear HQ HX HF HB HB3 HE
 have e3 : w3.cell? ⟨g, 3, none⟩ = some (.map (some mp)) := (blk_cell HQ3.out.y 3).trans rfl
 have k0 : w3.cell? ⟨kb, 0, none⟩ = some (.int .i64 t.f0) := (blk_cell HK3.out 0).trans rfl
 have k1 : w3.cell? ⟨kb, 1, none⟩ = some (.int .i64 t.f1) := (blk_cell HK3.out 1).trans rfl
 refine wp_region_still_tail 5 (by kernel_rfl) (by kernel_rfl) ?_
 simp only [List.take_succ_cons, List.take_zero, List.drop_succ_cons, List.drop_zero]
 iterate 5 still_step
 refine wpStill_nil ?_
 change wpList _ _ _ _ _ w3.drew
 have HQ4 := Lib.hid (HQ3.out.below (Below.refl _ w3).drew)
 have HX4 := Lib.hid (show w3.drew.heap[W.heap.size]? = _ from HX3.out)
 have HK4 := Lib.hid (show w3.drew.heap[kb]? = _ from HK3.out)
 have HF4 := Lib.hid (FK_calm HF3.out (.of_below (Below.refl _ w3).drew))
 have HW4 := Lib.hid HW3.out.drew
 obtain ⟨w4, hw4⟩ : ∃ V, w3.drew = V := ⟨_, rfl⟩
 rw [hw4] at HQ4 HX4 HK4 HF4 HW4 ⊢
 clear hw4 HQ3 HX3 HK3 HF3 HW3 e3 k0 k1
 by_cases hq : waitsB s.l (keyTx t) = true
 ·have HV := Lib.hid (show (mapQ s.l (t.f0, t.f1)).getD (.bool false) = .bool true by unfold mapQ; rw [if_pos (show waitsB s.l (t.f0, t.f1) = true from hq)]; rfl)
  have HR := Lib.hid (show qTake s t = (s, 210) by unfold qTake; rw [if_neg (by rw [HM.out]; simp), if_pos hq])
  clear hq
  go_wp2_with (at_lookup; refine m_get_v _ HQ4.out.m keyQ 66 Try.underlying66 zeroBool rfl (.tmp 28) (.tmp 29) rfl (t.f0, t.f1) HWF.out HV.out rfl rfl ?_)
  go_ret
  exact ⟨A, c, by rw [HR.out]; rfl, by rw [HR.out]; exact HQ4.out.more, KeepS.of_below _ HW4.out, NewRow.refl _ _⟩
 have HV := Lib.hid (show (mapQ s.l (t.f0, t.f1)).getD (.bool false) = .bool false by unfold mapQ; rw [if_neg (show ¬ waitsB s.l (t.f0, t.f1) = true from hq)]; rfl)
 have e2 : w4.cell? ⟨g, 2, none⟩ = some (.slice A s.l.length c) := (blk_cell HQ4.out.y 2).trans rfl
 by_cases hf : 64 ≤ s.l.length
 ·have HR := Lib.hid (show qTake s t = (s, 6) by unfold qTake; rw [if_neg (by rw [HM.out]; simp), if_neg hq, if_pos hf])
  have q : decide (64 ≤ s.l.length) = true := decide_eq_true hf
  have q2 : decide (64 ≤ (s.l.length : Int)) = true := decide_eq_true (by omega)
  clear hq hf
  go_wp2_with (at_lookup; refine m_get_v _ HQ4.out.m keyQ 66 Try.underlying66 zeroBool rfl (.tmp 28) (.tmp 29) rfl (t.f0, t.f1) HWF.out HV.out rfl rfl ?_)
  go_ret
  exact ⟨A, c, by rw [HR.out]; rfl, by rw [HR.out]; exact HQ4.out.more, KeepS.of_below _ HW4.out, NewRow.refl _ _⟩
 have HR := Lib.hid (show qTake s t = ({ s with l := s.l ++ [t] }, 0) by unfold qTake; rw [if_neg (by rw [HM.out]; simp), if_neg hq, if_neg hf])
 have HNO := Lib.hid (show mapQ s.l (t.f0, t.f1) = none by unfold mapQ; rw [if_neg (show ¬ waitsB s.l (t.f0, t.f1) = true from hq)])
 have HL := Lib.hid (show s.l.length < 64 by omega)
 have q : decide (64 ≤ s.l.length) = false := decide_eq_false hf
 have q2 : decide (64 ≤ (s.l.length : Int)) = false := decide_eq_false (by omega)
 clear hq hf
 go_upto_region 11 with (at_lookup; refine m_get_v _ HQ4.out.m keyQ 66 Try.underlying66 zeroBool rfl (.tmp 28) (.tmp 29) rfl (t.f0, t.f1) HWF.out HV.out rfl rfl ?_)
 clear q q2 e2
 have e3 : w4.cell? ⟨g, 3, none⟩ = some (.map (some mp)) := (blk_cell HQ4.out.y 3).trans rfl
 have k0 : w4.cell? ⟨kb, 0, none⟩ = some (.int .i64 t.f0) := (blk_cell HK4.out 0).trans rfl
 have k1 : w4.cell? ⟨kb, 1, none⟩ = some (.int .i64 t.f1) := (blk_cell HK4.out 1).trans rfl
 refine wp_region_still_tail 5 (by kernel_rfl) (by kernel_rfl) ?_
 simp only [List.take_succ_cons, List.take_zero, List.drop_succ_cons, List.drop_zero]
 iterate 5 still_step
 refine wpStill_nil ?_
 change wpList _ _ _ _ _ w4.drew
 have HQ5 := Lib.hid (HQ4.out.below (Below.refl _ w4).drew)
 have HX5 := Lib.hid (show w4.drew.heap[W.heap.size]? = _ from HX4.out)
 have HF5 := Lib.hid (FK_calm HF4.out (.of_below (Below.refl _ w4).drew))
 have HW5 := Lib.hid HW4.out.drew
 obtain ⟨w5, hw5⟩ : ∃ V, w4.drew = V := ⟨_, rfl⟩
 rw [hw5] at HQ5 HX5 HF5 HW5 ⊢
 clear hw5 HQ4 HX4 HK4 HF4 HW4 e3 k0 k1 HV
 go_upto_region 12 with (at_mapUpdate; refine m_put _ HQ5.out.m keyQ 66 Try.underlying66 HN.out rfl (.tmp 41) (.tmp 42) (.const (.bool true)) rfl (t.f0, t.f1) HWF.out (.bool true) rfl rfl rfl ?_; intro w6 hM hG; have HMM := Lib.hid hM; have HG := Lib.hid hG; clear hM hG)
 have HK6 := Lib.hid (KeepS.of_grown (S := sqS g mp A) HG.out (fun i hi => by injection hi with hi; exact .inr (.inl hi.symm)))
 have HC6 := Lib.hid (Calm.of_keep HK6.out HQ5.out.out)
 have HF6 := Lib.hid (FK_calm HF5.out HC6.out)
 have HY6 := Lib.hid ((HG.out.block g HQ5.out.glt (by simp only [ne_eq, Option.some.injEq]; exact HQ5.out.ne)).trans HQ5.out.y)
 have HT6 := Lib.hid (HQ5.out.r.calm HC6.out (fun k hk => HG.out.block k (HQ5.out.r.lt k hk) (by obtain ⟨a, ha, rfl⟩ := own_iff.1 hk; simp only [ne_eq, Option.some.injEq]; exact (HQ5.out.own_ne ha).2)))
 have HX6 := Lib.hid ((HG.out.block W.heap.size (blk_lt HX5.out) (by simp only [ne_eq, Option.some.injEq]; have := HLT.out mp (.inr (.inl rfl)); omega)).trans HX5.out)
 have HW6 := Lib.hid ((KeepS.of_below (sqS g mp A) HW5.out).trans HK6.out)
 have HO5 := Lib.hid (show (∀ a, A = some a → a.block ≠ g ∧ a.block ≠ mp) ∧ B ≤ g ∧ B ≤ mp ∧ g ≠ mp ∧ OkQ s from ⟨fun a ha => HQ5.out.own_ne ha, HQ5.out.bg, HQ5.out.bm, HQ5.out.ne, HQ5.out.o⟩)
 clear HQ5 HX5 HF5 HW5 HG HK6 HC6
 refine start_ (n := 12) (S := fun w' => w'.cell? ⟨g, 2, none⟩ = some (.slice A s.l.length c) ∧ w'.heap[W.heap.size]? = some (.cells #[.int .i64 t.f0, .int .i64 t.f1, .slice A2 t.f2.length c2, .slice A3 t.f3.length c3, .slice A4 t.f4.length c4, .slice A5 t.f5.length c5] 32)) (ds := [11]) #[false, false, false, false, false, false, false, false, false, false, false, false] (by kernel_rfl) rfl rfl ⟨(blk_cell (show w6.drew.heap[g]? = _ from HY6.out) 2).trans rfl, HX6.out⟩ (fun hHeld => ?_)
 have HF := Lib.hid (FK_calm HF6.out (.of_below (Below.refl _ w6).drew)); have HY := Lib.hid (show w6.drew.heap[g]? = _ from HY6.out); have HT := Lib.hid (HT6.out.below (Below.refl _ w6).drew); have HX := Lib.hid (show w6.drew.heap[W.heap.size]? = _ from HX6.out); have HW := Lib.hid HW6.out.drew; have HMP := Lib.hid (HMM.out.below (Below.refl _ w6).drew)
 obtain ⟨wa, hwa⟩ : ∃ wa, w6.drew = wa := ⟨_, rfl⟩
 rw [hwa] at HF HY HT HX HW HMP hHeld ⊢
 clear hwa HF6 HY6 HT6 HX6 HW6 HMM
 refine pure_ (i := 0) (N := some 43) (v := ?_) (a' := ?_) #[true, false, false, false, false, false, false, false, false, false, false, false] rfl rfl (by kernel_rfl) (fun _ _ _ h => h) (Or.inl ⟨by rfl, ?_⟩) ?_ ?_
 rotate_left
 ·intro w'
  go_simp
  try with_reducible rfl
 rotate_left
 ·simp only [Act.put, sq1, sq2, sq3, i64_w, i32_w]
  rfl
 refine pure_ (i := 1) (N := some 44) (v := ?_) (a' := ?_) #[true, true, false, false, false, false, false, false, false, false, false, false] rfl rfl (by kernel_rfl) (fun _ _ _ h => h) (Or.inl ⟨by rfl, ?_⟩) ?_ ?_
 rotate_left
 ·intro w'
  go_simp
  try with_reducible rfl
 rotate_left
 ·simp only [Act.put, sq1, sq2, sq3, i64_w, i32_w]
  rfl
 refine pure_ (i := 2) (N := some 45) (v := ?_) (a' := ?_) #[true, true, true, false, false, false, false, false, false, false, false, false] rfl rfl (by kernel_rfl) (fun _ _ _ h => h) (Or.inl ⟨by rfl, ?_⟩) ?_ ?_
 rotate_left
 ·intro w'
  go_simp
  try with_reducible rfl
 rotate_left
 ·simp only [Act.put, sq1, sq2, sq3, i64_w, i32_w]
  rfl
 refine pure_ (i := 3) (N := some 46) (v := ?_) (a' := ?_) #[true, true, true, true, false, false, false, false, false, false, false, false] rfl rfl (by kernel_rfl) (fun _ _ _ h => h) (Or.inl ⟨by rfl, ?_⟩) ?_ ?_
 rotate_left
 ·intro w'
  go_simp
  try with_reducible rfl
 rotate_left
 ·simp only [Act.put, sq1, sq2, sq3, i64_w, i32_w]
  rfl
 refine take_ (i := 4) (N := some 47) (v := ?_) (a' := ?_) #[true, true, true, true, true, false, false, false, false, false, false, false] rfl rfl (by kernel_rfl) (fun _ _ _ h => h) (Or.inl ⟨by rfl, ?_⟩) hHeld ?_ ?_
 rotate_left
 ·intro w' hS
  obtain ⟨hS, _⟩ := hS
  go_simp
  try with_reducible rfl
 rotate_left
 ·simp only [Act.put, sq1, sq2, sq3, i64_w, i32_w]
  rfl
 refine take_ (i := 5) (N := some 48) (v := _) (a' := ?_) #[true, true, true, true, true, true, false, false, false, false, false, false] rfl rfl (by kernel_rfl) (fun _ _ _ h => h) (Or.inl ⟨by rfl, fun w' hS => exec_load_row rfl rfl (hS.2) Try.underlying32 rfl (by kernel_rfl)⟩) hHeld ?_ ?_
 rotate_left
 ·simp only [Act.put, sq1, sq2, sq3, i64_w, i32_w]
  rfl
 refine one_ (i := 6) (N := some 49) #[true, true, true, true, true, true, true, false, false, false, false, false] rfl rfl (by kernel_rfl) (by decide) (fun K hK => ?_)
 go_simp
 refine (cloneTx_is t (txC_of HF.out) (smT_of HM.out)).mono ?_
 rintro e w7 ⟨v2, v3, v4, v5, rfl, h2, h3, h4, h5, hb⟩
 have HB := Lib.hid hb
 have HNE := Lib.hid (fk_new (B := B) h2 h3 h4 h5)
 obtain ⟨N2, N2c, rfl⟩ := Kd.R_slice h2
 obtain ⟨N3, N3c, rfl⟩ := Kd.R_slice h3
 obtain ⟨N4, N4c, rfl⟩ := Kd.R_slice h4
 obtain ⟨N5, N5c, rfl⟩ := Kd.R_slice h5
 have HY7 := Lib.hid ((hb.block g (blk_lt HY.out)).trans HY.out); have HT7 := Lib.hid (HT.out.below hb); have HX7 := Lib.hid ((hb.block _ (blk_lt HX.out)).trans HX.out); have HW7 := Lib.hid (HW.out.then_below hb); have HM7 := Lib.hid (HMP.out.below hb)
 clear hb h2 h3 h4 h5 HF HY HT HX HW HMP
 refine hK.out _ _ ⟨(blk_cell HY7.out 2).trans rfl, HX7.out⟩ (fun hHeld => ?_)
 clear hK K
 refine one_ (i := 7) (N := some 50) #[true, true, true, true, true, true, true, true, false, false, false, false] rfl rfl (by kernel_rfl) (by decide) (fun K hK => ?_)
 refine value_ (w1 := ?_) (v := ?_) (by rfl) rfl ?_ ?_
 rotate_left 2
 ·go_simp
  constructor <;> rfl
 have HB8 := Lib.hid ((Below.refl w7.heap.size w7).alloc (Nat.le_refl _) (.cells #[.int .i64 t.f0, .int .i64 t.f1, .slice N2 t.f2.length N2c, .slice N3 t.f3.length N3c, .slice N4 t.f4.length N4c, .slice N5 t.f5.length N5c] 32))
 refine hK.out _ _ ⟨(blk_cell ((HB8.out.block g (blk_lt HY7.out)).trans HY7.out) 2).trans rfl, (HB8.out.block _ (blk_lt HX7.out)).trans HX7.out⟩ (fun hHeld => ?_)
 clear hK K
 refine norm_ (a' := ?_) ?_ ?_
 rotate_left
 ·show Act.put _ (some 50) _ = _
  simp only [Act.put, sq1, sq2, sq3, i64_w, i32_w]
  rfl
 have HY8 := Lib.hid ((HB8.out.block g (blk_lt HY7.out)).trans HY7.out); have HT8 := Lib.hid (HT7.out.below HB8.out); have HX8 := Lib.hid ((HB8.out.block _ (blk_lt HX7.out)).trans HX7.out); have HW8 := Lib.hid (HW7.out.then_below HB8.out); have HM8 := Lib.hid (HM7.out.below HB8.out)
 have HS8 := Lib.hid (src_one (B := B) (e := 32) HNE.out)
 obtain ⟨ab, hab⟩ : ∃ ab, w7.heap.size = ab := ⟨_, rfl⟩
 obtain ⟨w8, hw8⟩ : ∃ V, w7.alloc (.cells #[.int .i64 t.f0, .int .i64 t.f1, .slice N2 t.f2.length N2c, .slice N3 t.f3.length N3c, .slice N4 t.f4.length N4c, .slice N5 t.f5.length N5c] 32) = V := ⟨_, rfl⟩
 have HS8' := Lib.hid (show Src B (w7.alloc (.cells #[.int .i64 t.f0, .int .i64 t.f1, .slice N2 t.f2.length N2c, .slice N3 t.f3.length N3c, .slice N4 t.f4.length N4c, .slice N5 t.f5.length N5c] 32)) _ _ _ from HS8.out)
 rw [hw8] at HY8 HT8 HX8 HW8 HM8 HS8' hHeld ⊢
 rw [hab] at HS8' ⊢
 clear hw8 hab HY7 HT7 HX7 HW7 HM7 HS8 HB8 HNE HB
 refine one_ (i := 8) (N := some 51) #[true, true, true, true, true, true, true, true, true, false, false, false] rfl rfl (by kernel_rfl) (by decide) (fun K hK => ?_)
 have HZ8 := Lib.hid (blk_lt HY8.out)
 refine tr_append_step (by rfl) (.tmp 47) (.tmp 50) rfl rfl rfl HT8.out HS8'.out rfl (by decide) (by have := HL.out; omega) (by have := HO5.out.2.1; have := HZ8.out; omega) ?_
 intro v_ w9 ho hg_ hat
 obtain ⟨A', c', rfl, hlc⟩ := ho.slice
 have HK9 := Lib.hid (KeepS.of_grown (S := sqS g mp A) hg_ (fun i hi => .inr (.inr (own_iff.1 hi))))
 have HA9 := Lib.hid (NewRow.of hat)
 have HT9 := Lib.hid ho
 have HY9 := Lib.hid ((hg_.block g (blk_lt HY8.out) (fun e => by obtain ⟨a, ha, e2⟩ := own_iff.1 e.symm; exact (HO5.out.1 a ha).1 e2)).trans HY8.out)
 have HX9 := Lib.hid ((hg_.block W.heap.size (blk_lt HX8.out) (fun e => by have := HLT.out _ (.inr (.inr (own_iff.1 e.symm))); omega)).trans HX8.out)
 have HM9 := Lib.hid (HM8.out.move (hg_.block mp HM8.out.lt (fun e => by obtain ⟨a, ha, e2⟩ := own_iff.1 e.symm; exact (HO5.out.1 a ha).2 e2)))
 have HW9 := Lib.hid (HW8.out.trans HK9.out)
 have HA := Lib.hid (HA9.out.up HW8.out.size)
 have HOG := Lib.hid (show ∀ a', A' = some a' → a'.block ≠ g by
  intro a' ha
  rcases HA9.out a' ha with ⟨a, h1, h2⟩ | h
  ·rw [← h2]; exact (HO5.out.1 a h1).1
  ·have := HZ8.out; omega)
 clear ho hg_ hat hlc HT8 HY8 HX8 HM8 HW8 HK9 HA9 HS8'
 refine hK.out _ _ ⟨(blk_cell HY9.out 2).trans rfl, HX9.out⟩ (fun hHeld => ?_)
 clear hK K
 refine norm_ (a' := ?_) ?_ ?_
 rotate_left
 ·show Act.put _ (some 51) _ = _
  simp only [Act.put, sq1, sq2, sq3, i64_w, i32_w]
  rfl
 refine pure_ (i := 9) (N := some 52) (v := ?_) (a' := ?_) #[true, true, true, true, true, true, true, true, true, true, false, false] rfl rfl (by kernel_rfl) (fun _ _ _ h => h) (Or.inl ⟨by rfl, ?_⟩) ?_ ?_
 rotate_left
 ·intro w'
  go_simp
  try with_reducible rfl
 rotate_left
 ·simp only [Act.put, sq1, sq2, sq3, i64_w, i32_w]
  rfl
 refine pure_ (i := 10) (N := some 53) (v := ?_) (a' := ?_) #[true, true, true, true, true, true, true, true, true, true, true, false] rfl rfl (by kernel_rfl) (fun _ _ _ h => h) (Or.inl ⟨by rfl, ?_⟩) ?_ ?_
 rotate_left
 ·intro w'
  go_simp
  try with_reducible rfl
 rotate_left
 ·simp only [Act.put, sq1, sq2, sq3, i64_w, i32_w]
  rfl
 have q2 : w9.cell? ⟨g, 2, none⟩ = some (.slice A s.l.length c) := (blk_cell HY9.out 2).trans rfl
 have z2 : w9.frozen? ⟨g, 2, none⟩ = false := blk_frozen HY9.out 2
 refine last_ (i := 11) (N := none) #[true, true, true, true, true, true, true, true, true, true, true, true] rfl rfl (by kernel_rfl) (by decide) (fun K hK => ?_)
 refine skip_ (w1 := ?_) (by rfl) rfl ?_ ?_
 rotate_left
 ·go_simp
  rfl
 refine hK.out _ _ ?_
 clear hK K
 refine done_ (by kernel_rfl) ?_
 go_wp2_with fail
 go_ret
 refine ⟨A', c', by rw [HR.out]; rfl, ?_, HW9.out.set (p := ⟨g, 2, none⟩) (.inl (.inl rfl)) _, HA.out⟩
 rw [HR.out]
 have hl : (s.l ++ [t]).length = s.l.length + 1 := by simp
 have hng : ¬ Inn B w9 g := not_inn HO5.out.2.1 HY9.out sq_not
 have hcalm : Calm B w9 (w9.setCell ⟨g, 2, none⟩ (.slice A' (s.l.length + 1) c')) := fun k hk _ => Below.heap_setCell w9 ⟨g, 2, none⟩ _ k (by rintro rfl; exact hng hk)
 refine ⟨?_, ?_, HT9.out.calm hcalm (fun k hk => Below.heap_setCell w9 ⟨g, 2, none⟩ _ k (fun e => by obtain ⟨a, ha, e2⟩ := own_iff.1 hk; exact HOG.out a ha (e2.trans e))), ?_, HO5.out.2.1, HO5.out.2.2.1⟩
 ·show _ = some (Obj.cells #[.bool true, .int .i64 s.r, .slice A' (s.l ++ [t]).length c', .map (some mp), .int .i64 s.n, .int .i64 s.t] _ _)
  rw [hl]
  exact blk_put HY9.out 2 _ rfl
 ·have h9 := HM9.out.move (w' := w9.setCell ⟨g, 2, none⟩ (.slice A' (s.l.length + 1) c')) (Below.heap_setCell w9 ⟨g, 2, none⟩ _ mp (fun e => HO5.out.2.2.2.1 e.symm))
  rw [HNO.out] at h9
  show IsM _ _ _ _ _ _ (mapQ (s.l ++ [t])) (s.l ++ [t]).length
  rw [mapQ_snoc, hl]
  exact h9
 ·have h10 := HO5.out.2.2.2.2.take HO.out
  rw [HR.out] at h10
  exact h10
theorem take_is {B : Nat} {W : World} {g mp nb : Nat} {s : SqS} {A : Option Addr} {c : Nat} (h : IsSq B W g mp nb s A c) {t : TxD} {A2 A3 A4 A5 : Option Addr} {c2 c3 c4 c5 : Nat} (hF : Kd.FK G.k32 W (Inn B W) t [.int .i64 t.f0, .int .i64 t.f1, .slice A2 t.f2.length c2, .slice A3 t.f3.length c3, .slice A4 t.f4.length c4, .slice A5 t.f5.length c5]) (ho : okT t = true) (hn : nb < maxLen) (hwf : wf2 .i64 .i64 (t.f0, t.f1)) :
  Calls Try.prog 10 #[.pointer (some ⟨g, 0, none⟩), .agg #[.int .i64 t.f0, .int .i64 t.f1, .slice A2 t.f2.length c2, .slice A3 t.f3.length c3, .slice A4 t.f4.length c4, .slice A5 t.f5.length c5]] W fun e w' => TakeP B W g mp nb s A t e w' := by
 cases hm : mayT t with
 | true => exact take_may h hF ho hm hn hwf
 | false =>
  refine (take_arg h (txC_of hF) ho hm).mono ?_
  rintro e w' ⟨rfl, hb⟩
  have e1 : qTake s t = (s, 1) := by unfold qTake; rw [if_pos hm]
  exact ⟨A, c, by rw [e1], by rw [e1]; exact (h.below hb).more, KeepS.of_below _ hb, NewRow.refl _ _⟩
end Go.Proofs.Ytgmlpmdfkaadhaa.M
end

section
/- Rows of transactions: a row behind a row, slices.Clone, make and copy. -/
namespace Go.Proofs.Ytgmlpmdfkaadhaa.M
open Go.RowKit Go.Proofs.YtgmlpmdfkaadhaaW.PrintWords Go.Proofs.YtgmlpmdfkaadhaaW.PrintLast Go.Proofs.YtgmlpmdfkaadhaaW.PrintMore Go.Proofs.Ytgmlpmdfkaadhaa.G
theorem run_append_zero (W : World) (ty : TypeId) (A x : Option Addr) (n c cx : Nat) (h : n ≤ c) : (Builtin.append_ #[22, 22] ty #[.slice A n c, .slice x 0 cx]).run Try.prog W = .ok (.slice A n c) W := by
 obtain ⟨i0, hi, _⟩ := Option.map_eq_some_iff.1 G.info32
 have hld : ∀ a : Addr, (loadCells a 0).run Try.prog W = .ok #[] W := fun a => run_loadCells_list (P := Try.prog) W a [] (fun j v hj => by simp at hj)
 cases A <;> cases x <;> simp [hld, Builtin.append_, run_underlying Try.underlying22, sizeOf, typeInfo, hi, Builtin.lenOf, Builtin.firstCells, h, storeCells]
def SrcO (B : Nat) (W : World) (x : Option Addr) (l : List TxD) : Prop := 0 < l.length → ∃ a news, x = some a ∧ Src B W a l news
section
variable {B : Nat} {W W' : World} {v : Value} {l l' : List TxD} {A x : Option Addr} {n c : Nat}
theorem TR.srcO (h : TR B W (.slice A l.length c) l) : SrcO B W A l := fun hp => h.src hp
theorem SrcO.below (h : SrcO B W x l) (hb : Below W.heap.size W W') : SrcO B W' x l := fun hp => by
 obtain ⟨a, news, h1, h2, h3⟩ := h hp
 exact ⟨a, news, h1, fun j u hu => pw_cell_below hb (h2 j u hu), h3.imp_ (fun _ _ hq => FK_calm hq (.of_below hb))⟩
theorem TR.appendAll (h : TR B W v l) (ty : TypeId) {cx : Nat} (hs : SrcO B W x l') (hl : l.length + l'.length ≤ 1048576) (hB : B ≤ W.heap.size) :
  ∃ v' w', (Builtin.append_ #[22, 22] ty #[v, .slice x l'.length cx]).run Try.prog W = .ok v' w' ∧ TR B w' v' (l ++ l') ∧ W.grownBy w' v.ownBlock ∧ (v'.ownBlock = v.ownBlock ∨ ∃ b, v'.ownBlock = some b ∧ W.heap.size ≤ b) := by
 rcases Nat.eq_zero_or_pos l'.length with h0 | h0
 ·obtain rfl : l' = [] := List.eq_nil_of_length_eq_zero h0
  obtain ⟨A, c, rfl, hc⟩ := h.slice
  exact ⟨_, W, run_append_zero W ty A x _ c cx hc, by rw [List.append_nil]; exact h, ⟨rfl, rfl, rfl, Nat.le_refl _, fun _ _ _ => rfl⟩, .inl rfl⟩
 ·obtain ⟨a, news, rfl, h2⟩ := hs h0
  exact h.append (c := cx) ty h2 rfl h0 hl hB
end
section
variable {B : Nat} {W : World} {ops : Array Oper} {rest : List Oper} {o : Oper} {a : Act} {Q : Exit → Act → World → Prop} {Kc : Act → World → Prop}
theorem tr_append_all (hgd : o.guard = none) (s x : Operand) (ho : o.op = .call { callee := .builtin .append, args := #[s, x], argTypes := #[22, 22] })
  {v : Value} {l l' : List TxD} {X : Option Addr} {cx : Nat} (hs : a.eval s = v) (hx : a.eval x = .slice X l'.length cx) (h : TR B W v l) (hn : SrcO B W X l') (hl : l.length + l'.length ≤ 1048576) (hB : B ≤ W.heap.size)
  (hK : ∀ v' w', TR B w' v' (l ++ l') → W.grownBy w' v.ownBlock → (v'.ownBlock = v.ownBlock ∨ ∃ b, v'.ownBlock = some b ∧ W.heap.size ≤ b) → wpList Try.prog ops Q rest (a.put o.dst v') w') : wpList Try.prog ops Q (o :: rest) a W := by
 obtain ⟨v', w', hr, h1, h2, h3⟩ := h.appendAll (cx := cx) o.type hn hl hB
 refine wpList_plain hgd fun K hK' => ?_
 unfold Oper.wp execOp
 simp only [ho, resolve, invoke, builtin, Sem.run_bind, Sem.run_pure, Result.andThen_ok, List.map_toArray, List.map_cons, List.map_nil, hs, hx, hr]
 exact hK' _ _ (hK v' w' h1 h2 h3)
theorem tr_append_all_step (hw : Region.wanted o (yielded ops a.tmps) = true) (s x : Operand) (ho : o.op = .call { callee := .builtin .append, args := #[s, x], argTypes := #[22, 22] })
  {v : Value} {l l' : List TxD} {X : Option Addr} {cx : Nat} (hs : a.eval s = v) (hx : a.eval x = .slice X l'.length cx) (h : TR B W v l) (hn : SrcO B W X l') (hl : l.length + l'.length ≤ 1048576) (hB : B ≤ W.heap.size)
  (hK : ∀ v' w', TR B w' v' (l ++ l') → W.grownBy w' v.ownBlock → (v'.ownBlock = v.ownBlock ∨ ∃ b, v'.ownBlock = some b ∧ W.heap.size ≤ b) → Kc (a.put o.dst v') w') :
  if Region.wanted o (yielded ops a.tmps) = true then Oper.wp Try.prog o a W Kc Q else Kc (a.put o.dst undef) W := by
 obtain ⟨v', w', hr, h1, h2, h3⟩ := h.appendAll (cx := cx) o.type hn hl hB
 rw [if_pos hw]
 unfold Oper.wp execOp
 simp only [ho, resolve, invoke, builtin, Sem.run_bind, Sem.run_pure, Result.andThen_ok, List.map_toArray, List.map_cons, List.map_nil, hs, hx, hr]
 exact hK v' w' h1 h2 h3
end
theorem tr_empty {B : Nat} {W : World} (hB : B ≤ W.heap.size) : TR B (W.alloc (.cells #[] 32)) (.slice (some ⟨W.heap.size, 0, none⟩) 0 0) [] :=
 ⟨[], ⟨rfl, .inl ⟨rfl, _, rfl, fun a ha => by injection ha with ha; subst ha; exact ⟨hB, _, heap_alloc_new W _⟩⟩⟩, Reps.none _ _⟩
theorem clone_txs {B : Nat} {W : World} {A : Option Addr} {l : List TxD} {c : Nat} (h : TR B W (.slice A l.length c) l) (hl : l.length ≤ 1048576) (hB : B ≤ W.heap.size) :
  Calls Try.prog 36 #[.slice A l.length c] W fun e w' => ∃ A' c', e = .returned (.slice A' l.length c') ∧ TR B w' (.slice A' l.length c') l ∧ Below W.heap.size W w' ∧ ∀ a, A' = some a → W.heap.size ≤ a.block := by
 have qT : ∀ (w : World) (a : Option Addr) (n c n' c' : Nat), (binOp .eql 22 (.slice a n c) (.slice none n' c')).run Try.prog w = .ok (.bool a.isNone) w := fun w a n c n' c' => Lib.run_eql_slice_nil w _ _ a n c n' c' Try.underlying22
 rcases A with _ | ad
 ·obtain ⟨_, hnil⟩ := C_none' h.reads.2.2
  subst hnil
  have HB := Lib.hid hB
  clear h hl hB
  go_enter Try.func36, Try.ntmps36
  go_wp2
  go_ret
  exact ⟨none, 0, rfl, TR.nil _ _, Below.refl _ _, fun _ h => by cases h⟩
 ·have hb := (Below.refl W.heap.size W).alloc (Nat.le_refl _) (.cells #[] 32)
  have HS := Lib.hid (h.srcO.below hb)
  have HE := Lib.hid (tr_empty (B := B) hB)
  have HL := Lib.hid hl; have HB := Lib.hid hB; have HBB := Lib.hid hb
  clear h hl hB hb
  go_enter Try.func36, Try.ntmps36
  go_wp2_with ((with_reducible refine gate_builtin (b := .append) (xs := #[.tmp 5, .tmp 6]) rfl ?_); at_builtin; refine tr_append_all rfl (.tmp 5) (.tmp 6) rfl rfl rfl HE.out HS.out (by have := HL.out; simp; omega) (by have := HB.out; simp; omega) ?_; intro v1 w1 ho hg hat; rw [List.nil_append] at ho; obtain ⟨A', c', rfl, _⟩ := ho.slice)
  go_ret
  refine ⟨A', c', rfl, ho, HBB.out.grown hg (by simp) (fun k hk => by obtain ⟨a, ha, e⟩ := own_iff.1 hk; injection ha with ha; subst ha; exact Nat.le_of_eq e), fun a ha => ?_⟩
  rcases (NewRow.of hat) a ha with ⟨a0, h1, h2⟩ | h1
  ·injection h1 with h1
   rw [← h2, ← h1]
   exact Nat.le_refl _
  ·simp at h1
   omega
theorem run_copy_txs (W : World) (ty : TypeId) {g n m c : Nat} {cur : Array Value} (hg : W.heap[g]? = some (.cells cur 32 (0, 0))) (hc : cur.size = n * 6) {a : Addr} {inner : List Value} (hi : ∀ j u, inner[j]? = some u → W.cell? (a.add j) = some u) (hl : inner.length = m * 6) (hnm : n ≤ m) (h1 : ∀ u ∈ inner, u.oneCell' = true) :
  (Builtin.copy_ #[22, 22] ty #[.slice (some ⟨g, 0, none⟩) n n, .slice (some a) m c]).run Try.prog W = .ok (goInt n) (W.setRow g (inner.take (n * 6)).toArray) := by
 obtain ⟨i0, hi0, hzz⟩ := Option.map_eq_some_iff.1 G.info32
 simp only [Prod.mk.injEq] at hzz
 obtain ⟨hz0, hz1, hz2⟩ := hzz
 have hlen : (inner.take (n * 6)).length = n * 6 := by rw [List.length_take, hl]; omega
 have hld := run_loadCells_list (P := Try.prog) W a (inner.take (n * 6)) (fun j v hj => hi j v (by rw [List.getElem?_take] at hj; split at hj; exact hj; cases hj))
 have hst := run_storeCells_at Try.prog g 0 32 (inner.take (n * 6)) 0 cur W hg (by rw [hlen, hc]; omega) (fun v hv => h1 v (List.mem_of_mem_take hv))
 have e : (cur.toList.take (0 + 0) ++ inner.take (n * 6) ++ cur.toList.drop (0 + 0 + (inner.take (n * 6)).length)).toArray = (inner.take (n * 6)).toArray := by
  congr 1
  rw [hlen, List.drop_of_length_le (by rw [Array.length_toList, hc]; omega)]
  simp
 rw [e] at hst
 rw [hlen] at hld
 have hmn : Nat.min m n = n := Nat.min_eq_right hnm
 simp [Builtin.copy_, run_underlying Try.underlying22, Builtin.lenOf, Builtin.firstCells, sizeOf, typeInfo, hi0, hz1, hmn, hld, hst]
section
variable {B : Nat} {W : World} {ops : Array Oper} {rest : List Oper} {o : Oper} {a : Act} {Q : Exit → Act → World → Prop}
theorem tr_copy (hgd : o.guard = none) (d s : Operand) (ho : o.op = .call { callee := .builtin .copy, args := #[d, s], argTypes := #[22, 22] })
  {g n c : Nat} {A : Option Addr} {l : List TxD} {cur : Array Value} (hd : a.eval d = .slice (some ⟨g, 0, none⟩) n n) (hs : a.eval s = .slice A l.length c) (hg : W.heap[g]? = some (.cells cur 32 (0, 0))) (hc : cur.size = n * 6) (h : TR B W (.slice A l.length c) l) (hn : n ≤ l.length) (h0 : 0 < n) (hl : l.length ≤ 1048576) (hB : B ≤ g)
  (hne : ∀ a, A = some a → a.block ≠ g)
  (hK : ∀ w', TR B w' (.slice (some ⟨g, 0, none⟩) n n) (l.take n) → KeepS (fun k => k = g) W w' → wpList Try.prog ops Q rest (a.put o.dst (goInt n)) w') : wpList Try.prog ops Q (o :: rest) a W := by
 have h' := h
 obtain ⟨inner, hq, hr⟩ := h
 obtain ⟨ad, rfl, hcl⟩ := q_cells hq (by omega)
 have hrun := run_copy_txs W o.type (c := c) hg hc hcl hr.1 hn (reps_one hr)
 refine wpList_plain hgd fun K hK' => ?_
 unfold Oper.wp execOp
 simp only [ho, resolve, invoke, builtin, Sem.run_bind, Sem.run_pure, Result.andThen_ok, List.map_toArray, List.map_cons, List.map_nil, hd, hs, hrun]
 have hk : KeepS (fun k => k = g) W (W.setRow g (inner.take (n * 6)).toArray) := ⟨rfl, rfl, rfl, by simp [World.setRow], fun k _ hk => setRow_other W g k _ hk⟩
 have hcalm : Calm B W (W.setRow g (inner.take (n * 6)).toArray) := .of_keep hk (fun k e => by subst e; exact not_inn hB hg txn_not)
 refine hK' _ _ (hK _ ?_ hk)
 have hlt : (l.take n).length = n := by rw [List.length_take]; omega
 have hb : (W.setRow g (inner.take (n * 6)).toArray).heap[g]? = some (.cells (inner.take (n * 6)).toArray 32 (0, 0)) := setRow_heap W g _ _ _ _ hg
 have := TR.block (l := l.take n) hB hb (by
  have := (Kd.reps_take hr hn).imp_ (fun _ _ hp => FK_calm hp hcalm)
  simpa using this) (by omega)
 rw [hlt] at this
 exact this
end
end Go.Proofs.Ytgmlpmdfkaadhaa.M
end

section
/- Flush: the batch of those that have waited longest. -/
attribute [local irreducible] Go.wpStill
namespace Go.Proofs.Ytgmlpmdfkaadhaa.M
open Go.RowKit Go.Proofs.YtgmlpmdfkaadhaaW.PrintWords Go.Proofs.YtgmlpmdfkaadhaaW.PrintLast Go.Proofs.YtgmlpmdfkaadhaaW.PrintMore Go.Proofs.Ytgmlpmdfkaadhaa.G
theorem infoTxn0 : ∃ i, Try.prog.info? 32 = some i ∧ i.size = 6 := by
 obtain ⟨i0, hi, hzz⟩ := Option.map_eq_some_iff.1 G.info32
 simp only [Prod.mk.injEq] at hzz
 exact ⟨i0, hi, hzz.2.1⟩
theorem makeTx (n : Nat) (hn : n ≤ 64) : ∀ u : World, (Instr.makeSlice 22 (.int .i64 (n : Int)) (.int .i64 (n : Int))).run Try.prog u = .ok (.slice (some ⟨u.heap.size, 0, none⟩) n n) (u.alloc (.cells (madeCells (Value.cells (.agg #[.int .i64 0, .int .i64 0, .slice none 0 0, .slice none 0 0, .slice none 0 0, .slice none 0 0])) (n * 6)) 32)) := by
 intro u
 obtain ⟨i0, hi, hzz⟩ := Option.map_eq_some_iff.1 G.info32
 simp only [Prod.mk.injEq] at hzz
 obtain ⟨hz0, hz1, hz2⟩ := hzz
 have h := run_make (P := Try.prog) u 22 32 i0 _ Try.underlying22 hi hz0 .i64 .i64 (n : Int) (n : Int) (by omega) (Int.le_refl _) (by rw [hz2]; omega) (by omega)
 rw [Int.toNat_natCast, hz1] at h
 exact h
def FlushP (B : Nat) (W : World) (g mp nb : Nat) (s : SqS) (A : Option Addr) (e : Ending) (w' : World) : Prop :=
 ∃ A' c' E, e = .returned (.tuple #[.agg #[.int .i64 (qFlush s).2.1.f0, .int .i64 (qFlush s).2.1.f1, .int .i64 (qFlush s).2.1.f2, E], .bool (qFlush s).2.2]) ∧ IsSq B w' g mp nb (qFlush s).1 A' c' ∧ TR B w' E (qFlush s).2.1.f3 ∧ KeepS (sqS g mp A) W w' ∧ NewRow W A A' ∧ ∀ k, E.ownBlock = some k → W.heap.size ≤ k
theorem en_not : 36 ∉ (G.k32).E := by decide
theorem wf_key {t : TxD} (h : okT t = true) : wf2 .i64 .i64 (t.f0, t.f1) := by
 obtain ⟨h0, h1, _⟩ := okT_all h
 unfold isI64 at h0 h1
 have e1 : IntKind.i64.min = -9223372036854775808 := rfl
 have e2 : IntKind.i64.max = 9223372036854775807 := rfl
 exact ⟨by simp only [Lit.wf, Bool.and_eq_true, decide_eq_true_eq]; omega, by simp only [Lit.wf, Bool.and_eq_true, decide_eq_true_eq]; omega⟩
theorem mapQ_tail {t : TxD} {l : List TxD} (h : ((t :: l).map keyTx).Nodup) : mapQ l = fun y => if y = (t.f0, t.f1) then none else mapQ (t :: l) y := by
 funext y
 rw [List.map_cons, List.nodup_cons] at h
 by_cases hy : y = (t.f0, t.f1)
 ·subst hy
  rw [if_pos rfl]
  unfold mapQ
  exact if_neg (fun hc => h.1 ((waits_iff _ (t.f0, t.f1)).1 hc))
 ·rw [if_neg hy]
  unfold mapQ waitsB
  rw [List.any_cons]
  have : (keyTx t == y) = false := by rw [beq_eq_false_iff_ne]; exact fun e => hy e.symm
  rw [this, Bool.false_or]
set_option maxHeartbeats 8000000 in
theorem flush_yes {B : Nat} {W : World} {g mp nb : Nat} {s : SqS} {A : Option Addr} {c : Nat} (h : IsSq B W g mp nb s A c) (hl : s.l ≠ []) (hn : s.n < 1099511627776) :
  Calls Try.prog 20 #[.pointer (some ⟨g, 0, none⟩)] W fun e w' => FlushP B W g mp nb s A e w' := by
 obtain ⟨i0, infoTxn, infoTxnS⟩ := infoTxn0
 obtain ⟨hx, hb⟩ : (W.alloc (.cells #[.int .i64 0, .int .i64 0, .int .i64 0, .slice none 0 0] 36)).heap[W.heap.size]? = some (.cells #[.int .i64 0, .int .i64 0, .int .i64 0, .slice none 0 0] 36) ∧ Below W.heap.size W (W.alloc (.cells #[.int .i64 0, .int .i64 0, .int .i64 0, .slice none 0 0] 36)) := ⟨heap_alloc_new W _, (Below.refl _ W).alloc (Nat.le_refl _) _⟩
 obtain ⟨w0, hw⟩ : ∃ V, W.alloc (.cells #[.int .i64 0, .int .i64 0, .int .i64 0, .slice none 0 0] 36) = V := ⟨_, rfl⟩
 rw [hw] at hx hb
 have H := Lib.hid (noneOf (h.below hb))
 have HQ := Lib.hid (h.below hb)
 have HX := Lib.hid hx; have HB := Lib.hid hb
 have HLT := Lib.hid (show ∀ k, sqS g mp A k → k < W.heap.size from h.lt)
 have HNE := Lib.hid hl
 have HL := Lib.hid (show 1 ≤ s.l.length ∧ s.l.length ≤ 64 from ⟨List.length_pos_iff.2 hl, h.o.m⟩)
 have HFL := Lib.hid (qFlush_some h.o hl hn)
 have HO := Lib.hid h.o
 have q1 : ((s.l.length : Int) == 0) = false := by have := List.length_pos_iff.2 hl; rw [beq_eq_false_iff_ne]; omega
 have q2 : decide (1099511627776 ≤ s.n) = false := decide_eq_false (by omega)
 have e2 : w0.cell? ⟨g, 2, none⟩ = some (.slice A s.l.length c) := (blk_cell HQ.out.y 2).trans rfl
 have e4 : w0.cell? ⟨g, 4, none⟩ = some (.int .i64 s.n) := (blk_cell HQ.out.y 4).trans rfl
 have HN := Lib.hid hn
 have HQW := Lib.hid h
 clear h hl hn hx hb
 go_enter Try.func20, Try.ntmps20
 go_wp2_with fail
 refine H.out.mono ?_
 rintro e w' ⟨rfl, rfl⟩
 clear H
 go_upto_region 3 with fail
 clear q1 q2
 refine start_ (n := 11) (S := fun w' => w'.cell? ⟨g, 1, none⟩ = some (.int .i64 s.r) ∧ w'.cell? ⟨g, 4, none⟩ = some (.int .i64 s.n)) (ds := [10]) #[false, false, false, false, false, false, false, false, false, false, false] (by kernel_rfl) rfl rfl ⟨(blk_cell (show w'.drew.heap[g]? = _ from HQ.out.y) 1).trans rfl, (blk_cell (show w'.drew.heap[g]? = _ from HQ.out.y) 4).trans rfl⟩ (fun hHeld => ?_)
 have HQa := Lib.hid (HQ.out.below (Below.refl _ w').drew); have HXa := Lib.hid (show w'.drew.heap[W.heap.size]? = _ from HX.out); have HBa := Lib.hid HB.out.drew
 obtain ⟨wa, hwa⟩ : ∃ wa, w'.drew = wa := ⟨_, rfl⟩
 rw [hwa] at HQa HXa HBa hHeld ⊢
 clear hwa HQ HX HB e2 e4
 refine pure_ (i := 0) (N := some 29) (v := ?_) (a' := ?_) #[true, false, false, false, false, false, false, false, false, false, false] rfl rfl (by kernel_rfl) (fun _ _ _ h => h) (Or.inl ⟨by rfl, ?_⟩) ?_ ?_
 rotate_left
 ·intro w'
  go_simp
  try with_reducible rfl
 rotate_left
 ·simp only [Act.put, sq1, sq2, sq3, i64_w, i32_w]
  rfl
 refine pure_ (i := 1) (N := some 30) (v := ?_) (a' := ?_) #[true, true, false, false, false, false, false, false, false, false, false] rfl rfl (by kernel_rfl) (fun _ _ _ h => h) (Or.inl ⟨by rfl, ?_⟩) ?_ ?_
 rotate_left
 ·intro w'
  go_simp
  try with_reducible rfl
 rotate_left
 ·simp only [Act.put, sq1, sq2, sq3, i64_w, i32_w]
  rfl
 refine pure_ (i := 2) (N := some 31) (v := ?_) (a' := ?_) #[true, true, true, false, false, false, false, false, false, false, false] rfl rfl (by kernel_rfl) (fun _ _ _ h => h) (Or.inl ⟨by rfl, ?_⟩) ?_ ?_
 rotate_left
 ·intro w'
  go_simp
  try with_reducible rfl
 rotate_left
 ·simp only [Act.put, sq1, sq2, sq3, i64_w, i32_w]
  rfl
 refine take_ (i := 3) (N := some 32) (v := ?_) (a' := ?_) #[true, true, true, true, false, false, false, false, false, false, false] rfl rfl (by kernel_rfl) (fun _ _ _ h => h) (Or.inl ⟨by rfl, ?_⟩) hHeld ?_ ?_
 rotate_left
 ·intro w' hS
  obtain ⟨hS, _⟩ := hS
  go_simp
  try with_reducible rfl
 rotate_left
 ·simp only [Act.put, sq1, sq2, sq3, i64_w, i32_w]
  rfl
 refine pure_ (i := 4) (N := some 33) (v := ?_) (a' := ?_) #[true, true, true, true, true, false, false, false, false, false, false] rfl rfl (by kernel_rfl) (fun _ _ _ h => h) (Or.inl ⟨by rfl, ?_⟩) ?_ ?_
 rotate_left
 ·intro w'
  go_simp
  try with_reducible rfl
 rotate_left
 ·simp only [Act.put, sq1, sq2, sq3, i64_w, i32_w]
  rfl
 refine pure_ (i := 5) (N := some 34) (v := ?_) (a' := ?_) #[true, true, true, true, true, true, false, false, false, false, false] rfl rfl (by kernel_rfl) (fun _ _ _ h => h) (Or.inl ⟨by rfl, ?_⟩) ?_ ?_
 rotate_left
 ·intro w'
  go_simp
  try with_reducible rfl
 rotate_left
 ·simp only [Act.put, sq1, sq2, sq3, i64_w, i32_w]
  rfl
 refine pure_ (i := 6) (N := some 35) (v := ?_) (a' := ?_) #[true, true, true, true, true, true, true, false, false, false, false] rfl rfl (by kernel_rfl) (fun _ _ _ h => h) (Or.inl ⟨by rfl, ?_⟩) ?_ ?_
 rotate_left
 ·intro w'
  go_simp
  try with_reducible rfl
 rotate_left
 ·simp only [Act.put, sq1, sq2, sq3, i64_w, i32_w]
  rfl
 refine take_ (i := 7) (N := some 36) (v := ?_) (a' := ?_) #[true, true, true, true, true, true, true, true, false, false, false] rfl rfl (by kernel_rfl) (fun _ _ _ h => h) (Or.inl ⟨by rfl, ?_⟩) hHeld ?_ ?_
 rotate_left
 ·intro w' hS
  obtain ⟨_, hS⟩ := hS
  go_simp
  try with_reducible rfl
 rotate_left
 ·simp only [Act.put, sq1, sq2, sq3, i64_w, i32_w]
  rfl
 refine pure_ (i := 8) (N := some 37) (v := ?_) (a' := ?_) #[true, true, true, true, true, true, true, true, true, false, false] rfl rfl (by kernel_rfl) (fun _ _ _ h => h) (Or.inl ⟨by rfl, ?_⟩) ?_ ?_
 rotate_left
 ·intro w'
  go_simp
  try with_reducible rfl
 rotate_left
 ·simp only [Act.put, sq1, sq2, sq3, i64_w, i32_w]
  rfl
 refine one_ (i := 9) (N := some 4) #[true, true, true, true, true, true, true, true, true, true, false] rfl rfl (by kernel_rfl) (by decide) (fun K hK => ?_)
 refine value_ (w1 := ?_) (v := ?_) (by rfl) rfl ?_ ?_
 rotate_left 2
 ·go_simp
  constructor <;> rfl
 have HBz := Lib.hid ((Below.refl wa.heap.size wa).alloc (Nat.le_refl _) (.cells #[.int .i64 0, .int .i64 0, .int .i64 0, .slice none 0 0] 36))
 refine hK.out _ _ ⟨(blk_cell (HQa.out.below HBz.out).y 1).trans rfl, (blk_cell (HQa.out.below HBz.out).y 4).trans rfl⟩ (fun hHeld => ?_)
 clear hK K
 refine norm_ (a' := ?_) ?_ ?_
 rotate_left
 ·show Act.put _ (some 4) _ = _
  simp only [Act.put, sq1, sq2, sq3, i64_w, i32_w]
  rfl
 refine last_ (i := 10) (N := none) #[true, true, true, true, true, true, true, true, true, true, true] rfl rfl (by kernel_rfl) (by decide) (fun K hK => ?_)
 refine skip_ (w1 := ?_) (by rfl) rfl ?_ ?_
 rotate_left
 ·go_simp
  rfl
 refine hK.out _ _ ?_
 clear hK K
 refine done_ (by kernel_rfl) ?_
 have HB1 := Lib.hid ((Below.refl wa.heap.size wa).alloc (Nat.le_refl _) (.cells #[.int .i64 1, .int .i64 s.r, .int .i64 s.n, .slice none 0 0] 36))
 have HE1 := Lib.hid (heap_alloc_new wa (.cells #[.int .i64 1, .int .i64 s.r, .int .i64 s.n, .slice none 0 0] 36))
 obtain ⟨eb, heb⟩ : ∃ eb, wa.heap.size = eb := ⟨_, rfl⟩
 obtain ⟨w1, hw1⟩ : ∃ V, wa.alloc (.cells #[.int .i64 1, .int .i64 s.r, .int .i64 s.n, .slice none 0 0] 36) = V := ⟨_, rfl⟩
 have HEB := Lib.hid (show wa.heap.size ≤ eb by omega)
 rw [hw1] at HB1 HE1 ⊢
 rw [heb] at HE1 ⊢
 have HQ1 := Lib.hid (HQa.out.below HB1.out)
 have HX1 := Lib.hid ((HB1.out.block W.heap.size (blk_lt HXa.out)).trans HXa.out)
 have HW1 := Lib.hid (HBa.out.trans (HB1.out.mono (by have := blk_lt HXa.out; omega)))
 have HRE := Lib.hid (show W.heap.size < eb by have := blk_lt HXa.out; omega)
 clear hw1 heb HB1 HBz HQa HXa HBa HEB
 go_upto_block 0 with fail
 go_cut [5] (fun v wx => ∃ k : Nat, v = .int .i64 (k : Int) ∧ k = min s.l.length 16 ∧ Below w1.heap.size w1 wx)
 case first =>
  go_wp2_with fail
  go_loopw [5] (fun v wr => ∃ k : Nat, v = .int .i64 (k : Int) ∧ 1 ≤ k ∧ k ≤ s.l.length ∧ k ≤ 16 ∧ Below w1.heap.size w1 wr) (fun v _ => 16 - (intOf v).toNat)
  case atStart => exact ⟨1, rfl, by omega, HL.out.1, by omega, Below.refl _ _⟩
  case round =>
   obtain ⟨k, rfl, hk1, hk2, hk3, hb⟩ := hrel
   have HBr := Lib.hid hb
   have HQr := Lib.hid (HQ1.out.below hb)
   have HEr := Lib.hid ((hb.block eb (blk_lt HE1.out)).trans HE1.out)
   have HK := Lib.hid (show 1 ≤ k ∧ k ≤ s.l.length ∧ k ≤ 16 from ⟨hk1, hk2, hk3⟩)
   have e2 : wr.cell? ⟨g, 2, none⟩ = some (.slice A s.l.length c) := (blk_cell HQr.out.y 2).trans rfl
   clear hb
   by_cases ha : k < s.l.length
   ·by_cases hc : k < 16
    ·have q1 : decide (k < s.l.length) = true := decide_eq_true ha
     have q2 : decide (k < 16) = true := decide_eq_true hc
     have q3 : decide ((k : Int) < 16) = true := decide_eq_true (by omega)
     have HKK := Lib.hid (show k + 1 ≤ s.l.length ∧ k + 1 ≤ 16 from ⟨ha, hc⟩)
     have hlen : (s.l.take (k + 1)).length = k + 1 := by rw [List.length_take]; omega
     have hC := (HQr.out.r.take (m := k + 1) ha).reads.2.2
     have hbo := batch_ok (l := s.l.take (k + 1)) (r := s.r) (n := s.n) (fun t ht => HO.out.a t (List.mem_of_mem_take ht)) (by omega) (by omega) HO.out.r HO.out.n
     have HCUT := cut_to (P := Try.prog) 22 32 .i64 Try.underlying22 infoTxn A s.l.length c ((k : Int) + 1) (by omega) (by omega) HQr.out.r.reads.2.1
     rw [show ((k : Int) + 1).toNat = k + 1 by omega] at HCUT
     have HEN := Lib.hid (show Kd.C G.k32 wr A (k + 1) (s.l.take (k + 1)) by have h0 := hC; rw [hlen] at h0; exact h0)
     have HLEN := Lib.hid hlen
     have HBO := Lib.hid hbo
     have b0 : wr.cell? ⟨eb, 0, none⟩ = some (.int .i64 1) := (blk_cell HEr.out 0).trans rfl
     have b1 : wr.cell? ⟨eb, 1, none⟩ = some (.int .i64 s.r) := (blk_cell HEr.out 1).trans rfl
     have b2 : wr.cell? ⟨eb, 2, none⟩ = some (.int .i64 s.n) := (blk_cell HEr.out 2).trans rfl
     have b3 : wr.cell? ⟨eb, 3, none⟩ = some (.slice none 0 0) := (blk_cell HEr.out 3).trans rfl
     have hgl : g < wr.heap.size := HQr.out.glt
     clear ha hc hlen hC hbo hk1 hk2
     go_wp2_with fail
     have h4 := entry_is 1 s.r s.n A c (s.l.take (k + 1)) (wr.alloc (.cells #[.int .i64 1, .int .i64 s.r, .int .i64 s.n, .slice A (k + 1) c] 36)) (HLEN.out.symm ▸ Kd.C_alloc HEN.out _) HBO.out.1
     rw [HLEN.out, HBO.out.2.2.1] at h4
     obtain ⟨bs, hbs⟩ : ∃ bs, entB 1 s.r s.n (s.l.take (k + 1)) = bs := ⟨_, rfl⟩
     have q4 : decide (65472 < bs.length) = false := decide_eq_false (by have := HBO.out.2.2.2; rw [hbs] at this; omega)
     have q5 : decide (65472 < (bs.length : Int)) = false := decide_eq_false (by have := HBO.out.2.2.2; rw [hbs] at this; omega)
     rw [hbs] at h4
     clear hbs
     refine h4.mono ?_
     rintro e w3 ⟨v, rfl, hv, hb⟩
     obtain ⟨X, cx, rfl⟩ := Kd.R_slice hv
     have h5 := (Below.refl wr.heap.size wr).alloc (Nat.le_refl _) (.cells #[.int .i64 1, .int .i64 s.r, .int .i64 s.n, .slice A (k + 1) c] 36)
     have HB3 := Lib.hid (HBr.out.trans ((h5.trans (hb.mono h5.size)).mono HBr.out.size))
     clear h4 h5 hv hb HCUT
     go_wp2_with fail
     go_roundw
     case rel => exact ⟨k + 1, by go_num, by omega, HKK.out.1, HKK.out.2, HB3.out⟩
     case measure => have := HKK.out; simp [intOf]; omega
    ·have q1 : decide (k < s.l.length) = true := decide_eq_true ha
     have q2 : decide (k < 16) = false := decide_eq_false hc
     have q3 : decide ((k : Int) < 16) = false := decide_eq_false (by omega)
     have HM := Lib.hid (show k = min s.l.length 16 by omega)
     clear ha hc hk1 hk2 hk3
     go_wp2_with fail
     go_meet
     exact ⟨k, rfl, HM.out, HBr.out⟩
   ·have q1 : decide (k < s.l.length) = false := decide_eq_false ha
    have HM := Lib.hid (show k = min s.l.length 16 by omega)
    clear ha hk1 hk2 hk3
    go_wp2_with fail
    go_meet
    exact ⟨k, rfl, HM.out, HBr.out⟩
 obtain ⟨k, rfl, hk, hb⟩ := hcut
 have HWc := Lib.hid (HW1.out.trans (hb.mono HW1.out.size))
 have HEc := Lib.hid ((hb.block eb (blk_lt HE1.out)).trans HE1.out)
 have HXc := Lib.hid ((hb.block W.heap.size (blk_lt HX1.out)).trans HX1.out)
 have HK := Lib.hid (show 1 ≤ k ∧ k ≤ s.l.length ∧ k ≤ 16 by have := HL.out; omega)
 have HTK := Lib.hid (show s.l.take 16 = s.l.take k ∧ s.l.drop 16 = s.l.drop k by
  by_cases h16 : s.l.length ≤ 16
  ·rw [List.take_of_length_le h16, List.drop_of_length_le h16, List.take_of_length_le (by omega), List.drop_of_length_le (by omega)]; exact ⟨rfl, rfl⟩
  ·rw [show k = 16 by omega]; exact ⟨rfl, rfl⟩)
 have hmk := makeTx k (by have := HK.out; omega)
 have b3 : wc.cell? ⟨eb, 3, none⟩ = some (.slice none 0 0) := (blk_cell HEc.out 3).trans rfl
 have z3 : wc.frozen? ⟨eb, 3, none⟩ = false := blk_frozen HEc.out 3
 have hel : eb < wc.heap.size := blk_lt HEc.out
 clear hb hk HW1 HE1 HX1 HQ1
 go_upto_region 12 with fail
 obtain ⟨tb, htb⟩ : ∃ tb, wc.heap.size = tb := ⟨_, rfl⟩
 obtain ⟨ZC, hZC⟩ : ∃ ZC, madeCells #[.int .i64 0, .int .i64 0, .slice none 0 0, .slice none 0 0, .slice none 0 0, .slice none 0 0] (k * 6) = ZC := ⟨_, rfl⟩
 have HZC := Lib.hid (show ZC.size = k * 6 by rw [← hZC, size_madeCells])
 have HTB := Lib.hid (show eb < tb by omega)
 have hz5 : (wc.setCell ⟨eb, 3, none⟩ (.slice (some ⟨wc.heap.size, 0, none⟩) k k)).heap.size = tb := by rw [World.size_setCell]; exact htb
 have HW2 := Lib.hid ((HWc.out.setCell (p := ⟨eb, 3, none⟩) (by have := HRE.out; show _ ≤ eb; omega) (.slice (some ⟨wc.heap.size, 0, none⟩) k k)).alloc (by rw [World.size_setCell]; exact HWc.out.size) (.cells ZC 32))
 have HE2 := Lib.hid (show ((wc.setCell ⟨eb, 3, none⟩ (.slice (some ⟨wc.heap.size, 0, none⟩) k k)).alloc (.cells ZC 32)).heap[eb]? = some (.cells #[.int .i64 1, .int .i64 s.r, .int .i64 s.n, .slice (some ⟨wc.heap.size, 0, none⟩) k k] 36) from (((Below.refl _ _).alloc (Nat.le_refl _) (.cells ZC 32)).block eb (by rw [hz5]; exact HTB.out)).trans (blk_put HEc.out 3 (.slice (some ⟨wc.heap.size, 0, none⟩) k k) rfl))
 have HX2 := Lib.hid ((((Below.refl _ _).alloc (Nat.le_refl _) (.cells ZC 32)).block W.heap.size (by rw [hz5]; have := HTB.out; have := HRE.out; omega)).trans ((Below.heap_setCell wc ⟨eb, 3, none⟩ (.slice (some ⟨wc.heap.size, 0, none⟩) k k) W.heap.size (by have := HRE.out; show _ ≠ eb; omega)).trans HXc.out))
 have HT2 := Lib.hid (heap_alloc_new (wc.setCell ⟨eb, 3, none⟩ (.slice (some ⟨wc.heap.size, 0, none⟩) k k)) (.cells ZC 32))
 rw [hz5] at HT2
 rw [hZC]
 obtain ⟨w2, hw2⟩ : ∃ V, (wc.setCell ⟨eb, 3, none⟩ (.slice (some ⟨wc.heap.size, 0, none⟩) k k)).alloc (.cells ZC 32) = V := ⟨_, rfl⟩
 rw [hw2] at HW2 HE2 HX2 HT2 ⊢
 rw [htb] at HE2 ⊢
 clear hw2 htb hZC hz5 hmk b3 z3 hel HWc HEc HXc
 have HQ2 := Lib.hid (HQW.out.below (HW2.out))
 have e3 : w2.cell? ⟨eb, 3, none⟩ = some (.slice (some ⟨tb, 0, none⟩) k k) := (blk_cell HE2.out 3).trans rfl
 have e2 : w2.cell? ⟨g, 2, none⟩ = some (.slice A s.l.length c) := (blk_cell HQ2.out.y 2).trans rfl
 refine wp_region_still_tail 6 (by kernel_rfl) (by kernel_rfl) ?_
 simp only [List.take_succ_cons, List.take_zero, List.drop_succ_cons, List.drop_zero]
 iterate 6 still_step
 refine wpStill_nil ?_
 change wpList _ _ _ _ _ w2.drew
 refine tr_copy rfl (.tmp 76) (.tmp 80) rfl rfl rfl (show w2.drew.heap[tb]? = _ from HT2.out) HZC.out (HQ2.out.r.below (Below.refl _ w2).drew) HK.out.2.1 HK.out.1 (by have := HL.out; omega) (by have := HLT.out g (.inl rfl); have := HTB.out; have := HRE.out; have := HQ2.out.bg; omega) (fun a ha => by have := HLT.out _ (.inr (.inr ⟨a, ha, rfl⟩)); have := HTB.out; have := HRE.out; omega) ?_
 intro w3 hT hk
 have HW3 := Lib.hid (HW2.out.drew.trans (hk.below (B := W.heap.size) HW2.out.size (fun i e => by have := HTB.out; have := HRE.out; omega)))
 have HE3 := Lib.hid ((hk.block eb (blk_lt HE2.out) (by have := HTB.out; omega)).trans HE2.out)
 have HX3 := Lib.hid ((hk.block W.heap.size (blk_lt HX2.out) (by have := HTB.out; have := HRE.out; omega)).trans HX2.out)
 obtain ⟨E, hE⟩ : ∃ E : Option Addr, some ⟨tb, 0, none⟩ = E := ⟨_, rfl⟩
 have HEN := Lib.hid (show ∀ a, E = some a → eb < a.block from fun a ha => by rw [← hE] at ha; injection ha with ha; rw [← ha]; exact HTB.out)
 have HTE := Lib.hid hT
 rw [hE] at HE3 HTE
 clear hT hk hE HW2 HE2 HX2 HT2 HQ2 e2 e3 HZC HTB
 have e3 : w3.cell? ⟨eb, 3, none⟩ = some (.slice E k k) := (blk_cell HE3.out 3).trans rfl
 have HM3 := Lib.hid (HQW.out.below HW3.out).m
 go_wp2_with fail
 go_loopw [85] (fun v wr => ∃ j : Nat, v = .int .i64 (j : Int) ∧ j ≤ k ∧ IsM Try.prog 72 (mk2 .i64 .i64) wr mp nb (mapQ (s.l.drop j)) (s.l.length - j) ∧ KeepS (fun i => i = mp) w3 wr) (fun v _ => k - (intOf v).toNat)
 case atStart => exact ⟨0, rfl, Nat.zero_le _, by simpa using HM3.out, KeepS.refl _ _⟩
 case round =>
  obtain ⟨j, rfl, hj, hM, hKp⟩ := hrel
  have HMr := Lib.hid hM; have HKr := Lib.hid hKp
  have HYr := Lib.hid ((hKp.block g (HQW.out.below HW3.out).glt (HQW.out.ne)).trans (HQW.out.below HW3.out).y)
  have HEr := Lib.hid ((hKp.block eb (blk_lt HE3.out) (by have := HLT.out mp (.inr (.inl rfl)); have := HRE.out; omega)).trans HE3.out)
  have HXr := Lib.hid ((hKp.block W.heap.size (blk_lt HX3.out) (by have := HLT.out mp (.inr (.inl rfl)); omega)).trans HX3.out)
  have HNI := Lib.hid (show ∀ i, i = mp → ¬ Inn B w3 i from fun i e => by subst e; exact (HQW.out.below HW3.out).out _ (.inr (.inl rfl)))
  have HTr := Lib.hid (HTE.out.keep hKp HNI.out (fun i hi e => by obtain ⟨a, ha, e2⟩ := own_iff.1 hi; have := HEN.out a ha; have := HLT.out mp (.inr (.inl rfl)); have := HRE.out; omega))
  have HRr := Lib.hid ((HQW.out.below HW3.out).r.keep hKp HNI.out (fun i hi e => by obtain ⟨a, ha, e2⟩ := own_iff.1 hi; exact (HQW.out.own_ne ha).2 (e2.trans e)))
  clear hM hKp e3
  by_cases hlt : j < k
  ·obtain ⟨t, ht⟩ : ∃ t, s.l[j]? = some t := ⟨_, List.getElem?_eq_getElem (by have := HK.out; omega)⟩
   have htk : (s.l.take k)[j]? = some t := by rw [List.getElem?_take, if_pos hlt]; exact ht
   have HDJ := Lib.hid (show s.l.drop j = t :: s.l.drop (j + 1) by rw [List.drop_eq_getElem_cons (List.getElem?_eq_some_iff.1 ht).1, (List.getElem?_eq_some_iff.1 ht).2])
   have HWF := Lib.hid (show wf2 .i64 .i64 (t.f0, t.f1) from wf_key ((HO.out.a t (List.mem_of_getElem? ht)).1))
   obtain ⟨ad, A2, c2, A3, c3, A4, c4, A5, c5, hEad, ⟨x0, x1, x2, x3, x4, x5⟩, hX⟩ := tx_get HTr.out.reads.2.2 htk
   have HTr2 := Lib.hid HTr.out
   subst hEad
   have q1 : decide (j < k) = true := decide_eq_true hlt
   have hgl : g < wr.heap.size := blk_lt HYr.out
   have HLTJ := Lib.hid hlt
   have hj16 : j ≤ 16 := by have := HK.out; omega
   clear ht htk hX hlt HTr
   go_upto_region 16 with fail
   have HW4 := Lib.hid ((Below.refl wr.heap.size wr).alloc (Nat.le_refl _) (.cells #[.int .i64 t.f0, .int .i64 t.f1, .slice A2 t.f2.length c2, .slice A3 t.f3.length c3, .slice A4 t.f4.length c4, .slice A5 t.f5.length c5] 32))
   have HT4 := Lib.hid (heap_alloc_new wr (.cells #[.int .i64 t.f0, .int .i64 t.f1, .slice A2 t.f2.length c2, .slice A3 t.f3.length c3, .slice A4 t.f4.length c4, .slice A5 t.f5.length c5] 32))
   obtain ⟨bx, hbx⟩ : ∃ bx, wr.heap.size = bx := ⟨_, rfl⟩
   obtain ⟨w4, hw4⟩ : ∃ V, wr.alloc (.cells #[.int .i64 t.f0, .int .i64 t.f1, .slice A2 t.f2.length c2, .slice A3 t.f3.length c3, .slice A4 t.f4.length c4, .slice A5 t.f5.length c5] 32) = V := ⟨_, rfl⟩
   rw [hw4] at HW4 HT4 ⊢
   rw [hbx] at HT4 ⊢
   clear hw4 hbx hgl x0 x1 x2 x3 x4 x5
   have HM4 := Lib.hid (HMr.out.below HW4.out)
   have m3 : w4.cell? ⟨g, 3, none⟩ = some (.map (some mp)) := (blk_cell ((HW4.out.block g (blk_lt HYr.out)).trans HYr.out) 3).trans rfl
   have t0 : w4.cell? ⟨bx, 0, none⟩ = some (.int .i64 t.f0) := (blk_cell HT4.out 0).trans rfl
   have t1 : w4.cell? ⟨bx, 1, none⟩ = some (.int .i64 t.f1) := (blk_cell HT4.out 1).trans rfl
   refine wp_region_still_tail 9 (by kernel_rfl) (by kernel_rfl) ?_
   simp only [List.take_succ_cons, List.take_zero, List.drop_succ_cons, List.drop_zero]
   iterate 9 still_step
   refine wpStill_nil ?_
   change wpList _ _ _ _ _ w4.drew
   have HM5 := Lib.hid (HM4.out.move (w' := w4.drew) rfl)
   have HK5 := Lib.hid ((HKr.out.then_below HW4.out).drew)
   obtain ⟨w5, hw5⟩ : ∃ V, w4.drew = V := ⟨_, rfl⟩
   rw [hw5] at HM5 HK5 ⊢
   clear hw5 HM4 m3 t0 t1 HT4 HW4 HKr HMr
   go_wp2_with (at_delete; refine m_del _ HM5.out keyQ 66 Try.underlying66 rfl (.tmp 92) (.tmp 97) rfl (t.f0, t.f1) HWF.out rfl rfl ?_; intro w6 hM6 hg6; have HM6 := Lib.hid hM6; have HG6 := Lib.hid hg6; clear hM6 hg6)
   go_roundw
   case rel =>
    refine ⟨j + 1, by go_num, HLTJ.out, ?_, HK5.out.trans (KeepS.of_grown HG6.out (fun i hi => by injection hi with hi; exact hi.symm))⟩
    have h9 := HM6.out
    have hnd : (t :: s.l.drop (j + 1)).map keyTx |>.Nodup := by
     have := HO.out.u
     rw [← HDJ.out, List.map_drop]
     exact (List.drop_sublist j _).nodup this
    have hsome : (mapQ (s.l.drop j) (t.f0, t.f1)).isSome = true := by
     rw [HDJ.out]; unfold mapQ waitsB
     rw [if_pos (by rw [List.any_cons]; show ((keyTx t == (t.f0, t.f1)) || _) = true; rw [show (keyTx t == (t.f0, t.f1)) = true from beq_iff_eq.2 rfl]; rfl)]
     rfl
    rw [hsome, if_pos rfl] at h9
    rw [mapQ_tail hnd, ← HDJ.out, show s.l.length - (j + 1) = s.l.length - j - 1 by omega]
    exact h9
   case measure => have := HLTJ.out; simp [intOf]; omega
  ·obtain rfl : j = k := by omega
   have q1 : decide (j < j) = false := decide_eq_false hlt
   have e2 : wr.cell? ⟨g, 2, none⟩ = some (.slice A s.l.length c) := (blk_cell HYr.out 2).trans rfl
   obtain ⟨A1, hA1⟩ : ∃ A1, (if c = j then A else A.map (·.add (j * 6))) = A1 := ⟨_, rfl⟩
   have hcut := cut_from (P := Try.prog) 22 32 .i64 Try.underlying22 infoTxn 6 infoTxnS A s.l.length c (j : Int) (by omega) (by have := HK.out; omega)
   rw [Int.toNat_natCast, hA1] at hcut
   have HD := Lib.hid (HRr.out.drop HK.out.2.1)
   rw [hA1] at HD
   have HLD := Lib.hid (show (s.l.drop j).length = s.l.length - j from List.length_drop)
   clear hA1 hlt hj
   go_wp2_with fail
   have h4 := clone_txs (A := A1) (l := s.l.drop j) (c := c - j) (by rw [HLD.out]; exact HD.out) (by rw [HLD.out]; have := HL.out; omega) (by have := HQW.out.bg; have := blk_lt HYr.out; omega)
   rw [HLD.out] at h4
   refine h4.mono ?_
   rintro e w5 ⟨A', c', rfl, hT5, hb5, hn5⟩
   have HT5 := Lib.hid hT5; have HB5 := Lib.hid hb5; have HN5 := Lib.hid hn5
   clear h4 hT5 hb5 hn5 hcut e2
   have HY5 := Lib.hid ((HB5.out.block g (blk_lt HYr.out)).trans HYr.out)
   have HE5 := Lib.hid ((HB5.out.block eb (blk_lt HEr.out)).trans HEr.out)
   have HX5 := Lib.hid ((HB5.out.block W.heap.size (blk_lt HXr.out)).trans HXr.out)
   have HZ5 := Lib.hid (show ∀ a, A' = some a → W.heap.size < a.block from fun a ha => by have := HN5.out a ha; have := blk_lt HXr.out; omega)
   have y2 : w5.cell? ⟨g, 2, none⟩ = some (.slice A s.l.length c) := (blk_cell HY5.out 2).trans rfl
   have y2z : w5.frozen? ⟨g, 2, none⟩ = false := blk_frozen HY5.out 2
   have y4 : w5.cell? ⟨g, 4, none⟩ = some (.int .i64 s.n) := (blk_cell HY5.out 4).trans rfl
   have y4z : w5.frozen? ⟨g, 4, none⟩ = false := blk_frozen HY5.out 4
   have n1 : 0 ≤ s.n := HO.out.n.1
   have n2 : s.n < 1099511627776 := HN.out
   have hge : g ≠ eb := fun e => by have := HLT.out g (.inl rfl); have := HRE.out; omega
   have hgx : g ≠ W.heap.size := fun e => by have := HLT.out g (.inl rfl); omega
   have hxe : W.heap.size ≠ eb := fun e => by have := HRE.out; omega
   go_upto_region 20 with fail
   have HW6 := Lib.hid ((((KeepS.of_below (sqS g mp A) HW3.out).trans (HKr.out.mono (fun i e => .inr (.inl e)))).then_below HB5.out).set (p := ⟨g, 2, none⟩) (.inl (.inl rfl)) (.slice A' (s.l.length - j) c') |>.set (p := ⟨g, 4, none⟩) (.inl (.inl rfl)) (.int .i64 (s.n + 1)))
   have HY6 := Lib.hid (show ((w5.setCell ⟨g, 2, none⟩ (.slice A' (s.l.length - j) c')).setCell ⟨g, 4, none⟩ (.int .i64 (s.n + 1))).heap[g]? = some (.cells #[.bool true, .int .i64 s.r, .slice A' (s.l.length - j) c', .map (some mp), .int .i64 (s.n + 1), .int .i64 s.t] 68) from blk_put (blk_put HY5.out 2 _ rfl) 4 _ rfl)
   have HE6 := Lib.hid ((Below.heap_setCell (w5.setCell ⟨g, 2, none⟩ (.slice A' (s.l.length - j) c')) ⟨g, 4, none⟩ (.int .i64 (s.n + 1)) eb (fun e => hge e.symm)).trans ((Below.heap_setCell w5 ⟨g, 2, none⟩ (.slice A' (s.l.length - j) c') eb (fun e => hge e.symm)).trans HE5.out))
   have HX6 := Lib.hid ((Below.heap_setCell (w5.setCell ⟨g, 2, none⟩ (.slice A' (s.l.length - j) c')) ⟨g, 4, none⟩ (.int .i64 (s.n + 1)) W.heap.size (fun e => hgx e.symm)).trans ((Below.heap_setCell w5 ⟨g, 2, none⟩ (.slice A' (s.l.length - j) c') W.heap.size (fun e => hgx e.symm)).trans HX5.out))
   have HM6 := Lib.hid ((HMr.out.below HB5.out).move (w' := (w5.setCell ⟨g, 2, none⟩ (.slice A' (s.l.length - j) c')).setCell ⟨g, 4, none⟩ (.int .i64 (s.n + 1))) ((Below.heap_setCell _ ⟨g, 4, none⟩ _ mp (fun e => HQW.out.ne e.symm)).trans (Below.heap_setCell _ ⟨g, 2, none⟩ _ mp (fun e => HQW.out.ne e.symm))))
   have HKG := Lib.hid (((KeepS.refl (fun i => i = g) w5).set (p := ⟨g, 2, none⟩) (.inl rfl) (.slice A' (s.l.length - j) c')).set (p := ⟨g, 4, none⟩) (.inl rfl) (.int .i64 (s.n + 1)))
   have HNG := Lib.hid (show ∀ i, i = g → ¬ Inn B w5 i from fun i e => by subst e; exact not_inn HQW.out.bg HY5.out sq_not)
   have HTA := Lib.hid (HT5.out.keep HKG.out HNG.out (fun i hi e => by obtain ⟨a, ha, e2⟩ := own_iff.1 hi; have := HZ5.out a ha; have := HLT.out g (.inl rfl); omega))
   have HTF := Lib.hid ((HTr.out.below HB5.out).keep HKG.out HNG.out (fun i hi e => by obtain ⟨a, ha, e2⟩ := own_iff.1 hi; have := HEN.out a ha; have := HLT.out g (.inl rfl); have := HRE.out; omega))
   obtain ⟨w6, hw6⟩ : ∃ V, (w5.setCell ⟨g, 2, none⟩ (.slice A' (s.l.length - j) c')).setCell ⟨g, 4, none⟩ (.int .i64 (s.n + 1)) = V := ⟨_, rfl⟩
   rw [hw6] at HW6 HY6 HE6 HX6 HM6 HTA HTF ⊢
   clear hw6 HY5 HE5 HX5 HT5 HB5 y2 y2z y4 y4z HKG HNG HMr HKr HTr HRr HYr HEr HXr HM3 HTE HE3 HX3 HW3
   have b0 : w6.cell? ⟨eb, 0, none⟩ = some (.int .i64 1) := (blk_cell HE6.out 0).trans rfl
   have b1 : w6.cell? ⟨eb, 1, none⟩ = some (.int .i64 s.r) := (blk_cell HE6.out 1).trans rfl
   have b2 : w6.cell? ⟨eb, 2, none⟩ = some (.int .i64 s.n) := (blk_cell HE6.out 2).trans rfl
   have b3 : w6.cell? ⟨eb, 3, none⟩ = some (.slice E j j) := (blk_cell HE6.out 3).trans rfl
   have x0 : w6.cell? ⟨W.heap.size, 0, none⟩ = some (.int .i64 0) := (blk_cell HX6.out 0).trans rfl
   have x1 : w6.cell? ⟨W.heap.size, 1, none⟩ = some (.int .i64 0) := (blk_cell HX6.out 1).trans rfl
   have x2 : w6.cell? ⟨W.heap.size, 2, none⟩ = some (.int .i64 0) := (blk_cell HX6.out 2).trans rfl
   have x3 : w6.cell? ⟨W.heap.size, 3, none⟩ = some (.slice none 0 0) := (blk_cell HX6.out 3).trans rfl
   obtain ⟨f0, f1, f2, f3⟩ := bf4 HX6.out
   clear n1 n2 hge hgx hxe q1
   go_wp2_with fail
   refine bodyPost_ret (v := .tuple #[.agg #[.int .i64 1, .int .i64 s.r, .int .i64 s.n, .slice E j j], .bool true]) ?_ rfl ?_
   ·rw [results_cell_tmp rfl]
    go_simp
   ·have HKX := ((((KeepS.refl (fun i => i = W.heap.size) w6).set (p := ⟨W.heap.size, 0, none⟩) (.inl rfl) (.int .i64 1)).set (p := ⟨W.heap.size, 1, none⟩) (.inl rfl) (.int .i64 s.r)).set (p := ⟨W.heap.size, 2, none⟩) (.inl rfl) (.int .i64 s.n)).set (p := ⟨W.heap.size, 3, none⟩) (.inl rfl) (.slice E j j)
    have hlr : (s.l.drop 16).length = s.l.length - j := by rw [HTK.out.2]; exact HLD.out
    have hlt : ∀ k, sqS g mp A k → ¬ k = W.heap.size := fun k hk e => by have := HLT.out k hk; omega
    have hni : ∀ i, i = W.heap.size → ¬ Inn B w6 i := fun i e => by subst e; exact not_inn (by have := HQW.out.bg; have := HLT.out g (.inl rfl); omega) HX6.out en_not
    refine ⟨A', c', .slice E j j, by rw [HFL.out], ?_, ?_, (((HW6.out.set (p := ⟨W.heap.size, 0, none⟩) (.inr (Nat.le_refl _)) (.int .i64 1)).set (p := ⟨W.heap.size, 1, none⟩) (.inr (Nat.le_refl _)) (.int .i64 s.r)).set (p := ⟨W.heap.size, 2, none⟩) (.inr (Nat.le_refl _)) (.int .i64 s.n)).set (p := ⟨W.heap.size, 3, none⟩) (.inr (Nat.le_refl _)) (.slice E j j), fun a' ha' => .inr (by have := HZ5.out a' ha'; omega), fun k hk => by obtain ⟨a, ha, e2⟩ := own_iff.1 hk; have := HEN.out a ha; have := HRE.out; omega⟩
    ·rw [HFL.out]
     refine ⟨?_, ?_, ?_, ?_, HQW.out.bg, HQW.out.bm⟩
     ·show _ = some (Obj.cells #[.bool true, .int .i64 s.r, .slice A' (s.l.drop 16).length c', .map (some mp), .int .i64 (s.n + 1), .int .i64 s.t] _ _)
      rw [hlr]
      exact (HKX.block g (blk_lt HY6.out) (hlt g (.inl rfl))).trans HY6.out
     ·show IsM _ _ _ _ _ _ (mapQ (s.l.drop 16)) (s.l.drop 16).length
      rw [hlr, HTK.out.2]
      exact HM6.out.move (HKX.block mp HM6.out.lt (hlt mp (.inr (.inl rfl))))
     ·show TR B _ (.slice A' (s.l.drop 16).length c') (s.l.drop 16)
      rw [hlr, HTK.out.2]
      exact HTA.out.keep HKX hni (fun k hk e => by obtain ⟨a, ha, e2⟩ := own_iff.1 hk; have := HZ5.out a ha; omega)
     ·have := HO.out.flush
      rw [HFL.out] at this
      exact this
    ·rw [HFL.out]
     show TR B _ (.slice E j j) (s.l.take 16)
     rw [HTK.out.1]
     exact HTF.out.keep HKX hni (fun k hk e => by obtain ⟨a, ha, e2⟩ := own_iff.1 hk; have := HEN.out a ha; have := HRE.out; omega)
end Go.Proofs.Ytgmlpmdfkaadhaa.M
end

section
/- Flush and Tick, whatever waits. -/
attribute [local irreducible] Go.wpStill
namespace Go.Proofs.Ytgmlpmdfkaadhaa.M
open Go.RowKit Go.Proofs.YtgmlpmdfkaadhaaW.PrintWords Go.Proofs.YtgmlpmdfkaadhaaW.PrintLast Go.Proofs.YtgmlpmdfkaadhaaW.PrintMore Go.Proofs.Ytgmlpmdfkaadhaa.G
theorem flush_nob {B : Nat} {W : World} {g mp nb : Nat} {s : SqS} {A : Option Addr} {c : Nat} (h : IsSq B W g mp nb s A c) (hl : s.l = [] ∨ 1099511627776 ≤ s.n) :
  Calls Try.prog 20 #[.pointer (some ⟨g, 0, none⟩)] W fun e w' => e = .returned (.tuple #[.agg #[.int .i64 0, .int .i64 0, .int .i64 0, .slice none 0 0], .bool false]) ∧ Below W.heap.size W w' := by
 have hb := (Below.refl W.heap.size W).alloc (Nat.le_refl _) (.cells #[.int .i64 0, .int .i64 0, .int .i64 0, .slice none 0 0] 36)
 have H := Lib.hid (noneOf (h.below hb))
 have HB := Lib.hid hb
 have e2 : (W.alloc (.cells #[.int .i64 0, .int .i64 0, .int .i64 0, .slice none 0 0] 36)).cell? ⟨g, 2, none⟩ = some (.slice A s.l.length c) := (blk_cell (h.below hb).y 2).trans rfl
 have e4 : (W.alloc (.cells #[.int .i64 0, .int .i64 0, .int .i64 0, .slice none 0 0] 36)).cell? ⟨g, 4, none⟩ = some (.int .i64 s.n) := (blk_cell (h.below hb).y 4).trans rfl
 by_cases h0 : s.l = []
 ·have q1 : ((s.l.length : Int) == 0) = true := by rw [h0]; rfl
  clear h hl hb h0
  go_enter Try.func20, Try.ntmps20
  go_wp2_with fail
  refine H.out.mono ?_
  rintro e w' ⟨rfl, rfl⟩
  go_wp2_with fail
  refine bodyPost_ret (v := .tuple #[.agg #[.int .i64 0, .int .i64 0, .int .i64 0, .slice none 0 0], .bool false]) ?_ rfl ⟨rfl, HB.out⟩
  rw [results_cell_tmp rfl]
  go_simp
 ·have q1 : ((s.l.length : Int) == 0) = false := by have := List.length_pos_iff.2 h0; rw [beq_eq_false_iff_ne]; omega
  have q2 : decide (1099511627776 ≤ s.n) = true := decide_eq_true (by rcases hl with h | h; exact absurd h h0; exact h)
  clear h hl hb h0
  go_enter Try.func20, Try.ntmps20
  go_wp2_with fail
  refine H.out.mono ?_
  rintro e w' ⟨rfl, rfl⟩
  go_wp2_with fail
  refine bodyPost_ret (v := .tuple #[.agg #[.int .i64 0, .int .i64 0, .int .i64 0, .slice none 0 0], .bool false]) ?_ rfl ⟨rfl, HB.out⟩
  rw [results_cell_tmp rfl]
  go_simp
theorem flush_is {B : Nat} {W : World} {g mp nb : Nat} {s : SqS} {A : Option Addr} {c : Nat} (h : IsSq B W g mp nb s A c) :
  Calls Try.prog 20 #[.pointer (some ⟨g, 0, none⟩)] W fun e w' => FlushP B W g mp nb s A e w' := by
 by_cases hl : s.l = [] ∨ 1099511627776 ≤ s.n
 ·refine (flush_nob h hl).mono ?_
  rintro e w' ⟨rfl, hb⟩
  have e1 : qFlush s = (s, zE, false) := by unfold qFlush; rw [if_pos hl]
  exact ⟨A, c, .slice none 0 0, by rw [e1]; rfl, by rw [e1]; exact h.below hb, by rw [e1]; exact TR.nil _ _, KeepS.of_below _ hb, NewRow.refl _ _, fun k hk => by simp [Value.ownBlock] at hk⟩
 ·exact flush_yes h (fun e => hl (.inl e)) (by have := fun e => hl (.inr e); omega)
theorem IsSq.setT {B : Nat} {W : World} {g mp nb : Nat} {s : SqS} {A : Option Addr} {c : Nat} (h : IsSq B W g mp nb s A c) (x : Int) (hx : 0 ≤ x ∧ x < 4) : IsSq B (W.setCell ⟨g, 5, none⟩ (.int .i64 x)) g mp nb { s with t := x } A c := by
 have hk := (KeepS.refl (fun i => i = g) W).set (p := ⟨g, 5, none⟩) (.inl rfl) (.int .i64 x)
 have hni : ∀ i, i = g → ¬ Inn B W i := fun i e => by subst e; exact not_inn h.bg h.y sq_not
 refine ⟨?_, h.m.move (Below.heap_setCell _ ⟨g, 5, none⟩ _ mp (fun e => h.ne e.symm)), h.r.keep hk hni (fun k hk e => by obtain ⟨a, ha, e2⟩ := own_iff.1 hk; exact (h.own_ne ha).1 (e2.trans e)), ⟨h.o.r, h.o.n, hx, h.o.m, h.o.a, h.o.u⟩, h.bg, h.bm⟩
 exact blk_put h.y 5 _ rfl
def TickP (B : Nat) (W : World) (g mp nb : Nat) (s : SqS) (A : Option Addr) (e : Ending) (w' : World) : Prop :=
 ∃ A' c' E, e = .returned (.tuple #[.agg #[.int .i64 (qTick s).2.1.f0, .int .i64 (qTick s).2.1.f1, .int .i64 (qTick s).2.1.f2, E], .bool (qTick s).2.2]) ∧ IsSq B w' g mp nb (qTick s).1 A' c' ∧ TR B w' E (qTick s).2.1.f3 ∧ KeepS (sqS g mp A) W w' ∧ NewRow W A A' ∧ ∀ k, E.ownBlock = some k → W.heap.size ≤ k
set_option maxHeartbeats 1000000 in
theorem tick_is {B : Nat} {W : World} {g mp nb : Nat} {s : SqS} {A : Option Addr} {c : Nat} (h : IsSq B W g mp nb s A c) :
  Calls Try.prog 12 #[.pointer (some ⟨g, 0, none⟩)] W fun e w' => TickP B W g mp nb s A e w' := by
 have hb := (Below.refl W.heap.size W).alloc (Nat.le_refl _) (.cells #[.int .i64 0, .int .i64 0, .int .i64 0, .slice none 0 0] 36)
 have HX := Lib.hid (heap_alloc_new W (.cells #[.int .i64 0, .int .i64 0, .int .i64 0, .slice none 0 0] 36))
 have HGX := Lib.hid (show g ≠ W.heap.size from fun e => by have := h.glt; omega)
 have HLT := Lib.hid (show ∀ k, sqS g mp A k → k < W.heap.size from h.lt)
 obtain ⟨w0, hw⟩ : ∃ V, W.alloc (.cells #[.int .i64 0, .int .i64 0, .int .i64 0, .slice none 0 0] 36) = V := ⟨_, rfl⟩
 rw [hw] at hb HX
 have HQ := Lib.hid (h.below hb)
 have H := Lib.hid (noneOf (h.below hb))
 have HB := Lib.hid hb
 have e5 : w0.cell? ⟨g, 5, none⟩ = some (.int .i64 s.t) := (blk_cell (h.below hb).y 5).trans rfl
 have z5 : w0.frozen? ⟨g, 5, none⟩ = false := blk_frozen (h.below hb).y 5
 have HO := Lib.hid h.o
 clear h hb
 by_cases ht : s.t = 3
 ·have HR := Lib.hid (show qTick s = qFlush { s with t := 0 } by unfold qTick; rw [if_pos ht])
  rw [ht] at e5
  clear ht
  go_enter Try.func12, Try.ntmps12
  go_wp2_with fail
  refine H.out.mono ?_
  rintro e w' ⟨rfl, rfl⟩
  clear H
  go_wp2_with fail
  have HQ1 := Lib.hid (HQ.out.setT 0 (by decide))
  have HX1 := Lib.hid ((Below.heap_setCell w' ⟨g, 5, none⟩ (.int .i64 0) W.heap.size (fun e => HGX.out e.symm)).trans HX.out)
  have HK1 := Lib.hid ((KeepS.of_below (sqS g mp A) HB.out).set (p := ⟨g, 5, none⟩) (.inl (.inl rfl)) (.int .i64 0))
  obtain ⟨w1, hw1⟩ : ∃ V, w'.setCell ⟨g, 5, none⟩ (.int .i64 0) = V := ⟨_, rfl⟩
  rw [hw1] at HQ1 HX1 HK1 ⊢
  clear hw1 e5 z5 HQ HX
  refine (flush_is HQ1.out).mono ?_
  rintro e w2 ⟨A', c', E, rfl, hQ, hT, hK, hN, hE⟩
  have HQ2 := Lib.hid hQ; have HT2 := Lib.hid hT; have HK2 := Lib.hid hK; have HN2 := Lib.hid hN; have HE2 := Lib.hid hE
  have HX2 := Lib.hid ((hK.block W.heap.size (blk_lt HX1.out) (fun e => by have := HLT.out _ e; omega)).trans HX1.out)
  obtain ⟨E3, Ec, rfl, _⟩ := hT.slice
  obtain ⟨r, hr⟩ : ∃ r, qFlush { s with t := 0 } = r := ⟨_, rfl⟩
  rw [hr] at HQ2 HT2 HE2 HR ⊢
  have HS1 := Lib.hid (blk_lt HX1.out)
  clear hQ hT hK hN hE HQ1 HX1 hr
  obtain ⟨s2, ⟨f0, f1, f2, f3⟩, is⟩ := r
  have x0 : w2.cell? ⟨W.heap.size, 0, none⟩ = some (.int .i64 0) := (blk_cell HX2.out 0).trans rfl
  have x1 : w2.cell? ⟨W.heap.size, 1, none⟩ = some (.int .i64 0) := (blk_cell HX2.out 1).trans rfl
  have x2 : w2.cell? ⟨W.heap.size, 2, none⟩ = some (.int .i64 0) := (blk_cell HX2.out 2).trans rfl
  have x3 : w2.cell? ⟨W.heap.size, 3, none⟩ = some (.slice none 0 0) := (blk_cell HX2.out 3).trans rfl
  obtain ⟨y0, y1, y2, y3⟩ := bf4 HX2.out
  go_wp2_with fail
  refine bodyPost_ret (v := .tuple #[.agg #[.int .i64 f0, .int .i64 f1, .int .i64 f2, .slice E3 f3.length Ec], .bool is]) ?_ rfl ?_
  ·rw [results_cell_tmp rfl]
   go_simp
  ·have HKX := ((((KeepS.refl (fun i => i = W.heap.size) w2).set (p := ⟨W.heap.size, 0, none⟩) (.inl rfl) (.int .i64 f0)).set (p := ⟨W.heap.size, 1, none⟩) (.inl rfl) (.int .i64 f1)).set (p := ⟨W.heap.size, 2, none⟩) (.inl rfl) (.int .i64 f2)).set (p := ⟨W.heap.size, 3, none⟩) (.inl rfl) (.slice E3 f3.length Ec)
   have hni : ∀ i, i = W.heap.size → ¬ Inn B w2 i := fun i e => by subst e; exact not_inn (by have := HQ2.out.bg; have := HLT.out g (.inl rfl); omega) HX2.out en_not
   have hq : ∀ k, sqS g mp A' k → ¬ k = W.heap.size := by
    rintro k (rfl | rfl | ⟨a, ha, rfl⟩) e
    ·exact HGX.out e
    ·have := HLT.out _ (.inr (.inl rfl)); omega
    ·rcases HN2.out a ha with ⟨a0, h1, h2⟩ | h1
     ·have := HLT.out _ (.inr (.inr ⟨a0, h1, h2⟩)); omega
     ·have := HS1.out; omega
   refine ⟨A', c', .slice E3 f3.length Ec, by rw [HR.out], ?_, ?_, ?_, ?_, ?_⟩
   ·rw [HR.out]
    exact HQ2.out.keep HKX hni hq
   ·rw [HR.out]
    exact HT2.out.keep HKX hni (fun k hk e => by have := HE2.out k hk; have := HS1.out; omega)
   ·exact ((((HK1.out.trans HK2.out).set (p := ⟨W.heap.size, 0, none⟩) (.inr (Nat.le_refl _)) (.int .i64 f0)).set (p := ⟨W.heap.size, 1, none⟩) (.inr (Nat.le_refl _)) (.int .i64 f1)).set (p := ⟨W.heap.size, 2, none⟩) (.inr (Nat.le_refl _)) (.int .i64 f2)).set (p := ⟨W.heap.size, 3, none⟩) (.inr (Nat.le_refl _)) (.slice E3 f3.length Ec)
   ·exact HN2.out.up HK1.out.size
   ·exact fun k hk => by have := HE2.out k hk; have := HK1.out.size; omega
 ·have HR := Lib.hid (show qTick s = ({ s with t := s.t + 1 }, zE, false) by unfold qTick; rw [if_neg ht])
  have HT3 := Lib.hid (show 0 ≤ s.t + 1 ∧ s.t + 1 < 4 by have := HO.out.t; omega)
  obtain ⟨x, hx⟩ : ∃ x, s.t = x := ⟨_, rfl⟩
  have HXX := Lib.hid hx
  have h1 : 0 ≤ x := by have := HO.out.t; omega
  have h2 : x < 3 := by have := HO.out.t; omega
  have hm : (x + 1) % 4 = x + 1 := by omega
  have q : ((x + 1) != 0) = true := by rw [bne_iff_ne]; omega
  rw [hx] at e5 HT3
  clear ht hx
  go_enter Try.func12, Try.ntmps12
  go_wp2_with fail
  refine H.out.mono ?_
  rintro e w' ⟨rfl, rfl⟩
  clear H
  have hgx : g ≠ W.heap.size := HGX.out
  have x0 : w'.cell? ⟨W.heap.size, 0, none⟩ = some (.int .i64 0) := (blk_cell HX.out 0).trans rfl
  have x1 : w'.cell? ⟨W.heap.size, 1, none⟩ = some (.int .i64 0) := (blk_cell HX.out 1).trans rfl
  have x2 : w'.cell? ⟨W.heap.size, 2, none⟩ = some (.int .i64 0) := (blk_cell HX.out 2).trans rfl
  have x3 : w'.cell? ⟨W.heap.size, 3, none⟩ = some (.slice none 0 0) := (blk_cell HX.out 3).trans rfl
  have y0 : w'.frozen? ⟨W.heap.size, 0, none⟩ = false := blk_frozen HX.out 0
  have y1 : w'.frozen? ⟨W.heap.size, 1, none⟩ = false := blk_frozen HX.out 1
  have y2 : w'.frozen? ⟨W.heap.size, 2, none⟩ = false := blk_frozen HX.out 2
  have y3 : w'.frozen? ⟨W.heap.size, 3, none⟩ = false := blk_frozen HX.out 3
  go_upto_region 5 with fail
  have HQ1 := Lib.hid (HQ.out.setT (x + 1) HT3.out)
  have HX1 := Lib.hid ((Below.heap_setCell w' ⟨g, 5, none⟩ (.int .i64 (x + 1)) W.heap.size (fun e => hgx e.symm)).trans HX.out)
  have HK1 := Lib.hid ((KeepS.of_below (sqS g mp A) HB.out).set (p := ⟨g, 5, none⟩) (.inl (.inl rfl)) (.int .i64 (x + 1)))
  obtain ⟨w1, hw1⟩ : ∃ V, w'.setCell ⟨g, 5, none⟩ (.int .i64 (x + 1)) = V := ⟨_, rfl⟩
  rw [hw1] at HQ1 HX1 HK1 ⊢
  clear hw1 e5 z5 HQ HX x0 x1 x2 x3 y0 y1 y2 y3
  have x0 : w1.cell? ⟨W.heap.size, 0, none⟩ = some (.int .i64 0) := (blk_cell HX1.out 0).trans rfl
  have x1 : w1.cell? ⟨W.heap.size, 1, none⟩ = some (.int .i64 0) := (blk_cell HX1.out 1).trans rfl
  have x2 : w1.cell? ⟨W.heap.size, 2, none⟩ = some (.int .i64 0) := (blk_cell HX1.out 2).trans rfl
  have x3 : w1.cell? ⟨W.heap.size, 3, none⟩ = some (.slice none 0 0) := (blk_cell HX1.out 3).trans rfl
  obtain ⟨y0, y1, y2, y3⟩ := bf4 HX1.out
  go_wp2_with fail
  refine bodyPost_ret (v := .tuple #[.agg #[.int .i64 0, .int .i64 0, .int .i64 0, .slice none 0 0], .bool false]) ?_ rfl ?_
  ·rw [results_cell_tmp rfl]
   go_simp
  ·have HKX := ((((KeepS.refl (fun i => i = W.heap.size) w1).set (p := ⟨W.heap.size, 0, none⟩) (.inl rfl) (.int .i64 0)).set (p := ⟨W.heap.size, 1, none⟩) (.inl rfl) (.int .i64 0)).set (p := ⟨W.heap.size, 2, none⟩) (.inl rfl) (.int .i64 0)).set (p := ⟨W.heap.size, 3, none⟩) (.inl rfl) (.slice none 0 0)
   have hni : ∀ i, i = W.heap.size → ¬ Inn B w1 i := fun i e => by subst e; exact not_inn (by have := HQ1.out.bg; have := HLT.out g (.inl rfl); omega) HX1.out en_not
   refine ⟨A, c, .slice none 0 0, by rw [HR.out]; rfl, ?_, by rw [HR.out]; exact TR.nil _ _, ?_, NewRow.refl _ _, fun k hk => by simp [Value.ownBlock] at hk⟩
   ·rw [HR.out, HXX.out]
    exact HQ1.out.keep HKX hni (fun k hk e => by have := HLT.out k hk; omega)
   ·exact (((HK1.out.set (p := ⟨W.heap.size, 0, none⟩) (.inr (Nat.le_refl _)) (.int .i64 0)).set (p := ⟨W.heap.size, 1, none⟩) (.inr (Nat.le_refl _)) (.int .i64 0)).set (p := ⟨W.heap.size, 2, none⟩) (.inr (Nat.le_refl _)) (.int .i64 0)).set (p := ⟨W.heap.size, 3, none⟩) (.inr (Nat.le_refl _)) (.slice none 0 0)
end Go.Proofs.Ytgmlpmdfkaadhaa.M
end

section
/- live: the first batch. -/
attribute [local irreducible] Go.wpStill
namespace Go.Proofs.Ytgmlpmdfkaadhaa.M
open Go.RowKit Go.Proofs.YtgmlpmdfkaadhaaW.PrintWords Go.Proofs.YtgmlpmdfkaadhaaW.PrintLast Go.Proofs.YtgmlpmdfkaadhaaW.PrintMore Go.Proofs.Ytgmlpmdfkaadhaa.G
structure Run (B : Nat) (w0 W : World) (g mp nb : Nat) (s : SqS) (A : Option Addr) (c : Nat) : Prop where
 q : IsSq B W g mp nb s A c
 d : Below B w0 W
section
variable {B : Nat} {w0 W W' : World} {g mp nb : Nat} {s s' : SqS} {A A' : Option Addr} {c c' : Nat}
theorem Run.le (h : Run B w0 W g mp nb s A c) : B ≤ W.heap.size := Nat.le_trans h.q.bg (Nat.le_of_lt h.q.glt)
theorem Run.keep {S : Nat → Prop} (h : Run B w0 W g mp nb s A c) (hk : KeepS (sqS g mp A) W W') : Below B w0 W' := h.d.trans (hk.below h.le h.q.ge)
theorem Run.step {nb' : Nat} (h : Run B w0 W g mp nb s A c) (hq : IsSq B W' g mp nb' s' A' c') (hk : KeepS (sqS g mp A) W W') : Run B w0 W' g mp nb' s' A' c' := ⟨hq, h.d.trans (hk.below h.le h.q.ge)⟩
theorem Run.below (h : Run B w0 W g mp nb s A c) (hb : Below W.heap.size W W') : Run B w0 W' g mp nb s A c := ⟨h.q.below hb, h.d.trans (hb.mono h.le)⟩
theorem Run.alloc (h : Run B w0 W g mp nb s A c) (o : Obj) : Run B w0 (W.alloc o) g mp nb s A c := h.below ((Below.refl _ _).alloc (Nat.le_refl _) _)
end
theorem new_run {w w1 : World} {r : Int} (h : 0 ≤ r ∧ r ≤ 4) {B : Nat} (hb : Below B w w1) (hB : B ≤ w1.heap.size) : Calls Try.prog 8 #[.int .i64 r] w1 fun e w' => ∃ g mp, e = .returned (.tuple #[.pointer (some ⟨g, 0, none⟩), .int .i64 0]) ∧ Run B w w' g mp 0 (newQ r) none 0 ∧ w1.heap.size ≤ g ∧ w1.heap.size ≤ mp := by
 refine (new_is h hB).mono ?_
 rintro e w' ⟨rfl, hq, hb'⟩
 exact ⟨_, _, rfl, ⟨hq, hb.trans (hb'.mono hB)⟩, Nat.le_succ _, Nat.le_refl _⟩
def t11 : TxD := ⟨1, 1, [], [], [], []⟩
theorem fk_t11 (W : World) (ok : Nat → Prop) : Kd.FK G.k32 W ok t11 [.int .i64 t11.f0, .int .i64 t11.f1, .slice none t11.f2.length 0, .slice none t11.f3.length 0, .slice none t11.f4.length 0, .slice none t11.f5.length 0] := by
 have hM := G.k32_mkM W 0 ok t11 (Kd.R_nil _ _ _ _ _) (Kd.R_nil _ _ _ _ _) (Kd.R_nil _ _ _ _ _) (Kd.R_nil _ _ _ _ _)
 exact Kd.FK_of_M hM
theorem take_t11 {B : Nat} {W : World} {g mp nb : Nat} {s : SqS} {A : Option Addr} {c : Nat} (h : IsSq B W g mp nb s A c) (hn : nb < maxLen) :
  Calls Try.prog 10 #[.pointer (some ⟨g, 0, none⟩), .agg #[.int .i64 1, .int .i64 1, .slice none 0 0, .slice none 0 0, .slice none 0 0, .slice none 0 0]] W fun e w' => TakeP B W g mp nb s A t11 e w' :=
 take_is h (fk_t11 W _) (by decide) hn (wf_key (t := t11) (by decide))
theorem qt1 : qTake (newQ 1) t11 = (⟨1, [t11], 0, 0⟩, 0) := rfl
theorem qt2 : qTake ⟨1, [t11], 0, 0⟩ t11 = (⟨1, [t11], 0, 0⟩, 210) := rfl
theorem qt3 : qTick ⟨1, [t11], 0, 3⟩ = (⟨1, [], 1, 0⟩, ⟨1, 1, 0, [t11]⟩, true) := rfl
theorem qt4 (k : Nat) (h : k < 3) : qTick ⟨1, [t11], 0, (k : Int)⟩ = (⟨1, [t11], 0, ((k + 1 : Nat) : Int)⟩, zE, false) := by
 unfold qTick
 rw [if_neg (by show ¬ (k : Int) = 3; omega)]
 simp
set_option maxHeartbeats 2000000 in
theorem live_is (w : World) : Calls Try.prog 9 #[] w fun e w' => e = .returned (.bool true) ∧ Below w.heap.size w w' := by
 go_enter Try.func9, Try.ntmps9
 go_wp2_with fail
 refine (new_run (r := 1) (by decide) (Below.refl w.heap.size w) (Nat.le_refl _)).mono ?_
 rintro e w1 ⟨g, mp, rfl, hR, _, _⟩
 have HR := Lib.hid hR
 clear hR
 go_wp2_with fail
 refine (take_t11 HR.out.q (by decide)).mono ?_
 rintro e w2 ⟨A, c, rfl, hQ, hK, hN⟩
 rw [qt1] at hQ
 have HR2 := Lib.hid (HR.out.step hQ hK)
 clear hQ hK hN HR
 rw [qt1]
 go_wp2_with fail
 refine (take_t11 HR2.out.q (by decide)).mono ?_
 rintro e w3 ⟨A3, c3, rfl, hQ, hK, hN⟩
 rw [qt2] at hQ
 have HR3 := Lib.hid (HR2.out.step hQ hK)
 clear hQ hK hN HR2
 rw [qt2]
 go_wp2_with fail
 go_loopw [29] (fun v wr => ∃ (k : Nat) (A : Option Addr) (c : Nat), v = .int .i64 (k : Int) ∧ k ≤ 3 ∧ Run w.heap.size w wr g mp 2 ⟨1, [t11], 0, (k : Int)⟩ A c) (fun v _ => 3 - (intOf v).toNat)
 case atStart => exact ⟨0, A3, c3, rfl, by omega, HR3.out⟩
 case round =>
  obtain ⟨k, A4, c4, rfl, hk, hR⟩ := hrel
  have HR4 := Lib.hid hR
  clear hR HR3
  by_cases hlt : k < 3
  ·have q : decide (k < 3) = true := decide_eq_true hlt
   have q2 : decide ((k : Int) < 3) = true := decide_eq_true (by omega)
   have HE := Lib.hid (qt4 k hlt)
   have HLT := Lib.hid hlt
   clear hlt
   go_wp2_with fail
   refine (tick_is HR4.out.q).mono ?_
   rintro e w5 ⟨A5, c5, E, rfl, hQ, hT, hK, hN, hE⟩
   rw [HE.out] at hQ hT ⊢
   obtain ⟨E3, Ec, rfl, _⟩ := hT.slice
   have HR5 := Lib.hid (HR4.out.step hQ hK)
   clear hQ hT hK hN hE HR4
   go_wp2_with fail
   go_roundw
   case rel => exact ⟨k + 1, A5, c5, by go_num, HLT.out, HR5.out.alloc _⟩
   case measure => have := HLT.out; simp [intOf]; omega
  ·obtain rfl : k = 3 := by omega
   clear hlt
   go_wp2_with fail
   refine (tick_is HR4.out.q).mono ?_
   rintro e w5 ⟨A5, c5, E, rfl, hQ, hT, hK, hN, hE⟩
   change IsSq _ _ _ _ _ (qTick ⟨1, [t11], 0, 3⟩).1 _ _ at hQ
   change TR _ _ _ (qTick ⟨1, [t11], 0, 3⟩).2.1.f3 at hT
   rw [qt3] at hQ hT
   have h1 : (qTick ⟨1, [t11], 0, ((3 : Nat) : Int)⟩) = (⟨1, [], 1, 0⟩, ⟨1, 1, 0, [t11]⟩, true) := qt3
   rw [h1]
   obtain ⟨E3, Ec, rfl, _⟩ := hT.slice
   have HR5 := Lib.hid (HR4.out.step hQ hK)
   have HR6 := Lib.hid ((HR4.out.step hQ hK).alloc (.cells #[.int .i64 1, .int .i64 1, .int .i64 0, .slice E3 1 Ec] 36))
   clear hQ hT hK hN hE HR4 h1
   go_wp2_with fail
   refine (number_is HR6.out.q).mono ?_
   rintro e w6 ⟨rfl, rfl⟩
   go_wp2_with fail
   refine (len_is HR6.out.q).mono ?_
   rintro e w7 ⟨rfl, rfl⟩
   go_wp2_with fail
   go_ret
   exact ⟨rfl, HR6.out.d⟩
end Go.Proofs.Ytgmlpmdfkaadhaa.M
end

section
/- What the laws' walks need: a transaction that came in, a map's length, what Take answers. -/
namespace Go.Proofs.Ytgmlpmdfkaadhaa.M
open Go.RowKit Go.Proofs.YtgmlpmdfkaadhaaW.PrintWords Go.Proofs.YtgmlpmdfkaadhaaW.PrintLast Go.Proofs.YtgmlpmdfkaadhaaW.PrintMore Go.Proofs.Ytgmlpmdfkaadhaa.G
open Go.Maps in
theorem fk_came {w W : World} {t : TxD} {cs : List Value} (h : Kd.FK G.k32 w (fun k => k < w.heap.size) t cs) (hb : Below w.heap.size w W) : Kd.FK G.k32 W (Inn w.heap.size W) t cs :=
 Kd.FK_mono (Kd.FK_step h (fun k hk hlt => hb.block k hlt)) (fun k hk => .inl hk)
inductive QT (s : SqS) (t : TxD) : Prop where
 | arg (h : qTake s t = (s, 1))
 | queue (h : qTake s t = (s, 210)) (hw : waitsB s.l (t.f0, t.f1) = true)
 | full (h : qTake s t = (s, 6)) (hw : waitsB s.l (t.f0, t.f1) = false) (hl : 64 ≤ s.l.length)
 | ok (h : qTake s t = ({ s with l := s.l ++ [t] }, 0)) (hw : waitsB s.l (t.f0, t.f1) = false) (hl : s.l.length < 64) (hm : mayT t = true)
theorem okT_wf {t : TxD} (h : okTd t) : okT t = true := (okT_of h).1
end Go.Proofs.Ytgmlpmdfkaadhaa.M
end

section
/- How a sequencer's steps go one behind another; rows beside it. -/
namespace Go.Proofs.Ytgmlpmdfkaadhaa.M
open Go.RowKit Go.Proofs.YtgmlpmdfkaadhaaW.PrintWords Go.Proofs.YtgmlpmdfkaadhaaW.PrintLast Go.Proofs.YtgmlpmdfkaadhaaW.PrintMore Go.Proofs.Ytgmlpmdfkaadhaa.G
theorem KeepS.trans' {S S' : Nat → Prop} {x y z : World} (h : KeepS S x y) (k : KeepS S' y z) (hs : ∀ i, S' i → S i ∨ x.heap.size ≤ i) : KeepS S x z :=
 ⟨k.os.trans h.os, k.tape.trans h.tape, k.output.trans h.output, Nat.le_trans h.size k.size, fun i hi hn => (k.block i (Nat.lt_of_lt_of_le hi h.size) (fun e => by rcases hs i e with e | e; exact hn e; omega)).trans (h.block i hi hn)⟩
theorem sqS_new {W : World} {g mp : Nat} {A A' : Option Addr} (h : NewRow W A A') : ∀ i, sqS g mp A' i → sqS g mp A i ∨ W.heap.size ≤ i := by
 rintro i (h1 | h1 | ⟨a, ha, rfl⟩)
 ·exact .inl (.inl h1)
 ·exact .inl (.inr (.inl h1))
 ·rcases h a ha with ⟨a0, e1, e2⟩ | e
  ·exact .inl (.inr (.inr ⟨a0, e1, e2⟩))
  ·exact .inr e
structure Moved (X : Nat → Prop) (g mp : Nat) (W : World) (A : Option Addr) (W' : World) (A' : Option Addr) : Prop where
 k : KeepS (fun i => X i ∨ sqS g mp A i) W W'
 n : NewRow W A A'
section
variable {X : Nat → Prop} {g mp : Nat} {W W' W'' : World} {A A' A'' : Option Addr}
theorem Moved.refl (X : Nat → Prop) (g mp : Nat) (W : World) (A : Option Addr) : Moved X g mp W A W A := ⟨KeepS.refl _ _, NewRow.refl _ _⟩
theorem Moved.of (hk : KeepS (sqS g mp A) W W') (hn : NewRow W A A') : Moved X g mp W A W' A' := ⟨hk.mono (fun _ h => .inr h), hn⟩
theorem Moved.trans (h : Moved X g mp W A W' A') (k : Moved X g mp W' A' W'' A'') : Moved X g mp W A W'' A'' :=
 ⟨h.k.trans' k.k (fun i hi => by
  rcases hi with hi | hi
  ·exact .inl (.inl hi)
  ·rcases sqS_new h.n i hi with h1 | h1
   ·exact .inl (.inr h1)
   ·exact .inr h1), h.n.trans h.k.size k.n⟩
theorem Moved.below (h : Moved X g mp W A W' A') (hb : Below W'.heap.size W' W'') : Moved X g mp W A W'' A' := ⟨h.k.then_below hb, h.n⟩
theorem Moved.alloc (h : Moved X g mp W A W' A') (o : Obj) : Moved X g mp W A (W'.alloc o) A' := ⟨h.k.alloc o, h.n⟩
theorem Moved.set (h : Moved X g mp W A W' A') {p : Addr} (hp : X p.block ∨ W.heap.size ≤ p.block) (v : Value) : Moved X g mp W A (W'.setCell p v) A' := ⟨h.k.set (by rcases hp with hp | hp; exact .inl (.inl hp); exact .inr hp) v, h.n⟩
end
def Far (g mp : Nat) (A O : Option Addr) : Prop := ∀ a, O = some a → ¬ sqS g mp A a.block
section
variable {B : Nat} {w0 W W' : World} {g mp nb : Nat} {s : SqS} {A A' O O' : Option Addr} {c n co : Nat} {l : List TxD}
theorem Far.nil (g mp : Nat) (A : Option Addr) : Far g mp A none := fun a h => by cases h
theorem Far.go {X : Nat → Prop} (h : Far g mp A O) (hT : TR B W (.slice O n co) l) (hq : IsSq B W g mp nb s A c) (m : Moved X g mp W A W' A') (hX : ∀ i, X i → ¬ Inn B W i) (hO : ∀ a, O = some a → ¬ X a.block) : TR B W' (.slice O n co) l ∧ Far g mp A' O := by
 refine ⟨hT.keep m.k (fun i hi => ?_) (fun i hi e => ?_), fun a ha e => ?_⟩
 ·rcases hi with hi | hi
  ·exact hX i hi
  ·exact hq.out i hi
 ·obtain ⟨a, ha, e2⟩ := own_iff.1 hi
  rcases e with e | e
  ·exact hO a ha (e2 ▸ e)
  ·exact h a ha (e2 ▸ e)
 ·rcases sqS_new m.n _ e with e | e
  ·exact h a ha e
  ·have := hT.lt _ (own_iff.2 ⟨a, ha, rfl⟩)
   omega
theorem Far.row (h : Far g mp A O) (hT : TR B W (.slice O n co) l) (hq : Run B w0 W g mp nb s A c) (hg : W.grownBy W' (Value.slice O n co).ownBlock) : Run B w0 W' g mp nb s A c := by
 have hk : KeepS (fun i => (Value.slice O n co).ownBlock = some i) W W' := KeepS.of_grown hg (fun i hi => hi)
 refine ⟨hq.q.keep hk (fun i hi => hT.not_inn i hi) (fun i hi e => ?_), hq.d.trans (hk.below hq.le (fun i hi => (hT.typed i hi).1))⟩
 obtain ⟨a, ha, e2⟩ := own_iff.1 e
 exact h a ha (e2 ▸ hi)
theorem Far.new (h : Far g mp A O) (hq : IsSq B W g mp nb s A c) (hn : NewRow W O O') : Far g mp A O' := fun a ha e => by
 rcases hn a ha with ⟨a0, e1, e2⟩ | e1
 ·exact h a0 e1 (e2 ▸ e)
 ·have := hq.lt _ e
  omega
end
end Go.Proofs.Ytgmlpmdfkaadhaa.M
end
