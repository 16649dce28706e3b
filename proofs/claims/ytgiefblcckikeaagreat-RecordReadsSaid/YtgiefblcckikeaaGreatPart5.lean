/- RecordReadsSaid: contracts of the functions that the law goes through, put together in build order (part 6 of 7). -/
import Derived.Test.YtgiefblcckikeaaGreatPart4
import Derived.Deep.RegionHeld3
import Derived.Laws.Tables
set_option linter.unusedVariables false
set_option linter.unusedSimpArgs false
section
/- Contract of trivet/shape.eight: all eight bytes of a number (what append has not used is noughts). -/
set_option maxRecDepth 100000
namespace Go.Proofs.YtgiefblcckikeaaGreat.M
open Go.RowKit Go.Proofs.YtgiefblcckikeaaGreatW.PrintWords Go.Proofs.YtgiefblcckikeaaGreatW.PrintLast Go.Proofs.YtgiefblcckikeaaGreatW.PrintMore
def OwnZ (w : World) (base : Nat) (v : Value) (l : List Int) : Prop :=
 (v = .slice none 0 0 ∧ l = []) ∨ ∃ g cap cur, v = .slice (some ⟨g, 0, none⟩) l.length cap ∧ base ≤ g ∧ w.heap[g]? = some (.cells cur 5 (0, 0)) ∧ l.length ≤ cap ∧ cap ≤ maxLen ∧
  cur.toList = l.map (Value.int .u8) ++ List.replicate (cap - l.length) (.int .u8 0)
theorem OwnZ.own {w : World} {base : Nat} {v : Value} {l : List Int} (h : OwnZ w base v l) : w.ownsRow base 5 1 v l.length (l.map (Value.int .u8)) := by
 refine ⟨by simp, ?_⟩
 rcases h with ⟨rfl, rfl⟩ | ⟨g, cap, cur, rfl, h1, h2, h3, h4, h5⟩
 ·exact .inl ⟨rfl, rfl⟩
 ·refine .inr ⟨g, cap, cur, rfl, h1, h2, h3, h4, ?_, ?_⟩
  ·rw [← Array.length_toList, h5]; simp; omega
  ·rw [h5, Nat.mul_one, List.take_left' (by simp)]
theorem zeroCells_toList (n : Nat) : (Builtin.zeroCells #[Value.int .u8 0] n).toList = List.replicate n (.int .u8 0) := by
 refine List.ext_getElem (by simp [Builtin.zeroCells]) (fun i h1 h2 => ?_)
 simp [Builtin.zeroCells, Nat.mod_one]
theorem run_append_z (W : World) (base : Nat) (ty : TypeId) (v : Value) (l : List Int) (h : OwnZ W base v l) (hb : base ≤ W.heap.size) (a : Addr) (c : Nat) (x : Int) (hx : W.cell? a = some (.int .u8 x)) (hl : l.length + 1 ≤ 140737488355328) :
  ∃ v' w', (Builtin.append_ #[23, 23] ty #[v, .slice (some a) 1 c]).run Tryz.prog W = .ok v' w' ∧ OwnZ w' base v' (l ++ [x]) ∧ W.grownBy w' v.ownBlock := by
 obtain ⟨i0, hi, hz0, hz1, hz2⟩ := info_parts infoU8
 have hnews : ∀ j u, [Value.int .u8 x][j]? = some u → W.cell? (a.add j) = some u := by
  intro j u hu
  cases j with
  | zero => simp at hu; subst hu; rw [Addr.add_zero']; exact hx
  | succ j => simp at hu
 have hm : (Value.int .u8 0).cells = #[Value.int .u8 0] := rfl
 rcases h with ⟨rfl, rfl⟩ | ⟨g, cap, cur, rfl, h1, h2, h3, h4, h5⟩
 ·have hr := run_append_nil (P := Tryz.prog) W 23 ty 5 i0 (.int .u8 0) Tryz.underlying23 hi hz0 a 1 c [.int .u8 x] (by rw [hz1]; rfl) hnews (by omega) (by omega) (by rw [hz2]; decide)
  refine ⟨_, _, hr, .inr ⟨W.heap.size, _, _, rfl, hb, heap_alloc_new W.drew _, grownCap_ge W _ _ _, grownCap_le_maxLen W _ _ _ (by decide), ?_⟩, ⟨rfl, rfl, rfl, by simp, fun k hk _ => heap_alloc_old W.drew _ hk⟩⟩
  rw [hm, Array.toList_append, zeroCells_toList]
  rfl
 ·have hlen : cur.size = cap := by rw [← Array.length_toList, h5]; simp; omega
  by_cases hroom : l.length + 1 ≤ cap
  ·have hr := run_append_room (P := Tryz.prog) W 23 ty 5 i0 Tryz.underlying23 hi g l.length cap cur h2 a 1 c [.int .u8 x] (by rw [hz1]; rfl) hnews (by simp [Value.oneCell']) hroom (by rw [hz1, hlen]; simpa using hroom)
   refine ⟨_, _, hr, .inr ⟨g, cap, _, by simp, h1, setRow_heap W g cur _ 5 _ h2, by simpa using hroom, h4, ?_⟩, ⟨rfl, rfl, rfl, by simp, fun k hk hne => setRow_other W g k _ (fun e => hne (by simp [Value.ownBlock, e]))⟩⟩
   rw [hz1, h5, Nat.mul_one]
   rw [List.take_left' (by simp), List.drop_append, List.drop_eq_nil_of_le (by simp)]
   simp only [List.nil_append, List.map_append, List.map_cons, List.map_nil, List.length_append, List.length_map, List.length_cons, List.length_nil, List.drop_replicate]
   congr 2
   omega
  ·have holds : ∀ j u, (l.map (Value.int .u8))[j]? = some u → W.cell? ((⟨g, 0, none⟩ : Addr).add j) = some u := (OwnZ.own (.inr ⟨g, cap, cur, rfl, h1, h2, h3, h4, h5⟩)).cells (g := g) rfl
   have hr := run_append_grow (P := Tryz.prog) W 23 ty 5 i0 (.int .u8 0) Tryz.underlying23 hi hz0 ⟨g, 0, none⟩ l.length cap (l.map (Value.int .u8)) (by rw [hz1]; simp) holds a 1 c [.int .u8 x] (by rw [hz1]; rfl) hnews (by omega) (by omega) (by rw [hz2]; exact growslice_fits (by omega) (by omega))
   refine ⟨_, _, hr, .inr ⟨W.heap.size, grownCap W (l.length + 1) cap 5, _, by simp, hb, heap_alloc_new W.drew _, by simpa using grownCap_ge W (l.length + 1) cap 5, grownCap_le_maxLen W _ _ _ (by unfold maxLen; omega), ?_⟩, ⟨rfl, rfl, rfl, by simp, fun k hk _ => heap_alloc_old W.drew _ hk⟩⟩
   rw [hm]
   simp only [Array.toList_append, zeroCells_toList]
   simp
theorem OwnZ.alloc {W : World} {base : Nat} {v : Value} {l : List Int} (h : OwnZ W base v l) (o : Obj) : OwnZ (W.alloc o) base v l := by
 rcases h with h | ⟨g, cap, cur, h0, h1, h2, h3⟩
 ·exact .inl h
 ·exact .inr ⟨g, cap, cur, h0, h1, (heap_alloc_old W o (Array.getElem?_eq_some_iff.1 h2).1).trans h2, h3⟩
theorem wpList_append_z {ops : Array Oper} {rest : List Oper} {o : Oper} {a : Act} {Q : Exit → Act → World → Prop} {W : World} (base : Nat) (hgd : o.guard = none) (s x : Operand)
  (ho : o.op = .call { callee := .builtin .append, args := #[s, x], argTypes := #[23, 23] })
  (v : Value) (l : List Int) (y : Int) (hs : a.eval s = v) (hx : a.eval x = .slice (some ⟨W.heap.size, 0, none⟩) 1 1) (HO : OwnZ W base v l) (hb : base ≤ W.heap.size) (hl : l.length + 1 ≤ 140737488355328)
  (h : ∀ v' w', OwnZ w' base v' (l ++ [y]) → (W.alloc (.cells #[.int .u8 y] 5)).grownBy w' v.ownBlock → wpList Tryz.prog ops Q rest (a.put o.dst v') w') :
  wpList Tryz.prog ops Q (o :: rest) a (W.alloc (.cells #[.int .u8 y] 5)) := by
 refine wpList_plain hgd fun _ hK => ?_
 obtain ⟨v', w', hr, h2, h3⟩ := run_append_z (W.alloc (.cells #[.int .u8 y] 5)) base o.type v l (HO.alloc _) (by simp; omega) ⟨W.heap.size, 0, none⟩ 1 y (by simp) hl
 unfold Oper.wp execOp
 simp only [ho, resolve, invoke, builtin, Sem.run_bind, Sem.run_pure, Result.andThen_ok, List.map_toArray, List.map_cons, List.map_nil, hs, hx, hr]
 exact hK _ _ (h v' w' h2 h3)
theorem OwnZ.form {W : World} {base : Nat} {v : Value} {l : List Int} (h : OwnZ W base v l) : ∃ A n c, v = .slice A n c := by
 rcases h with ⟨rfl, _⟩ | ⟨g, cap, cur, rfl, _⟩
 ·exact ⟨_, _, _, rfl⟩
 ·exact ⟨_, _, _, rfl⟩
theorem OwnZ.lo {W : World} {base : Nat} {v : Value} {l : List Int} (h : OwnZ W base v l) (k : Nat) (hk : v.ownBlock = some k) : base ≤ k := by
 rcases h with ⟨rfl, _⟩ | ⟨g, cap, cur, rfl, h1, _⟩
 ·simp [Value.ownBlock] at hk
 ·simp [Value.ownBlock] at hk; omega
set_option maxHeartbeats 1000000 in
theorem low_z (n : Nat) (hn : n < 256 ^ 8) (w : World) :
  Calls Tryz.prog 152 #[.int .u64 (n : Int)] w fun e w' => ∃ v, e = .returned v ∧ OwnZ w' w.heap.size v (lowB n) ∧ Below w.heap.size w w' := by
 have HN := Aside0.mk (lowB_len n 8 hn)
 have HNN := Aside0.mk hn
 clear hn
 go_enter Tryz.func152, Tryz.ntmps152
 go_wp2
 go_loopw [0, 3] (fun u v wr => ∃ (m : Nat) (acc : List Int) (Av : Option Addr) (nv cv : Nat), u = .int .u64 (m : Int) ∧ v = .slice Av nv cv ∧ Aside0 (m < 256 ^ 8) ∧ Aside0 (Below w.heap.size w wr) ∧ Aside0 (acc ++ lowB m = lowB n) ∧ Aside0 (OwnZ wr w.heap.size (.slice Av nv cv) acc)) (fun u _ _ => (intOf u).toNat)
 case atStart => exact ⟨n, [], none, 0, 0, rfl, rfl, ⟨HNN.out⟩, ⟨Below.refl _ _⟩, ⟨rfl⟩, ⟨.inl ⟨rfl, rfl⟩⟩⟩
 case round =>
  obtain ⟨m, acc, Av, nv, cv, rfl, rfl, hm, HB, HA, HO⟩ := hrel
  by_cases h0 : 0 < m
  ·have hacc : acc.length + 1 ≤ 8 := by
    have h1 := HN.out
    rw [← HA.out, lowB_pos (by omega)] at h1
    simp at h1; omega
   have h0' : (0 : Int) < (m : Int) := by omega
   go_wp2_with ((with_reducible refine gate_builtin (b := .append) (xs := #[.tmp 8, .tmp 11]) rfl ?_); at_builtin; refine wpList_append_z w.heap.size rfl (.tmp 8) (.tmp 11) rfl _ acc ((m : Int) % 256) rfl rfl HO.out HB.out.size (by omega) ?_; intro v' w' ho hg)
   go_roundw
   case rel =>
    obtain ⟨A2, n2, c2, rfl⟩ := ho.form
    refine ⟨m / 256, acc ++ [(m : Int) % 256], A2, n2, c2, by go_num, rfl, ⟨by have := hm.out; omega⟩, ⟨(HB.out.alloc HB.out.size _).grown hg (by have := HB.out.size; simp; omega) (fun k hk => HO.out.lo k hk)⟩, ⟨?_⟩, ⟨ho⟩⟩
    rw [← HA.out, lowB_pos (n := m) (by omega)]
    simp
   case measure => simp [intOf]; omega
  ·obtain rfl : m = 0 := by omega
   have HZ := Aside0.mk (show acc = lowB n by have := HA.out; rw [lowB_zero, List.append_nil] at this; exact this)
   go_wp2
   go_ret
   exact ⟨_, rfl, by rw [← HZ.out]; exact HO.out, HB.out⟩
def pad8 (l : List Int) : List Int := l ++ List.replicate (8 - l.length) 0
theorem OwnZ.full {w : World} {base g n cap : Nat} {l : List Int} (h : OwnZ w base (.slice (some ⟨g, 0, none⟩) n cap) l) (m : Nat) (hm : l.length ≤ m) (hc : m ≤ cap) : Own w base (.slice (some ⟨g, 0, none⟩) m cap) (l ++ List.replicate (m - l.length) 0) := by
 rcases h with ⟨h, _⟩ | ⟨g', cap', cur, h0, h1, h2, h3, h4, h5⟩
 ·cases h
 ·simp only [Value.slice.injEq, Option.some.injEq, Addr.mk.injEq, and_true] at h0
  obtain ⟨rfl, _, rfl⟩ := h0
  refine Kd.R_of_own (enc := Value.int .u8) ?_ (fun _ _ => trivial)
  have hl : (l ++ List.replicate (m - l.length) (0 : Int)).length = m := by simp; omega
  refine ⟨by simp [encs], .inr ⟨g, cap, cur, by rw [hl], h1, h2, by omega, h4, ?_, ?_⟩⟩
  ·rw [← Array.length_toList, h5]; simp; omega
  ·rw [h5, hl, Nat.mul_one, List.take_append, List.length_map, List.take_of_length_le (by simp; omega), List.take_replicate]
   simp only [encs, List.map_append, List.map_replicate]
   congr 2
   omega
theorem own_form8 {w : World} {base : Nat} {v : Value} {l : List Int} (h : Own w base v l) (hl : l.length = 8) : ∃ g cap, v = .slice (some ⟨g, 0, none⟩) 8 cap ∧ 8 ≤ cap := by
 obtain ⟨A, c, e, hc, _⟩ := Kd.R_reads h
 obtain ⟨g, cap, e2, _⟩ := Kd.R_form h (by omega)
 rw [hl] at e2 hc e
 refine ⟨g, cap, e2, ?_⟩
 rw [e] at e2
 injection e2 with _ _ e3
 omega
theorem own_form8' {w : World} {base : Nat} {v : Value} {l : List Int} (h : Own w base v (l ++ List.replicate 8 0)) (hl : l.length ≤ 8) : ∃ g cap, v = .slice (some ⟨g, 0, none⟩) (l.length + 8) cap ∧ l.length + 8 ≤ cap ∧ Own w base (.slice (some ⟨g, 0, none⟩) 8 cap) (pad8 l) := by
 obtain ⟨A, c, e, hc, _⟩ := Kd.R_reads h
 obtain ⟨g, cap, e2, _⟩ := Kd.R_form h (by simp)
 have hlen : (l ++ List.replicate 8 (0 : Int)).length = l.length + 8 := by simp
 rw [hlen] at e2 hc e
 subst e2
 injection e with e1 _ e3
 refine ⟨g, cap, rfl, by omega, ?_⟩
 have ht := Kd.R_take (m := 8) h (by omega)
 have hp : (l ++ List.replicate 8 (0 : Int)).take 8 = pad8 l := by
  unfold pad8
  rw [List.take_append, List.take_of_length_le hl, List.take_replicate]
  congr 2; omega
 rw [hp] at ht
 exact ht
set_option maxHeartbeats 1000000 in
theorem grow8 (v : Value) (l : List Int) (base : Nat) (w : World) (h : OwnZ w base v l) (hl : l.length ≤ 8) (hb : base ≤ w.heap.size) :
  Calls Tryz.prog 151 #[v, .int .i64 8] w fun e w' => ∃ g cap, e = .returned (.slice (some ⟨g, 0, none⟩) l.length cap) ∧ 8 ≤ cap ∧ Own w' base (.slice (some ⟨g, 0, none⟩) 8 cap) (pad8 l) ∧ Below base w w' := by
 rcases h with ⟨rfl, rfl⟩ | ⟨g, cap, cur, rfl, h1, h2, h3, h4, h5⟩
 ·go_enter Tryz.func151, Tryz.ntmps151
  go_wp2_with ((with_reducible refine gate_builtin (b := .append) (xs := #[.tmp 20, .tmp 21]) rfl ?_); at_builtin; refine Kd.R_append_zeros (Kd.int .u8) (w0 := w) base rfl (.tmp 20) (.tmp 21) 23 3 5 (.int .u8 0) 1 rfl Tryz.underlying23 Tryz.underlying3 infoU8 rfl (by decide) (by decide) (.slice none 0 0) [] 0 8 (fun _ => True) rfl rfl rfl (fun _ _ => trivial) (Kd.R_nil _ _ _ _ _) (by decide) (Below.refl _ _) hb (by decide) ?_; intro v1 w1 ho hbl _ _; obtain ⟨g, cap, hv1, hc1⟩ := own_form8 ho (by simp); subst hv1)
  go_ret
  exact ⟨g, cap, rfl, hc1, ho, hbl⟩
 ·have HZ : OwnZ w base (.slice (some ⟨g, 0, none⟩) l.length cap) l := .inr ⟨g, cap, cur, rfl, h1, h2, h3, h4, h5⟩
  have hcm : (cap : Int) ≤ 9223372036854775807 := by unfold maxLen at h4; omega
  clear h1 h2 h4 h5
  by_cases hr : 8 ≤ cap - l.length
  ·have HO := Aside0.mk (HZ.full 8 (by omega) (by omega))
   have hr' : ¬ (0 : Int) < 8 - ((cap : Int) - (l.length : Int)) := by omega
   have hr2 : decide ((0 : Int) < 8 - ((cap : Int) - (l.length : Int))) = false := decide_eq_false hr'
   clear HZ
   go_enter Tryz.func151, Tryz.ntmps151
   go_wp2
   go_ret
   exact ⟨g, cap, rfl, by omega, HO.out, Below.refl _ _⟩
  ·have HO := Aside0.mk (HZ.full cap (by omega) (Nat.le_refl _))
   have hr' : (0 : Int) < 8 - ((cap : Int) - (l.length : Int)) := by omega
   have HE := Aside0.mk (show l ++ List.replicate (cap - l.length) (0 : Int) ++ List.replicate (8 - ((cap : Int) - (l.length : Int))).toNat 0 = l ++ List.replicate 8 0 by
    rw [List.append_assoc, List.replicate_append_replicate]; congr 2; omega)
   have hcl : (l ++ List.replicate (cap - l.length) (0 : Int)).length = cap := by simp; omega
   have HCL := Aside0.mk hcl
   clear HZ hcl
   go_enter Tryz.func151, Tryz.ntmps151
   go_wp2_with ((with_reducible refine gate_builtin (b := .append) (xs := #[.tmp 20, .tmp 21]) rfl ?_); at_builtin; refine Kd.R_append_zeros (Kd.int .u8) (w0 := w) base rfl (.tmp 20) (.tmp 21) 23 3 5 (.int .u8 0) 1 rfl Tryz.underlying23 Tryz.underlying3 infoU8 rfl (by decide) (by decide) _ _ 0 (8 - ((cap : Int) - (l.length : Int))) (fun _ => True) rfl rfl rfl (fun _ _ => trivial) HO.out (by omega) (Below.refl _ _) hb (by rw [HCL.out]; omega) ?_; intro v1 w1 ho hbl _ _; rw [HE.out] at ho; obtain ⟨g2, cap2, hv1, hc1, ho2⟩ := own_form8' ho hl; clear ho; subst hv1)
   go_ret
   exact ⟨g2, cap2, rfl, by omega, ho2, hbl⟩
def eightB (u : Nat) : List Int := pad8 (lowB u)
theorem eight_calls (u : Nat) (hu : u < 256 ^ 8) (w : World) :
  Calls Tryz.prog 102 #[.int .u64 (u : Int)] w fun e w' => ∃ v0_, e = .returned v0_ ∧ Own w' w.heap.size v0_ (eightB u) ∧ Below w.heap.size w w' := by
 have HL := Aside0.mk (lowB_len u 8 hu)
 have HU := Aside0.mk hu
 clear hu
 go_enter Tryz.func102, Tryz.ntmps102
 go_wp2_with fail
 refine (low_z u HU.out w).mono ?_
 rintro e w1 ⟨v, rfl, ho, hb⟩
 have HO := Aside0.mk ho
 have HB := Aside0.mk hb
 clear ho hb
 go_wp2_with fail
 refine (grow8 v (lowB u) w.heap.size w1 HO.out HL.out HB.out.size).mono ?_
 rintro e w2 ⟨g, cap, rfl, hc, ho2, hb2⟩
 have HO2 := Aside0.mk ho2
 have HB2 := Aside0.mk hb2
 have hc' : (8 : Int) ≤ (cap : Int) := by omega
 have hll := HL.out
 clear ho2 hb2
 go_wp2
 go_ret
 exact ⟨_, rfl, HO2.out, HB.out.trans HB2.out⟩
end Go.Proofs.YtgiefblcckikeaaGreat.M
namespace Go.Proofs.YtgiefblcckikeaaGreat.G
open Go.RowKit Go.Proofs.YtgiefblcckikeaaGreatW.PrintWords Go.Proofs.YtgiefblcckikeaaGreat.M
def shape_eight.f (a0 : Int) : Option (List Int) := if 0 ≤ a0 ∧ a0 ≤ 18446744073709551615 then some (eightB a0.toNat) else none
theorem shape_eight.calls (a0 : Int) (r : List Int) (w : World) (h : shape_eight.f a0 = some r) :
  Calls Tryz.prog 102 #[.int .u64 a0] w fun e w' => ∃ v0_ : Value, e = .returned (v0_) ∧ Kd.R (Kd.int .u8) 5 w' w.heap.size (fun _ => True) v0_ r ∧ Below w.heap.size w w' := by
 unfold shape_eight.f at h
 split at h
 ·rename_i hh
  obtain rfl := Option.some.inj h
  have := eight_calls a0.toNat (by omega) w
  rwa [show ((a0.toNat : Nat) : Int) = a0 from by omega] at this
 ·cases h
end Go.Proofs.YtgiefblcckikeaaGreat.G
end

section
-- Written by a program of this session's (wip/gprint.py over the kit's printer).
namespace Go.Proofs.YtgiefblcckikeaaGreat.G
open Go.RowKit Go.Proofs.YtgiefblcckikeaaGreatW.PrintWords Go.Proofs.YtgiefblcckikeaaGreatW.PrintLast Go.Proofs.YtgiefblcckikeaaGreatW.PrintMore
attribute [local go_sem] max2_int min2_int max_two min_two max_three min_three max_four min_four   -- for this text's walks alone
end Go.Proofs.YtgiefblcckikeaaGreat.G
end

section
-- Written by a program of this session's (wip/gprint.py over the kit's printer).
namespace Go.Proofs.YtgiefblcckikeaaGreat.G
open Go.RowKit Go.Proofs.YtgiefblcckikeaaGreatW.PrintWords Go.Proofs.YtgiefblcckikeaaGreatW.PrintLast Go.Proofs.YtgiefblcckikeaaGreatW.PrintMore
attribute [local go_sem] max2_int min2_int max_two min_two max_three min_three max_four min_four   -- for this text's walks alone
mutual
def shape_Check.l0 : Nat → Int → List (List Int) → Int → Int → Option (Int)
 | 0, _, _, _, _ => none
 | k + 1, x3, x8, x9, x10 => if x10 < x9 then (if 0 ≤ x10 then (if x10 < (x8.length : Int) then (shape_Check.l1 k x3 x8 x9 x10 (rd_L4 x8 x10) ((rd_L4 x8 x10).length : Int) 0) else (none)) else (none)) else (some x3)
def shape_Check.l1 : Nat → Int → List (List Int) → Int → Int → List Int → Int → Int → Option (Int)
 | 0, _, _, _, _, _, _, _ => none
 | k + 1, x3, x8, x9, x10, x14, x15, x16 => if x16 < x15 then (if 0 ≤ x16 then (if x16 < (x14.length : Int) then (shape_Check.l1 k (IntKind.u64.wrap ((Go.bits .xor .u64 x3 (IntKind.u64.wrap (rd x14 x16))) * 1099511628211)) x8 x9 x10 x14 x15 (wrap64 (x16 + 1))) else (none)) else (none)) else (shape_Check.l0 k x3 x8 x9 (wrap64 (x10 + 1)))
end
def shape_Check.f (k : Nat) (l0 : List (List Int)) : Option (Int) := shape_Check.l0 k 14695981039346656037 l0 (l0.length : Int) 0
theorem shape_Check.mono_l : ∀ k, (∀ y0 y1 y2 y3, LeO (shape_Check.l0 k y0 y1 y2 y3) (shape_Check.l0 (k + 1) y0 y1 y2 y3)) ∧ (∀ y0 y1 y2 y3 y4 y5 y6, LeO (shape_Check.l1 k y0 y1 y2 y3 y4 y5 y6) (shape_Check.l1 (k + 1) y0 y1 y2 y3 y4 y5 y6))
 | 0 => ⟨fun _ _ _ _ r h => by simp [shape_Check.l0] at h, fun _ _ _ _ _ _ _ r h => by simp [shape_Check.l1] at h⟩
 | k + 1 => by
  obtain ⟨ih0, ih1⟩ := shape_Check.mono_l k
  refine ⟨?_, ?_⟩
  ·intro y0 y1 y2 y3
   unfold shape_Check.l0
   repeat' first
   | (with_reducible exact ih0 _ _ _ _)
   | (with_reducible exact ih1 _ _ _ _ _ _ _)
   | (with_reducible exact LeO.refl _)
   | (with_reducible exact LeO.none _)
   | (with_reducible refine LeO.ite ?_ ?_)
   | (with_reducible refine LeO.bind ?_ (fun _ => ?_))
   | exact ih0 _ _ _ _
   | exact ih1 _ _ _ _ _ _ _
   | exact LeO.none _
   | refine LeO.ite ?_ ?_
   | refine LeO.bind ?_ (fun _ => ?_)
  ·intro y0 y1 y2 y3 y4 y5 y6
   unfold shape_Check.l1
   repeat' first
   | (with_reducible exact ih0 _ _ _ _)
   | (with_reducible exact ih1 _ _ _ _ _ _ _)
   | (with_reducible exact LeO.refl _)
   | (with_reducible exact LeO.none _)
   | (with_reducible refine LeO.ite ?_ ?_)
   | (with_reducible refine LeO.bind ?_ (fun _ => ?_))
   | exact ih0 _ _ _ _
   | exact ih1 _ _ _ _ _ _ _
   | exact LeO.none _
   | refine LeO.ite ?_ ?_
   | refine LeO.bind ?_ (fun _ => ?_)
theorem shape_Check.mono : ∀ a0 k, LeO (shape_Check.f k a0) (shape_Check.f (k + 1) a0) := by
 intro a0 k
 obtain ⟨ih0, ih1⟩ := shape_Check.mono_l k
 unfold shape_Check.f
 repeat' first
   | (with_reducible exact ih0 _ _ _ _)
   | (with_reducible exact ih1 _ _ _ _ _ _ _)
   | (with_reducible exact LeO.refl _)
   | (with_reducible exact LeO.none _)
   | (with_reducible refine LeO.ite ?_ ?_)
   | (with_reducible refine LeO.bind ?_ (fun _ => ?_))
   | exact ih0 _ _ _ _
   | exact ih1 _ _ _ _ _ _ _
   | exact LeO.none _
   | refine LeO.ite ?_ ?_
   | refine LeO.bind ?_ (fun _ => ?_)
set_option maxHeartbeats 8000000 in
set_option maxRecDepth 100000 in
theorem shape_Check.calls (k : Nat) (A0 : Option Addr) (c0 : Nat) (l0 : List (List Int)) (r : Int) (w : World) (hr0 : Kd.C (Kd.slice 5 (Kd.int .u8)) w A0 l0.length l0) (hc0 : l0.length ≤ c0) (h : shape_Check.f k l0 = some r) :
  Calls Tryz.prog 103 #[.slice A0 l0.length c0] w fun e w' => e = .returned (.int .u64 r) ∧ Drawn0 w w' := by
 have HR0 := Aside0.mk hr0
 have HC0 := Aside0.mk hc0
 clear hr0 hc0
 have H : (shape_Check.l0 k 14695981039346656037 l0 (l0.length : Int) 0) = some r := h
 clear h
 have H' := Aside0.mk H
 clear H
 go_enter Tryz.func103, Tryz.ntmps103
 go_wp2
 go_loopg [3, 10] k (fun kq v3 v10 w' => ∃ (x3_1 : Int) (x10_1 : Int), v3 = .int .u64 x3_1 ∧ v10 = .int .i64 x10_1 ∧ Aside0 (shape_Check.l0 kq x3_1 l0 (l0.length : Int) x10_1 = some r) ∧ Aside0 (kq ≤ k) ∧ Drawn0 w w')
 case atStart => exact ⟨(14695981039346656037), (0), (by first | rfl | (simp; done) | (simp [*]; done)), (by first | rfl | (simp; done) | (simp [*]; done)), H', ⟨Nat.le_refl _⟩, by repeat (first | exact Drawn0.refl _ | apply Drawn0.step)⟩
 case round =>
  clear H'
  try clear c1
  obtain ⟨x3_1, x10_1, rfl, rfl, HA, HK1, ⟨m1, rfl⟩⟩ := hrel
  cases gk with
  | zero => exact absurd HA.out (by simp [shape_Check.l0])
  | succ k1 =>
   have H := HA.out
   clear HA
   simp only [shape_Check.l0] at H
   by_cases c2 : x10_1 < (l0.length : Int)
   ·rw [if_pos c2] at H
    have c2b0 : decide (x10_1 < (l0.length : Int)) = true := decide_eq_true c2
    clear c2
    by_cases c3 : 0 ≤ x10_1
    ·rw [if_pos c3] at H
     have c3b0 : decide (0 ≤ x10_1) = true := decide_eq_true c3
     clear c3
     by_cases c4 : x10_1 < (l0.length : Int)
     ·rw [if_pos c4] at H
      have c4b0 : decide (x10_1 < (l0.length : Int)) = true := decide_eq_true c4
      clear c4
      have H' := Aside0.mk H
      clear H
      have p408 : 0 ≤ (x10_1 : Int) := of_decide_eq_true (by first | (with_reducible assumption) | assumption)
      have q408 : x10_1 < (l0.length : Int) := of_decide_eq_true (by first | (with_reducible assumption) | assumption)
      obtain ⟨ad408, A408_0, c408_0, e408, hx408_0, hl408_0, hi408_0⟩ := at_L4 HR0.out x10_1 p408 q408
      cases e408
      have HR408_0 := Aside0.mk hi408_0
      have HC408_0 := Aside0.mk hl408_0
      clear hi408_0 hl408_0
      replace p408 := eq_true p408
      replace q408 := eq_true q408
      go_wp2
      go_loopg [3, 16] k1 (fun kq v3 v16 w' => ∃ (x3_2 : Int) (x16_2 : Int), v3 = .int .u64 x3_2 ∧ v16 = .int .i64 x16_2 ∧ Aside0 (shape_Check.l1 kq x3_2 l0 (l0.length : Int) x10_1 (rd_L4 l0 x10_1) ((rd_L4 l0 x10_1).length : Int) x16_2 = some r) ∧ Aside0 (kq ≤ k1) ∧ Drawn0 w w')
      case atStart => exact ⟨(x3_1), (0), (by first | rfl | (simp; done) | (simp [*]; done)), (by first | rfl | (simp; done) | (simp [*]; done)), H', ⟨Nat.le_refl _⟩, by repeat (first | exact Drawn0.refl _ | apply Drawn0.step)⟩
      case round =>
       clear H'
       try clear c1
       try clear c2
       try clear c2b0
       try clear p2
       try clear c3
       try clear c3b0
       try clear c4
       try clear c4b0
       try clear p4
       try clear q4
       try clear hx4
       try clear hx408_0
       try clear p408
       try clear q408
       obtain ⟨x3_2, x16_2, rfl, rfl, HA, HK2, ⟨m2, rfl⟩⟩ := hrel
       cases gk with
       | zero => exact absurd HA.out (by simp [shape_Check.l1])
       | succ k2 =>
        have H := HA.out
        clear HA
        simp only [shape_Check.l1] at H
        by_cases c5 : x16_2 < ((rd_L4 l0 x10_1).length : Int)
        ·rw [if_pos c5] at H
         have c5b0 : decide (x16_2 < ((rd_L4 l0 x10_1).length : Int)) = true := decide_eq_true c5
         clear c5
         by_cases c6 : 0 ≤ x16_2
         ·rw [if_pos c6] at H
          have c6b0 : decide (0 ≤ x16_2) = true := decide_eq_true c6
          clear c6
          by_cases c7 : x16_2 < ((rd_L4 l0 x10_1).length : Int)
          ·rw [if_pos c7] at H
           have c7b0 : decide (x16_2 < ((rd_L4 l0 x10_1).length : Int)) = true := decide_eq_true c7
           clear c7
           have H' := Aside0.mk H
           clear H
           have p409 : 0 ≤ (x16_2 : Int) := of_decide_eq_true (by first | (with_reducible assumption) | assumption)
           have q409 : x16_2 < ((rd_L4 l0 x10_1).length : Int) := of_decide_eq_true (by first | (with_reducible assumption) | assumption)
           obtain ⟨ad409, e409, hx409_0⟩ := Kd.at_int HR408_0.out x16_2 p409 q409
           cases e409
           replace p409 := eq_true p409
           replace q409 := eq_true q409
           go_wp2
           go_roundg k2
           case measure => have := HK1.out; have := HK2.out; omega
           case rel => exact ⟨(IntKind.u64.wrap ((Go.bits .xor .u64 x3_2 (IntKind.u64.wrap (rd (rd_L4 l0 x10_1) x16_2))) * 1099511628211)), (wrap64 (x16_2 + 1)), (by first | rfl | (simp; done) | (simp [*]; done)), (by first | rfl | (simp; done) | (simp [*]; done)), H', ⟨by have := HK1.out; have := HK2.out; omega⟩, by repeat (first | exact Drawn0.refl _ | apply Drawn0.step)⟩
          ·rw [if_neg c7] at H
           exact absurd H (by simp)
         ·rw [if_neg c6] at H
          exact absurd H (by simp)
        ·rw [if_neg c5] at H
         have c5b0 : decide (x16_2 < ((rd_L4 l0 x10_1).length : Int)) = false := decide_eq_false c5
         clear c5
         have H' := Aside0.mk H
         clear H
         go_wp2
         go_roundg k2
         case measure => have := HK1.out; have := HK2.out; omega
         case rel => exact ⟨(x3_2), (wrap64 (x10_1 + 1)), (by first | rfl | (simp; done) | (simp [*]; done)), (by first | rfl | (simp; done) | (simp [*]; done)), H', ⟨by have := HK1.out; have := HK2.out; omega⟩, by repeat (first | exact Drawn0.refl _ | apply Drawn0.step)⟩
     ·rw [if_neg c4] at H
      exact absurd H (by simp)
    ·rw [if_neg c3] at H
     exact absurd H (by simp)
   ·rw [if_neg c2] at H
    have c2b0 : decide (x10_1 < (l0.length : Int)) = false := decide_eq_false c2
    clear c2
    obtain rfl := Option.some.inj H
    go_wp2
    go_ret
    exact ⟨by first | rfl | (simp; done) | (simp [*]; done), by repeat (first | exact Drawn0.refl _ | apply Drawn0.step)⟩
end Go.Proofs.YtgiefblcckikeaaGreat.G
end

section
-- Written by a program of this session's (wip/gprint.py over the kit's printer).
namespace Go.Proofs.YtgiefblcckikeaaGreat.G
open Go.RowKit Go.Proofs.YtgiefblcckikeaaGreatW.PrintWords Go.Proofs.YtgiefblcckikeaaGreatW.PrintLast Go.Proofs.YtgiefblcckikeaaGreatW.PrintMore
attribute [local go_sem] max2_int min2_int max_two min_two max_three min_three max_four min_four   -- for this text's walks alone
end Go.Proofs.YtgiefblcckikeaaGreat.G
end

section
-- Written by a program of this session's (wip/gprint.py over the kit's printer).
namespace Go.Proofs.YtgiefblcckikeaaGreat.G
open Go.RowKit Go.Proofs.YtgiefblcckikeaaGreatW.PrintWords Go.Proofs.YtgiefblcckikeaaGreatW.PrintLast Go.Proofs.YtgiefblcckikeaaGreatW.PrintMore
attribute [local go_sem] max2_int min2_int max_two min_two max_three min_three max_four min_four   -- for this text's walks alone
end Go.Proofs.YtgiefblcckikeaaGreat.G
end

section
/- An entry's and a message's form (the reference's) are entB, msgB. -/
set_option maxRecDepth 100000
namespace Go.Proofs.YtgiefblcckikeaaGreat.M
open Go.RowKit Go.Proofs.YtgiefblcckikeaaGreatW.PrintWords Go.Proofs.YtgiefblcckikeaaGreat.G
end Go.Proofs.YtgiefblcckikeaaGreat.M
end

section
/- Seals, in plain Lean: what both Seals write (printed by genseal04.py out of law01's rows). -/
set_option maxRecDepth 100000
namespace Go.Proofs.YtgiefblcckikeaaGreat.M
open Go.RowKit Go.Proofs.YtgiefblcckikeaaGreatW.PrintWords Go.Proofs.YtgiefblcckikeaaGreatW.PrintMore Go.Proofs.YtgiefblcckikeaaGreat.G
def chkFrom (h : Int) (l : List Int) : Int := l.foldl (fun h c => IntKind.u64.wrap ((Go.bits .xor .u64 h (IntKind.u64.wrap c)) * 1099511628211)) h
def chk (l : List Int) : Int := chkFrom 14695981039346656037 l
theorem chkFrom_cons (h c : Int) (l : List Int) : chkFrom h (c :: l) = chkFrom (IntKind.u64.wrap ((Go.bits .xor .u64 h (IntKind.u64.wrap c)) * 1099511628211)) l := rfl
theorem chkFrom_append (h : Int) (l m : List Int) : chkFrom h (l ++ m) = chkFrom (chkFrom h l) m := List.foldl_append ..
theorem check_l1 (d : Nat) : ∀ (k : Nat) (h : Int) (L : List (List Int)) (n i : Int) (x : List Int) (j : Nat), x.length - j = d → j ≤ x.length → (x.length : Int) ≤ 140737488355328 → d < k →
  shape_Check.l1 k h L n i x (x.length : Int) (j : Int) = shape_Check.l0 (k - d - 1) (chkFrom h (x.drop j)) L n (wrap64 (i + 1)) := by
 induction d with
 | zero =>
  intro k h L n i x j hd hj hx hk
  obtain ⟨k, rfl⟩ : ∃ m, k = m + 1 := ⟨k - 1, by omega⟩
  simp only [shape_Check.l1]
  rw [if_neg (by omega), List.drop_eq_nil_of_le (by omega)]
  rfl
 | succ d ih =>
  intro k h L n i x j hd hj hx hk
  obtain ⟨k, rfl⟩ : ∃ m, k = m + 1 := ⟨k - 1, by omega⟩
  have hlt : j < x.length := by omega
  simp only [shape_Check.l1]
  rw [if_pos (by omega), if_pos (by omega), if_pos (by omega)]
  have hw : wrap64 ((j : Int) + 1) = ((j + 1 : Nat) : Int) := by unfold wrap64; omega
  rw [hw, ih k _ L n i x (j + 1) (by omega) (by omega) hx (by omega), List.drop_eq_getElem_cons hlt, chkFrom_cons]
  have hr : rd x (j : Int) = x[j] := by simp [rd, List.getD_eq_getElem?_getD, List.getElem?_eq_getElem hlt]
  rw [hr]
  congr 1
  omega
theorem check_l0 (L : List (List Int)) (hL : (L.length : Int) ≤ 140737488355328) (hx : ∀ x ∈ L, (x.length : Int) ≤ 140737488355328) (d : Nat) : ∀ (i : Nat) (h : Int), L.length - i = d → i ≤ L.length →
  ∃ K, ∀ k, K ≤ k → shape_Check.l0 k h L (L.length : Int) (i : Int) = some (chkFrom h (L.drop i).flatten) := by
 induction d with
 | zero =>
  intro i h hd hi
  refine ⟨1, fun k hk => ?_⟩
  obtain ⟨k, rfl⟩ : ∃ m, k = m + 1 := ⟨k - 1, by omega⟩
  simp only [shape_Check.l0]
  rw [if_neg (by omega), List.drop_eq_nil_of_le (by omega)]
  rfl
 | succ d ih =>
  intro i h hd hi
  have hlt : i < L.length := by omega
  have hr : rd_L4 L (i : Int) = L[i] := by simp [rd_L4, List.getD_eq_getElem?_getD, List.getElem?_eq_getElem hlt]
  obtain ⟨K, hK⟩ := ih (i + 1) (chkFrom h L[i]) (by omega) (by omega)
  refine ⟨K + L[i].length + 2, fun k hk => ?_⟩
  obtain ⟨k, rfl⟩ : ∃ m, k = m + 1 := ⟨k - 1, by omega⟩
  simp only [shape_Check.l0]
  rw [if_pos (by omega), if_pos (by omega), if_pos (by omega), hr]
  have h1 := check_l1 L[i].length k h L (L.length : Int) (i : Int) L[i] 0 (by omega) (by omega) (hx _ (List.getElem_mem hlt)) (by omega)
  rw [show ((0 : Nat) : Int) = 0 from rfl] at h1
  rw [h1]
  have hw : wrap64 ((i : Int) + 1) = ((i + 1 : Nat) : Int) := by unfold wrap64; omega
  rw [hw, List.drop_zero, hK _ (by omega), List.drop_eq_getElem_cons hlt, List.flatten_cons, chkFrom_append]
theorem chk_f (L : List (List Int)) (hL : (L.length : Int) ≤ 140737488355328) (hx : ∀ x ∈ L, (x.length : Int) ≤ 140737488355328) : ∃ K, ∀ k, K ≤ k → shape_Check.f k L = some (chk L.flatten) := by
 obtain ⟨K, hK⟩ := check_l0 L hL hx L.length 0 14695981039346656037 (by omega) (by omega)
 exact ⟨K, fun k hk => by unfold shape_Check.f; exact hK k hk⟩
theorem chkFrom_range (h : Int) (l : List Int) (hh : 0 ≤ h ∧ h ≤ 18446744073709551615) : 0 ≤ chkFrom h l ∧ chkFrom h l ≤ 18446744073709551615 := by
 induction l generalizing h with
 | nil => exact hh
 | cons c l ih => rw [chkFrom_cons]; exact ih _ (by rw [IntKind.wrap_u64]; omega)
theorem chk_range (l : List Int) : 0 ≤ chk l ∧ chk l ≤ 18446744073709551615 := chkFrom_range _ l (by decide)
def sealB (l : List Int) : List Int := eightB (chk l).toNat
theorem ref_check_l0 (l : List Int) (hl : l.length < 140737488355328) (d : Nat) : ∀ (k j : Nat) (h : Int), l.length - j = d → j ≤ l.length → d < k → trivetref01_Check.l0 k l h (j : Int) = some (chkFrom h (l.drop j)) := by
 induction d with
 | zero =>
  intro k j h hd hj hk
  obtain ⟨k, rfl⟩ : ∃ q, k = q + 1 := ⟨k - 1, by omega⟩
  simp only [trivetref01_Check.l0]
  rw [if_neg (by omega), List.drop_eq_nil_of_le (by omega)]
  rfl
 | succ d ih =>
  intro k j h hd hj hk
  obtain ⟨k, rfl⟩ : ∃ q, k = q + 1 := ⟨k - 1, by omega⟩
  have hlt : j < l.length := by omega
  have hr : rd l (j : Int) = l[j] := by simp [rd, List.getD_eq_getElem?_getD, List.getElem?_eq_getElem hlt]
  have hw : wrap64 ((j : Int) + 1) = ((j + 1 : Nat) : Int) := by unfold wrap64; omega
  simp only [trivetref01_Check.l0]
  rw [if_pos (by omega), if_pos (by omega), hw, ih k (j + 1) _ (by omega) (by omega) (by omega), hr, List.drop_eq_getElem_cons hlt, chkFrom_cons]
theorem ref_check (l : List Int) (hl : l.length < 140737488355328) (k : Nat) (hk : l.length < k) : trivetref01_Check.f k l = some (chk l) := by
 unfold trivetref01_Check.f
 have := ref_check_l0 l hl l.length k 0 14695981039346656037 (by omega) (by omega) hk
 rw [show ((0 : Nat) : Int) = 0 from rfl, List.drop_zero] at this
 exact this
def padN : Nat → Nat → List Int
 | 0, _ => []
 | k + 1, n => ((n % 256 : Nat) : Int) :: padN k (n / 256)
theorem padN_low (k : Nat) : ∀ n, n < 256 ^ k → padN k n = lowB n ++ List.replicate (k - (lowB n).length) 0 := by
 induction k with
 | zero =>
  intro n hn
  obtain rfl : n = 0 := by simpa using hn
  simp [padN, lowB_zero]
 | succ k ih =>
  intro n hn
  have hi := ih (n / 256) (by rw [Nat.pow_succ] at hn; omega)
  by_cases h0 : n = 0
  ·subst h0
   simp only [padN, Nat.zero_mod, Nat.zero_div] at hi ⊢
   rw [hi, lowB_zero]
   simp [List.replicate_succ]
  ·rw [lowB_pos h0, padN, hi, List.length_cons, List.cons_append, Nat.add_sub_add_right]
theorem ref_low_l0 (n : Nat) (d : Nat) : ∀ (k j : Nat) (acc : List Int), 8 - j = d → j ≤ 8 → acc.length = j → d < k → trivetref01_low.l0 k (n : Int) acc (j : Int) = some (acc ++ padN d (n / 256 ^ j)) := by
 induction d with
 | zero =>
  intro k j acc hd hj ha hk
  obtain ⟨k, rfl⟩ : ∃ q, k = q + 1 := ⟨k - 1, by omega⟩
  simp only [trivetref01_low.l0]
  rw [if_neg (by omega)]
  simp [padN]
 | succ d ih =>
  intro k j acc hd hj ha hk
  obtain ⟨k, rfl⟩ : ∃ q, k = q + 1 := ⟨k - 1, by omega⟩
  have hw : wrap64 ((j : Int) + 1) = ((j + 1 : Nat) : Int) := by unfold wrap64; omega
  have hw8 : wrap64 (8 * (j : Int)) = ((8 * j : Nat) : Int) := by unfold wrap64; omega
  have hs : shr .u64 (n : Int) ((8 * j : Nat) : Int) % 256 = ((n / 256 ^ j % 256 : Nat) : Int) := by
   unfold shr
   have hb : IntKind.u64.bits = 64 := rfl
   have hp : (2 : Int) ^ (8 * j) = ((256 ^ j : Nat) : Int) := by
    rw [show (2 : Int) = ((2 : Nat) : Int) from rfl, ← Int.natCast_pow, Nat.pow_mul]
   rw [hb, Int.toNat_natCast, Nat.min_eq_left (by omega), hp]
   first | rfl | norm_cast
  simp only [trivetref01_low.l0]
  rw [if_pos (by omega), hw8, if_pos (by omega), if_pos (by omega), hs, hw, ih k (j + 1) _ (by omega) (by omega) (by simp; omega) (by omega), padN, List.append_assoc, List.singleton_append, Nat.div_div_eq_div_mul, Nat.pow_succ]
theorem ref_low (n : Int) (h : 0 ≤ n ∧ n ≤ 18446744073709551615) (k : Nat) (hk : 8 < k) : trivetref01_low.f k n = some (eightB n.toNat) := by
 unfold trivetref01_low.f
 have := ref_low_l0 n.toNat 8 k 0 [] (by omega) (by omega) rfl hk
 rw [show ((0 : Nat) : Int) = 0 from rfl, show ((n.toNat : Nat) : Int) = n from by omega] at this
 rw [this, Nat.pow_zero, Nat.div_one, padN_low 8 _ (by omega)]
 rfl
end Go.Proofs.YtgiefblcckikeaaGreat.M
end

section
/- slices.Equal of bytes, shape.Unseal (printed by genuns04.py out of law01's rows). -/
set_option maxRecDepth 100000
namespace Go.Proofs.YtgiefblcckikeaaGreat.M
open Go.RowKit Go.Proofs.YtgiefblcckikeaaGreatW.PrintWords Go.Proofs.YtgiefblcckikeaaGreatW.PrintLast Go.Proofs.YtgiefblcckikeaaGreatW.PrintMore Go.Proofs.YtgiefblcckikeaaGreat.G
set_option maxHeartbeats 1000000 in
theorem equal_calls (A : Option Addr) (c0 : Nat) (l0 : List Int) (B : Option Addr) (c1 : Nat) (l1 : List Int) (w : World) (hr0 : Kd.C (Kd.int .u8) w A l0.length l0) (hr1 : Kd.C (Kd.int .u8) w B l1.length l1) :
  Calls Tryz.prog 124 #[.slice A l0.length c0, .slice B l1.length c1] w fun e w' => e = .returned (.bool (decide (l0 = l1))) ∧ Drawn0 w w' := by
 have HR0 := Aside0.mk hr0
 have HR1 := Aside0.mk hr1
 have hm0 : (l0.length : Int) ≤ 9223372036854775807 := by have := Kd.C_max hr0; omega
 clear hr0 hr1
 by_cases hl : l0.length = l1.length
 ·have hl1 : ((l0.length : Int) != (l1.length : Int)) = false := by rw [bne_eq_false_iff_eq]; omega
  have HL := Aside0.mk hl
  clear hl
  go_enter Tryz.func124, Tryz.ntmps124
  go_wp2
  go_loopw [5, 13] (fun _ i wr => ∃ j : Nat, j ≤ l0.length ∧ i = .int .i64 (j : Int) ∧ Aside0 (l0.take j = l1.take j) ∧ Aside0 (Drawn0 w wr)) (fun _ i _ => l0.length - (intOf i).toNat)
  case atStart => exact ⟨0, Nat.zero_le _, rfl, ⟨rfl⟩, ⟨Drawn0.refl _⟩⟩
  case round =>
   obtain ⟨j, hj, rfl, HE, HD⟩ := hrel
   by_cases hlt : j < l0.length
   ·have hlt0 : (j : Int) < (l0.length : Int) := by omega
    have hlt1 : (j : Int) < (l1.length : Int) := by have := HL.out; omega
    have hj0 : (0 : Int) ≤ (j : Int) := by omega
    obtain ⟨ad0, hA, hx0⟩ := Kd.at_int (Kd.C_below HR0.out HD.out.below) (j : Int) hj0 hlt0
    obtain ⟨ad1, hB, hx1⟩ := Kd.at_int (Kd.C_below HR1.out HD.out.below) (j : Int) hj0 hlt1
    subst hA hB
    rw [Int.toNat_natCast] at hx0 hx1
    have HT0 := Aside0.mk (take_snoc_int l0 j hlt)
    have HT1 := Aside0.mk (take_snoc_int l1 j (by omega))
    by_cases he : rd l0 j = rd l1 j
    ·have he1 : (rd l0 j != rd l1 j) = false := bne_eq_false_iff_eq.2 he
     have HEE := Aside0.mk he
     clear he
     go_wp2
     go_quiet (fail)
     go_wp2
     go_roundw
     case rel => exact ⟨j + 1, by omega, by go_num, ⟨by rw [HT0.out, HT1.out, HE.out, HEE.out]⟩, ⟨HD.out.step _⟩⟩
     case measure => simp [intOf]; omega
    ·have he1 : (rd l0 j != rd l1 j) = true := bne_iff_ne.2 he
     have HF := Aside0.mk (show decide (l0 = l1) = false from decide_eq_false (fun e => he (by rw [e])))
     clear he
     go_wp2
     go_quiet (fail)
     go_wp2
     go_ret
     exact ⟨by rw [HF.out]; rfl, HD.out.step _⟩
   ·obtain rfl : j = l0.length := by omega
    have HF := Aside0.mk (show decide (l0 = l1) = true from decide_eq_true (by
     have := HE.out
     rw [List.take_length] at this
     rw [this, HL.out, List.take_length]))
    clear hlt
    go_wp2
    go_ret
    exact ⟨by rw [HF.out]; rfl, HD.out⟩
 ·have hl1 : ((l0.length : Int) != (l1.length : Int)) = true := by rw [bne_iff_ne]; omega
  have HF := Aside0.mk (show decide (l0 = l1) = false from decide_eq_false (fun e => hl (by rw [e])))
  clear hl
  go_enter Tryz.func124, Tryz.ntmps124
  go_wp2
  go_ret
  exact ⟨by rw [HF.out]; rfl, Drawn0.refl _⟩
def tail8 (l : List Int) : List Int := (l.take (blHi l + 8).toNat).drop (blHi l).toNat
def unE (l : List Int) : Int := if ¬ blE l 1048576 8 = 0 then blE l 1048576 8 else if sealB (blD l) = tail8 l then 0 else 12
def takeSeal (l : List Int) : List Int × Int × Int := if unE l = 0 then (blD l, blHi l + 8, 0) else ([], 0, unE l)
theorem C_row1 {w : World} {A : Option Addr} {c : Nat} {l : List Int} (h : Kd.C (Kd.int .u8) w A l.length l) (hc : l.length ≤ c) (e : TypeId) :
  Kd.C (Kd.slice 5 (Kd.int .u8)) (w.alloc (.cells #[.slice A l.length c] e)) (some ⟨w.heap.size, 0, none⟩) 1 [l] := by
 refine ⟨rfl, by omega, fun _ => ⟨_, rfl, fun j p hj => ?_⟩⟩
 cases j with
 | zero =>
  simp at hj
  subst hj
  refine ⟨[.slice A l.length c], rfl, ⟨A, c, rfl, hc, Kd.C_alloc h _⟩, fun i u hu => ?_⟩
  cases i with
  | zero => simp at hu; subst hu; rw [add_plain]; simp
  | succ i => simp at hu
 | succ j => simp at hj
theorem tail8_length {l : List Int} (h : 0 ≤ blHi l) (h8 : blHi l + 8 ≤ (l.length : Int)) : (tail8 l).length = (blHi l + 8).toNat - (blHi l).toNat := by
 unfold tail8
 rw [List.length_drop, List.length_take]
 omega
theorem tail_form {A : Option Addr} {c : Nat} {l : List Int} {w : World} (hr : Kd.C (Kd.int .u8) w A l.length l) (hc : l.length ≤ c) (h : 0 ≤ blHi l) (h8 : blHi l + 8 ≤ (l.length : Int)) :
  ∃ At ct, Value.slice (if c = (blHi l).toNat then A else A.map (·.add ((blHi l).toNat * 1))) ((blHi l + 8).toNat - (blHi l).toNat) (c - (blHi l).toNat) = .slice At (tail8 l).length ct ∧ (tail8 l).length ≤ ct ∧ Kd.C (Kd.int .u8) w At (tail8 l).length (tail8 l) := by
 refine ⟨_, c - (blHi l).toNat, ?_, ?_, Kd.C_mid (c := c) hr (by omega : (blHi l).toNat ≤ (blHi l + 8).toNat) (by omega) hc⟩
 ·rw [tail8_length h h8]
  rfl
 ·rw [tail8_length h h8]; omega
set_option maxHeartbeats 2000000 in
theorem takeseal1 (A : Option Addr) (c : Nat) (l : List Int) (w : World) (hr : Kd.C (Kd.int .u8) w A l.length l) (hc : l.length ≤ c) (hb : okB l = true) (hlen : l.length < 140737488355328) (b : Nat) (hx : Boxes b A c l.length (.slice none 0 0) (.int .i64 0) w) (hbs : b + 3 ≤ w.heap.size) :
  Calls Tryz.prog 121 #[.pointer (some ⟨b, 0, none⟩), .pointer (some ⟨b + 1, 0, none⟩), .pointer (some ⟨b + 2, 0, none⟩)] w fun e W => Keep2 b w W ∧
   (∃ v, W.cell? ⟨b + 1, 0, none⟩ = some v ∧ W.cell? ⟨b + 2, 0, none⟩ = some (.int .i64 (takeSeal l).2.1) ∧ W.frozen? ⟨b + 1, 0, none⟩ = false ∧ W.frozen? ⟨b + 2, 0, none⟩ = false ∧ Own W w.heap.size v (takeSeal l).1) ∧
   ((e = .returned (.tuple #[]) ∧ unE l = 0) ∨ e = .panicked [{ v := wrongV (unE l), recovered := false }]) := by
 have hT := blob_any A c l 1048576 8 w hr hc hb (by decide) (by decide) hlen
 obtain ⟨hb0, hn0, hn1, hs0, hs1⟩ := hx
 by_cases he : blE l 1048576 8 = 0
 ·obtain ⟨g1, g2, g3, g4, g5, g6⟩ := blE_good he
  obtain ⟨A', c', hV, hc', hr'⟩ := blobV_form hr hc ⟨g6, g5, by omega⟩
  have hl' : (blD l).length < 140737488355328 := by rw [blD_length ⟨g6, g5, by omega⟩]; omega
  have HT := Lib.hid (hT.mono (R' := fun e w' => w = w' ∧ e = .returned (.tuple #[.slice A' (blD l).length c', .int .i64 (blHi l)])) (by
   rintro e w' ⟨rfl, ⟨_, rfl⟩ | ⟨h, _⟩⟩
   ·exact ⟨rfl, by rw [hV]⟩
   ·exact absurd he h))
  have HR := Aside0.mk hr'
  have HRL := Aside0.mk hr
  have HU := Aside0.mk (show unE l = if sealB (blD l) = tail8 l then 0 else 12 by unfold unE; rw [if_neg (by omega)])
  obtain ⟨hi, HHI⟩ : ∃ hi, Aside0 (blHi l = hi) := ⟨_, ⟨rfl⟩⟩
  rw [HHI.out] at g4 g5 HT
  obtain ⟨K', hK⟩ := chk_f [blD l] (by simp) (by simp; omega)
  have HK := Aside0.mk (hK K' (Nat.le_refl _))
  rw [show ([blD l] : List (List Int)).flatten = blD l by simp] at HK
  obtain ⟨i0, hi0, hz0, hz1, hz2⟩ := info_parts infoU8
  have hcut := cut_mid (P := Tryz.prog) 23 5 .i64 .i64 Tryz.underlying23 hi0 1 hz1 A l.length c hi (hi + 8) (by omega) (by omega) (by omega) hc
  obtain ⟨At, ct, hVt, hct, hrt⟩ := tail_form (A := A) (c := c) (l := l) (w := w) hr hc (by rw [HHI.out]; omega) (by rw [HHI.out]; omega)
  have HRT := Aside0.mk hrt
  rw [HHI.out] at hVt
  rw [hVt] at hcut
  have HEI := Aside0.mk (show shape_eight.f (chk (blD l)) = some (sealB (blD l)) by unfold shape_eight.f sealB; rw [if_pos (chk_range _)])
  have hbl : b < w.heap.size := by omega
  have hw8 : IntKind.i64.wrap (hi + 8) = hi + 8 := by rw [IntKind.wrap_i64]; omega
  clear he hV hr' g1 g2 g3 hr hT hK hi0 hz0 hz1 hz2 hVt hrt
  go_enter Tryz.func121, Tryz.ntmps121
  go_wp2_with (go_at_call 122; refine HT.out.mono ?_; rintro e w' ⟨rfl, rfl⟩)
  by_cases heq : sealB (blD l) = tail8 l
  ·have HEQ := Aside0.mk (show decide (sealB (blD l) = tail8 l) = true from decide_eq_true heq)
   clear heq
   go_region_held3 (fun w' => w'.cell? ⟨b, 0, none⟩ = some (.slice A l.length c)) (go_keep) (first
    | (go_at_call 103; refine (shape_Check.calls K' _ 1 [blD l] _ _ (Kd.C_drew (C_row1 HR.out hc' _)) (Nat.le_refl 1) HK.out).mono ?_; rintro e w1 ⟨rfl, hd⟩; have q1 : w1.cell? ⟨b, 0, none⟩ = some (.slice A l.length c) := (hd.below.cell (by simp; omega)).trans (by simp [go_sem, hb0, hbl]); have HB1 := Aside0.mk (show Below w.heap.size w w1 from (((Below.refl _ _).alloc (Nat.le_refl _) _).drew.trans (hd.below.mono (by simp)))); clear hd)
    | (go_at_call 102; refine (shape_eight.calls (chk (blD l)) (sealB (blD l)) _ HEI.out).mono ?_; rintro e w2 ⟨v, rfl, ho, hb2⟩; obtain ⟨Av, cv, rfl, hcv, hrv⟩ := Kd.R_reads ho; have HRV := Aside0.mk hrv; have q2 : w2.cell? ⟨b, 0, none⟩ = some (.slice A l.length c) := (hb2.cell (by have := HB1.out.size; simp; omega)).trans q1; have HB2 := Aside0.mk (below_step HB1.out hb2); clear hb2 ho hrv)
    | (go_at_call 124; refine (equal_calls Av cv (sealB (blD l)) At ct (tail8 l) _ HRV.out (Kd.C_below HRT.out HB2.out)).mono ?_; rintro e w3 ⟨rfl, hd3⟩; rw [HEQ.out]; have q3 : w3.cell? ⟨b, 0, none⟩ = some (.slice A l.length c) := (hd3.below.cell (by have := HB2.out.size; simp; omega)).trans q2; have HB3 := Aside0.mk (below_step HB2.out hd3.below); clear hd3)
    | (go_at_call 123; refine (give_no _ _).mono ?_; rintro e w' ⟨rfl, rfl⟩))
   have HN := Aside0.mk (show takeSeal l = (blD l, hi + 8, 0) by
    unfold takeSeal; rw [HU.out, if_pos (of_decide_eq_true HEQ.out), if_pos rfl, HHI.out])
   have HZ := Aside0.mk (show unE l = 0 by rw [HU.out, if_pos (of_decide_eq_true HEQ.out)])
   have kn0 : w3.cell? ⟨b + 1, 0, none⟩ = some (.slice none 0 0) := (HB3.out.cell (by simp; omega)).trans hn0
   have ks0 : w3.cell? ⟨b + 2, 0, none⟩ = some (.int .i64 0) := (HB3.out.cell (by simp; omega)).trans hs0
   have kn1 : w3.frozen? ⟨b + 1, 0, none⟩ = false := (HB3.out.frozen (by simp; omega)).trans hn1
   have ks1 : w3.frozen? ⟨b + 2, 0, none⟩ = false := (HB3.out.frozen (by simp; omega)).trans hs1
   clear hn0 hs0 hn1 hs1 q1 q2 hw8 hcut
   go_wp2_with fail
   refine (clone_calls A' c' (blD l) _ (Kd.C_below HR.out HB3.out) hc' hl').mono ?_
   rintro e w4 ⟨v4, rfl, ho4, hb4⟩
   obtain ⟨A4, c4, rfl⟩ := Own.form ho4
   have HO4 := Aside0.mk ho4
   have HB4 := Aside0.mk (below_step HB3.out hb4)
   have hsz3 := HB3.out.size
   have k1 : w4.cell? ⟨b + 1, 0, none⟩ = some (.slice none 0 0) := (hb4.cell (by simp; omega)).trans kn0
   have k2 : w4.cell? ⟨b + 2, 0, none⟩ = some (.int .i64 0) := (hb4.cell (by simp; omega)).trans ks0
   have k3 : w4.frozen? ⟨b + 1, 0, none⟩ = false := (hb4.frozen (by simp; omega)).trans kn1
   have k4 : w4.frozen? ⟨b + 2, 0, none⟩ = false := (hb4.frozen (by simp; omega)).trans ks1
   have hw8 : IntKind.i64.wrap (hi + 8) = hi + 8 := by rw [IntKind.wrap_i64]; omega
   clear ho4 hb4 kn0 ks0 kn1 ks1 q3
   go_wp2
   go_end0
   rw [HN.out]
   refine ⟨((Keep2.of_below HB4.out).set1 _).set2 _, ⟨.slice A4 (blD l).length c4, ?_, ?_, ?_, ?_, ?_⟩, .inl ⟨rfl, HZ.out⟩⟩
   ·rw [World.cell?_setCell_other _ _ _ _ (by simp)]; exact World.cell?_setCell_same' _ _ _ (by rw [k1]; rfl)
   ·exact World.cell?_setCell_same' _ _ _ (by rw [World.cell?_setCell_other _ _ _ _ (by simp), k2]; rfl)
   ·simp [k3]
   ·simp [k4]
   ·exact ((HO4.out.lower hsz3).set (p := ⟨b + 1, 0, none⟩) (by show b + 1 < _; omega) _).set (p := ⟨b + 2, 0, none⟩) (by show b + 2 < _; omega) _
  ·have HEQ := Aside0.mk (show decide (sealB (blD l) = tail8 l) = false from decide_eq_false heq)
   have HN := Aside0.mk (show takeSeal l = ([], 0, 12) by unfold takeSeal; rw [HU.out, if_neg heq, if_neg (by decide)])
   have HZ := Aside0.mk (show unE l = 12 by rw [HU.out, if_neg heq])
   clear heq
   refine start_ (n := 12) (S := fun w' => w'.cell? ⟨b, 0, none⟩ = some (.slice A l.length c)) (ds := []) #[false, false, false, false, false, false, false, false, false, false, false, false] (by kernel_rfl) rfl rfl (by simpa using hb0) (fun hHeld => ?_)
   refine pure_ (i := 0) (N := some 10) (v := ?_) (a' := ?_) #[true, false, false, false, false, false, false, false, false, false, false, false] rfl rfl (by kernel_rfl) (fun _ _ _ h => h) (Or.inl ⟨by rfl, ?_⟩) ?_ ?_
   rotate_left
   ·intro w'
    go_simp
    try with_reducible rfl
   rotate_left
   ·simp only [Act.put, List.setIfInBounds_toArray, List.set_cons_zero, List.set_cons_succ, i64_w, i32_w]
    rfl
   refine pure_ (i := 5) (N := some 15) (v := ?_) (a' := ?_) #[true, false, false, false, false, true, false, false, false, false, false, false] rfl rfl (by kernel_rfl) (fun _ _ _ h => h) (Or.inl ⟨by rfl, ?_⟩) ?_ ?_
   rotate_left
   ·intro w'
    go_simp
    try with_reducible rfl
   rotate_left
   ·simp only [Act.put, List.setIfInBounds_toArray, List.set_cons_zero, List.set_cons_succ, i64_w, i32_w]
    rfl
   refine pure_ (i := 6) (N := some 16) (v := ?_) (a' := ?_) #[true, false, false, false, false, true, true, false, false, false, false, false] rfl rfl (by kernel_rfl) (fun _ _ _ h => h) (Or.inl ⟨by rfl, ?_⟩) ?_ ?_
   rotate_left
   ·intro w'
    go_simp
    try with_reducible rfl
   rotate_left
   ·simp only [Act.put, List.setIfInBounds_toArray, List.set_cons_zero, List.set_cons_succ, i64_w, i32_w]
    rfl
   refine pure_ (i := 7) (N := some 17) (v := ?_) (a' := ?_) #[true, false, false, false, false, true, true, true, false, false, false, false] rfl rfl (by kernel_rfl) (fun _ _ _ h => h) (Or.inl ⟨by rfl, ?_⟩) ?_ ?_
   rotate_left
   ·intro w'
    go_simp
    try with_reducible rfl
   rotate_left
   ·simp only [Act.put, List.setIfInBounds_toArray, List.set_cons_zero, List.set_cons_succ, i64_w, i32_w]
    rfl
   refine take_ (i := 4) (N := some 14) (v := ?_) (a' := ?_) #[true, false, false, false, true, true, true, true, false, false, false, false] rfl rfl (by kernel_rfl) (fun _ _ _ h => h) (Or.inl ⟨by rfl, ?_⟩) hHeld ?_ ?_
   rotate_left
   ·intro w' hS
    go_simp
    try with_reducible rfl
   rotate_left
   ·simp only [Act.put, List.setIfInBounds_toArray, List.set_cons_zero, List.set_cons_succ, i64_w, i32_w]
    rfl
   refine pure_ (i := 8) (N := some 18) (v := ?_) (a' := ?_) #[true, false, false, false, true, true, true, true, true, false, false, false] rfl rfl (by kernel_rfl) (fun _ _ _ h => h) (Or.inl ⟨by rfl, ?_⟩) ?_ ?_
   rotate_left
   ·intro w'
    go_simp
    try with_reducible rfl
   rotate_left
   ·simp only [Act.put, List.setIfInBounds_toArray, List.set_cons_zero, List.set_cons_succ, i64_w, i32_w]
    rfl
   refine one_ (i := 1) (N := some 11) #[true, true, false, false, true, true, true, true, true, false, false, false] rfl rfl (by kernel_rfl) (by decide) (fun K hK => ?_)
   go_simp
   refine hK.out _ _ (by simpa [go_sem, hbl] using hHeld) (fun hHeld => ?_)
   refine one_ (i := 2) (N := some 12) #[true, true, true, false, true, true, true, true, true, false, false, false] rfl rfl (by kernel_rfl) (by decide) (fun K hK => ?_)
   go_simp
   refine (shape_Check.calls K' _ 1 [blD l] _ _ (C_row1 (Kd.C_drew HR.out) hc' _) (Nat.le_refl 1) HK.out).mono ?_
   rintro e w1 ⟨rfl, hd⟩
   have HB1 := Aside0.mk (show Below w.heap.size w w1 from (((Below.refl _ _).drew.alloc (Nat.le_refl _) _).trans (hd.below.mono (by simp))))
   refine hK.out _ _ ((hd.below.cell (by simp; omega)).trans hHeld) (fun hHeld => ?_)
   refine one_ (i := 3) (N := some 13) #[true, true, true, true, true, true, true, true, true, false, false, false] rfl rfl (by kernel_rfl) (by decide) (fun K hK => ?_)
   go_simp
   refine (shape_eight.calls (chk (blD l)) (sealB (blD l)) _ HEI.out).mono ?_
   rintro e w2 ⟨v, rfl, ho, hb2⟩
   obtain ⟨Av, cv, rfl, hcv, hrv⟩ := Kd.R_reads ho
   have HRV := Aside0.mk hrv
   have HB2 := Aside0.mk (below_step HB1.out hb2)
   refine hK.out _ _ ((hb2.cell (by have := HB1.out.size; simp; omega)).trans hHeld) (fun hHeld => ?_)
   refine one_ (i := 9) (N := some 19) #[true, true, true, true, true, true, true, true, true, true, false, false] rfl rfl (by kernel_rfl) (by decide) (fun K hK => ?_)
   go_simp
   refine (equal_calls Av cv (sealB (blD l)) At ct (tail8 l) _ HRV.out (Kd.C_below HRT.out HB2.out)).mono ?_
   rintro e w3 ⟨rfl, hd3⟩
   rw [HEQ.out]
   have HB3 := Aside0.mk (below_step HB2.out hd3.below)
   refine hK.out _ _ ((hd3.below.cell (by have := HB2.out.size; simp; omega)).trans hHeld) (fun hHeld => ?_)
   refine pure_ (i := 10) (N := some 20) (v := ?_) (a' := ?_) #[true, true, true, true, true, true, true, true, true, true, true, false] rfl rfl (by kernel_rfl) (fun _ _ _ h => h) (Or.inl ⟨by rfl, ?_⟩) ?_ ?_
   rotate_left
   ·intro w'
    go_simp
    try with_reducible rfl
   rotate_left
   ·simp only [Act.put, List.setIfInBounds_toArray, List.set_cons_zero, List.set_cons_succ, i64_w, i32_w]
    rfl
   refine one_ (i := 11) (N := some 21) #[true, true, true, true, true, true, true, true, true, true, true, true] rfl rfl (by kernel_rfl) (by decide) (fun K hK => ?_)
   go_simp
   refine (give_yes _ _).mono ?_
   rintro e w' ⟨rfl, rfl⟩
   all_goals
    have kn0 : w3.cell? ⟨b + 1, 0, none⟩ = some (.slice none 0 0) := (HB3.out.cell (by simp; omega)).trans hn0
    have ks0 : w3.cell? ⟨b + 2, 0, none⟩ = some (.int .i64 0) := (HB3.out.cell (by simp; omega)).trans hs0
    have kn1 : w3.frozen? ⟨b + 1, 0, none⟩ = false := (HB3.out.frozen (by simp; omega)).trans hn1
    have ks1 : w3.frozen? ⟨b + 2, 0, none⟩ = false := (HB3.out.frozen (by simp; omega)).trans hs1
    dsimp only
    go_wp2
    rw [HN.out, HZ.out]
    exact ⟨rfl, Keep2.of_below HB3.out, ⟨_, kn0, ks0, kn1, ks1, Own.nil _ _⟩, .inr rfl⟩
 ·have HN := Aside0.mk (show takeSeal l = ([], 0, blE l 1048576 8) by
   have hu : unE l = blE l 1048576 8 := by unfold unE; rw [if_pos he]
   unfold takeSeal; rw [hu, if_neg he])
  have HU := Aside0.mk (show unE l = blE l 1048576 8 by unfold unE; rw [if_pos he])
  have HT := Lib.hid (hT.mono (R' := fun e w' => w = w' ∧ e = .panicked [{ v := wrongV (blE l 1048576 8), recovered := false }]) (by
   rintro e w' ⟨rfl, ⟨h, _⟩ | ⟨_, rfl⟩⟩
   ·exact absurd h he
   ·exact ⟨rfl, rfl⟩))
  clear he hr hT
  obtain ⟨er, HER⟩ : ∃ er, Aside0 (blE l 1048576 8 = er) := ⟨_, ⟨rfl⟩⟩
  rw [HER.out] at HT HN HU
  rw [HU.out]
  go_enter Tryz.func121, Tryz.ntmps121
  go_wp2_with (go_at_call 122; refine HT.out.mono ?_; rintro e w' ⟨rfl, rfl⟩)
  rw [HN.out]
  exact ⟨rfl, Keep2.refl _ _, ⟨_, hn0, hs0, hn1, hs1, Own.nil _ _⟩, .inr rfl⟩
end Go.Proofs.YtgiefblcckikeaaGreat.M
namespace Go.Proofs.YtgiefblcckikeaaGreat.M
open Go.RowKit Go.Proofs.YtgiefblcckikeaaGreatW.PrintWords
theorem takeSeal_calls (A : Option Addr) (c : Nat) (l : List Int) (w : World) (hr : Kd.C (Kd.int .u8) w A l.length l) (hc : l.length ≤ c) (hb : okB l = true) (hlen : l.length < 140737488355328) :
  Calls Tryz.prog 59 #[.slice A l.length c] w fun e w' => ∃ v0_ : Value, e = .returned (.tuple #[v0_, .int .i64 (takeSeal l).2.1, .int .i64 (takeSeal l).2.2]) ∧ Own w' w.heap.size v0_ (takeSeal l).1 ∧ Below w.heap.size w w' := by
 have HR := Aside0.mk hr
 have HC := Aside0.mk hc
 have HB := Aside0.mk hb
 have HL := Aside0.mk hlen
 clear hr hc hb hlen
 have hmf : ∀ (fn : Fn) (first cap : Array Value) (w : World), (Instr.makeFunc fn first cap).run Tryz.prog w = .ok (.func fn first cap) w := fun _ _ _ _ => rfl
 go_enter Tryz.func59, Tryz.ntmps59
 go_wp2_with fail
 have HX : Boxes w.heap.size A c l.length (.slice none 0 0) (.int .i64 0) ((((w.alloc (.cells #[.slice A l.length c] 23)).alloc (.cells #[.slice none 0 0] 23)).alloc (.cells #[.int .i64 0] 3)).alloc (.cells #[.int .i64 0] 36)) := by
  constructor <;> simp [go_sem]
 refine (try_calls 121 _ w.heap.size _ _ (unE l) (by simp) (enter_any _ _ _ Tryz.func121 rfl (by kernel_rfl))
  (takeseal1 A c l _ (Kd.C_alloc (Kd.C_alloc (Kd.C_alloc (Kd.C_alloc HR.out _) _) _) _) HC.out HB.out HL.out w.heap.size HX (by simp))).mono ?_
 rintro e w1 ⟨W, ⟨v, hn, hs, hnf, hsf, ho⟩, rfl, hk, hz, hbl, hg⟩
 simp only [World.size_alloc] at hz hbl hg ho
 obtain ⟨Av, cv, rfl⟩ := ho.form
 have hn1 : w1.cell? ⟨w.heap.size + 1, 0, none⟩ = some (.slice Av (takeSeal l).1.length cv) := (hbl.cell (by simp)).trans hn
 have hs1 : w1.cell? ⟨w.heap.size + 1 + 1, 0, none⟩ = some (.int .i64 (takeSeal l).2.1) := (hbl.cell (by simp)).trans hs
 have hnf1 : w1.frozen? ⟨w.heap.size + 1, 0, none⟩ = false := (hbl.frozen (by simp)).trans hnf
 have hsf1 : w1.frozen? ⟨w.heap.size + 1 + 1, 0, none⟩ = false := (hbl.frozen (by simp)).trans hsf
 have HO1 := Aside0.mk (show Own w1 (w.heap.size + 1 + 1 + 1 + 1) (.slice Av (takeSeal l).1.length cv) (takeSeal l).1 from
  Kd.R_mono (Kd.R_grown (Kd.R_bound ho) hg (fun k hk e => by have := hk.2.1; have := Option.some.inj e; omega)) (fun _ _ => trivial))
 have HBL := Aside0.mk (show Below w.heap.size w w1 from
  (((((Below.refl w.heap.size w).alloc (Nat.le_refl _) _).alloc (by simp) _).alloc (by simp; omega) _).trans (hk.below (by omega) (by simp; omega))).trans (hbl.mono (by omega)))
 have HT := Aside0.mk (show unE l = (takeSeal l).2.2 by unfold takeSeal; split <;> simp [*])
 obtain ⟨er, her⟩ : ∃ er, unE l = er := ⟨_, rfl⟩
 rw [her] at HT ⊢
 clear hn hs hnf hsf hk hz hbl HX hg ho her
 go_wp2
 go_region
 all_goals
  go_wp2
  refine bodyPost_ret (v := .tuple #[.slice Av (takeSeal l).1.length cv, .int .i64 (takeSeal l).2.1, .int .i64 er]) (by simp [results, Tryz.results59, go_sem, hn1, hs1]) rfl ⟨_, by rw [HT.out], ?_, ?_⟩
  ·refine Own.lower (base := w.heap.size + 1 + 1 + 1 + 1) ?_ (by omega)
   repeat first | exact HO1.out | apply Own.drew | refine Own.set ?_ (by first | (simp; done) | (simp; omega)) _
  ·repeat first | exact HBL.out | exact (by assumption) | apply Below.drew | refine Below.setCell ?_ (by first | (simp; done) | (simp; omega)) _
end Go.Proofs.YtgiefblcckikeaaGreat.M
namespace Go.Proofs.YtgiefblcckikeaaGreat.G
open Go.RowKit Go.Proofs.YtgiefblcckikeaaGreatW.PrintWords Go.Proofs.YtgiefblcckikeaaGreat.M
def shape_Unseal.f (l0 : List Int) : Option (List Int × Int × Int) := if okB l0 = true ∧ l0.length < 140737488355328 then some (takeSeal l0) else none
theorem shape_Unseal.calls (A0 : Option Addr) (c0 : Nat) (l0 : List Int) (r1 : List Int) (r2 : Int) (r3 : Int) (w : World) (hr0 : Kd.C (Kd.int .u8) w A0 l0.length l0) (hc0 : l0.length ≤ c0) (h : shape_Unseal.f l0 = some (r1, r2, r3)) :
  Calls Tryz.prog 59 #[.slice A0 l0.length c0] w fun e w' => ∃ v0_ : Value, e = .returned (.tuple #[v0_, .int .i64 r2, .int .i64 r3]) ∧ Kd.R (Kd.int .u8) 5 w' w.heap.size (fun _ => True) v0_ r1 ∧ Below w.heap.size w w' := by
 unfold shape_Unseal.f at h
 split at h
 ·rename_i hb
  have h := Option.some.inj h
  have h1 : r1 = (takeSeal l0).1 := by rw [h]
  have h2 : r2 = (takeSeal l0).2.1 := by rw [h]
  have h3 : r3 = (takeSeal l0).2.2 := by rw [h]
  rw [h1, h2, h3]
  exact takeSeal_calls A0 c0 l0 w hr0 hc0 hb.1 hb.2
 ·cases h
end Go.Proofs.YtgiefblcckikeaaGreat.G
end

section
/- record.Unmarshal (printed by genunm04.py). -/
set_option maxRecDepth 100000
attribute [local irreducible] Go.wpStill
namespace Go.Proofs.YtgiefblcckikeaaGreat.M
open Go.RowKit Go.Proofs.YtgiefblcckikeaaGreatW.PrintWords Go.Proofs.YtgiefblcckikeaaGreatW.PrintLast Go.Proofs.YtgiefblcckikeaaGreatW.PrintMore Go.Proofs.YtgiefblcckikeaaGreat.G
def unm (l : List Int) : MsgD × Int := if ¬ (takeSeal l).2.2 = 0 then (zM, (takeSeal l).2.2) else if (takeSeal l).2.1 < (l.length : Int) then (zM, 13) else takeMs (takeSeal l).1
def MsT (w : World) (y : MsgD) (er : Int) (e : Ending) (w' : World) : Prop := ∃ v8 v12 v16 : Value, e = .returned (.tuple #[.agg #[.int .i64 y.f0, .int .i64 y.f1, .int .i64 y.f2, .int .i64 y.f3, .int .i64 y.f4, .int .i64 y.f5, .int .i64 y.f6, .bool y.f7, v8, .int .i64 y.f9.f0, .int .i64 y.f9.f1, .int .i64 y.f9.f2, v12, .int .i64 y.f10.f0, .int .i64 y.f10.f1, .int .i64 y.f10.f2, v16], .int .i64 er]) ∧ Kd.R G.k63 63 w' w.heap.size (fun _ => True) v8 y.f8 ∧ Kd.R G.k26 26 w' w.heap.size (fun _ => True) v12 y.f9.f3 ∧ Kd.R (Kd.int .u8) 5 w' w.heap.size (fun _ => True) v16 y.f10.f3 ∧ Below w.heap.size w w'
theorem takeSeal_ok {l : List Int} (hb : okB l = true) (hl : l.length < 140737488355328) : okS ⟨(takeSeal l).1, 0, false⟩ := by
 unfold takeSeal
 split
 ·unfold blD
  refine ⟨okB_drop (okB_take hb _) _, ?_⟩
  show (List.drop _ (List.take _ l)).length < _
  rw [List.length_drop, List.length_take]
  omega
 ·exact (⟨rfl, by decide⟩ : okS ⟨[], 0, false⟩)
theorem setRow_below {w0 w : World} {b : Nat} {cs cs' : Array Value} {t : Nat} (hB : Below w0.heap.size w0 w) (hb : w0.heap.size ≤ b) : Below w0.heap.size w0 (w.setRow b cs') := by
 have hk : KeepS (fun k => k = b) w (w.setRow b cs') := ⟨rfl, rfl, rfl, by simp, fun i _ hi => setRow_other w b i cs' (fun e => hi e)⟩
 exact hB.trans (hk.below hB.size (by rintro i rfl; exact hb))
set_option maxHeartbeats 4000000 in
theorem unm_is (A : Option Addr) (c : Nat) (l : List Int) (w : World) (hr : Kd.C (Kd.int .u8) w A l.length l) (hc : l.length ≤ c) (hb : okB l = true) (hl : l.length < 140737488355328) :
  Calls Tryz.prog 25 #[.slice A l.length c] w fun e w' => MsT w (unm l).1 (unm l).2 e w' := by
 obtain ⟨d, hd⟩ : ∃ d, (takeSeal l).1 = d := ⟨_, rfl⟩
 obtain ⟨n, hn⟩ : ∃ n, (takeSeal l).2.1 = n := ⟨_, rfl⟩
 obtain ⟨er, her⟩ : ∃ er, (takeSeal l).2.2 = er := ⟨_, rfl⟩
 have hok := takeSeal_ok hb hl
 rw [hd] at hok
 have HOK := Lib.hid hok
 have HU := Lib.hid (show unm l = if ¬ er = 0 then (zM, er) else if n < (l.length : Int) then (zM, 13) else takeMs d by unfold unm; rw [hd, hn, her])
 have HS := Lib.hid (takeSeal_calls A c l (w.alloc (.cells #[.int .i64 0, .int .i64 0, .int .i64 0, .int .i64 0, .int .i64 0, .int .i64 0, .int .i64 0, .bool false, .slice none 0 0, .int .i64 0, .int .i64 0, .int .i64 0, .slice none 0 0, .int .i64 0, .int .i64 0, .int .i64 0, .slice none 0 0] 34)) (Kd.C_alloc hr _) hc hb hl)
 rw [hd, hn, her] at HS
 have hg := heap_alloc_new w (.cells #[.int .i64 0, .int .i64 0, .int .i64 0, .int .i64 0, .int .i64 0, .int .i64 0, .int .i64 0, .bool false, .slice none 0 0, .int .i64 0, .int .i64 0, .int .i64 0, .slice none 0 0, .int .i64 0, .int .i64 0, .int .i64 0, .slice none 0 0] 34)
 have hbz := (Below.refl _ w).alloc (Nat.le_refl _) (.cells #[.int .i64 0, .int .i64 0, .int .i64 0, .int .i64 0, .int .i64 0, .int .i64 0, .int .i64 0, .bool false, .slice none 0 0, .int .i64 0, .int .i64 0, .int .i64 0, .slice none 0 0, .int .i64 0, .int .i64 0, .int .i64 0, .slice none 0 0] 34)
 have hz : (w.alloc (.cells #[.int .i64 0, .int .i64 0, .int .i64 0, .int .i64 0, .int .i64 0, .int .i64 0, .int .i64 0, .bool false, .slice none 0 0, .int .i64 0, .int .i64 0, .int .i64 0, .slice none 0 0, .int .i64 0, .int .i64 0, .int .i64 0, .slice none 0 0] 34)).heap.size = w.heap.size + 1 := by simp
 clear hd hn her hok hr hc hb hl
 go_enter Tryz.func25, Tryz.ntmps25
 go_upto_region 1 with fail
 obtain ⟨wA, hw⟩ : ∃ W, w.alloc (.cells #[.int .i64 0, .int .i64 0, .int .i64 0, .int .i64 0, .int .i64 0, .int .i64 0, .int .i64 0, .bool false, .slice none 0 0, .int .i64 0, .int .i64 0, .int .i64 0, .slice none 0 0, .int .i64 0, .int .i64 0, .int .i64 0, .slice none 0 0] 34) = W := ⟨_, rfl⟩
 rw [hw] at HS hg hbz hz ⊢
 clear hw
 go_wp2_with fail
 refine HS.out.mono ?_
 rintro e w1 ⟨v, rfl, ho, hb1⟩
 obtain ⟨Ad, cd, rfl⟩ := Own.form ho
 have HO := Lib.hid (Kd.R_reads' ho)
 have HG := Lib.hid ((hb1.block w.heap.size (by omega)).trans hg)
 have HZ := Lib.hid (show w.heap.size < w1.heap.size by have := hb1.size; omega)
 have HB := Lib.hid (hbz.trans (hb1.mono (by omega)))
 clear ho hb1 hg hbz hz HS
 by_cases he : er = 0
 case neg =>
  have HR := Lib.hid (show unm l = (zM, er) by rw [HU.out, if_pos he])
  have q : (er != 0) = true := bne_iff_ne.2 he
  clear he HU
  go_upto_region 3 with fail
  refine wp_region_list ?_
  refine wpList_cut 2 ?_
  simp only [List.take_succ_cons, List.take_zero, List.drop_succ_cons, List.drop_zero]
  go_wp2_with fail
  refine Halt.mk ?_
  refine wpList_store_row rfl 34 (.tmp 2) (.tmp 18) rfl w.heap.size #[.int .i64 0, .int .i64 0, .int .i64 0, .int .i64 0, .int .i64 0, .int .i64 0, .int .i64 0, .bool false, .slice none 0 0, .int .i64 0, .int .i64 0, .int .i64 0, .slice none 0 0, .int .i64 0, .int .i64 0, .int .i64 0, .slice none 0 0] rfl rfl 34 #[.int .i64 0, .int .i64 0, .int .i64 0, .int .i64 0, .int .i64 0, .int .i64 0, .int .i64 0, .bool false, .slice none 0 0, .int .i64 0, .int .i64 0, .int .i64 0, .slice none 0 0, .int .i64 0, .int .i64 0, .int .i64 0, .slice none 0 0] HG.out (by kernel_rfl) rfl (by simp [Value.oneCell']) ?_
  have HEB := Lib.hid (setRow_heap w1 w.heap.size #[.int .i64 0, .int .i64 0, .int .i64 0, .int .i64 0, .int .i64 0, .int .i64 0, .int .i64 0, .bool false, .slice none 0 0, .int .i64 0, .int .i64 0, .int .i64 0, .slice none 0 0, .int .i64 0, .int .i64 0, .int .i64 0, .slice none 0 0] #[.int .i64 0, .int .i64 0, .int .i64 0, .int .i64 0, .int .i64 0, .int .i64 0, .int .i64 0, .bool false, .slice none 0 0, .int .i64 0, .int .i64 0, .int .i64 0, .slice none 0 0, .int .i64 0, .int .i64 0, .int .i64 0, .slice none 0 0] 34 (0, 0) HG.out)
  have HBE := Lib.hid (setRow_below (cs := #[.int .i64 0, .int .i64 0, .int .i64 0, .int .i64 0, .int .i64 0, .int .i64 0, .int .i64 0, .bool false, .slice none 0 0, .int .i64 0, .int .i64 0, .int .i64 0, .slice none 0 0, .int .i64 0, .int .i64 0, .int .i64 0, .slice none 0 0]) (cs' := #[.int .i64 0, .int .i64 0, .int .i64 0, .int .i64 0, .int .i64 0, .int .i64 0, .int .i64 0, .bool false, .slice none 0 0, .int .i64 0, .int .i64 0, .int .i64 0, .slice none 0 0, .int .i64 0, .int .i64 0, .int .i64 0, .slice none 0 0]) (t := 34) HB.out (Nat.le_refl _))
  obtain ⟨W, hW⟩ : ∃ W, w1.setRow w.heap.size #[.int .i64 0, .int .i64 0, .int .i64 0, .int .i64 0, .int .i64 0, .int .i64 0, .int .i64 0, .bool false, .slice none 0 0, .int .i64 0, .int .i64 0, .int .i64 0, .slice none 0 0, .int .i64 0, .int .i64 0, .int .i64 0, .slice none 0 0] = W := ⟨_, rfl⟩
  rw [hW] at HEB HBE ⊢
  clear hW
  go_wp2_with fail
  refine bodyPost_ret (results_ct rfl _ _ w.heap.size 34 #[.int .i64 0, .int .i64 0, .int .i64 0, .int .i64 0, .int .i64 0, .int .i64 0, .int .i64 0, .bool false, .slice none 0 0, .int .i64 0, .int .i64 0, .int .i64 0, .slice none 0 0, .int .i64 0, .int .i64 0, .int .i64 0, .slice none 0 0] (0, 0) _ rfl HEB.out Tryz.underlying34 rfl (by kernel_rfl)) rfl ?_
  rw [HR.out]
  exact ⟨_, _, _, rfl, Kd.R_nil _ _ _ _ _, Kd.R_nil _ _ _ _ _, Kd.R_nil _ _ _ _ _, HBE.out⟩
 case pos =>
  have q : (er != 0) = false := by rw [he]; rfl
  by_cases hn : n < (l.length : Int)
  case pos =>
   have HR := Lib.hid (show unm l = (zM, 13) by rw [HU.out, if_neg (fun q => q he), if_pos hn])
   have q2 : decide (n < (l.length : Int)) = true := decide_eq_true hn
   clear he hn HU
   go_upto_region 5 with fail
   refine wp_region_list ?_
   refine wpList_cut 1 ?_
   simp only [List.take_succ_cons, List.take_zero, List.drop_succ_cons, List.drop_zero]
   go_wp2_with fail
   refine Halt.mk ?_
   refine wpList_store_row rfl 34 (.tmp 2) (.tmp 24) rfl w.heap.size #[.int .i64 0, .int .i64 0, .int .i64 0, .int .i64 0, .int .i64 0, .int .i64 0, .int .i64 0, .bool false, .slice none 0 0, .int .i64 0, .int .i64 0, .int .i64 0, .slice none 0 0, .int .i64 0, .int .i64 0, .int .i64 0, .slice none 0 0] rfl rfl 34 #[.int .i64 0, .int .i64 0, .int .i64 0, .int .i64 0, .int .i64 0, .int .i64 0, .int .i64 0, .bool false, .slice none 0 0, .int .i64 0, .int .i64 0, .int .i64 0, .slice none 0 0, .int .i64 0, .int .i64 0, .int .i64 0, .slice none 0 0] HG.out (by kernel_rfl) rfl (by simp [Value.oneCell']) ?_
   have HEB := Lib.hid (setRow_heap w1 w.heap.size #[.int .i64 0, .int .i64 0, .int .i64 0, .int .i64 0, .int .i64 0, .int .i64 0, .int .i64 0, .bool false, .slice none 0 0, .int .i64 0, .int .i64 0, .int .i64 0, .slice none 0 0, .int .i64 0, .int .i64 0, .int .i64 0, .slice none 0 0] #[.int .i64 0, .int .i64 0, .int .i64 0, .int .i64 0, .int .i64 0, .int .i64 0, .int .i64 0, .bool false, .slice none 0 0, .int .i64 0, .int .i64 0, .int .i64 0, .slice none 0 0, .int .i64 0, .int .i64 0, .int .i64 0, .slice none 0 0] 34 (0, 0) HG.out)
   have HBE := Lib.hid (setRow_below (cs := #[.int .i64 0, .int .i64 0, .int .i64 0, .int .i64 0, .int .i64 0, .int .i64 0, .int .i64 0, .bool false, .slice none 0 0, .int .i64 0, .int .i64 0, .int .i64 0, .slice none 0 0, .int .i64 0, .int .i64 0, .int .i64 0, .slice none 0 0]) (cs' := #[.int .i64 0, .int .i64 0, .int .i64 0, .int .i64 0, .int .i64 0, .int .i64 0, .int .i64 0, .bool false, .slice none 0 0, .int .i64 0, .int .i64 0, .int .i64 0, .slice none 0 0, .int .i64 0, .int .i64 0, .int .i64 0, .slice none 0 0]) (t := 34) HB.out (Nat.le_refl _))
   obtain ⟨W, hW⟩ : ∃ W, w1.setRow w.heap.size #[.int .i64 0, .int .i64 0, .int .i64 0, .int .i64 0, .int .i64 0, .int .i64 0, .int .i64 0, .bool false, .slice none 0 0, .int .i64 0, .int .i64 0, .int .i64 0, .slice none 0 0, .int .i64 0, .int .i64 0, .int .i64 0, .slice none 0 0] = W := ⟨_, rfl⟩
   rw [hW] at HEB HBE ⊢
   clear hW
   go_wp2_with fail
   refine bodyPost_ret (results_ct rfl _ _ w.heap.size 34 #[.int .i64 0, .int .i64 0, .int .i64 0, .int .i64 0, .int .i64 0, .int .i64 0, .int .i64 0, .bool false, .slice none 0 0, .int .i64 0, .int .i64 0, .int .i64 0, .slice none 0 0, .int .i64 0, .int .i64 0, .int .i64 0, .slice none 0 0] (0, 0) _ rfl HEB.out Tryz.underlying34 rfl (by kernel_rfl)) rfl ?_
   rw [HR.out]
   exact ⟨_, _, _, rfl, Kd.R_nil _ _ _ _ _, Kd.R_nil _ _ _ _ _, Kd.R_nil _ _ _ _ _, HBE.out⟩
  case neg =>
   have q2 : decide (n < (l.length : Int)) = false := decide_eq_false hn
   have HR0 := Lib.hid (show unm l = takeMs d by rw [HU.out, if_neg (fun q => q he), if_neg hn])
   clear he hn HU
   obtain ⟨y, hy⟩ : ∃ y, (eMsg ⟨d, 0, false⟩).1 = y := ⟨_, rfl⟩
   obtain ⟨s', hs⟩ : ∃ t, (eMsg ⟨d, 0, false⟩).2 = t := ⟨_, rfl⟩
   have h0 := heap_alloc_new w1 (.cells #[.slice Ad d.length cd, .int .i64 0, .bool false] 81)
   have hb2 := (Below.refl _ w1).alloc (Nat.le_refl _) (.cells #[.slice Ad d.length cd, .int .i64 0, .bool false] 81)
   have hI : IsEye w1 (w1.alloc (.cells #[.slice Ad d.length cd, .int .i64 0, .bool false] 81)) w1.heap.size ⟨d, 0, false⟩ := ⟨Ad, cd, h0, Nat.le_refl _, HO.out.2.1, HO.out.2.2⟩
   have HN := Lib.hid (eMsg_is hI hb2 HOK.out)
   rw [hy, hs] at HN
   have HPI := Lib.hid (show isI64 y.f10.f2 by rw [← hy]; exact (okM_eMsg HOK.out).2.1)
   obtain ⟨e2, he2⟩ : ∃ e2, eEnds s' (mayMs y) true = e2 := ⟨_, rfl⟩
   have HR1 := Lib.hid (show unm l = if e2 = 0 then (y, 0) else (zM, e2) by rw [HR0.out]; unfold takeMs; unfold wholeOf; rw [hy, hs, he2])
   have HE2 := Lib.hid he2
   clear h0 hI hy hs he2 HR0
   go_wp2_with fail
   obtain ⟨w2, hw⟩ : ∃ W, w1.alloc (.cells #[.slice Ad d.length cd, .int .i64 0, .bool false] 81) = W := ⟨_, rfl⟩
   rw [hw] at HN hb2 ⊢
   refine HN.out.mono ?_
   rintro e w3 ⟨v8, v12, v16, rfl, r8, r12, r16, hI, hB, hK⟩
   obtain ⟨A8, c8, rfl⟩ := Kd.R_slice r8
   obtain ⟨A12, c12, rfl⟩ := Kd.R_slice r12
   obtain ⟨A16, c16, rfl⟩ := Kd.R_slice r16
   have HI := Lib.hid hI
   have HB3 := Lib.hid hB
   have HX2 := Lib.hid (show w1.heap.size < w2.heap.size by rw [← hw]; simp)
   have HX3 := Lib.hid (Nat.lt_of_lt_of_le HX2.out hK.size)
   have HZ2 := Lib.hid (show w.heap.size < w2.heap.size from Nat.lt_trans HZ.out HX2.out)
   clear hw
   have HSZ := Lib.hid (show w.heap.size ≤ w2.heap.size from Nat.le_trans (Nat.le_of_lt HZ.out) hb2.size)
   have HV8 := Lib.hid r8
   have HV12 := Lib.hid r12
   have HV16 := Lib.hid r16
   clear r8 r12 r16 hI hB hK hb2 HN q q2
   go_upto_region 8 with fail
   have hby := heap_alloc_new w3 (.cells #[.int .i64 y.f0, .int .i64 y.f1, .int .i64 y.f2, .int .i64 y.f3, .int .i64 y.f4, .int .i64 y.f5, .int .i64 y.f6, .bool y.f7, .slice A8 y.f8.length c8, .int .i64 y.f9.f0, .int .i64 y.f9.f1, .int .i64 y.f9.f2, .slice A12 y.f9.f3.length c12, .int .i64 y.f10.f0, .int .i64 y.f10.f1, .int .i64 y.f10.f2, .slice A16 y.f10.f3.length c16] 34)
   have hay := (Below.refl _ w3).alloc (Nat.le_refl _) (.cells #[.int .i64 y.f0, .int .i64 y.f1, .int .i64 y.f2, .int .i64 y.f3, .int .i64 y.f4, .int .i64 y.f5, .int .i64 y.f6, .bool y.f7, .slice A8 y.f8.length c8, .int .i64 y.f9.f0, .int .i64 y.f9.f1, .int .i64 y.f9.f2, .slice A12 y.f9.f3.length c12, .int .i64 y.f10.f0, .int .i64 y.f10.f1, .int .i64 y.f10.f2, .slice A16 y.f10.f3.length c16] 34)
   obtain ⟨w4, hw⟩ : ∃ W, w3.alloc (.cells #[.int .i64 y.f0, .int .i64 y.f1, .int .i64 y.f2, .int .i64 y.f3, .int .i64 y.f4, .int .i64 y.f5, .int .i64 y.f6, .bool y.f7, .slice A8 y.f8.length c8, .int .i64 y.f9.f0, .int .i64 y.f9.f1, .int .i64 y.f9.f2, .slice A12 y.f9.f3.length c12, .int .i64 y.f10.f0, .int .i64 y.f10.f1, .int .i64 y.f10.f2, .slice A16 y.f10.f3.length c16] 34) = W := ⟨_, rfl⟩
   rw [hw] at hby hay ⊢
   clear hw
   have HI4 := Lib.hid (HI.out.below hay)
   have HB4 := Lib.hid (HB3.out.trans (hay.mono HB3.out.size))
   have HW8 := Lib.hid (Kd.R_below HV8.out hay)
   have HW12 := Lib.hid (Kd.R_below HV12.out hay)
   have HW16 := Lib.hid (Kd.R_below HV16.out hay)
   obtain ⟨g, hg⟩ : ∃ g, w3.heap.size = g := ⟨_, rfl⟩
   have hxg : w1.heap.size < g := by rw [← hg]; exact HX3.out
   have hgz : g < w4.heap.size := by rw [← hg]; exact (Array.getElem?_eq_some_iff.1 hby).1
   rw [hg] at hby ⊢
   have HY4 := Lib.hid hby
   have HGZ := Lib.hid hgz
   clear hby hay hg hgz HI HB3 HV8 HV12 HV16
   have HXG := Lib.hid hxg
   clear hxg
   have HY5 := HY4; have HI5 := HI4; have HB5 := HB4; have HGZ5 := HGZ
   have HX8 := HW8
   have HX12 := HW12
   have HX16 := HW16
   clear HI4 HB4 HY4 HW8 HW12 HW16 HGZ
   refine wp_region_list ?_
   refine wpList_cut 1 ?_
   simp only [List.take_succ_cons, List.take_zero, List.drop_succ_cons, List.drop_zero]
   go_wp2_with fail
   refine Halt.mk ?_
   refine wpList_load_row rfl 34 (.tmp 8) rfl g rfl 34 #[.int .i64 y.f0, .int .i64 y.f1, .int .i64 y.f2, .int .i64 y.f3, .int .i64 y.f4, .int .i64 y.f5, .int .i64 y.f6, .bool y.f7, .slice A8 y.f8.length c8, .int .i64 y.f9.f0, .int .i64 y.f9.f1, .int .i64 y.f9.f2, .slice A12 y.f9.f3.length c12, .int .i64 y.f10.f0, .int .i64 y.f10.f1, .int .i64 y.f10.f2, .slice A16 y.f10.f3.length c16] (0, 0) _ HY5.out Tryz.underlying34 rfl (by kernel_rfl) ?_
   go_wp2_with fail
   have hm : MsgC w4 y A8 c8 A12 c12 A16 c16 := ⟨(Kd.R_reads' HX8.out).2.1, (Kd.R_reads' HX8.out).2.2, (Kd.R_reads' HX12.out).2.1, (Kd.R_reads' HX12.out).2.2, (Kd.R_reads' HX16.out).2.1, (Kd.R_reads' HX16.out).2.2⟩
   refine (msg_is y hm HPI.out).mono ?_
   rintro e w6 ⟨rfl, hb⟩
   have HI6 := Lib.hid (HI5.out.below hb)
   have HB6 := Lib.hid (HB5.out.trans (hb.mono HB5.out.size))
   have HY6 := Lib.hid ((hb.block g HGZ5.out).trans HY5.out)
   have HU8 := Lib.hid (Kd.R_below HX8.out hb)
   have HU12 := Lib.hid (Kd.R_below HX12.out hb)
   have HU16 := Lib.hid (Kd.R_below HX16.out hb)
   have HG6 := Lib.hid ((HB6.out.block w.heap.size HZ.out).trans HG.out)
   have HBW := Lib.hid (HB.out.trans (HB6.out.mono (Nat.le_of_lt HZ.out)))
   clear hm hb HI5 HB5 HY5 HX8 HX12 HX16 HGZ5
   have HE := eEnds_is HI6.out (mayMs y) true
   rw [HE2.out] at HE
   have HE := Lib.hid HE
   go_wp2_with fail
   refine HE.out.mono ?_
   rintro e w7 ⟨rfl, rfl⟩
   clear HE
   by_cases he : e2 = 0
   case pos =>
    have HR := Lib.hid (show unm l = (y, 0) by rw [HR1.out, if_pos he])
    have q : (e2 != 0) = false := by rw [he]; rfl
    clear he HR1
    go_upto_region 11 with fail
    refine wp_region_list ?_
    refine wpList_load_row rfl 34 (.tmp 8) rfl g rfl 34 #[.int .i64 y.f0, .int .i64 y.f1, .int .i64 y.f2, .int .i64 y.f3, .int .i64 y.f4, .int .i64 y.f5, .int .i64 y.f6, .bool y.f7, .slice A8 y.f8.length c8, .int .i64 y.f9.f0, .int .i64 y.f9.f1, .int .i64 y.f9.f2, .slice A12 y.f9.f3.length c12, .int .i64 y.f10.f0, .int .i64 y.f10.f1, .int .i64 y.f10.f2, .slice A16 y.f10.f3.length c16] (0, 0) _ HY6.out Tryz.underlying34 rfl (by kernel_rfl) ?_
    refine wpList_store_row rfl 34 (.tmp 2) (.tmp 38) rfl w.heap.size #[.int .i64 y.f0, .int .i64 y.f1, .int .i64 y.f2, .int .i64 y.f3, .int .i64 y.f4, .int .i64 y.f5, .int .i64 y.f6, .bool y.f7, .slice A8 y.f8.length c8, .int .i64 y.f9.f0, .int .i64 y.f9.f1, .int .i64 y.f9.f2, .slice A12 y.f9.f3.length c12, .int .i64 y.f10.f0, .int .i64 y.f10.f1, .int .i64 y.f10.f2, .slice A16 y.f10.f3.length c16] rfl rfl 34 #[.int .i64 0, .int .i64 0, .int .i64 0, .int .i64 0, .int .i64 0, .int .i64 0, .int .i64 0, .bool false, .slice none 0 0, .int .i64 0, .int .i64 0, .int .i64 0, .slice none 0 0, .int .i64 0, .int .i64 0, .int .i64 0, .slice none 0 0] HG6.out (by kernel_rfl) rfl (by simp [Value.oneCell']) ?_
    have HEB := Lib.hid (setRow_heap w7 w.heap.size #[.int .i64 0, .int .i64 0, .int .i64 0, .int .i64 0, .int .i64 0, .int .i64 0, .int .i64 0, .bool false, .slice none 0 0, .int .i64 0, .int .i64 0, .int .i64 0, .slice none 0 0, .int .i64 0, .int .i64 0, .int .i64 0, .slice none 0 0] #[.int .i64 y.f0, .int .i64 y.f1, .int .i64 y.f2, .int .i64 y.f3, .int .i64 y.f4, .int .i64 y.f5, .int .i64 y.f6, .bool y.f7, .slice A8 y.f8.length c8, .int .i64 y.f9.f0, .int .i64 y.f9.f1, .int .i64 y.f9.f2, .slice A12 y.f9.f3.length c12, .int .i64 y.f10.f0, .int .i64 y.f10.f1, .int .i64 y.f10.f2, .slice A16 y.f10.f3.length c16] 34 (0, 0) HG6.out)
    have HBE := Lib.hid (setRow_below (cs := #[.int .i64 0, .int .i64 0, .int .i64 0, .int .i64 0, .int .i64 0, .int .i64 0, .int .i64 0, .bool false, .slice none 0 0, .int .i64 0, .int .i64 0, .int .i64 0, .slice none 0 0, .int .i64 0, .int .i64 0, .int .i64 0, .slice none 0 0]) (cs' := #[.int .i64 y.f0, .int .i64 y.f1, .int .i64 y.f2, .int .i64 y.f3, .int .i64 y.f4, .int .i64 y.f5, .int .i64 y.f6, .bool y.f7, .slice A8 y.f8.length c8, .int .i64 y.f9.f0, .int .i64 y.f9.f1, .int .i64 y.f9.f2, .slice A12 y.f9.f3.length c12, .int .i64 y.f10.f0, .int .i64 y.f10.f1, .int .i64 y.f10.f2, .slice A16 y.f10.f3.length c16]) (t := 34) HBW.out (Nat.le_refl _))
    obtain ⟨W, hW⟩ : ∃ W, w7.setRow w.heap.size #[.int .i64 y.f0, .int .i64 y.f1, .int .i64 y.f2, .int .i64 y.f3, .int .i64 y.f4, .int .i64 y.f5, .int .i64 y.f6, .bool y.f7, .slice A8 y.f8.length c8, .int .i64 y.f9.f0, .int .i64 y.f9.f1, .int .i64 y.f9.f2, .slice A12 y.f9.f3.length c12, .int .i64 y.f10.f0, .int .i64 y.f10.f1, .int .i64 y.f10.f2, .slice A16 y.f10.f3.length c16] = W := ⟨_, rfl⟩
    rw [hW] at HEB HBE ⊢
    have hkp : ∀ k, k < w7.heap.size → k ≠ w.heap.size → W.heap[k]? = w7.heap[k]? := fun k _ hne => by rw [← hW]; exact setRow_other w7 w.heap.size k _ hne
    have HQ8 := Lib.hid (Kd.R_mono (Kd.R_step (Kd.R_lower (Kd.R_bound HU8.out) HSZ.out) (fun k hk hlt => hkp k hlt (by have h1 := hk.2.1; have h2 := HZ2.out; omega))) (fun _ _ => trivial) : Kd.R G.k63 63 W w.heap.size (fun _ => True) _ _)
    have HQ12 := Lib.hid (Kd.R_mono (Kd.R_step (Kd.R_lower (Kd.R_bound HU12.out) HSZ.out) (fun k hk hlt => hkp k hlt (by have h1 := hk.2.1; have h2 := HZ2.out; omega))) (fun _ _ => trivial) : Kd.R G.k26 26 W w.heap.size (fun _ => True) _ _)
    have HQ16 := Lib.hid (Kd.R_mono (Kd.R_step (Kd.R_lower (Kd.R_bound HU16.out) HSZ.out) (fun k hk hlt => hkp k hlt (by have h1 := hk.2.1; have h2 := HZ2.out; omega))) (fun _ _ => trivial) : Kd.R (Kd.int .u8) 5 W w.heap.size (fun _ => True) _ _)
    clear hkp
    clear hW
    go_wp2_with fail
    refine bodyPost_ret (results_ct rfl _ _ w.heap.size 34 #[.int .i64 y.f0, .int .i64 y.f1, .int .i64 y.f2, .int .i64 y.f3, .int .i64 y.f4, .int .i64 y.f5, .int .i64 y.f6, .bool y.f7, .slice A8 y.f8.length c8, .int .i64 y.f9.f0, .int .i64 y.f9.f1, .int .i64 y.f9.f2, .slice A12 y.f9.f3.length c12, .int .i64 y.f10.f0, .int .i64 y.f10.f1, .int .i64 y.f10.f2, .slice A16 y.f10.f3.length c16] (0, 0) _ rfl HEB.out Tryz.underlying34 rfl (by kernel_rfl)) rfl ?_
    rw [HR.out]
    exact ⟨_, _, _, rfl, HQ8.out, HQ12.out, HQ16.out, HBE.out⟩
   case neg =>
    have HR := Lib.hid (show unm l = (zM, e2) by rw [HR1.out, if_neg he])
    have q : (e2 != 0) = true := bne_iff_ne.2 he
    clear he HR1
    go_upto_region 10 with fail
    refine wp_region_list ?_
    refine wpList_cut 2 ?_
    simp only [List.take_succ_cons, List.take_zero, List.drop_succ_cons, List.drop_zero]
    go_wp2_with fail
    refine Halt.mk ?_
    refine wpList_store_row rfl 34 (.tmp 2) (.tmp 36) rfl w.heap.size #[.int .i64 0, .int .i64 0, .int .i64 0, .int .i64 0, .int .i64 0, .int .i64 0, .int .i64 0, .bool false, .slice none 0 0, .int .i64 0, .int .i64 0, .int .i64 0, .slice none 0 0, .int .i64 0, .int .i64 0, .int .i64 0, .slice none 0 0] rfl rfl 34 #[.int .i64 0, .int .i64 0, .int .i64 0, .int .i64 0, .int .i64 0, .int .i64 0, .int .i64 0, .bool false, .slice none 0 0, .int .i64 0, .int .i64 0, .int .i64 0, .slice none 0 0, .int .i64 0, .int .i64 0, .int .i64 0, .slice none 0 0] HG6.out (by kernel_rfl) rfl (by simp [Value.oneCell']) ?_
    have HEB := Lib.hid (setRow_heap w7 w.heap.size #[.int .i64 0, .int .i64 0, .int .i64 0, .int .i64 0, .int .i64 0, .int .i64 0, .int .i64 0, .bool false, .slice none 0 0, .int .i64 0, .int .i64 0, .int .i64 0, .slice none 0 0, .int .i64 0, .int .i64 0, .int .i64 0, .slice none 0 0] #[.int .i64 0, .int .i64 0, .int .i64 0, .int .i64 0, .int .i64 0, .int .i64 0, .int .i64 0, .bool false, .slice none 0 0, .int .i64 0, .int .i64 0, .int .i64 0, .slice none 0 0, .int .i64 0, .int .i64 0, .int .i64 0, .slice none 0 0] 34 (0, 0) HG6.out)
    have HBE := Lib.hid (setRow_below (cs := #[.int .i64 0, .int .i64 0, .int .i64 0, .int .i64 0, .int .i64 0, .int .i64 0, .int .i64 0, .bool false, .slice none 0 0, .int .i64 0, .int .i64 0, .int .i64 0, .slice none 0 0, .int .i64 0, .int .i64 0, .int .i64 0, .slice none 0 0]) (cs' := #[.int .i64 0, .int .i64 0, .int .i64 0, .int .i64 0, .int .i64 0, .int .i64 0, .int .i64 0, .bool false, .slice none 0 0, .int .i64 0, .int .i64 0, .int .i64 0, .slice none 0 0, .int .i64 0, .int .i64 0, .int .i64 0, .slice none 0 0]) (t := 34) HBW.out (Nat.le_refl _))
    obtain ⟨W, hW⟩ : ∃ W, w7.setRow w.heap.size #[.int .i64 0, .int .i64 0, .int .i64 0, .int .i64 0, .int .i64 0, .int .i64 0, .int .i64 0, .bool false, .slice none 0 0, .int .i64 0, .int .i64 0, .int .i64 0, .slice none 0 0, .int .i64 0, .int .i64 0, .int .i64 0, .slice none 0 0] = W := ⟨_, rfl⟩
    rw [hW] at HEB HBE ⊢
    clear hW
    go_wp2_with fail
    refine bodyPost_ret (results_ct rfl _ _ w.heap.size 34 #[.int .i64 0, .int .i64 0, .int .i64 0, .int .i64 0, .int .i64 0, .int .i64 0, .int .i64 0, .bool false, .slice none 0 0, .int .i64 0, .int .i64 0, .int .i64 0, .slice none 0 0, .int .i64 0, .int .i64 0, .int .i64 0, .slice none 0 0] (0, 0) _ rfl HEB.out Tryz.underlying34 rfl (by kernel_rfl)) rfl ?_
    rw [HR.out]
    exact ⟨_, _, _, rfl, Kd.R_nil _ _ _ _ _, Kd.R_nil _ _ _ _ _, Kd.R_nil _ _ _ _ _, HBE.out⟩
end Go.Proofs.YtgiefblcckikeaaGreat.M
end

section
/- Sealed bytes are taken back; a beginning of them, and changed ones, are not (printed by genuns04.py out of law01's rows). -/
set_option maxRecDepth 100000
namespace Go.Proofs.YtgiefblcckikeaaGreat.M
open Go.RowKit Go.Proofs.YtgiefblcckikeaaGreatW.PrintWords Go.Proofs.YtgiefblcckikeaaGreatW.PrintLast Go.Proofs.YtgiefblcckikeaaGreatW.PrintMore Go.Proofs.YtgiefblcckikeaaGreat.G
theorem zeros_ok (n : Nat) : okB (List.replicate n 0) = true := by
 unfold okB
 rw [List.all_eq_true]
 intro x hx
 rw [(List.mem_replicate.1 hx).2]
 rfl
theorem sealB_ok (l : List Int) : okB (sealB l) = true := okB_append (lowB_ok _) (zeros_ok _)
end Go.Proofs.YtgiefblcckikeaaGreat.M
end

section
/- trivetref01.Unseal (printed by genuns04.py out of law01's rows). -/
set_option maxRecDepth 100000
namespace Go.Proofs.YtgiefblcckikeaaGreat.M
open Go.RowKit Go.Proofs.YtgiefblcckikeaaGreatW.PrintWords Go.Proofs.YtgiefblcckikeaaGreatW.PrintLast Go.Proofs.YtgiefblcckikeaaGreatW.PrintMore Go.Proofs.YtgiefblcckikeaaGreat.G
set_option maxHeartbeats 4000000 in
theorem refUnseal_calls (A : Option Addr) (c : Nat) (l : List Int) (w : World) (hr : Kd.C (Kd.int .u8) w A l.length l) (hc : l.length ≤ c) (hb : okB l = true) (hlen : l.length < 140737488355328) :
  Calls Tryz.prog 61 #[.slice A l.length c] w fun e w' => ∃ v0_ : Value, e = .returned (.tuple #[v0_, .int .i64 (takeSeal l).2.1, .int .i64 (takeSeal l).2.2]) ∧ Own w' w.heap.size v0_ (takeSeal l).1 ∧ Below w.heap.size w w' := by
 have HR := Aside0.mk hr
 have HC := Aside0.mk hc
 have HLEN := Aside0.mk hlen
 obtain ⟨T1, T2, T3, HTS⟩ : ∃ T1 T2 T3, Aside0 (takeSeal l = (T1, T2, T3)) := ⟨_, _, _, ⟨rfl⟩⟩
 rw [HTS.out]
 obtain ⟨x1, x2, x3, hx⟩ : ∃ x1 x2 x3, takeNum l = (x1, x2, x3) := ⟨_, _, _, rfl⟩
 have HT := Aside0.mk (show trivetref01_TakeNum.f l = some (x1, x2, x3) by unfold trivetref01_TakeNum.f; rw [if_pos hb, hx])
 by_cases he : tkE l = 0
 ·obtain ⟨f1, f2⟩ := form_one hb he
  have hs1 := tkS_pos l
  have hs2 := tkE_size he
  unfold takeNum at hx
  rw [if_pos he] at hx
  simp only [Prod.mk.injEq] at hx
  obtain ⟨hn, hs, rfl⟩ := hx
  have HN := Aside0.mk hn
  have HS := Aside0.mk hs
  have HE := Aside0.mk he
  rw [hs] at hs1 hs2
  unfold isI64 at f2
  rw [hn] at f2
  have HBE := Aside0.mk (show blE l 1048576 8 = if x1 < 0 then 11 else if 1048576 < x1 then 3 else if (l.length : Int) - x2 - 8 < x1 then 10 else 0 by
   unfold blE; rw [if_neg (by omega), hn, hs])
  clear hn hs he f1
  have hbad : ∀ z : Int, ¬ z = 0 → blE l 1048576 8 = z → Aside0 (T1 = [] ∧ T2 = 0 ∧ T3 = z) := by
   intro z hz hzz
   have hu : unE l = z := by unfold unE; rw [if_pos (by omega), hzz]
   have := HTS.out
   unfold takeSeal at this
   rw [hu, if_neg hz] at this
   simp only [Prod.mk.injEq] at this
   exact ⟨this.1.symm, this.2.1.symm, this.2.2.symm⟩
  by_cases h1 : x1 < 0
  ·have HX := hbad 11 (by decide) (by rw [HBE.out, if_pos h1])
   have g1 : decide (x1 < 0) = true := decide_eq_true h1
   clear h1 hbad hs1 hs2 f2 hr hc hlen
   go_enter Tryz.func61, Tryz.ntmps61
   go_wp2_with (go_at_call 129; refine (trivetref01_TakeNum.calls A c l _ _ _ _ HR.out HC.out HT.out).mono ?_; rintro e w1 ⟨rfl, hd⟩; have HB1 := Aside0.mk hd; clear hd)
   refine bodyPost_ret (v := .tuple #[.slice none 0 0, .int .i64 0, .int .i64 11]) (by simp [results, Tryz.results61, go_sem]) rfl ⟨_, by rw [HX.out.2.1, HX.out.2.2], by rw [HX.out.1]; exact Own.nil _ _, HB1.out⟩
  have g1 : decide (x1 < 0) = false := decide_eq_false h1
  by_cases h2 : 1048576 < x1
  ·have HX := hbad 3 (by decide) (by rw [HBE.out, if_neg h1, if_pos h2])
   have g2 : decide (1048576 < x1) = true := decide_eq_true h2
   clear h1 h2 hbad hs1 hs2 f2 hr hc hlen
   go_enter Tryz.func61, Tryz.ntmps61
   go_wp2_with (go_at_call 129; refine (trivetref01_TakeNum.calls A c l _ _ _ _ HR.out HC.out HT.out).mono ?_; rintro e w1 ⟨rfl, hd⟩; have HB1 := Aside0.mk hd; clear hd)
   refine bodyPost_ret (v := .tuple #[.slice none 0 0, .int .i64 0, .int .i64 3]) (by simp [results, Tryz.results61, go_sem]) rfl ⟨_, by rw [HX.out.2.1, HX.out.2.2], by rw [HX.out.1]; exact Own.nil _ _, HB1.out⟩
  have g2 : decide (1048576 < x1) = false := decide_eq_false h2
  have w1a : IntKind.i64.wrap (x1 + 8) = x1 + 8 := by rw [IntKind.wrap_i64]; omega
  have w1b : IntKind.i64.wrap ((l.length : Int) - x2) = (l.length : Int) - x2 := by rw [IntKind.wrap_i64]; omega
  by_cases h3 : (l.length : Int) - x2 < x1 + 8
  ·have HX := hbad 10 (by decide) (by rw [HBE.out, if_neg h1, if_neg h2, if_pos (by omega)])
   have g3 : decide ((l.length : Int) - x2 < x1 + 8) = true := decide_eq_true h3
   clear h1 h2 h3 hbad hs1 hs2 f2 hr hc hlen
   go_enter Tryz.func61, Tryz.ntmps61
   go_wp2_with (go_at_call 129; refine (trivetref01_TakeNum.calls A c l _ _ _ _ HR.out HC.out HT.out).mono ?_; rintro e w1 ⟨rfl, hd⟩; have HB1 := Aside0.mk hd; clear hd)
   refine bodyPost_ret (v := .tuple #[.slice none 0 0, .int .i64 0, .int .i64 10]) (by simp [results, Tryz.results61, go_sem]) rfl ⟨_, by rw [HX.out.2.1, HX.out.2.2], by rw [HX.out.1]; exact Own.nil _ _, HB1.out⟩
  have g3 : decide ((l.length : Int) - x2 < x1 + 8) = false := decide_eq_false h3
  have hbz : blE l 1048576 8 = 0 := by rw [HBE.out, if_neg h1, if_neg h2, if_neg (by omega)]
  obtain ⟨q1, q2, q3, q4, q5, q6⟩ := blE_good hbz
  obtain ⟨hi, HHI⟩ : ∃ hi, Aside0 (blHi l = hi) := ⟨_, ⟨rfl⟩⟩
  have hlo : blLo l = x2 := HS.out
  have hhi : hi = x2 + x1 := by rw [← HHI.out]; unfold blHi; rw [HS.out, HN.out]
  obtain ⟨A', c', hV, hc', hr'⟩ := blobV_form hr hc ⟨q6, q5, by omega⟩
  unfold blobV at hV
  rw [hlo, HHI.out] at hV
  obtain ⟨At, ct, hVt, hct, hrt⟩ := tail_form (A := A) (c := c) (l := l) (w := w) hr hc (by omega) (by omega)
  rw [HHI.out] at hVt q4 q5
  obtain ⟨i0, hi0, hz0, hz1, hz2⟩ := info_parts infoU8
  have hcut1 := cut_mid (P := Tryz.prog) 23 5 .i64 .i64 Tryz.underlying23 hi0 1 hz1 A l.length c x2 hi (by omega) (by omega) (by omega) hc
  have hcut2 := cut_mid (P := Tryz.prog) 23 5 .i64 .i64 Tryz.underlying23 hi0 1 hz1 A l.length c hi (hi + 8) (by omega) (by omega) (by omega) hc
  rw [hV] at hcut1
  rw [hVt] at hcut2
  have HLD := Aside0.mk (show (blD l).length < 140737488355328 by
   have := blD_length (l := l) ⟨q6, by rw [hlo, HHI.out]; omega, by rw [HHI.out]; omega⟩
   rw [this, HHI.out]; omega)
  have HK1 := Aside0.mk (ref_check (blD l) HLD.out ((blD l).length + 1) (by omega))
  have HK2 := Aside0.mk (show trivetref01_low.f 9 (chk (blD l)) = some (sealB (blD l)) from ref_low _ (chk_range _) 9 (by omega))
  obtain ⟨K1, hK1⟩ : ∃ K1, (blD l).length + 1 = K1 := ⟨_, rfl⟩
  obtain ⟨K2, hK2⟩ : ∃ K2, 9 = K2 := ⟨_, rfl⟩
  rw [hK1] at HK1
  rw [hK2] at HK2
  have HRD := Aside0.mk hr'
  have HRT := Aside0.mk hrt
  have wa : IntKind.i64.wrap (x2 + x1) = hi := by rw [IntKind.wrap_i64]; omega
  have wb : IntKind.i64.wrap (hi + 8) = hi + 8 := by rw [IntKind.wrap_i64]; omega
  obtain ⟨bq, hbq⟩ : ∃ bq, ((strOfNums (sealB (blD l))).toList == (strOfNums (tail8 l)).toList) = bq := ⟨_, rfl⟩
  have HY0 := Aside0.mk (show bq = true → T1 = blD l ∧ T2 = hi + 8 ∧ T3 = 0 by
   intro h0
   rw [h0, beq_iff_eq] at hbq
   have e1 : sealB (blD l) = tail8 l := bytesOf_inj (sealB_ok (blD l)) (okB_drop (okB_take hb _) _) hbq
   have := HTS.out
   have hu : unE l = 0 := by unfold unE; rw [hbz, if_neg (by simp), if_pos e1]
   unfold takeSeal at this
   rw [hu, if_pos rfl, HHI.out] at this
   simp only [Prod.mk.injEq] at this
   exact ⟨this.1.symm, this.2.1.symm, this.2.2.symm⟩)
  have HY1 := Aside0.mk (show bq = false → T1 = [] ∧ T2 = 0 ∧ T3 = 12 by
   intro h0
   rw [h0, beq_eq_false_iff_ne] at hbq
   have := HTS.out
   have hu : unE l = 12 := by unfold unE; rw [hbz, if_neg (by simp), if_neg (fun e => hbq (by rw [e]))]
   unfold takeSeal at this
   rw [hu, if_neg (by decide)] at this
   simp only [Prod.mk.injEq] at this
   exact ⟨this.1.symm, this.2.1.symm, this.2.2.symm⟩)
  clear h1 h2 h3 hbad hs1 hs2 f2 hr hc hlen hbz q1 q2 q3 q4 q5 q6 hlo hhi hV hr' hVt hrt hi0 hz0 hz1 hz2 hK1 hK2 hct hb
  go_enter Tryz.func61, Tryz.ntmps61
  go_wp2_with (first
   | (go_at_call 129; refine (trivetref01_TakeNum.calls A c l _ _ _ _ HR.out HC.out HT.out).mono ?_; rintro e w1 ⟨rfl, hd⟩; have HB1 := Aside0.mk hd; clear hd)
   | ((with_reducible refine gate_builtin (b := .append) (xs := #[.tmp 33, .tmp 37]) rfl ?_); at_builtin; refine Kd.R_append_rows (Kd.int .u8) (w0 := w) w.heap.size rfl (.tmp 33) (.tmp 37) 23 5 (.int .u8 0) 1 rfl Tryz.underlying23 infoU8 rfl (by decide) (by omega) (.slice none 0 0) ([] : List Int) (blD l) _ _ _ (fun _ => True) (fun _ => False) rfl rfl (Kd.R_nil _ _ _ _ (fun _ => True)) (Kd.C_below HRD.out HB1.out) (fun _ _ h => h) (fun _ h => h.elim) (fun _ _ => trivial) HB1.out HB1.out.size (by have := HLD.out; simp; omega) ?_; intro v2 w2 ho hb2 _ _; rw [List.nil_append] at ho; obtain ⟨A2, c2, rfl, hc2, hr2⟩ := Kd.R_reads ho; have HO2 := Aside0.mk (show Own w2 w.heap.size (.slice A2 (blD l).length c2) (blD l) from ho); have HB2 := Aside0.mk hb2; have HR2 := Aside0.mk hr2; have HC2 := Aside0.mk hc2; clear ho hb2 hr2 hc2))
  refine start_ (n := 11) (S := fun w' => Kd.C (Kd.int .u8) w' At (tail8 l).length (tail8 l)) (ds := []) #[false, false, false, false, false, false, false, false, false, false, false] (by kernel_rfl) rfl rfl (Kd.C_drew (Kd.C_below HRT.out HB2.out)) (fun hHeld => ?_)
  refine pure_ (i := 0) (N := some 39) (v := ?_) (a' := ?_) #[true, false, false, false, false, false, false, false, false, false, false] rfl rfl (by kernel_rfl) (fun _ _ _ h => h) (Or.inl ⟨by rfl, ?_⟩) ?_ ?_
  rotate_left
  ·intro w'
   go_simp
   try with_reducible rfl
  rotate_left
  ·simp only [Act.put, List.setIfInBounds_toArray, List.set_cons_zero, List.set_cons_succ, i64_w, i32_w]
   rfl
  refine pure_ (i := 4) (N := some 43) (v := ?_) (a' := ?_) #[true, false, false, false, true, false, false, false, false, false, false] rfl rfl (by kernel_rfl) (fun _ _ _ h => h) (Or.inl ⟨by rfl, ?_⟩) ?_ ?_
  rotate_left
  ·intro w'
   go_simp
   try with_reducible rfl
  rotate_left
  ·simp only [Act.put, List.setIfInBounds_toArray, List.set_cons_zero, List.set_cons_succ, i64_w, i32_w]
   rfl
  refine pure_ (i := 5) (N := some 44) (v := ?_) (a' := ?_) #[true, false, false, false, true, true, false, false, false, false, false] rfl rfl (by kernel_rfl) (fun _ _ _ h => h) (Or.inl ⟨by rfl, ?_⟩) ?_ ?_
  rotate_left
  ·intro w'
   go_simp
   try with_reducible rfl
  rotate_left
  ·simp only [Act.put, List.setIfInBounds_toArray, List.set_cons_zero, List.set_cons_succ, i64_w, i32_w]
   rfl
  refine pure_ (i := 6) (N := some 45) (v := ?_) (a' := ?_) #[true, false, false, false, true, true, true, false, false, false, false] rfl rfl (by kernel_rfl) (fun _ _ _ h => h) (Or.inl ⟨by rfl, ?_⟩) ?_ ?_
  rotate_left
  ·intro w'
   go_simp
   try with_reducible rfl
  rotate_left
  ·simp only [Act.put, List.setIfInBounds_toArray, List.set_cons_zero, List.set_cons_succ, i64_w, i32_w]
   rfl
  refine pure_ (i := 7) (N := some 46) (v := ?_) (a' := ?_) #[true, false, false, false, true, true, true, true, false, false, false] rfl rfl (by kernel_rfl) (fun _ _ _ h => h) (Or.inl ⟨by rfl, ?_⟩) ?_ ?_
  rotate_left
  ·intro w'
   go_simp
   try with_reducible rfl
  rotate_left
  ·simp only [Act.put, List.setIfInBounds_toArray, List.set_cons_zero, List.set_cons_succ, i64_w, i32_w]
   rfl
  refine pure_ (i := 8) (N := some 47) (v := ?_) (a' := ?_) #[true, false, false, false, true, true, true, true, true, false, false] rfl rfl (by kernel_rfl) (fun _ _ _ h => h) (Or.inl ⟨by rfl, ?_⟩) ?_ ?_
  rotate_left
  ·intro w'
   go_simp
   try with_reducible rfl
  rotate_left
  ·simp only [Act.put, List.setIfInBounds_toArray, List.set_cons_zero, List.set_cons_succ, i64_w, i32_w]
   rfl
  refine take_ (i := 9) (N := some 48) (v := ?_) (a' := ?_) #[true, false, false, false, true, true, true, true, true, true, false] rfl rfl (by kernel_rfl) (fun _ _ _ h => h) (Or.inl ⟨by rfl, ?_⟩) hHeld ?_ ?_
  rotate_left
  ·intro w' hS
   have hcv := Kd.C_string (P := Tryz.prog) (src := 23) (dst := 9) (e := 5) (c := ct) Tryz.underlying23 Tryz.underlying5 Tryz.underlying9 hS
   go_simp
   try with_reducible rfl
  rotate_left
  ·simp only [Act.put, List.setIfInBounds_toArray, List.set_cons_zero, List.set_cons_succ, i64_w, i32_w]
   rfl
  refine one_ (i := 1) (N := some 40) #[true, true, false, false, true, true, true, true, true, true, false] rfl rfl (by kernel_rfl) (by decide) (fun K hK => ?_)
  go_simp
  refine (trivetref01_Check.calls K1 _ c2 (blD l) _ _ (Kd.C_drew HR2.out) HC2.out HK1.out).mono ?_
  rintro e w3 ⟨rfl, hd⟩
  have HB3 := Aside0.mk (show Below w.heap.size w w3 from below_step HB2.out.drew hd.below)
  have HO3 := Aside0.mk (show Own w3 w.heap.size (.slice A2 (blD l).length c2) (blD l) from Own.below HO2.out.drew hd.below)
  refine hK.out _ _ (Kd.C_below hHeld hd.below) (fun hHeld => ?_)
  refine one_ (i := 2) (N := some 41) #[true, true, true, false, true, true, true, true, true, true, false] rfl rfl (by kernel_rfl) (by decide) (fun K hK => ?_)
  go_simp
  refine (trivetref01_low.calls K2 (chk (blD l)) (sealB (blD l)) _ HK2.out).mono ?_
  rintro e w4 ⟨v4, rfl, ho4, hb4⟩
  have HB4 := Aside0.mk (show Below w.heap.size w w4 from below_step HB3.out hb4)
  have HO4 := Aside0.mk (show Own w4 w.heap.size (.slice A2 (blD l).length c2) (blD l) from Own.below HO3.out hb4)
  obtain ⟨A4, c4, rfl, hc4, hr4⟩ := Kd.R_reads ho4
  have hcv := Kd.C_string (P := Tryz.prog) (src := 23) (dst := 9) (e := 5) (c := c4) Tryz.underlying23 Tryz.underlying5 Tryz.underlying9 hr4
  refine hK.out _ _ (Kd.C_below hHeld hb4) (fun hHeld => ?_)
  clear hb4 ho4 hc4 hr4
  refine one_ (i := 3) (N := some 42) #[true, true, true, true, true, true, true, true, true, true, false] rfl rfl (by kernel_rfl) (by decide) (fun K hK => ?_)
  go_simp
  refine hK.out _ _ hHeld (fun hHeld => ?_)
  refine pure_ (i := 10) (N := some 49) (v := ?_) (a' := ?_) #[true, true, true, true, true, true, true, true, true, true, true] rfl rfl (by kernel_rfl) (fun _ _ _ h => h) (Or.inl ⟨by rfl, ?_⟩) ?_ ?_
  rotate_left
  ·intro w'
   go_simp
   try with_reducible rfl
  rotate_left
  ·simp only [Act.put, List.setIfInBounds_toArray, List.set_cons_zero, List.set_cons_succ, i64_w, i32_w]
   rfl
  refine done_ (by kernel_rfl) ?_
  cases bq with
  | true =>
   have HZ := Aside0.mk (HY0.out rfl)
   go_wp2
   refine bodyPost_ret (v := .tuple #[.slice A2 (blD l).length c2, .int .i64 (hi + 8), .int .i64 0]) (by simp [results, Tryz.results61, go_sem]) rfl ⟨_, by rw [HZ.out.2.1, HZ.out.2.2], by rw [HZ.out.1]; exact HO4.out, HB4.out⟩
  | false =>
   have HZ := Aside0.mk (HY1.out rfl)
   go_wp2
   refine bodyPost_ret (v := .tuple #[.slice none 0 0, .int .i64 0, .int .i64 12]) (by simp [results, Tryz.results61, go_sem]) rfl ⟨_, by rw [HZ.out.2.1, HZ.out.2.2], by rw [HZ.out.1]; exact Own.nil _ _, HB4.out⟩
 ·have HX := Aside0.mk (show T1 = [] ∧ T2 = 0 ∧ T3 = tkE l by
   have hbe : blE l 1048576 8 = tkE l := by unfold blE; rw [if_pos he]
   have hu : unE l = tkE l := by unfold unE; rw [hbe, if_pos he]
   have := HTS.out
   unfold takeSeal at this
   rw [hu, if_neg he] at this
   simp only [Prod.mk.injEq] at this
   exact ⟨this.1.symm, this.2.1.symm, this.2.2.symm⟩)
  unfold takeNum at hx
  rw [if_neg he] at hx
  simp only [Prod.mk.injEq] at hx
  obtain ⟨rfl, rfl, hx3⟩ := hx
  have g0 : (x3 != 0) = true := bne_iff_ne.2 (by omega)
  have HX3 := Aside0.mk hx3
  clear he hx3 hr hc hlen
  go_enter Tryz.func61, Tryz.ntmps61
  go_wp2_with (go_at_call 129; refine (trivetref01_TakeNum.calls A c l _ _ _ _ HR.out HC.out HT.out).mono ?_; rintro e w1 ⟨rfl, hd⟩; have HB1 := Aside0.mk hd; clear hd)
  refine bodyPost_ret (v := .tuple #[.slice none 0 0, .int .i64 0, .int .i64 x3]) (by simp [results, Tryz.results61, go_sem]) rfl ⟨_, by rw [HX.out.2.1, HX.out.2.2, HX3.out], by rw [HX.out.1]; exact Own.nil _ _, HB1.out⟩
end Go.Proofs.YtgiefblcckikeaaGreat.M
namespace Go.Proofs.YtgiefblcckikeaaGreat.G
open Go.RowKit Go.Proofs.YtgiefblcckikeaaGreatW.PrintWords Go.Proofs.YtgiefblcckikeaaGreat.M
def trivetref01_Unseal.f (l0 : List Int) : Option (List Int × Int × Int) := if okB l0 = true ∧ l0.length < 140737488355328 then some (takeSeal l0) else none
theorem trivetref01_Unseal.calls (A0 : Option Addr) (c0 : Nat) (l0 : List Int) (r1 : List Int) (r2 : Int) (r3 : Int) (w : World) (hr0 : Kd.C (Kd.int .u8) w A0 l0.length l0) (hc0 : l0.length ≤ c0) (h : trivetref01_Unseal.f l0 = some (r1, r2, r3)) :
  Calls Tryz.prog 61 #[.slice A0 l0.length c0] w fun e w' => ∃ v0_ : Value, e = .returned (.tuple #[v0_, .int .i64 r2, .int .i64 r3]) ∧ Kd.R (Kd.int .u8) 5 w' w.heap.size (fun _ => True) v0_ r1 ∧ Below w.heap.size w w' := by
 unfold trivetref01_Unseal.f at h
 split at h
 ·rename_i hb
  have h := Option.some.inj h
  have h1 : r1 = (takeSeal l0).1 := by rw [h]
  have h2 : r2 = (takeSeal l0).2.1 := by rw [h]
  have h3 : r3 = (takeSeal l0).2.2 := by rw [h]
  rw [h1, h2, h3]
  exact refUnseal_calls A0 c0 l0 w hr0 hc0 hb.1 hb.2
 ·cases h
end Go.Proofs.YtgiefblcckikeaaGreat.G
end

section
/- The reference's Reader: a transaction (printed by genrdt04.py). -/
set_option maxRecDepth 100000
attribute [local irreducible] Go.wpStill
namespace Go.Proofs.YtgiefblcckikeaaGreat.M
open Go.RowKit Go.Proofs.YtgiefblcckikeaaGreatW.PrintWords Go.Proofs.YtgiefblcckikeaaGreatW.PrintLast Go.Proofs.YtgiefblcckikeaaGreatW.PrintMore Go.Proofs.YtgiefblcckikeaaGreat.G
def RdX (B : List Int) (w0 w : World) (x : Nat) (y : TxD) (s' : EyeS) (e : Ending) (w' : World) : Prop := ∃ v2 v3 v4 v5 : Value, e = .returned (.agg #[.int .i64 y.f0, .int .i64 y.f1, v2, v3, v4, v5]) ∧ Kd.R (Kd.int .u8) 5 w' w.heap.size (fun _ => True) v2 y.f2 ∧ Kd.R (Kd.int .i64) 2 w' w.heap.size (fun _ => True) v3 y.f3 ∧ Kd.R G.k101 101 w' w.heap.size (fun k => some k ≠ v5.ownBlock) v4 y.f4 ∧ Kd.R G.k101 101 w' w.heap.size (fun k => some k ≠ v4.ownBlock) v5 y.f5 ∧ IsRd B w0 w' x s' ∧ Below w0.heap.size w0 w' ∧ KeepS (fun i => i = x) w w'
def RdJ (P : World → Prop) (n : Int) (r : List Int × EyeS) (B : List Int) (w0 w W1 : World) (x g : Nat) (h3 : Array Value) (i : Value) (W : World) : Prop := ∃ (U : List Int) (s : EyeS) (Av : Option Addr) (cv : Nat), i = .int .i64 (U.length : Int) ∧ U.length ≤ n.toNat ∧ Fr (fun W s => IsRd B w0 W x s) w0 w x g 26 #[.int .i64 0, .int .i64 0, .slice none 0 0, .slice none 0 0, .slice none 0 0, .slice none 0 0] (h3 ++ #[.slice Av U.length cv, .slice none 0 0, .slice none 0 0]) s P W ∧ KeepS (fun k => k = x ∨ k = g) W1 W ∧ Kd.R (Kd.int .i64) 2 W W1.heap.size (fun k => W1.heap.size ≤ k) (.slice Av U.length cv) U ∧ okS s ∧ r = (U ++ (eMany eNum (n.toNat - U.length) s).1, (eMany eNum (n.toNat - U.length) s).2)
theorem infoI64' : (Tryz.prog.info? 2).map (fun i => (i.zero, i.size, i.bytes)) = some (some (.int .i64 0), 1, 8) := by kernel_rfl
set_option maxHeartbeats 4000000 in
theorem rdTxn_is {B : List Int} {w0 w : World} {x : Nat} {s : EyeS} (hI : IsRd B w0 w x s) (hB : Below w0.heap.size w0 w) (hok : okS s) :
  Calls Tryz.prog 118 #[.pointer (some ⟨x, 0, none⟩)] w fun e w' => RdX B w0 w x (eTxn s).1 (eTxn s).2 e w' := by
 obtain ⟨r, HF0⟩ : ∃ r, eTxn s = r := ⟨_, rfl⟩
 have HF := HF0
 unfold eTxn at HF
 obtain ⟨a, ha⟩ : ∃ a, (eNum s).1 = a := ⟨_, rfl⟩
 obtain ⟨s1, hs1⟩ : ∃ s1, (eNum s).2 = s1 := ⟨_, rfl⟩
 have ho1 := okS_num hok
 rw [ha, hs1] at HF
 rw [hs1] at ho1
 obtain ⟨b, hb⟩ : ∃ b, (eNum s1).1 = b := ⟨_, rfl⟩
 obtain ⟨s2, hs2⟩ : ∃ s2, (eNum s1).2 = s2 := ⟨_, rfl⟩
 have ho2 := okS_num ho1
 rw [hb, hs2] at HF
 rw [hs2] at ho2
 obtain ⟨l2, hl2⟩ : ∃ l2, (eData s2).1 = l2 := ⟨_, rfl⟩
 obtain ⟨s3, hs3⟩ : ∃ s3, (eData s2).2 = s3 := ⟨_, rfl⟩
 have ho3 := okS_data ho2
 rw [hl2, hs3] at HF
 rw [hs3] at ho3
 obtain ⟨l3, hl3⟩ : ∃ l3, (eList eNum s3).1 = l3 := ⟨_, rfl⟩
 obtain ⟨s4, hs4⟩ : ∃ s4, (eList eNum s3).2 = s4 := ⟨_, rfl⟩
 have ho4 := okS_list (g := eNum) (fun _ => okS_num) ho3
 rw [hl3, hs4] at HF
 rw [hs4] at ho4
 obtain ⟨l4, hl4⟩ : ∃ l4, (eList eKey s4).1 = l4 := ⟨_, rfl⟩
 obtain ⟨s5, hs5⟩ : ∃ s5, (eList eKey s4).2 = s5 := ⟨_, rfl⟩
 have ho5 := okS_list (g := eKey) (fun _ => okS_key) ho4
 rw [hl4, hs5] at HF
 rw [hs5] at ho5
 obtain ⟨l5, hl5⟩ : ∃ l5, (eList eKey s5).1 = l5 := ⟨_, rfl⟩
 obtain ⟨s6, hs6⟩ : ∃ s6, (eList eKey s5).2 = s6 := ⟨_, rfl⟩
 rw [hl5, hs6] at HF
 have HF := Lib.hid (HF0.trans HF.symm)
 have HO1 := Lib.hid ho1; have HO2 := Lib.hid ho2; have HO3 := Lib.hid ho3; have HO4 := Lib.hid ho4; have HO5 := Lib.hid ho5
 have HE2 := Lib.hid (And.intro hb hs2); have HE3 := Lib.hid (And.intro hl2 hs3); have HE5 := Lib.hid (And.intro hl4 hs5); have HE6 := Lib.hid (And.intro hl5 hs6)
 have HE1 := Lib.hid (And.intro ha hs1)
 have HO0 := Lib.hid hok
 have HL3 := Lib.hid (show eMany eNum (rLen s3).1.toNat (rLen s3).2 = (l3, s4) by rw [← eList_len, ← hl3, ← hs4])
 have HSZ := Lib.hid (rLen_size s3)
 have HOL := Lib.hid (okS_len ho3)
 obtain ⟨n, hn⟩ : ∃ n, (rLen s3).1 = n := ⟨_, rfl⟩
 obtain ⟨sl, hsl⟩ : ∃ sl, (rLen s3).2 = sl := ⟨_, rfl⟩
 rw [hn, hsl] at HL3
 rw [hn] at HSZ
 rw [hsl] at HOL
 have HEL := Lib.hid (And.intro hn hsl)
 have hb1 := ((Below.refl _ w).alloc (Nat.le_refl _) zTxn).alloc (by simp) zTxn
 have hz1 : (w.alloc zTxn).heap.size = w.heap.size + 1 := by simp
 have hz2 : ((w.alloc zTxn).alloc zTxn).heap.size = w.heap.size + 1 + 1 := by simp
 have hy := heap_alloc_new (w.alloc zTxn) zTxn
 rw [hz1] at hy
 have hg0 : ((w.alloc zTxn).alloc zTxn).heap[w.heap.size]? = some zTxn := ((((Below.refl _ (w.alloc zTxn)).alloc (Nat.le_refl _) zTxn).block w.heap.size (by omega)).trans (heap_alloc_new w zTxn))
 have HT0 := Lib.hid (show Fr (fun W s => IsRd B w0 W x s) w0 w x (w.heap.size + 1) 26 #[.int .i64 0, .int .i64 0, .slice none 0 0, .slice none 0 0, .slice none 0 0, .slice none 0 0] #[.int .i64 0, .int .i64 0, .slice none 0 0, .slice none 0 0, .slice none 0 0, .slice none 0 0] s (fun _ => True) ((w.alloc zTxn).alloc zTxn) from ⟨hg0, hy, hI.below hb1, (hB.alloc hB.size zTxn).alloc (by have := hB.size; simp; omega) zTxn, KeepS.of_below _ hb1, by omega, by omega, hI.lt, hI.ge, Held.true _ _, fun _ _ _ e h => h.at e⟩)
 clear hI hB hok hb1 hz1 hz2 hy hg0 ha hs1 hb hs2 hl2 hs3 hl3 hs4 hl4 hs5 hl5 hs6 ho1 ho2 ho3 ho4 ho5 hn hsl
 go_enter Tryz.func118, Tryz.ntmps118
 go_wp2_with fail
 obtain ⟨g, hg⟩ : ∃ g, w.heap.size + 1 = g := ⟨_, rfl⟩
 obtain ⟨w0_, hw1⟩ : ∃ w0_, (w.alloc zTxn).alloc zTxn = w0_ := ⟨_, rfl⟩
 rw [hg, hw1] at HT0 ⊢
 clear hg hw1
 have HT1 := HT0
 obtain ⟨w1, hw1⟩ : ∃ w1, w0_ = w1 := ⟨_, rfl⟩
 rw [hw1] at HT0 HT1 ⊢
 clear hw1 HT0
 have h4 := rdNum_is HT1.out.i HT1.out.d HO0.out
 rw [HE1.out.1, HE1.out.2] at h4
 refine h4.mono ?_
 rintro e w2 ⟨rfl, h1, h2, h3⟩
 have HT2 := Lib.hid (HT1.out.call h1 h2 h3)
 clear h1 h2 h3 h4 HT1
 have d0 : w2.cell? ⟨g, 0, none⟩ = some (.int .i64 0) := (blk_cell HT2.out.y 0).trans rfl
 have z0 : w2.frozen? ⟨g, 0, none⟩ = false := blk_frozen HT2.out.y 0
 go_wp2_with fail
 have HT3 := Lib.hid (HT2.out.set 0 (.int .i64 a) #[.int .i64 a, .int .i64 0, .slice none 0 0, .slice none 0 0, .slice none 0 0, .slice none 0 0] (blk_put HT2.out.y 0 _ rfl))
 have HLO3 := Lib.hid (show w2.heap.size ≤ (w2.setCell ⟨g, 0, none⟩ (.int .i64 a)).heap.size by rw [World.size_setCell]; exact Nat.le_refl _)
 obtain ⟨w3, hw3⟩ : ∃ w3, w2.setCell ⟨g, 0, none⟩ (.int .i64 a) = w3 := ⟨_, rfl⟩
 rw [hw3] at HT3 HLO3 ⊢
 clear hw3 HT2 d0 z0
 have h4 := rdNum_is HT3.out.i HT3.out.d HO1.out
 rw [HE2.out.1, HE2.out.2] at h4
 refine h4.mono ?_
 rintro e w4 ⟨rfl, h1, h2, h3⟩
 have HT4 := Lib.hid (HT3.out.call h1 h2 h3)
 clear h1 h2 h3 h4 HT3
 have d1 : w4.cell? ⟨g, 1, none⟩ = some (.int .i64 0) := (blk_cell HT4.out.y 1).trans rfl
 have z1 : w4.frozen? ⟨g, 1, none⟩ = false := blk_frozen HT4.out.y 1
 go_wp2_with fail
 have HT5 := Lib.hid (HT4.out.set 1 (.int .i64 b) #[.int .i64 a, .int .i64 b, .slice none 0 0, .slice none 0 0, .slice none 0 0, .slice none 0 0] (blk_put HT4.out.y 1 _ rfl))
 have HLO5 := Lib.hid (show w4.heap.size ≤ (w4.setCell ⟨g, 1, none⟩ (.int .i64 b)).heap.size by rw [World.size_setCell]; exact Nat.le_refl _)
 obtain ⟨w5, hw5⟩ : ∃ w5, w4.setCell ⟨g, 1, none⟩ (.int .i64 b) = w5 := ⟨_, rfl⟩
 rw [hw5] at HT5 HLO5 ⊢
 clear hw5 HT4 d1 z1
 have h4 := rdData_is HT5.out.i HT5.out.d HO2.out
 rw [HE3.out.1, HE3.out.2] at h4
 refine h4.mono ?_
 rintro e w6 ⟨v_, rfl, hv, h1, h2, h3⟩
 obtain ⟨A2, c2, rfl⟩ := Kd.R_slice hv
 have HT6 := Lib.hid (HT5.out.callR h1 h2 h3 hv)
 have HLO6 := Lib.hid (show w5.heap.size ≤ w6.heap.size from h3.size)
 clear h1 h2 h3 h4 hv HT5
 have d2 : w6.cell? ⟨g, 2, none⟩ = some (.slice none 0 0) := (blk_cell HT6.out.y 2).trans rfl
 have z2 : w6.frozen? ⟨g, 2, none⟩ = false := blk_frozen HT6.out.y 2
 go_wp2_with fail
 have HT7 := Lib.hid (HT6.out.set 2 (.slice A2 l2.length c2) #[.int .i64 a, .int .i64 b, .slice A2 l2.length c2, .slice none 0 0, .slice none 0 0, .slice none 0 0] (blk_put HT6.out.y 2 _ rfl))
 have HLO7 := Lib.hid (show w6.heap.size ≤ (w6.setCell ⟨g, 2, none⟩ (.slice A2 l2.length c2)).heap.size by rw [World.size_setCell]; exact Nat.le_refl _)
 obtain ⟨w7, hw7⟩ : ∃ w7, w6.setCell ⟨g, 2, none⟩ (.slice A2 l2.length c2) = w7 := ⟨_, rfl⟩
 rw [hw7] at HT7 HLO7 ⊢
 clear hw7 HT6 d2 z2
 have h4 := rdLen_is HT7.out.i HT7.out.d HO3.out
 rw [HEL.out.1, HEL.out.2] at h4
 refine h4.mono ?_
 rintro e w8 ⟨rfl, h1, h2, h3⟩
 have HT8 := Lib.hid (HT7.out.call h1 h2 h3)
 clear h1 h2 h3 h4 HT7
 go_upto_block 0 with fail
 have HST := Lib.hid HT8.out.h
 have HGZ := Lib.hid HT8.out.hz
 have HGZ0 := Lib.hid (show w.heap.size < w8.heap.size from Nat.lt_trans HT8.out.hg HT8.out.hz)
 obtain ⟨P, hP⟩ : ∃ P : World → Prop, (fun V => True ∧ Iv (Kd.int .u8) 5 w w5.heap.size w6.heap.size (.slice A2 l2.length c2) l2 V) = P := ⟨_, rfl⟩
 rw [hP] at HT8 HST
 have HP := Lib.hid hP
 clear hP
 go_cut [] (fun wx => ∃ A3 c3, Fr (fun W s => IsRd B w0 W x s) w0 w x g 26 #[.int .i64 0, .int .i64 0, .slice none 0 0, .slice none 0 0, .slice none 0 0, .slice none 0 0] #[.int .i64 a, .int .i64 b, .slice A2 l2.length c2, .slice A3 l3.length c3, .slice none 0 0, .slice none 0 0] s4 (fun V => P V ∧ Iv (Kd.int .i64) 2 w w8.heap.size wx.heap.size (.slice A3 l3.length c3) l3 V) wx ∧ w8.heap.size ≤ wx.heap.size)
 case first =>
  go_wp2_with fail
  go_wp2_with fail
  go_loopw [5] (fun i wr => RdJ P n (l3, s4) B w0 w w8 x g #[.int .i64 a, .int .i64 b, .slice A2 l2.length c2] i wr) (fun i _ => n.toNat - (intOf i).toNat)
  case atStart => exact ⟨[], sl, none, 0, rfl, by simp, HT8.out, KeepS.refl _ _, Kd.R_nil _ _ _ _ _, HOL.out, by simp [HL3.out]⟩
  case round =>
   obtain ⟨U, s5', Av, cv, rfl, hUn, hT, hK, hR, hO, hF⟩ := hrel
   have HT := Lib.hid hT; have HK := Lib.hid hK; have HR := Lib.hid hR; have HO := Lib.hid hO; have HF := Lib.hid hF; have HUN := Lib.hid hUn
   obtain ⟨A, c, k, g1, g2, g3⟩ := HT.out.i
   have c1 : wr.cell? ⟨x, 2, none⟩ = some (.int .i64 s5'.e) := by simp [World.cell?, g1]
   clear hT hK hR hO hF hUn g1 g2 g3 k c A
   by_cases hlt : (U.length : Int) < n
   ·by_cases he : s5'.e = 0
    ·have hq1 : decide ((U.length : Int) < n) = true := decide_eq_true hlt
     have hq2 : (s5'.e == 0) = true := by rw [he]; rfl
     have HT := Lib.hid HT.out.drew; have HK := Lib.hid HK.out.drew; have HR := Lib.hid (Kd.R_drew HR.out)
     have HN := Lib.hid (rdNum_is HT.out.i HT.out.d HO.out)
     obtain ⟨m, hm⟩ : ∃ m, (eNum s5').1 = m := ⟨_, rfl⟩
     obtain ⟨s6', hs6⟩ : ∃ s6', (eNum s5').2 = s6' := ⟨_, rfl⟩
     have HO6 := Lib.hid (show okS s6' by rw [← hs6]; exact okS_num HO.out)
     have HF2 := Lib.hid (show (l3, s4) = ((U ++ [m]) ++ (eMany eNum (n.toNat - (U ++ [m]).length) s6').1, (eMany eNum (n.toNat - (U ++ [m]).length) s6').2) by
      rw [HF.out]
      have e1 : n.toNat - U.length = (n.toNat - (U ++ [m]).length) + 1 := by simp; omega
      rw [e1]
      simp only [eMany, he, if_true, hm, hs6, List.append_assoc, List.singleton_append])
     have HLT2 := Lib.hid hlt
     have hul : U.length ≤ 4096 := by have h1 := HUN.out; have h2 := HSZ.out; omega
     have q3 : wr.cell? ⟨g, 3, none⟩ = some (.slice Av U.length cv) := (blk_cell HT.out.y 3).trans rfl
     rw [hm, hs6] at HN
     clear hlt he hm hs6
     go_wp2_with fail
     refine start_ (n := 8) (S := fun w' => w'.cell? ⟨g, 3, none⟩ = some (.slice Av U.length cv)) (ds := [7]) #[false, false, false, false, false, false, false, false] (by kernel_rfl) rfl rfl ((blk_cell HT.out.y 3).trans rfl) (fun hHeld => ?_)
     obtain ⟨wd, hwd⟩ : ∃ wd, wr.drew = wd := ⟨_, rfl⟩
     rw [hwd] at HT HK HR HN hHeld ⊢
     clear hwd
     refine pure_ (i := 0) (N := some 29) (v := ?_) (a' := ?_) #[true, false, false, false, false, false, false, false] rfl rfl (by kernel_rfl) (fun _ _ _ h => h) (Or.inl ⟨by rfl, ?_⟩) ?_ ?_
     rotate_left
     ·intro w'
      go_simp
      try with_reducible rfl
     rotate_left
     ·simp only [Act.put, List.setIfInBounds_toArray, List.set_cons_zero, List.set_cons_succ, i64_w, i32_w]
      rfl
     refine pure_ (i := 2) (N := some 31) (v := ?_) (a' := ?_) #[true, false, true, false, false, false, false, false] rfl rfl (by kernel_rfl) (fun _ _ _ h => h) (Or.inl ⟨by rfl, ?_⟩) ?_ ?_
     rotate_left
     ·intro w'
      go_simp
      try with_reducible rfl
     rotate_left
     ·simp only [Act.put, List.setIfInBounds_toArray, List.set_cons_zero, List.set_cons_succ, i64_w, i32_w]
      rfl
     refine take_ (i := 1) (N := some 30) (v := ?_) (a' := ?_) #[true, true, true, false, false, false, false, false] rfl rfl (by kernel_rfl) (fun _ _ _ h => h) (Or.inl ⟨by rfl, ?_⟩) hHeld ?_ ?_
     rotate_left
     ·intro w' hS
      go_simp
      try with_reducible rfl
     rotate_left
     ·simp only [Act.put, List.setIfInBounds_toArray, List.set_cons_zero, List.set_cons_succ, i64_w, i32_w]
      rfl
     refine one_ (i := 3) (N := some 32) #[true, true, true, true, false, false, false, false] rfl rfl (by kernel_rfl) (by decide) (fun K hK => ?_)
     go_simp
     refine HN.out.mono ?_
     rintro e w_ ⟨rfl, h1, h2, h3⟩
     have HTa := Lib.hid (HT.out.call h1 h2 h3)
     have HRa := Lib.hid (Kd.R_step HR.out (fun k h7 h8 => h3.block k h8 (by have := HT.out.hxg; have := HGZ.out; omega)))
     have HKa := Lib.hid (HK.out.trans (h3.mono (fun i (e : i = x) => Or.inl e) : KeepS (fun k => k = x ∨ k = g) wd w_))
     clear h1 h2 h3 HN
     refine hK.out _ _ ((blk_cell HTa.out.y 3).trans rfl) (fun hHeld => ?_)
     clear hK K
     refine one_ (i := 4) (N := some 33) #[true, true, true, true, true, false, false, false] rfl rfl (by kernel_rfl) (by decide) (fun K hK => ?_)
     refine value_ (w1 := ?_) (v := ?_) (by rfl) rfl ?_ ?_
     rotate_left 2
     ·go_simp
      constructor <;> rfl
     refine hK.out _ _ ((blk_cell (blk_alloc HTa.out.y _) 3).trans rfl) (fun hHeld => ?_)
     clear hK K
     refine norm_ (a' := ?_) ?_ ?_
     rotate_left
     ·show Act.put _ (some 33) _ = _
      simp only [Act.put, List.setIfInBounds_toArray, List.set_cons_zero, List.set_cons_succ, i64_w, i32_w]
      rfl
     refine one_ (i := 5) (N := some 34) #[true, true, true, true, true, true, false, false] rfl rfl (by kernel_rfl) (by decide) (fun K hK => ?_)
     refine Kd.R_append_step (Kd.int .i64) w8.heap.size (by rfl) (.tmp 30) (.tmp 33) 24 2 (.int .i64 0) 8 rfl Tryz.underlying24 infoI64' rfl (by decide) (by omega) (.slice Av U.length cv) U m [.int .i64 m] (fun k => w8.heap.size ≤ k) (fun _ => False) rfl rfl rfl (fun _ hk => hk.elim) (fun k hk => Nat.le_trans HKa.out.size hk) HRa.out (Below.refl _ _) HKa.out.size (by omega) ?_
     intro v_ wb ho hb hg_ hat
     have hb' : Below w8.heap.size w_ wb := hb
     obtain ⟨Aw, cw, rfl⟩ := Kd.R_slice ho
     have HRb := Lib.hid ho
     have HTb := Lib.hid (HTa.out.grow HST.out HKa.out HGZ.out hb')
     have HKb := Lib.hid (HKa.out.then_base hb')
     clear ho hb hg_ hat hb' HTa HRa HKa
     refine hK.out _ _ ((blk_cell HTb.out.y 3).trans rfl) (fun hHeld => ?_)
     clear hK K
     refine norm_ (a' := ?_) ?_ ?_
     rotate_left
     ·show Act.put _ (some 34) _ = _
      simp only [Act.put, List.setIfInBounds_toArray, List.set_cons_zero, List.set_cons_succ, i64_w, i32_w]
      rfl
     refine pure_ (i := 6) (N := some 35) (v := ?_) (a' := ?_) #[true, true, true, true, true, true, true, false] rfl rfl (by kernel_rfl) (fun _ _ _ h => h) (Or.inl ⟨by rfl, ?_⟩) ?_ ?_
     rotate_left
     ·intro w'
      go_simp
      try with_reducible rfl
     rotate_left
     ·simp only [Act.put, List.setIfInBounds_toArray, List.set_cons_zero, List.set_cons_succ, i64_w, i32_w]
      rfl
     refine last_ (i := 7) (N := none) #[true, true, true, true, true, true, true, true] rfl rfl (by kernel_rfl) (by decide) (fun K hK => ?_)
     have q3 : wb.cell? ⟨g, 3, none⟩ = some (.slice Av U.length cv) := (blk_cell HTb.out.y 3).trans rfl
     have z3 : wb.frozen? ⟨g, 3, none⟩ = false := blk_frozen HTb.out.y 3
     refine skip_ (w1 := ?_) (by rfl) rfl ?_ ?_
     rotate_left
     ·go_simp
      rfl
     refine hK.out _ _ ?_
     clear hK K
     refine done_ (by kernel_rfl) ?_
     try go_wp2
     go_roundw
     case rel =>
      refine ⟨U ++ [m], s6', Aw, cw, by rw [List.length_append]; go_num, ?_, HTb.out.set 3 _ _ (blk_put HTb.out.y 3 _ (by simp)), HKb.out.set (p := ⟨g, 3, none⟩) (.inl (.inr rfl)) _, Kd.R_far (p := ⟨g, 3, none⟩) HRb.out (fun k (hk : _ ≤ k) => by have := HGZ.out; show k ≠ g; omega) _, HO6.out, HF2.out⟩
      have h2 := HLT2.out
      rw [List.length_append, List.length_singleton]
      omega
     case measure => simp [intOf]; have h2 := HLT2.out; omega
    ·have hq1 : decide ((U.length : Int) < n) = true := decide_eq_true hlt
     have hq2 : (s5'.e == 0) = false := beq_eq_false_iff_ne.2 he
     obtain ⟨rfl, rfl⟩ : l3 = U ∧ s4 = s5' := by
      have := HF.out
      rw [eMany_stop he, List.append_nil] at this
      simpa using this
     clear he
     have HFI := Lib.hid (HT.out.and ((show Iv (Kd.int .i64) 2 w w8.heap.size wr.heap.size (.slice Av l3.length cv) l3 wr from Iv.of HR.out (Nat.le_of_lt HGZ0.out)).held (fun k hk => by have h7 := HGZ.out; have h8 := HT.out.hxg; have h9 := HT.out.hg; rcases hk with rfl | rfl | rfl <;> omega)))
     have HFZ := Lib.hid HK.out.size
     clear hlt HT HK HR HF
     go_wp2_with fail
     go_meet
     exact ⟨_, _, HFI.out, HFZ.out⟩
   ·have hq1 : decide ((U.length : Int) < n) = false := decide_eq_false hlt
    obtain ⟨rfl, rfl⟩ : l3 = U ∧ s4 = s5' := by
     have e1 : n.toNat - U.length = 0 := by omega
     have := HF.out
     rw [e1] at this
     simpa [eMany] using this
    have HFI := Lib.hid (HT.out.and ((show Iv (Kd.int .i64) 2 w w8.heap.size wr.heap.size (.slice Av l3.length cv) l3 wr from Iv.of HR.out (Nat.le_of_lt HGZ0.out)).held (fun k hk => by have h7 := HGZ.out; have h8 := HT.out.hxg; have h9 := HT.out.hg; rcases hk with rfl | rfl | rfl <;> omega)))
    have HFZ := Lib.hid HK.out.size
    clear hlt HT HK HR HF
    go_wp2_with fail
    go_meet
    exact ⟨_, _, HFI.out, HFZ.out⟩
 case rest =>
  obtain ⟨A3, c3, hT, hz⟩ := hcut
  obtain ⟨w9, rfl⟩ : ∃ w9, w9 = wc := ⟨_, rfl⟩
  have HT9 := Lib.hid hT
  have HZ3 := Lib.hid hz
  clear hT hz HT8 HST HGZ
  go_wp2_with fail
  have h4 := rdKeys_is HT9.out.i HT9.out.d HO4.out
  rw [HE5.out.1, HE5.out.2] at h4
  refine h4.mono ?_
  rintro e w10 ⟨v_, rfl, hv, h1, h2, h3⟩
  obtain ⟨A4, c4, rfl⟩ := Kd.R_slice (Kd.S_R hv)
  have HT10 := Lib.hid (HT9.out.callS h1 h2 h3 hv)
  have HLO10 := Lib.hid (show w9.heap.size ≤ w10.heap.size from h3.size)
  clear h1 h2 h3 h4 hv HT9
  have d4 : w10.cell? ⟨g, 4, none⟩ = some (.slice none 0 0) := (blk_cell HT10.out.y 4).trans rfl
  have z4 : w10.frozen? ⟨g, 4, none⟩ = false := blk_frozen HT10.out.y 4
  go_wp2_with fail
  have HT11 := Lib.hid (HT10.out.set 4 (.slice A4 l4.length c4) #[.int .i64 a, .int .i64 b, .slice A2 l2.length c2, .slice A3 l3.length c3, .slice A4 l4.length c4, .slice none 0 0] (blk_put HT10.out.y 4 _ rfl))
  have HLO11 := Lib.hid (show w10.heap.size ≤ (w10.setCell ⟨g, 4, none⟩ (.slice A4 l4.length c4)).heap.size by rw [World.size_setCell]; exact Nat.le_refl _)
  obtain ⟨w11, hw11⟩ : ∃ w11, w10.setCell ⟨g, 4, none⟩ (.slice A4 l4.length c4) = w11 := ⟨_, rfl⟩
  rw [hw11] at HT11 HLO11 ⊢
  clear hw11 HT10 d4 z4
  have HZ45 := Lib.hid (show w10.heap.size ≤ w11.heap.size from HLO11.out)
  have h4 := rdKeys_is HT11.out.i HT11.out.d HO5.out
  rw [HE6.out.1, HE6.out.2] at h4
  refine h4.mono ?_
  rintro e w12 ⟨v_, rfl, hv, h1, h2, h3⟩
  obtain ⟨A5, c5, rfl⟩ := Kd.R_slice (Kd.S_R hv)
  have HT12 := Lib.hid (HT11.out.callS h1 h2 h3 hv)
  have HLO12 := Lib.hid (show w11.heap.size ≤ w12.heap.size from h3.size)
  clear h1 h2 h3 h4 hv HT11
  have d0 : w12.cell? ⟨g, 0, none⟩ = some (.int .i64 a) := (blk_cell HT12.out.y 0).trans rfl
  have z0 : w12.frozen? ⟨g, 0, none⟩ = false := blk_frozen HT12.out.y 0
  have d1 : w12.cell? ⟨g, 1, none⟩ = some (.int .i64 b) := (blk_cell HT12.out.y 1).trans rfl
  have z1 : w12.frozen? ⟨g, 1, none⟩ = false := blk_frozen HT12.out.y 1
  have d2 : w12.cell? ⟨g, 2, none⟩ = some (.slice A2 l2.length c2) := (blk_cell HT12.out.y 2).trans rfl
  have z2 : w12.frozen? ⟨g, 2, none⟩ = false := blk_frozen HT12.out.y 2
  have d3 : w12.cell? ⟨g, 3, none⟩ = some (.slice A3 l3.length c3) := (blk_cell HT12.out.y 3).trans rfl
  have z3 : w12.frozen? ⟨g, 3, none⟩ = false := blk_frozen HT12.out.y 3
  have d4 : w12.cell? ⟨g, 4, none⟩ = some (.slice A4 l4.length c4) := (blk_cell HT12.out.y 4).trans rfl
  have z4 : w12.frozen? ⟨g, 4, none⟩ = false := blk_frozen HT12.out.y 4
  have d5 : w12.cell? ⟨g, 5, none⟩ = some (.slice none 0 0) := (blk_cell HT12.out.y 5).trans rfl
  have z5 : w12.frozen? ⟨g, 5, none⟩ = false := blk_frozen HT12.out.y 5
  have e0 : w12.cell? ⟨w.heap.size, 0, none⟩ = some (.int .i64 0) := (blk_cell HT12.out.g0 0).trans rfl
  have y0 : w12.frozen? ⟨w.heap.size, 0, none⟩ = false := blk_frozen HT12.out.g0 0
  have e1 : w12.cell? ⟨w.heap.size, 1, none⟩ = some (.int .i64 0) := (blk_cell HT12.out.g0 1).trans rfl
  have y1 : w12.frozen? ⟨w.heap.size, 1, none⟩ = false := blk_frozen HT12.out.g0 1
  have e2 : w12.cell? ⟨w.heap.size, 2, none⟩ = some (.slice none 0 0) := (blk_cell HT12.out.g0 2).trans rfl
  have y2 : w12.frozen? ⟨w.heap.size, 2, none⟩ = false := blk_frozen HT12.out.g0 2
  have e3 : w12.cell? ⟨w.heap.size, 3, none⟩ = some (.slice none 0 0) := (blk_cell HT12.out.g0 3).trans rfl
  have y3 : w12.frozen? ⟨w.heap.size, 3, none⟩ = false := blk_frozen HT12.out.g0 3
  have e4 : w12.cell? ⟨w.heap.size, 4, none⟩ = some (.slice none 0 0) := (blk_cell HT12.out.g0 4).trans rfl
  have y4 : w12.frozen? ⟨w.heap.size, 4, none⟩ = false := blk_frozen HT12.out.g0 4
  have e5 : w12.cell? ⟨w.heap.size, 5, none⟩ = some (.slice none 0 0) := (blk_cell HT12.out.g0 5).trans rfl
  have y5 : w12.frozen? ⟨w.heap.size, 5, none⟩ = false := blk_frozen HT12.out.g0 5
  have HGN : w.heap.size ≠ g := by have := HT12.out.hg; omega
  go_wp2_with fail
  have HEB := Lib.hid (blk_put (cs := #[.int .i64 a, .int .i64 b, .slice A2 l2.length c2, .slice A3 l3.length c3, .slice A4 l4.length c4, .slice none 0 0]) (blk_put (cs := #[.int .i64 a, .int .i64 b, .slice A2 l2.length c2, .slice A3 l3.length c3, .slice none 0 0, .slice none 0 0]) (blk_put (cs := #[.int .i64 a, .int .i64 b, .slice A2 l2.length c2, .slice none 0 0, .slice none 0 0, .slice none 0 0]) (blk_put (cs := #[.int .i64 a, .int .i64 b, .slice none 0 0, .slice none 0 0, .slice none 0 0, .slice none 0 0]) (blk_put (cs := #[.int .i64 a, .int .i64 0, .slice none 0 0, .slice none 0 0, .slice none 0 0, .slice none 0 0]) (blk_put (cs := #[.int .i64 0, .int .i64 0, .slice none 0 0, .slice none 0 0, .slice none 0 0, .slice none 0 0]) ((Below.heap_setCell w12 ⟨g, 5, none⟩ (.slice A5 l5.length c5) w.heap.size HGN).trans HT12.out.g0) 0 (.int .i64 a) rfl) 1 (.int .i64 b) rfl) 2 (.slice A2 l2.length c2) rfl) 3 (.slice A3 l3.length c3) rfl) 4 (.slice A4 l4.length c4) rfl) 5 (.slice A5 l5.length c5) rfl)
  have HD := Lib.hid (HT12.out.done ((((((((KeepS.refl (fun k => k = w.heap.size ∨ k = g) w12).set (p := ⟨g, 5, none⟩) (.inl (.inr rfl)) (.slice A5 l5.length c5)).set (p := ⟨w.heap.size, 0, none⟩) (.inl (.inl rfl)) (.int .i64 a)).set (p := ⟨w.heap.size, 1, none⟩) (.inl (.inl rfl)) (.int .i64 b)).set (p := ⟨w.heap.size, 2, none⟩) (.inl (.inl rfl)) (.slice A2 l2.length c2)).set (p := ⟨w.heap.size, 3, none⟩) (.inl (.inl rfl)) (.slice A3 l3.length c3)).set (p := ⟨w.heap.size, 4, none⟩) (.inl (.inl rfl)) (.slice A4 l4.length c4)).set (p := ⟨w.heap.size, 5, none⟩) (.inl (.inl rfl)) (.slice A5 l5.length c5)))
  obtain ⟨W, hW⟩ : ∃ W, (((((((w12.setCell ⟨g, 5, none⟩ (.slice A5 l5.length c5)).setCell ⟨w.heap.size, 0, none⟩ (.int .i64 a)).setCell ⟨w.heap.size, 1, none⟩ (.int .i64 b)).setCell ⟨w.heap.size, 2, none⟩ (.slice A2 l2.length c2)).setCell ⟨w.heap.size, 3, none⟩ (.slice A3 l3.length c3)).setCell ⟨w.heap.size, 4, none⟩ (.slice A4 l4.length c4)).setCell ⟨w.heap.size, 5, none⟩ (.slice A5 l5.length c5)) = W := ⟨_, rfl⟩
  rw [hW] at HEB HD ⊢
  clear hW
  refine bodyPost_ret (results_cell_row rfl _ _ w.heap.size 26 #[.int .i64 a, .int .i64 b, .slice A2 l2.length c2, .slice A3 l3.length c3, .slice A4 l4.length c4, .slice A5 l5.length c5] (0, 0) _ rfl HEB.out Tryz.underlying26 rfl (by kernel_rfl)) rfl ?_
  rw [HF.out]
  obtain ⟨⟨⟨⟨p1, p3⟩, p4⟩, p5⟩, di, dd, dq⟩ := HD.out
  rw [← HP.out] at p1
  have r4 := Kd.S_R p4; have r5 := Kd.S_R p5
  exact ⟨_, _, _, _, rfl, Kd.R_mono p1.2 (fun _ _ => trivial), Kd.R_mono p3 (fun _ _ => trivial), Iv.apart r4 r5 (.inl HZ45.out), Iv.apart r5 r4 (.inr HZ45.out), di, dd, dq⟩
end Go.Proofs.YtgiefblcckikeaaGreat.M
end

section
/- The reference's Reader: Small, yes, End, Part (printed by genrdm04.py). -/
set_option maxRecDepth 100000
attribute [local irreducible] Go.wpStill
namespace Go.Proofs.YtgiefblcckikeaaGreat.M
open Go.RowKit Go.Proofs.YtgiefblcckikeaaGreatW.PrintWords Go.Proofs.YtgiefblcckikeaaGreatW.PrintLast Go.Proofs.YtgiefblcckikeaaGreatW.PrintMore Go.Proofs.YtgiefblcckikeaaGreat.G
theorem rdSmall_is {B : List Int} {w0 w : World} {x : Nat} {s : EyeS} (hI : IsRd B w0 w x s) (hB : Below w0.heap.size w0 w) (hok : okS s) :
  Calls Tryz.prog 115 #[.pointer (some ⟨x, 0, none⟩)] w fun e w' => RdP B w0 w x (.int .i64 (rSmall s).1) (rSmall s).2 e w' := by
 have HN := Lib.hid (rdNum_is hI hB hok)
 obtain ⟨n, hn⟩ : ∃ n, (eNum s).1 = n := ⟨_, rfl⟩
 obtain ⟨s1, hs1⟩ : ∃ s1, (eNum s).2 = s1 := ⟨_, rfl⟩
 by_cases h1 : n < -2147483648
 ·have HF := Lib.hid (show rSmall s = (-2147483648, s1) by unfold rSmall; rw [hn, hs1, if_pos (.inl h1)])
  have q1 : decide (n < -2147483648) = true := decide_eq_true h1
  rw [hn, hs1] at HN
  clear hn hs1 hI hB hok h1
  go_enter Tryz.func115, Tryz.ntmps115
  go_wp2_with fail
  refine HN.out.mono ?_
  rintro e w1 ⟨rfl, h1, h2, h3⟩
  have H1 := Lib.hid h1; have H2 := Lib.hid h2; have H3 := Lib.hid h3
  clear h1 h2 h3 HN
  go_wp2_with fail
  go_ret
  exact ⟨by rw [HF.out]; rfl, by rw [HF.out]; exact H1.out, H2.out, H3.out⟩
 ·have q1 : decide (n < -2147483648) = false := decide_eq_false h1
  by_cases h2 : 2147483648 < n
  ·have HF := Lib.hid (show rSmall s = (-2147483648, s1) by unfold rSmall; rw [hn, hs1, if_pos (.inr h2)])
   have q2 : decide ((2147483648 : Int) < n) = true := decide_eq_true h2
   rw [hn, hs1] at HN
   clear hn hs1 hI hB hok h1 h2
   go_enter Tryz.func115, Tryz.ntmps115
   go_wp2_with fail
   refine HN.out.mono ?_
   rintro e w1 ⟨rfl, h1, h2, h3⟩
   have H1 := Lib.hid h1; have H2 := Lib.hid h2; have H3 := Lib.hid h3
   clear h1 h2 h3 HN
   go_wp2_with fail
   go_ret
   exact ⟨by rw [HF.out]; rfl, by rw [HF.out]; exact H1.out, H2.out, H3.out⟩
  ·have HF := Lib.hid (show rSmall s = (n, s1) by unfold rSmall; rw [hn, if_neg (by omega)]; exact Prod.ext hn hs1)
   have q2 : decide ((2147483648 : Int) < n) = false := decide_eq_false h2
   rw [hn, hs1] at HN
   clear hn hs1 hI hB hok h1 h2
   go_enter Tryz.func115, Tryz.ntmps115
   go_wp2_with fail
   refine HN.out.mono ?_
   rintro e w1 ⟨rfl, h1, h2, h3⟩
   have H1 := Lib.hid h1; have H2 := Lib.hid h2; have H3 := Lib.hid h3
   clear h1 h2 h3 HN
   go_wp2_with fail
   go_ret
   exact ⟨by rw [HF.out]; rfl, by rw [HF.out]; exact H1.out, H2.out, H3.out⟩
theorem rdFail40 {B : List Int} {w0 w : World} {x : Nat} {s : EyeS} (hI : IsRd B w0 w x s) (hB : Below w0.heap.size w0 w) :
  Calls Tryz.prog 119 #[.pointer (some ⟨x, 0, none⟩), .int .i64 40] w fun e w' => RdP B w0 w x (.tuple #[]) (eWrong true s) e w' := by
 have h := rdFail_is hI hB 40
 have hw : (if s.e = 0 then { s with e := 40 } else s) = eWrong true s := by
  unfold eWrong
  by_cases h : s.e = 0
  ·rw [if_pos h, if_pos ⟨h, rfl⟩]
  ·rw [if_neg h, if_neg (fun q => h q.1)]
 rw [hw] at h
 exact h
theorem rdYes_is {B : List Int} {w0 w : World} {x : Nat} {s : EyeS} (hI : IsRd B w0 w x s) (hB : Below w0.heap.size w0 w) (hok : okS s) :
  Calls Tryz.prog 130 #[.pointer (some ⟨x, 0, none⟩)] w fun e w' => RdP B w0 w x (.bool (eYes s).1) (eYes s).2 e w' := by
 have HN := Lib.hid (rdNum_is hI hB hok)
 obtain ⟨k, hk⟩ : ∃ k, (eNum s).1 = k := ⟨_, rfl⟩
 obtain ⟨s1, hs1⟩ : ∃ s1, (eNum s).2 = s1 := ⟨_, rfl⟩
 have HF := Lib.hid (show eYes s = (decide (k = 1), eWrong (decide (k ≠ 0) && decide (k ≠ 1)) s1) by unfold eYes eKind; rw [hk, hs1])
 rw [hk, hs1] at HN
 clear hk hs1 hI hB hok
 by_cases ha : k = 0
 ·have q0 : (k != 0) = false := by rw [ha]; rfl
  have q2 : (k == 1) = false := by rw [ha]; rfl
  have HR := Lib.hid (show eYes s = (false, s1) by rw [HF.out]; simp [ha, eWrong_false])
  clear ha HF
  go_enter Tryz.func130, Tryz.ntmps130
  go_wp2_with fail
  refine HN.out.mono ?_
  rintro e w1 ⟨rfl, h1, h2, h3⟩
  have G1 := Lib.hid h1; have G2 := Lib.hid h2; have G3 := Lib.hid h3
  clear h1 h2 h3 HN
  go_wp2_with fail
  go_ret
  exact ⟨by rw [HR.out]; rfl, by rw [HR.out]; exact G1.out, G2.out, G3.out⟩
 ·by_cases hb : k = 1
  ·have q0 : (k != 0) = true := bne_iff_ne.2 ha
   have q1 : (k != 1) = false := by rw [hb]; rfl
   have q2 : (k == 1) = true := by rw [hb]; rfl
   have HR := Lib.hid (show eYes s = (true, s1) by rw [HF.out]; simp [ha, hb, eWrong_false])
   clear ha hb HF
   go_enter Tryz.func130, Tryz.ntmps130
   go_wp2_with fail
   refine HN.out.mono ?_
   rintro e w1 ⟨rfl, h1, h2, h3⟩
   have G1 := Lib.hid h1; have G2 := Lib.hid h2; have G3 := Lib.hid h3
   clear h1 h2 h3 HN
   go_wp2_with fail
   go_ret
   exact ⟨by rw [HR.out]; rfl, by rw [HR.out]; exact G1.out, G2.out, G3.out⟩
  ·have q0 : (k != 0) = true := bne_iff_ne.2 ha
   have q1 : (k != 1) = true := bne_iff_ne.2 hb
   have q2 : (k == 1) = false := beq_eq_false_iff_ne.2 hb
   have HR := Lib.hid (show eYes s = (false, eWrong true s1) by rw [HF.out]; simp [ha, hb, eWrong_false])
   clear ha hb HF
   go_enter Tryz.func130, Tryz.ntmps130
   go_wp2_with fail
   refine HN.out.mono ?_
   rintro e w1 ⟨rfl, h1, h2, h3⟩
   have HW := Lib.hid (rdFail40 h1 h2); have H3 := Lib.hid h3
   clear h1 h2 h3 HN
   go_wp2_with fail
   refine HW.out.mono ?_
   rintro e w2 ⟨rfl, h1, h2, h3⟩
   have G1 := Lib.hid h1; have G2 := Lib.hid h2; have G3 := Lib.hid (H3.out.trans h3)
   clear h1 h2 h3 HW H3
   go_wp2_with fail
   go_ret
   exact ⟨by rw [HR.out]; rfl, by rw [HR.out]; exact G1.out, G2.out, G3.out⟩
theorem rdEnd_is {B : List Int} {w0 w : World} {x : Nat} {s : EyeS} (hI : IsRd B w0 w x s) (hB : Below w0.heap.size w0 w) :
  Calls Tryz.prog 57 #[.pointer (some ⟨x, 0, none⟩)] w fun e w' => RdP B w0 w x (.tuple #[]) (rEnd s) e w' := by
 have HI := Lib.hid hI; have HB := Lib.hid hB
 obtain ⟨A, c, k, h1, h2, h3, h4, h5, h6, h7⟩ := hI
 have c0 : w.cell? ⟨x, 0, none⟩ = some (.slice A B.length c) := by simp [World.cell?, h1]
 have c1 : w.cell? ⟨x, 1, none⟩ = some (.int .i64 (k : Int)) := by simp [World.cell?, h1]
 have hsl : s.l.length = B.length - k := by rw [← h6, List.length_drop]
 by_cases hk : k < B.length
 ·have q1 : decide ((k : Int) < (B.length : Int)) = true := decide_eq_true (by omega)
  have q2 : decide (k < B.length) = true := decide_eq_true hk
  have HR := Lib.hid (show rEnd s = if s.e = 0 then { s with e := 13 } else s by
   unfold rEnd
   by_cases he : s.e = 0
   ·rw [if_pos he, if_pos ⟨he, by omega⟩]
   ·rw [if_neg he, if_neg (fun q => he q.1)])
  have HW := Lib.hid (rdFail_is (HI.out.at (W' := w.drew) rfl) HB.out.drew 13)
  rw [← HR.out] at HW
  clear h1 h2 h3 h4 h5 h6 h7 hsl hk HR HI
  go_enter Tryz.func57, Tryz.ntmps57
  go_wp2_with fail
  go_region
  go_wp2_with fail
  refine HW.out.mono ?_
  rintro e w2 ⟨rfl, h1, h2, h3⟩
  have G1 := Lib.hid h1; have G2 := Lib.hid h2; have G3 := Lib.hid ((KeepS.refl (fun i => i = x) w).drew.trans h3)
  clear h1 h2 h3
  go_wp2_with fail
  go_end0
  exact ⟨rfl, G1.out, G2.out, G3.out⟩
 ·have q1 : decide ((k : Int) < (B.length : Int)) = false := decide_eq_false (by omega)
  have q2 : decide (k < B.length) = false := decide_eq_false hk
  have HR := Lib.hid (show rEnd s = s by unfold rEnd; rw [if_neg (fun q => by omega)])
  clear h1 h2 h3 h4 h5 h6 h7 hsl hk
  go_enter Tryz.func57, Tryz.ntmps57
  go_wp2_with fail
  go_region
  go_wp2_with fail
  go_end0
  exact ⟨rfl, by rw [HR.out]; exact HI.out.at rfl, HB.out.drew, (KeepS.refl (fun i => i = x) w).drew⟩
theorem okS_rsmall {s : EyeS} (h : okS s) : okS (rSmall s).2 := by rw [rSmall_2]; exact okS_num h
def RdPt (B : List Int) (w0 w : World) (x : Nat) (y : PartD) (s' : EyeS) (e : Ending) (w' : World) : Prop := ∃ v : Value, e = .returned (.agg #[.int .i64 y.f0, .int .i64 y.f1, .int .i64 y.f2, v]) ∧ Kd.R (Kd.int .u8) 5 w' w.heap.size (fun _ => True) v y.f3 ∧ IsRd B w0 w' x s' ∧ Below w0.heap.size w0 w' ∧ KeepS (fun i => i = x) w w'
set_option maxHeartbeats 4000000 in
theorem rdPart_is {B : List Int} {w0 w : World} {x : Nat} {s : EyeS} (hI : IsRd B w0 w x s) (hB : Below w0.heap.size w0 w) (hok : okS s) :
  Calls Tryz.prog 132 #[.pointer (some ⟨x, 0, none⟩)] w fun e w' => RdPt B w0 w x (ptOf rSmall s).1 (ptOf rSmall s).2 e w' := by
 have HT1 := Lib.hid ((Fo.start (I := fun W s => IsRd B w0 W x s) (T := 32) (zs := #[.int .i64 0, .int .i64 0, .int .i64 0, .slice none 0 0]) hI hB hI.lt hI.ge (fun _ _ _ e h => h.at e)).lay #[.int .i64 0, .int .i64 0, .int .i64 0, .slice none 0 0])
 obtain ⟨s1, hs1⟩ : ∃ t, s = t := ⟨_, rfl⟩
 have ho1 := hok
 rw [hs1] at ho1 HT1
 obtain ⟨v1, hv1⟩ : ∃ v, (eNum s1).1 = v := ⟨_, rfl⟩
 obtain ⟨s2, hs2⟩ : ∃ t, (eNum s1).2 = t := ⟨_, rfl⟩
 have ho2 := okS_num ho1
 rw [hs2] at ho2
 have HO1 := Lib.hid ho1; have HE1 := Lib.hid (And.intro hv1 hs2)
 obtain ⟨v2, hv2⟩ : ∃ v, (rSmall s2).1 = v := ⟨_, rfl⟩
 obtain ⟨s3, hs3⟩ : ∃ t, (rSmall s2).2 = t := ⟨_, rfl⟩
 have ho3 := okS_rsmall ho2
 rw [hs3] at ho3
 have HO2 := Lib.hid ho2; have HE2 := Lib.hid (And.intro hv2 hs3)
 obtain ⟨v3, hv3⟩ : ∃ v, (rSmall s3).1 = v := ⟨_, rfl⟩
 obtain ⟨s4, hs4⟩ : ∃ t, (rSmall s3).2 = t := ⟨_, rfl⟩
 have ho4 := okS_rsmall ho3
 rw [hs4] at ho4
 have HO3 := Lib.hid ho3; have HE3 := Lib.hid (And.intro hv3 hs4)
 obtain ⟨v4, hv4⟩ : ∃ v, (eData s4).1 = v := ⟨_, rfl⟩
 obtain ⟨s5, hs5⟩ : ∃ t, (eData s4).2 = t := ⟨_, rfl⟩
 have ho5 := okS_data ho4
 rw [hs5] at ho5
 have HO4 := Lib.hid ho4; have HE4 := Lib.hid (And.intro hv4 hs5)
 have HF := Lib.hid (show ptOf rSmall s = (⟨v1, v2, v3, v4⟩, s5) by
  unfold ptOf
  simp only [FM, PR, hs1, hv1, hs2, hv2, hs3, hv3, hs4, hv4, hs5])
 clear hI hB hok hs1 hv1 hs2 ho1 hv2 hs3 ho2 hv3 hs4 ho3 hv4 hs5 ho4 ho5
 go_enter Tryz.func132, Tryz.ntmps132
 go_wp2_with fail
 obtain ⟨g, hg⟩ : ∃ g, (w.alloc (.cells #[.int .i64 0, .int .i64 0, .int .i64 0, .slice none 0 0] 32)).heap.size = g := ⟨_, rfl⟩
 have hg' : w.heap.size + 1 = g := by rw [← hg]; simp
 obtain ⟨w1, hw1⟩ : ∃ W, (w.alloc (.cells #[.int .i64 0, .int .i64 0, .int .i64 0, .slice none 0 0] 32)).alloc (.cells #[.int .i64 0, .int .i64 0, .int .i64 0, .slice none 0 0] 32) = W := ⟨_, rfl⟩
 rw [hg, hw1] at HT1
 rw [hw1, hg']
 clear hg hw1 hg'
 have h4 := rdNum_is HT1.out.i HT1.out.d HO1.out
 rw [HE1.out.1, HE1.out.2] at h4
 refine h4.mono ?_
 rintro e w2 ⟨rfl, h1, h2, h3⟩
 have HT2 := Lib.hid (HT1.out.call h1 h2 h3)
 clear h1 h2 h3 h4 HT1
 have d0 : w2.cell? ⟨g, 0, none⟩ = some (.int .i64 0) := (blk_cell HT2.out.y 0).trans rfl
 have z0 : w2.frozen? ⟨g, 0, none⟩ = false := blk_frozen HT2.out.y 0
 go_wp2_with fail
 have HT3 := Lib.hid (HT2.out.set 0 (.int .i64 v1) #[.int .i64 v1, .int .i64 0, .int .i64 0, .slice none 0 0] (blk_put HT2.out.y 0 _ rfl))
 have HLO3 := Lib.hid (show w2.heap.size ≤ (w2.setCell ⟨g, 0, none⟩ (.int .i64 v1)).heap.size by rw [World.size_setCell]; exact Nat.le_refl _)
 obtain ⟨w3, hw3⟩ : ∃ w3, w2.setCell ⟨g, 0, none⟩ (.int .i64 v1) = w3 := ⟨_, rfl⟩
 rw [hw3] at HT3 HLO3 ⊢
 clear hw3 HT2 d0 z0
 have h4 := rdSmall_is HT3.out.i HT3.out.d HO2.out
 rw [HE2.out.1, HE2.out.2] at h4
 refine h4.mono ?_
 rintro e w4 ⟨rfl, h1, h2, h3⟩
 have HT4 := Lib.hid (HT3.out.call h1 h2 h3)
 clear h1 h2 h3 h4 HT3
 have d1 : w4.cell? ⟨g, 1, none⟩ = some (.int .i64 0) := (blk_cell HT4.out.y 1).trans rfl
 have z1 : w4.frozen? ⟨g, 1, none⟩ = false := blk_frozen HT4.out.y 1
 go_wp2_with fail
 have HT5 := Lib.hid (HT4.out.set 1 (.int .i64 v2) #[.int .i64 v1, .int .i64 v2, .int .i64 0, .slice none 0 0] (blk_put HT4.out.y 1 _ rfl))
 have HLO5 := Lib.hid (show w4.heap.size ≤ (w4.setCell ⟨g, 1, none⟩ (.int .i64 v2)).heap.size by rw [World.size_setCell]; exact Nat.le_refl _)
 obtain ⟨w5, hw5⟩ : ∃ w5, w4.setCell ⟨g, 1, none⟩ (.int .i64 v2) = w5 := ⟨_, rfl⟩
 rw [hw5] at HT5 HLO5 ⊢
 clear hw5 HT4 d1 z1
 have h4 := rdSmall_is HT5.out.i HT5.out.d HO3.out
 rw [HE3.out.1, HE3.out.2] at h4
 refine h4.mono ?_
 rintro e w6 ⟨rfl, h1, h2, h3⟩
 have HT6 := Lib.hid (HT5.out.call h1 h2 h3)
 clear h1 h2 h3 h4 HT5
 have d2 : w6.cell? ⟨g, 2, none⟩ = some (.int .i64 0) := (blk_cell HT6.out.y 2).trans rfl
 have z2 : w6.frozen? ⟨g, 2, none⟩ = false := blk_frozen HT6.out.y 2
 go_wp2_with fail
 have HT7 := Lib.hid (HT6.out.set 2 (.int .i64 v3) #[.int .i64 v1, .int .i64 v2, .int .i64 v3, .slice none 0 0] (blk_put HT6.out.y 2 _ rfl))
 have HLO7 := Lib.hid (show w6.heap.size ≤ (w6.setCell ⟨g, 2, none⟩ (.int .i64 v3)).heap.size by rw [World.size_setCell]; exact Nat.le_refl _)
 obtain ⟨w7, hw7⟩ : ∃ w7, w6.setCell ⟨g, 2, none⟩ (.int .i64 v3) = w7 := ⟨_, rfl⟩
 rw [hw7] at HT7 HLO7 ⊢
 clear hw7 HT6 d2 z2
 have h4 := rdData_is HT7.out.i HT7.out.d HO4.out
 rw [HE4.out.1, HE4.out.2] at h4
 refine h4.mono ?_
 rintro e w8 ⟨v_, rfl, hv, h1, h2, h3⟩
 obtain ⟨A16, c16, rfl⟩ := Kd.R_slice hv
 have HT8 := Lib.hid (HT7.out.callR h1 h2 h3 hv)
 have HLO8 := Lib.hid (show w7.heap.size ≤ w8.heap.size from h3.size)
 clear h1 h2 h3 h4 hv HT7
 have d0 : w8.cell? ⟨g, 0, none⟩ = some (.int .i64 v1) := (blk_cell HT8.out.y 0).trans rfl
 have z0 : w8.frozen? ⟨g, 0, none⟩ = false := blk_frozen HT8.out.y 0
 have d1 : w8.cell? ⟨g, 1, none⟩ = some (.int .i64 v2) := (blk_cell HT8.out.y 1).trans rfl
 have z1 : w8.frozen? ⟨g, 1, none⟩ = false := blk_frozen HT8.out.y 1
 have d2 : w8.cell? ⟨g, 2, none⟩ = some (.int .i64 v3) := (blk_cell HT8.out.y 2).trans rfl
 have z2 : w8.frozen? ⟨g, 2, none⟩ = false := blk_frozen HT8.out.y 2
 have d3 : w8.cell? ⟨g, 3, none⟩ = some (.slice none 0 0) := (blk_cell HT8.out.y 3).trans rfl
 have z3 : w8.frozen? ⟨g, 3, none⟩ = false := blk_frozen HT8.out.y 3
 have e0 : w8.cell? ⟨w.heap.size, 0, none⟩ = some (.int .i64 0) := (blk_cell HT8.out.g0 0).trans rfl
 have y0 : w8.frozen? ⟨w.heap.size, 0, none⟩ = false := blk_frozen HT8.out.g0 0
 have e1 : w8.cell? ⟨w.heap.size, 1, none⟩ = some (.int .i64 0) := (blk_cell HT8.out.g0 1).trans rfl
 have y1 : w8.frozen? ⟨w.heap.size, 1, none⟩ = false := blk_frozen HT8.out.g0 1
 have e2 : w8.cell? ⟨w.heap.size, 2, none⟩ = some (.int .i64 0) := (blk_cell HT8.out.g0 2).trans rfl
 have y2 : w8.frozen? ⟨w.heap.size, 2, none⟩ = false := blk_frozen HT8.out.g0 2
 have e3 : w8.cell? ⟨w.heap.size, 3, none⟩ = some (.slice none 0 0) := (blk_cell HT8.out.g0 3).trans rfl
 have y3 : w8.frozen? ⟨w.heap.size, 3, none⟩ = false := blk_frozen HT8.out.g0 3
 have HGN : w.heap.size ≠ g := by have := HT8.out.hg; omega
 go_wp2_with fail
 have HEB := Lib.hid (blk_put (cs := #[.int .i64 v1, .int .i64 v2, .int .i64 v3, .slice none 0 0]) (blk_put (cs := #[.int .i64 v1, .int .i64 v2, .int .i64 0, .slice none 0 0]) (blk_put (cs := #[.int .i64 v1, .int .i64 0, .int .i64 0, .slice none 0 0]) (blk_put (cs := #[.int .i64 0, .int .i64 0, .int .i64 0, .slice none 0 0]) ((Below.heap_setCell w8 ⟨g, 3, none⟩ (.slice A16 v4.length c16) w.heap.size HGN).trans HT8.out.g0) 0 (.int .i64 v1) rfl) 1 (.int .i64 v2) rfl) 2 (.int .i64 v3) rfl) 3 (.slice A16 v4.length c16) rfl)
 have HD := Lib.hid (HT8.out.done ((((((KeepS.refl (fun k => k = w.heap.size ∨ k = g) w8).set (p := ⟨g, 3, none⟩) (.inl (.inr rfl)) (.slice A16 v4.length c16)).set (p := ⟨w.heap.size, 0, none⟩) (.inl (.inl rfl)) (.int .i64 v1)).set (p := ⟨w.heap.size, 1, none⟩) (.inl (.inl rfl)) (.int .i64 v2)).set (p := ⟨w.heap.size, 2, none⟩) (.inl (.inl rfl)) (.int .i64 v3)).set (p := ⟨w.heap.size, 3, none⟩) (.inl (.inl rfl)) (.slice A16 v4.length c16)))
 obtain ⟨W, hW⟩ : ∃ W, (((((w8.setCell ⟨g, 3, none⟩ (.slice A16 v4.length c16)).setCell ⟨w.heap.size, 0, none⟩ (.int .i64 v1)).setCell ⟨w.heap.size, 1, none⟩ (.int .i64 v2)).setCell ⟨w.heap.size, 2, none⟩ (.int .i64 v3)).setCell ⟨w.heap.size, 3, none⟩ (.slice A16 v4.length c16)) = W := ⟨_, rfl⟩
 rw [hW] at HEB HD ⊢
 clear hW
 refine bodyPost_ret (results_cell_row rfl _ _ w.heap.size 32 #[.int .i64 v1, .int .i64 v2, .int .i64 v3, .slice A16 v4.length c16] (0, 0) _ rfl HEB.out Tryz.underlying32 rfl (by kernel_rfl)) rfl ?_
 rw [HF.out]
 obtain ⟨⟨_, p3⟩, di, dd, dq⟩ := HD.out
 exact ⟨_, rfl, Kd.R_mono p3 (fun _ _ => trivial), di, dd, dq⟩
end Go.Proofs.YtgiefblcckikeaaGreat.M
end

section
/- The reference's Reader: an entry (printed by genrden04.py). -/
set_option maxRecDepth 100000
attribute [local irreducible] Go.wpStill
namespace Go.Proofs.YtgiefblcckikeaaGreat.M
open Go.RowKit Go.Proofs.YtgiefblcckikeaaGreatW.PrintWords Go.Proofs.YtgiefblcckikeaaGreatW.PrintLast Go.Proofs.YtgiefblcckikeaaGreatW.PrintMore Go.Proofs.YtgiefblcckikeaaGreat.G
def RdEn (B : List Int) (w0 w : World) (x : Nat) (y : EnD) (s' : EyeS) (e : Ending) (w' : World) : Prop := ∃ v : Value, e = .returned (.agg #[.int .i64 y.1, .int .i64 y.2.1, .int .i64 y.2.2.1, v]) ∧ Kd.R G.k26 26 w' w.heap.size (fun _ => True) v y.2.2.2 ∧ IsRd B w0 w' x s' ∧ Below w0.heap.size w0 w' ∧ KeepS (fun i => i = x) w w'
def RdJE (n : Int) (r : List TxD × EyeS) (B : List Int) (w0 w W1 : World) (x g : Nat) (h3 : Array Value) (i : Value) (W : World) : Prop := ∃ (U : List TxD) (s : EyeS) (Av : Option Addr) (cv : Nat), i = .int .i64 (U.length : Int) ∧ U.length ≤ n.toNat ∧ Fr (fun W s => IsRd B w0 W x s) w0 w x g 29 #[.int .i64 0, .int .i64 0, .int .i64 0, .slice none 0 0] (h3 ++ #[.slice Av U.length cv]) s (fun _ => True) W ∧ KeepS (fun k => k = x ∨ k = g) W1 W ∧ Kd.R G.k26 26 W W1.heap.size (fun k => W1.heap.size ≤ k) (.slice Av U.length cv) U ∧ okS s ∧ r = (U ++ (eMany eTxn (n.toNat - U.length) s).1, (eMany eTxn (n.toNat - U.length) s).2)
set_option maxHeartbeats 4000000 in
theorem rdEntry0 {B : List Int} {w0 w : World} {x : Nat} {s : EyeS} (hI : IsRd B w0 w x s) (hB : Below w0.heap.size w0 w) (hok : okS s) (hk : (rSmall s).1 = 0) :
  Calls Tryz.prog 56 #[.pointer (some ⟨x, 0, none⟩)] w fun e w' => RdEn B w0 w x (rEntry s).1 (rEntry s).2 e w' := by
 have HT1 := Lib.hid ((Fo.start (I := (fun W s => IsRd B w0 W x s)) (T := 29) (zs := #[.int .i64 0, .int .i64 0, .int .i64 0, .slice none 0 0]) hI hB hI.lt hI.ge (fun _ _ _ e h => h.at e)).lay #[.int .i64 0, .int .i64 0, .int .i64 0, .slice none 0 0])
 obtain ⟨s1, hs1⟩ : ∃ t, (rSmall s).2 = t := ⟨_, rfl⟩
 have ho1 := okS_rsmall hok
 rw [hs1] at ho1
 have HO0 := Lib.hid hok
 have HE0 := Lib.hid (And.intro hk hs1)
 have HF := Lib.hid (show rEntry s = ((0, 0, 0, []), s1) by unfold rEntry; rw [if_pos hk, hs1])
 clear hI hB hok hk hs1 ho1
 go_enter Tryz.func56, Tryz.ntmps56
 go_wp2_with fail
 obtain ⟨g, hg⟩ : ∃ g, (w.alloc (.cells #[.int .i64 0, .int .i64 0, .int .i64 0, .slice none 0 0] 29)).heap.size = g := ⟨_, rfl⟩
 have hg' : w.heap.size + 1 = g := by rw [← hg]; simp
 obtain ⟨w1, hw1⟩ : ∃ W, (w.alloc (.cells #[.int .i64 0, .int .i64 0, .int .i64 0, .slice none 0 0] 29)).alloc (.cells #[.int .i64 0, .int .i64 0, .int .i64 0, .slice none 0 0] 29) = W := ⟨_, rfl⟩
 rw [hg, hw1] at HT1
 rw [hw1, hg']
 clear hg hw1 hg'
 have h4 := rdSmall_is HT1.out.i HT1.out.d HO0.out
 rw [HE0.out.1, HE0.out.2] at h4
 refine h4.mono ?_
 rintro e w2 ⟨rfl, h1, h2, h3⟩
 have HT2 := Lib.hid (HT1.out.call h1 h2 h3)
 clear h1 h2 h3 h4 HT1
 have d0 : w2.cell? ⟨g, 0, none⟩ = some (.int .i64 0) := (blk_cell HT2.out.y 0).trans rfl
 have z0 : w2.frozen? ⟨g, 0, none⟩ = false := blk_frozen HT2.out.y 0
 go_upto_region 3 with fail
 have hT : Fr _ w0 w x g 29 _ #[.int .i64 0, .int .i64 0, .int .i64 0, .slice none 0 0] _ _ _ := HT2.out.put 0 (.int .i64 0)
 have HT3 := Lib.hid hT
 obtain ⟨w3, hw⟩ : ∃ W, w2.setCell ⟨g, 0, none⟩ (.int .i64 0) = W := ⟨_, rfl⟩
 rw [hw] at HT3 ⊢
 clear hT hw HT2 d0 z0
 have d0 : w3.cell? ⟨g, 0, none⟩ = some (.int .i64 0) := (blk_cell HT3.out.y 0).trans rfl
 have e0 : w3.cell? ⟨w.heap.size, 0, none⟩ = some (.int .i64 0) := (blk_cell HT3.out.g0 0).trans rfl
 have y0 : w3.frozen? ⟨w.heap.size, 0, none⟩ = false := blk_frozen HT3.out.g0 0
 have d1 : w3.cell? ⟨g, 1, none⟩ = some (.int .i64 0) := (blk_cell HT3.out.y 1).trans rfl
 have e1 : w3.cell? ⟨w.heap.size, 1, none⟩ = some (.int .i64 0) := (blk_cell HT3.out.g0 1).trans rfl
 have y1 : w3.frozen? ⟨w.heap.size, 1, none⟩ = false := blk_frozen HT3.out.g0 1
 have d2 : w3.cell? ⟨g, 2, none⟩ = some (.int .i64 0) := (blk_cell HT3.out.y 2).trans rfl
 have e2 : w3.cell? ⟨w.heap.size, 2, none⟩ = some (.int .i64 0) := (blk_cell HT3.out.g0 2).trans rfl
 have y2 : w3.frozen? ⟨w.heap.size, 2, none⟩ = false := blk_frozen HT3.out.g0 2
 have d3 : w3.cell? ⟨g, 3, none⟩ = some (.slice none 0 0) := (blk_cell HT3.out.y 3).trans rfl
 have e3 : w3.cell? ⟨w.heap.size, 3, none⟩ = some (.slice none 0 0) := (blk_cell HT3.out.g0 3).trans rfl
 have y3 : w3.frozen? ⟨w.heap.size, 3, none⟩ = false := blk_frozen HT3.out.g0 3
 have HGN : w.heap.size ≠ g := by have := HT3.out.hg; omega
 go_wp2_with fail
 have HEB := Lib.hid (blk_put (cs := #[.int .i64 0, .int .i64 0, .int .i64 0, .slice none 0 0]) (blk_put (cs := #[.int .i64 0, .int .i64 0, .int .i64 0, .slice none 0 0]) (blk_put (cs := #[.int .i64 0, .int .i64 0, .int .i64 0, .slice none 0 0]) (blk_put (cs := #[.int .i64 0, .int .i64 0, .int .i64 0, .slice none 0 0]) HT3.out.g0 0 (.int .i64 0) rfl) 1 (.int .i64 0) rfl) 2 (.int .i64 0) rfl) 3 (.slice none 0 0) rfl)
 have HD := Lib.hid (HT3.out.done (((((KeepS.refl (fun k => k = w.heap.size ∨ k = g) w3).set (p := ⟨w.heap.size, 0, none⟩) (.inl (.inl rfl)) (.int .i64 0)).set (p := ⟨w.heap.size, 1, none⟩) (.inl (.inl rfl)) (.int .i64 0)).set (p := ⟨w.heap.size, 2, none⟩) (.inl (.inl rfl)) (.int .i64 0)).set (p := ⟨w.heap.size, 3, none⟩) (.inl (.inl rfl)) (.slice none 0 0)))
 obtain ⟨W, hW⟩ : ∃ W, ((((w3.setCell ⟨w.heap.size, 0, none⟩ (.int .i64 0)).setCell ⟨w.heap.size, 1, none⟩ (.int .i64 0)).setCell ⟨w.heap.size, 2, none⟩ (.int .i64 0)).setCell ⟨w.heap.size, 3, none⟩ (.slice none 0 0)) = W := ⟨_, rfl⟩
 rw [hW] at HEB HD ⊢
 clear hW
 refine bodyPost_ret (results_cell_row rfl _ _ w.heap.size 29 #[.int .i64 0, .int .i64 0, .int .i64 0, .slice none 0 0] (0, 0) _ rfl HEB.out Tryz.underlying29 rfl (by kernel_rfl)) rfl ?_
 rw [HF.out]
 obtain ⟨_, di, dd, dq⟩ := HD.out
 exact ⟨_, rfl, Kd.R_nil _ _ _ _ _, di, dd, dq⟩
set_option maxHeartbeats 4000000 in
theorem rdEntryX {B : List Int} {w0 w : World} {x : Nat} {s : EyeS} (hI : IsRd B w0 w x s) (hB : Below w0.heap.size w0 w) (hok : okS s) {k : Int} (hk : (rSmall s).1 = k) (h0 : ¬ k = 0) (h1 : ¬ k = 1) :
  Calls Tryz.prog 56 #[.pointer (some ⟨x, 0, none⟩)] w fun e w' => RdEn B w0 w x (rEntry s).1 (rEntry s).2 e w' := by
 have HT1 := Lib.hid ((Fo.start (I := (fun W s => IsRd B w0 W x s)) (T := 29) (zs := #[.int .i64 0, .int .i64 0, .int .i64 0, .slice none 0 0]) hI hB hI.lt hI.ge (fun _ _ _ e h => h.at e)).lay #[.int .i64 0, .int .i64 0, .int .i64 0, .slice none 0 0])
 obtain ⟨s1, hs1⟩ : ∃ t, (rSmall s).2 = t := ⟨_, rfl⟩
 have ho1 := okS_rsmall hok
 rw [hs1] at ho1
 have HO0 := Lib.hid hok
 have HE0 := Lib.hid (And.intro hk hs1)
 have HF := Lib.hid (show rEntry s = ((k, 0, 0, []), eWrong true s1) by unfold rEntry; rw [if_neg (by rw [hk]; exact h0), if_neg (by rw [hk]; exact h1), hk, hs1])
 have HQ := Lib.hid (And.intro (beq_eq_false_iff_ne.2 h0) (beq_eq_false_iff_ne.2 h1))
 clear hI hB hok hk hs1 ho1 h0 h1
 go_enter Tryz.func56, Tryz.ntmps56
 go_wp2_with fail
 obtain ⟨g, hg⟩ : ∃ g, (w.alloc (.cells #[.int .i64 0, .int .i64 0, .int .i64 0, .slice none 0 0] 29)).heap.size = g := ⟨_, rfl⟩
 have hg' : w.heap.size + 1 = g := by rw [← hg]; simp
 obtain ⟨w1, hw1⟩ : ∃ W, (w.alloc (.cells #[.int .i64 0, .int .i64 0, .int .i64 0, .slice none 0 0] 29)).alloc (.cells #[.int .i64 0, .int .i64 0, .int .i64 0, .slice none 0 0] 29) = W := ⟨_, rfl⟩
 rw [hg, hw1] at HT1
 rw [hw1, hg']
 clear hg hw1 hg'
 have h4 := rdSmall_is HT1.out.i HT1.out.d HO0.out
 rw [HE0.out.1, HE0.out.2] at h4
 refine h4.mono ?_
 rintro e w2 ⟨rfl, h1, h2, h3⟩
 have HT2 := Lib.hid (HT1.out.call h1 h2 h3)
 clear h1 h2 h3 h4 HT1
 have d0 : w2.cell? ⟨g, 0, none⟩ = some (.int .i64 0) := (blk_cell HT2.out.y 0).trans rfl
 have z0 : w2.frozen? ⟨g, 0, none⟩ = false := blk_frozen HT2.out.y 0
 go_upto_region 3 with fail
 have hT : Fr _ w0 w x g 29 _ #[.int .i64 k, .int .i64 0, .int .i64 0, .slice none 0 0] _ _ _ := HT2.out.put 0 (.int .i64 k)
 have HT3 := Lib.hid hT
 obtain ⟨w3, hw⟩ : ∃ W, w2.setCell ⟨g, 0, none⟩ (.int .i64 k) = W := ⟨_, rfl⟩
 rw [hw] at HT3 ⊢
 clear hT hw HT2 d0 z0
 have d0 : w3.cell? ⟨g, 0, none⟩ = some (.int .i64 k) := (blk_cell HT3.out.y 0).trans rfl
 have q0 : (k == 0) = false := HQ.out.1
 have q1 : (k == 1) = false := HQ.out.2
 go_wp2_with fail
 have h4 := rdFail40 HT3.out.i HT3.out.d
 refine h4.mono ?_
 rintro e w4 ⟨rfl, h1, h2, h3⟩
 have HT4 := Lib.hid (HT3.out.call h1 h2 h3)
 clear h1 h2 h3 h4 HT3 d0 q0 q1
 have d0 : w4.cell? ⟨g, 0, none⟩ = some (.int .i64 k) := (blk_cell HT4.out.y 0).trans rfl
 have e0 : w4.cell? ⟨w.heap.size, 0, none⟩ = some (.int .i64 0) := (blk_cell HT4.out.g0 0).trans rfl
 have y0 : w4.frozen? ⟨w.heap.size, 0, none⟩ = false := blk_frozen HT4.out.g0 0
 have d1 : w4.cell? ⟨g, 1, none⟩ = some (.int .i64 0) := (blk_cell HT4.out.y 1).trans rfl
 have e1 : w4.cell? ⟨w.heap.size, 1, none⟩ = some (.int .i64 0) := (blk_cell HT4.out.g0 1).trans rfl
 have y1 : w4.frozen? ⟨w.heap.size, 1, none⟩ = false := blk_frozen HT4.out.g0 1
 have d2 : w4.cell? ⟨g, 2, none⟩ = some (.int .i64 0) := (blk_cell HT4.out.y 2).trans rfl
 have e2 : w4.cell? ⟨w.heap.size, 2, none⟩ = some (.int .i64 0) := (blk_cell HT4.out.g0 2).trans rfl
 have y2 : w4.frozen? ⟨w.heap.size, 2, none⟩ = false := blk_frozen HT4.out.g0 2
 have d3 : w4.cell? ⟨g, 3, none⟩ = some (.slice none 0 0) := (blk_cell HT4.out.y 3).trans rfl
 have e3 : w4.cell? ⟨w.heap.size, 3, none⟩ = some (.slice none 0 0) := (blk_cell HT4.out.g0 3).trans rfl
 have y3 : w4.frozen? ⟨w.heap.size, 3, none⟩ = false := blk_frozen HT4.out.g0 3
 have HGN : w.heap.size ≠ g := by have := HT4.out.hg; omega
 go_wp2_with fail
 have HEB := Lib.hid (blk_put (cs := #[.int .i64 k, .int .i64 0, .int .i64 0, .slice none 0 0]) (blk_put (cs := #[.int .i64 k, .int .i64 0, .int .i64 0, .slice none 0 0]) (blk_put (cs := #[.int .i64 k, .int .i64 0, .int .i64 0, .slice none 0 0]) (blk_put (cs := #[.int .i64 0, .int .i64 0, .int .i64 0, .slice none 0 0]) HT4.out.g0 0 (.int .i64 k) rfl) 1 (.int .i64 0) rfl) 2 (.int .i64 0) rfl) 3 (.slice none 0 0) rfl)
 have HD := Lib.hid (HT4.out.done (((((KeepS.refl (fun k => k = w.heap.size ∨ k = g) w4).set (p := ⟨w.heap.size, 0, none⟩) (.inl (.inl rfl)) (.int .i64 k)).set (p := ⟨w.heap.size, 1, none⟩) (.inl (.inl rfl)) (.int .i64 0)).set (p := ⟨w.heap.size, 2, none⟩) (.inl (.inl rfl)) (.int .i64 0)).set (p := ⟨w.heap.size, 3, none⟩) (.inl (.inl rfl)) (.slice none 0 0)))
 obtain ⟨W, hW⟩ : ∃ W, ((((w4.setCell ⟨w.heap.size, 0, none⟩ (.int .i64 k)).setCell ⟨w.heap.size, 1, none⟩ (.int .i64 0)).setCell ⟨w.heap.size, 2, none⟩ (.int .i64 0)).setCell ⟨w.heap.size, 3, none⟩ (.slice none 0 0)) = W := ⟨_, rfl⟩
 rw [hW] at HEB HD ⊢
 clear hW
 refine bodyPost_ret (results_cell_row rfl _ _ w.heap.size 29 #[.int .i64 k, .int .i64 0, .int .i64 0, .slice none 0 0] (0, 0) _ rfl HEB.out Tryz.underlying29 rfl (by kernel_rfl)) rfl ?_
 rw [HF.out]
 obtain ⟨_, di, dd, dq⟩ := HD.out
 exact ⟨_, rfl, Kd.R_nil _ _ _ _ _, di, dd, dq⟩
set_option maxHeartbeats 4000000 in
theorem rdEntry1 {B : List Int} {w0 w : World} {x : Nat} {s : EyeS} (hI : IsRd B w0 w x s) (hB : Below w0.heap.size w0 w) (hok : okS s) (hk : (rSmall s).1 = 1) :
  Calls Tryz.prog 56 #[.pointer (some ⟨x, 0, none⟩)] w fun e w' => RdEn B w0 w x (rEntry s).1 (rEntry s).2 e w' := by
 have HT1 := Lib.hid ((Fo.start (I := (fun W s => IsRd B w0 W x s)) (T := 29) (zs := #[.int .i64 0, .int .i64 0, .int .i64 0, .slice none 0 0]) hI hB hI.lt hI.ge (fun _ _ _ e h => h.at e)).lay #[.int .i64 0, .int .i64 0, .int .i64 0, .slice none 0 0])
 obtain ⟨s1, hs1⟩ : ∃ t, (rSmall s).2 = t := ⟨_, rfl⟩
 have ho1 := okS_rsmall hok
 rw [hs1] at ho1
 have HO0 := Lib.hid hok
 have HE0 := Lib.hid (And.intro hk hs1)
 obtain ⟨v1, hv1⟩ : ∃ v, (rSmall s1).1 = v := ⟨_, rfl⟩
 obtain ⟨s2, hs2⟩ : ∃ t, (rSmall s1).2 = t := ⟨_, rfl⟩
 have ho2 := okS_rsmall ho1
 rw [hs2] at ho2
 have HO1 := Lib.hid ho1; have HE1 := Lib.hid (And.intro hv1 hs2)
 obtain ⟨v2, hv2⟩ : ∃ v, (eNum s2).1 = v := ⟨_, rfl⟩
 obtain ⟨s3, hs3⟩ : ∃ t, (eNum s2).2 = t := ⟨_, rfl⟩
 have ho3 := okS_num ho2
 rw [hs3] at ho3
 have HO2 := Lib.hid ho2; have HE2 := Lib.hid (And.intro hv2 hs3)
 obtain ⟨v3, hv3⟩ : ∃ v, (eList eTxn s3).1 = v := ⟨_, rfl⟩
 obtain ⟨s4, hs4⟩ : ∃ t, (eList eTxn s3).2 = t := ⟨_, rfl⟩
 have HL3 := Lib.hid (show eMany eTxn (rLen s3).1.toNat (rLen s3).2 = (v3, s4) by rw [← eList_len, ← hv3, ← hs4])
 have HSZ := Lib.hid (rLen_size s3)
 have HOL := Lib.hid (okS_len ho3)
 have HO3 := Lib.hid ho3
 obtain ⟨n, hn⟩ : ∃ n, (rLen s3).1 = n := ⟨_, rfl⟩
 obtain ⟨sl, hsl⟩ : ∃ sl, (rLen s3).2 = sl := ⟨_, rfl⟩
 rw [hn, hsl] at HL3
 rw [hn] at HSZ
 rw [hsl] at HOL
 have HEL := Lib.hid (And.intro hn hsl)
 have HF := Lib.hid (show rEntry s = ((1, v1, v2, v3), s4) by
  unfold rEntry bEntry
  rw [hk, if_neg (by decide), if_pos rfl]
  simp only [FM, PR, hs1, hv1, hs2, hv2, hs3, hv3, hs4])
 clear hI hB hok hk hs1 ho1 hv1 hs2 ho2 hv2 hs3 ho3 hv3 hs4 hn hsl
 go_enter Tryz.func56, Tryz.ntmps56
 go_wp2_with fail
 obtain ⟨g, hg⟩ : ∃ g, (w.alloc (.cells #[.int .i64 0, .int .i64 0, .int .i64 0, .slice none 0 0] 29)).heap.size = g := ⟨_, rfl⟩
 have hg' : w.heap.size + 1 = g := by rw [← hg]; simp
 obtain ⟨w1, hw1⟩ : ∃ W, (w.alloc (.cells #[.int .i64 0, .int .i64 0, .int .i64 0, .slice none 0 0] 29)).alloc (.cells #[.int .i64 0, .int .i64 0, .int .i64 0, .slice none 0 0] 29) = W := ⟨_, rfl⟩
 rw [hg, hw1] at HT1
 rw [hw1, hg']
 clear hg hw1 hg'
 have h4 := rdSmall_is HT1.out.i HT1.out.d HO0.out
 rw [HE0.out.1, HE0.out.2] at h4
 refine h4.mono ?_
 rintro e w2 ⟨rfl, h1, h2, h3⟩
 have HT2 := Lib.hid (HT1.out.call h1 h2 h3)
 clear h1 h2 h3 h4 HT1
 have d0 : w2.cell? ⟨g, 0, none⟩ = some (.int .i64 0) := (blk_cell HT2.out.y 0).trans rfl
 have z0 : w2.frozen? ⟨g, 0, none⟩ = false := blk_frozen HT2.out.y 0
 go_upto_region 3 with fail
 have hT : Fr _ w0 w x g 29 _ #[.int .i64 1, .int .i64 0, .int .i64 0, .slice none 0 0] _ _ _ := HT2.out.put 0 (.int .i64 1)
 have HT3 := Lib.hid hT
 obtain ⟨w3, hw⟩ : ∃ W, w2.setCell ⟨g, 0, none⟩ (.int .i64 1) = W := ⟨_, rfl⟩
 rw [hw] at HT3 ⊢
 clear hT hw HT2 d0 z0
 have d0 : w3.cell? ⟨g, 0, none⟩ = some (.int .i64 1) := (blk_cell HT3.out.y 0).trans rfl
 go_upto_block 0 with fail
 clear d0
 have HGZ0_ := Lib.hid HT3.out.hz
 go_cut [] (fun wx => ∃ lo A3 c3, Fr (fun W s => IsRd B w0 W x s) w0 w x g 29 #[.int .i64 0, .int .i64 0, .int .i64 0, .slice none 0 0] #[.int .i64 1, .int .i64 v1, .int .i64 v2, .slice A3 v3.length c3] s4 (fun V => True ∧ Iv G.k26 26 w lo wx.heap.size (.slice A3 v3.length c3) v3 V) wx)
 case first =>
  go_wp2_with fail
  have h4 := rdSmall_is HT3.out.i HT3.out.d HO1.out
  rw [HE1.out.1, HE1.out.2] at h4
  refine h4.mono ?_
  rintro e w4 ⟨rfl, h1, h2, h3⟩
  have HT4 := Lib.hid (HT3.out.call h1 h2 h3)
  clear h1 h2 h3 h4 HT3
  have d1 : w4.cell? ⟨g, 1, none⟩ = some (.int .i64 0) := (blk_cell HT4.out.y 1).trans rfl
  have z1 : w4.frozen? ⟨g, 1, none⟩ = false := blk_frozen HT4.out.y 1
  go_wp2_with fail
  have HT5 := Lib.hid (HT4.out.set 1 (.int .i64 v1) #[.int .i64 1, .int .i64 v1, .int .i64 0, .slice none 0 0] (blk_put HT4.out.y 1 _ rfl))
  have HLO5 := Lib.hid (show w4.heap.size ≤ (w4.setCell ⟨g, 1, none⟩ (.int .i64 v1)).heap.size by rw [World.size_setCell]; exact Nat.le_refl _)
  obtain ⟨w5, hw5⟩ : ∃ w5, w4.setCell ⟨g, 1, none⟩ (.int .i64 v1) = w5 := ⟨_, rfl⟩
  rw [hw5] at HT5 HLO5 ⊢
  clear hw5 HT4 d1 z1
  have h4 := rdNum_is HT5.out.i HT5.out.d HO2.out
  rw [HE2.out.1, HE2.out.2] at h4
  refine h4.mono ?_
  rintro e w6 ⟨rfl, h1, h2, h3⟩
  have HT6 := Lib.hid (HT5.out.call h1 h2 h3)
  clear h1 h2 h3 h4 HT5
  have d2 : w6.cell? ⟨g, 2, none⟩ = some (.int .i64 0) := (blk_cell HT6.out.y 2).trans rfl
  have z2 : w6.frozen? ⟨g, 2, none⟩ = false := blk_frozen HT6.out.y 2
  go_wp2_with fail
  have HT7 := Lib.hid (HT6.out.set 2 (.int .i64 v2) #[.int .i64 1, .int .i64 v1, .int .i64 v2, .slice none 0 0] (blk_put HT6.out.y 2 _ rfl))
  have HLO7 := Lib.hid (show w6.heap.size ≤ (w6.setCell ⟨g, 2, none⟩ (.int .i64 v2)).heap.size by rw [World.size_setCell]; exact Nat.le_refl _)
  obtain ⟨w7, hw7⟩ : ∃ w7, w6.setCell ⟨g, 2, none⟩ (.int .i64 v2) = w7 := ⟨_, rfl⟩
  rw [hw7] at HT7 HLO7 ⊢
  clear hw7 HT6 d2 z2
  have h4 := rdLen_is HT7.out.i HT7.out.d HO3.out
  rw [HEL.out.1, HEL.out.2] at h4
  refine h4.mono ?_
  rintro e w8 ⟨rfl, h1, h2, h3⟩
  have HT8 := Lib.hid (HT7.out.call h1 h2 h3)
  clear h1 h2 h3 h4 HT7
  go_upto_block 1 with fail
  have HST := Lib.hid HT8.out.h
  have HGZ := Lib.hid HT8.out.hz
  have HGZ0 := Lib.hid (show w.heap.size < w8.heap.size from Nat.lt_trans HT8.out.hg HT8.out.hz)
  go_wp2_with fail
  go_loopw [5] (fun i wr => RdJE n (v3, s4) B w0 w w8 x g #[.int .i64 1, .int .i64 v1, .int .i64 v2] i wr) (fun i _ => n.toNat - (intOf i).toNat)
  case atStart => exact ⟨[], sl, none, 0, rfl, by simp, HT8.out, KeepS.refl _ _, Kd.R_nil _ _ _ _ _, HOL.out, by simp [HL3.out]⟩
  case round =>
   obtain ⟨U, s5', Av, cv, rfl, hUn, hT, hK, hR, hO, hF⟩ := hrel
   have HT := Lib.hid hT; have HK := Lib.hid hK; have HR := Lib.hid hR; have HO := Lib.hid hO; have HF := Lib.hid hF; have HUN := Lib.hid hUn
   obtain ⟨A, c, k, g1, g2, g3⟩ := HT.out.i
   have c1 : wr.cell? ⟨x, 2, none⟩ = some (.int .i64 s5'.e) := by simp [World.cell?, g1]
   clear hT hK hR hO hF hUn g1 g2 g3 k c A
   by_cases hlt : (U.length : Int) < n
   ·by_cases he : s5'.e = 0
    ·have hq1 : decide ((U.length : Int) < n) = true := decide_eq_true hlt
     have hq2 : (s5'.e == 0) = true := by rw [he]; rfl
     have HT := Lib.hid HT.out.drew; have HK := Lib.hid HK.out.drew; have HR := Lib.hid (Kd.R_drew HR.out)
     have HN := Lib.hid (rdTxn_is HT.out.i HT.out.d HO.out)
     obtain ⟨m, hm⟩ : ∃ m, (eTxn s5').1 = m := ⟨_, rfl⟩
     obtain ⟨s6', hs6⟩ : ∃ s6', (eTxn s5').2 = s6' := ⟨_, rfl⟩
     have HO6 := Lib.hid (show okS s6' by rw [← hs6]; exact okS_txn HO.out)
     have HF2 := Lib.hid (show (v3, s4) = ((U ++ [m]) ++ (eMany eTxn (n.toNat - (U ++ [m]).length) s6').1, (eMany eTxn (n.toNat - (U ++ [m]).length) s6').2) by
      rw [HF.out]
      have e1 : n.toNat - U.length = (n.toNat - (U ++ [m]).length) + 1 := by simp; omega
      rw [e1]
      simp only [eMany, he, if_true, hm, hs6, List.append_assoc, List.singleton_append])
     have HLT2 := Lib.hid hlt
     have hul : U.length ≤ 4096 := by have h1 := HUN.out; have h2 := HSZ.out; omega
     have q3 : wr.cell? ⟨g, 3, none⟩ = some (.slice Av U.length cv) := (blk_cell HT.out.y 3).trans rfl
     rw [hm, hs6] at HN
     clear hlt he hm hs6
     go_wp2_with fail
     refine start_ (n := 8) (S := fun w' => w'.cell? ⟨g, 3, none⟩ = some (.slice Av U.length cv)) (ds := [7]) #[false, false, false, false, false, false, false, false] (by kernel_rfl) rfl rfl ((blk_cell HT.out.y 3).trans rfl) (fun hHeld => ?_)
     obtain ⟨wd, hwd⟩ : ∃ wd, wr.drew = wd := ⟨_, rfl⟩
     rw [hwd] at HT HK HR HN hHeld ⊢
     clear hwd
     refine pure_ (i := 0) (N := some 37) (v := ?_) (a' := ?_) #[true, false, false, false, false, false, false, false] rfl rfl (by kernel_rfl) (fun _ _ _ h => h) (Or.inl ⟨by rfl, ?_⟩) ?_ ?_
     rotate_left
     ·intro w'
      go_simp
      try with_reducible rfl
     rotate_left
     ·simp only [Act.put, List.setIfInBounds_toArray, List.set_cons_zero, List.set_cons_succ, i64_w, i32_w]
      rfl
     refine pure_ (i := 2) (N := some 39) (v := ?_) (a' := ?_) #[true, false, true, false, false, false, false, false] rfl rfl (by kernel_rfl) (fun _ _ _ h => h) (Or.inl ⟨by rfl, ?_⟩) ?_ ?_
     rotate_left
     ·intro w'
      go_simp
      try with_reducible rfl
     rotate_left
     ·simp only [Act.put, List.setIfInBounds_toArray, List.set_cons_zero, List.set_cons_succ, i64_w, i32_w]
      rfl
     refine take_ (i := 1) (N := some 38) (v := ?_) (a' := ?_) #[true, true, true, false, false, false, false, false] rfl rfl (by kernel_rfl) (fun _ _ _ h => h) (Or.inl ⟨by rfl, ?_⟩) hHeld ?_ ?_
     rotate_left
     ·intro w' hS
      go_simp
      try with_reducible rfl
     rotate_left
     ·simp only [Act.put, List.setIfInBounds_toArray, List.set_cons_zero, List.set_cons_succ, i64_w, i32_w]
      rfl
     refine one_ (i := 3) (N := some 40) #[true, true, true, true, false, false, false, false] rfl rfl (by kernel_rfl) (by decide) (fun K hK => ?_)
     go_simp
     refine HN.out.mono ?_
     rintro e w_ ⟨v2_, v3_, v4_, v5_, rfl, r2, r3, r4, r5, h1, h2, h3⟩
     obtain ⟨A2, c2, rfl⟩ := Kd.R_slice r2
     obtain ⟨A3, c3, rfl⟩ := Kd.R_slice r3
     obtain ⟨A4, c4, rfl⟩ := Kd.R_slice r4
     obtain ⟨A5, c5, rfl⟩ := Kd.R_slice r5
     have HTa := Lib.hid (HT.out.call h1 h2 h3)
     have HRa := Lib.hid (Kd.R_step HR.out (fun k h7 h8 => h3.block k h8 (by have := HT.out.hxg; have := HGZ.out; omega)))
     have HKa := Lib.hid (HK.out.trans (h3.mono (fun i (e : i = x) => Or.inl e) : KeepS (fun k => k = x ∨ k = g) wd w_))
     have HOWN := Lib.hid (Kd.R_lt HR.out)
     have HBW := Lib.hid HK.out.size
     have R2 := Lib.hid (show Kd.R (Kd.int .u8) 5 w_ w8.heap.size (fun k => wd.heap.size ≤ k) _ m.f2 from Kd.R_mono (Kd.R_lower (Kd.R_bound r2) HBW.out) (fun k hk => hk.2.1))
     have R3 := Lib.hid (show Kd.R (Kd.int .i64) 2 w_ w8.heap.size (fun k => wd.heap.size ≤ k) _ m.f3 from Kd.R_mono (Kd.R_lower (Kd.R_bound r3) HBW.out) (fun k hk => hk.2.1))
     have R4 := Lib.hid (show Kd.R G.k101 101 w_ w8.heap.size (fun k => wd.heap.size ≤ k) _ m.f4 from Kd.R_mono (Kd.R_lower (Kd.R_bound r4) HBW.out) (fun k hk => hk.2.1))
     have R5 := Lib.hid (show Kd.R G.k101 101 w_ w8.heap.size (fun k => wd.heap.size ≤ k) _ m.f5 from Kd.R_mono (Kd.R_lower (Kd.R_bound r5) HBW.out) (fun k hk => hk.2.1))
     clear h1 h2 h3 HN r2 r3 r4 r5
     refine hK.out _ _ ((blk_cell HTa.out.y 3).trans rfl) (fun hHeld => ?_)
     clear hK K
     refine one_ (i := 4) (N := some 41) #[true, true, true, true, true, false, false, false] rfl rfl (by kernel_rfl) (by decide) (fun K hK => ?_)
     refine value_ (w1 := ?_) (v := ?_) (by rfl) rfl ?_ ?_
     rotate_left 2
     ·go_simp
      constructor <;> rfl
     refine hK.out _ _ ((blk_cell (blk_alloc HTa.out.y _) 3).trans rfl) (fun hHeld => ?_)
     clear hK K
     refine norm_ (a' := ?_) ?_ ?_
     rotate_left
     ·show Act.put _ (some 41) _ = _
      simp only [Act.put, List.setIfInBounds_toArray, List.set_cons_zero, List.set_cons_succ, i64_w, i32_w]
      rfl
     refine one_ (i := 5) (N := some 42) #[true, true, true, true, true, true, false, false] rfl rfl (by kernel_rfl) (by decide) (fun K hK => ?_)
     refine Kd.R_append_step G.k26 w8.heap.size (by rfl) (.tmp 38) (.tmp 41) 27 26 (.agg #[.int .i64 0, .int .i64 0, .slice none 0 0, .slice none 0 0, .slice none 0 0, .slice none 0 0]) 112 rfl Tryz.underlying27 G.info26 rfl (by decide) (by omega) (.slice Av U.length cv) U m [.int .i64 m.f0, .int .i64 m.f1, .slice A2 m.f2.length c2, .slice A3 m.f3.length c3, .slice A4 m.f4.length c4, .slice A5 m.f5.length c5] (fun k => w8.heap.size ≤ k) (fun k => wd.heap.size ≤ k) rfl rfl (G.k26_mkM _ _ _ m R2.out R3.out R4.out R5.out) (fun k hk => ⟨Nat.le_trans HBW.out hk, fun e => by have := HOWN.out k e.symm; omega⟩) (fun k hk => Nat.le_trans HKa.out.size hk) HRa.out (Below.refl _ _) HKa.out.size (by omega) ?_
     intro v_ wb ho hb hg_ hat
     have hb' : Below w8.heap.size w_ wb := hb
     obtain ⟨Aw, cw, rfl⟩ := Kd.R_slice ho
     have HRb := Lib.hid ho
     have HTb := Lib.hid (HTa.out.grow HST.out HKa.out HGZ.out hb')
     have HKb := Lib.hid (HKa.out.then_base hb')
     clear ho hb hg_ hat hb' HTa HRa HKa R2 R3 R4 R5
     refine hK.out _ _ ((blk_cell HTb.out.y 3).trans rfl) (fun hHeld => ?_)
     clear hK K
     refine norm_ (a' := ?_) ?_ ?_
     rotate_left
     ·show Act.put _ (some 42) _ = _
      simp only [Act.put, List.setIfInBounds_toArray, List.set_cons_zero, List.set_cons_succ, i64_w, i32_w]
      rfl
     refine pure_ (i := 6) (N := some 43) (v := ?_) (a' := ?_) #[true, true, true, true, true, true, true, false] rfl rfl (by kernel_rfl) (fun _ _ _ h => h) (Or.inl ⟨by rfl, ?_⟩) ?_ ?_
     rotate_left
     ·intro w'
      go_simp
      try with_reducible rfl
     rotate_left
     ·simp only [Act.put, List.setIfInBounds_toArray, List.set_cons_zero, List.set_cons_succ, i64_w, i32_w]
      rfl
     refine last_ (i := 7) (N := none) #[true, true, true, true, true, true, true, true] rfl rfl (by kernel_rfl) (by decide) (fun K hK => ?_)
     have q3 : wb.cell? ⟨g, 3, none⟩ = some (.slice Av U.length cv) := (blk_cell HTb.out.y 3).trans rfl
     have z3 : wb.frozen? ⟨g, 3, none⟩ = false := blk_frozen HTb.out.y 3
     refine skip_ (w1 := ?_) (by rfl) rfl ?_ ?_
     rotate_left
     ·go_simp
      rfl
     refine hK.out _ _ ?_
     clear hK K
     refine done_ (by kernel_rfl) ?_
     try go_wp2
     go_roundw
     case rel =>
      refine ⟨U ++ [m], s6', Aw, cw, by rw [List.length_append]; go_num, ?_, HTb.out.set 3 _ _ (blk_put HTb.out.y 3 _ (by simp)), HKb.out.set (p := ⟨g, 3, none⟩) (.inl (.inr rfl)) _, Kd.R_far (p := ⟨g, 3, none⟩) HRb.out (fun k (hk : _ ≤ k) => by have := HGZ.out; show k ≠ g; omega) _, HO6.out, HF2.out⟩
      have h2 := HLT2.out
      rw [List.length_append, List.length_singleton]
      omega
     case measure => simp [intOf]; have h2 := HLT2.out; omega
    ·have hq1 : decide ((U.length : Int) < n) = true := decide_eq_true hlt
     have hq2 : (s5'.e == 0) = false := beq_eq_false_iff_ne.2 he
     obtain ⟨rfl, rfl⟩ : v3 = U ∧ s4 = s5' := by
      have := HF.out
      rw [eMany_stop he, List.append_nil] at this
      simpa using this
     clear he
     have HFI := Lib.hid (HT.out.and ((show Iv G.k26 26 w w8.heap.size wr.heap.size (.slice Av v3.length cv) v3 wr from Iv.of HR.out (Nat.le_of_lt HGZ0.out)).held (fun k hk => by have h7 := HGZ.out; have h8 := HT.out.hxg; have h9 := HT.out.hg; rcases hk with rfl | rfl | rfl <;> omega)))
     clear hlt HT HK HR HF
     go_wp2_with fail
     go_meet
     exact ⟨_, _, _, HFI.out⟩
   ·have hq1 : decide ((U.length : Int) < n) = false := decide_eq_false hlt
    obtain ⟨rfl, rfl⟩ : v3 = U ∧ s4 = s5' := by
     have e1 : n.toNat - U.length = 0 := by omega
     have := HF.out
     rw [e1] at this
     simpa [eMany] using this
    have HFI := Lib.hid (HT.out.and ((show Iv G.k26 26 w w8.heap.size wr.heap.size (.slice Av v3.length cv) v3 wr from Iv.of HR.out (Nat.le_of_lt HGZ0.out)).held (fun k hk => by have h7 := HGZ.out; have h8 := HT.out.hxg; have h9 := HT.out.hg; rcases hk with rfl | rfl | rfl <;> omega)))
    clear hlt HT HK HR HF
    go_wp2_with fail
    go_meet
    exact ⟨_, _, _, HFI.out⟩
 case rest =>
  obtain ⟨lo, A3, c3, hT⟩ := hcut
  obtain ⟨w9, rfl⟩ : ∃ w9, w9 = wc := ⟨_, rfl⟩
  have HT9 := Lib.hid hT
  clear hT
  have d0 : w9.cell? ⟨g, 0, none⟩ = some (.int .i64 1) := (blk_cell HT9.out.y 0).trans rfl
  have e0 : w9.cell? ⟨w.heap.size, 0, none⟩ = some (.int .i64 0) := (blk_cell HT9.out.g0 0).trans rfl
  have y0 : w9.frozen? ⟨w.heap.size, 0, none⟩ = false := blk_frozen HT9.out.g0 0
  have d1 : w9.cell? ⟨g, 1, none⟩ = some (.int .i64 v1) := (blk_cell HT9.out.y 1).trans rfl
  have e1 : w9.cell? ⟨w.heap.size, 1, none⟩ = some (.int .i64 0) := (blk_cell HT9.out.g0 1).trans rfl
  have y1 : w9.frozen? ⟨w.heap.size, 1, none⟩ = false := blk_frozen HT9.out.g0 1
  have d2 : w9.cell? ⟨g, 2, none⟩ = some (.int .i64 v2) := (blk_cell HT9.out.y 2).trans rfl
  have e2 : w9.cell? ⟨w.heap.size, 2, none⟩ = some (.int .i64 0) := (blk_cell HT9.out.g0 2).trans rfl
  have y2 : w9.frozen? ⟨w.heap.size, 2, none⟩ = false := blk_frozen HT9.out.g0 2
  have d3 : w9.cell? ⟨g, 3, none⟩ = some (.slice A3 v3.length c3) := (blk_cell HT9.out.y 3).trans rfl
  have e3 : w9.cell? ⟨w.heap.size, 3, none⟩ = some (.slice none 0 0) := (blk_cell HT9.out.g0 3).trans rfl
  have y3 : w9.frozen? ⟨w.heap.size, 3, none⟩ = false := blk_frozen HT9.out.g0 3
  have HGN : w.heap.size ≠ g := by have := HT9.out.hg; omega
  go_wp2_with fail
  have HEB := Lib.hid (blk_put (cs := #[.int .i64 1, .int .i64 v1, .int .i64 v2, .slice none 0 0]) (blk_put (cs := #[.int .i64 1, .int .i64 v1, .int .i64 0, .slice none 0 0]) (blk_put (cs := #[.int .i64 1, .int .i64 0, .int .i64 0, .slice none 0 0]) (blk_put (cs := #[.int .i64 0, .int .i64 0, .int .i64 0, .slice none 0 0]) HT9.out.g0 0 (.int .i64 1) rfl) 1 (.int .i64 v1) rfl) 2 (.int .i64 v2) rfl) 3 (.slice A3 v3.length c3) rfl)
  have HD := Lib.hid (HT9.out.done (((((KeepS.refl (fun k => k = w.heap.size ∨ k = g) w9).set (p := ⟨w.heap.size, 0, none⟩) (.inl (.inl rfl)) (.int .i64 1)).set (p := ⟨w.heap.size, 1, none⟩) (.inl (.inl rfl)) (.int .i64 v1)).set (p := ⟨w.heap.size, 2, none⟩) (.inl (.inl rfl)) (.int .i64 v2)).set (p := ⟨w.heap.size, 3, none⟩) (.inl (.inl rfl)) (.slice A3 v3.length c3)))
  obtain ⟨W, hW⟩ : ∃ W, ((((w9.setCell ⟨w.heap.size, 0, none⟩ (.int .i64 1)).setCell ⟨w.heap.size, 1, none⟩ (.int .i64 v1)).setCell ⟨w.heap.size, 2, none⟩ (.int .i64 v2)).setCell ⟨w.heap.size, 3, none⟩ (.slice A3 v3.length c3)) = W := ⟨_, rfl⟩
  rw [hW] at HEB HD ⊢
  clear hW
  refine bodyPost_ret (results_cell_row rfl _ _ w.heap.size 29 #[.int .i64 1, .int .i64 v1, .int .i64 v2, .slice A3 v3.length c3] (0, 0) _ rfl HEB.out Tryz.underlying29 rfl (by kernel_rfl)) rfl ?_
  rw [HF.out]
  obtain ⟨⟨_, p3⟩, di, dd, dq⟩ := HD.out
  exact ⟨_, rfl, Kd.R_mono p3 (fun _ _ => trivial), di, dd, dq⟩
theorem rdEntry_is {B : List Int} {w0 w : World} {x : Nat} {s : EyeS} (hI : IsRd B w0 w x s) (hB : Below w0.heap.size w0 w) (hok : okS s) :
  Calls Tryz.prog 56 #[.pointer (some ⟨x, 0, none⟩)] w fun e w' => RdEn B w0 w x (rEntry s).1 (rEntry s).2 e w' := by
 by_cases h0 : (rSmall s).1 = 0
 ·exact rdEntry0 hI hB hok h0
 by_cases h1 : (rSmall s).1 = 1
 ·exact rdEntry1 hI hB hok h1
 exact rdEntryX hI hB hok rfl h0 h1
theorem okS_rentry {s : EyeS} (h : okS s) : okS (rEntry s).2 := by
 unfold rEntry
 split
 ·exact okS_rsmall h
 split
 ·exact okS_list (fun _ => okS_txn) (okS_num (okS_rsmall (okS_rsmall h)))
 ·exact okS_wrong _ (okS_rsmall h)
end Go.Proofs.YtgiefblcckikeaaGreat.M
end

section
/- The reference's Reader: a list of termed entries (printed by genrdl04.py). -/
set_option maxRecDepth 100000
attribute [local irreducible] Go.wpStill
namespace Go.Proofs.YtgiefblcckikeaaGreat.M
open Go.RowKit Go.Proofs.YtgiefblcckikeaaGreatW.PrintWords Go.Proofs.YtgiefblcckikeaaGreatW.PrintLast Go.Proofs.YtgiefblcckikeaaGreatW.PrintMore Go.Proofs.YtgiefblcckikeaaGreat.G
theorem okS_rtr {s : EyeS} (h : okS s) : okS (rTr s).2 := okS_rentry (okS_num h)
def RdR {α : Type} (d : Kd α) (el : Nat) (B : List Int) (w0 w : World) (x : Nat) (l : List α) (s' : EyeS) (e : Ending) (w' : World) : Prop := ∃ v : Value, e = .returned v ∧ Kd.R d el w' w.heap.size (fun _ => True) v l ∧ IsRd B w0 w' x s' ∧ Below w0.heap.size w0 w' ∧ KeepS (fun i => i = x) w w'
def RdIT (n : Int) (s0 : EyeS) (B : List Int) (w0 w : World) (x : Nat) (v i : Value) (W : World) : Prop := ∃ (U : List TrD) (s : EyeS), i = .int .i64 (U.length : Int) ∧ U.length ≤ n.toNat ∧ Kd.R G.k63 63 W w.heap.size (fun _ => True) v U ∧ IsRd B w0 W x s ∧ Below w0.heap.size w0 W ∧ KeepS (fun i => i = x) w W ∧ okS s ∧ eList rTr s0 = (U ++ (eMany rTr (n.toNat - U.length) s).1, (eMany rTr (n.toNat - U.length) s).2)
set_option maxHeartbeats 2000000 in
theorem rdList_is {B : List Int} {w0 w : World} {x : Nat} {s : EyeS} (hI : IsRd B w0 w x s) (hB : Below w0.heap.size w0 w) (hok : okS s) :
  Calls Tryz.prog 131 #[.pointer (some ⟨x, 0, none⟩)] w fun e w' => RdR G.k63 63 B w0 w x (eList rTr s).1 (eList rTr s).2 e w' := by
 have HN := Lib.hid (rdLen_is hI hB hok)
 have HOK := Lib.hid (okS_len hok)
 have HLT := Lib.hid hI.lt
 have HGEW := Lib.hid (show w0.heap.size ≤ w.heap.size from hB.size)
 have HSZ := Lib.hid (rLen_size s)
 have HEL := Lib.hid (eList_len rTr s)
 obtain ⟨n, hn⟩ : ∃ n, (rLen s).1 = n := ⟨_, rfl⟩
 obtain ⟨s1, hs1⟩ : ∃ s1, (rLen s).2 = s1 := ⟨_, rfl⟩
 rw [hn] at HSZ
 rw [hn, hs1] at HN HEL
 rw [hs1] at HOK
 clear hI hB hok hn hs1
 go_enter Tryz.func131, Tryz.ntmps131
 go_wp2_with fail
 refine HN.out.mono ?_
 rintro e w1 ⟨rfl, h1, h2, h3⟩
 have G1 := Lib.hid h1; have G2 := Lib.hid h2; have G3 := Lib.hid h3
 clear h1 h2 h3 HN
 go_wp2_with fail
 go_loopw [4, 5, 6] (fun v i t wr => RdIT n s B w0 w x v i wr) (fun _ i _ _ => n.toNat - (intOf i).toNat)
 case atStart => exact ⟨[], s1, rfl, by simp, Kd.R_nil _ _ _ _ _, G1.out, G2.out, G3.out, HOK.out, by simpa using HEL.out⟩
 case round =>
  obtain ⟨U, s2, rfl, hUn, hS, hI, hB, hK, hO, hF⟩ := hrel
  have HT1 := Lib.hid (Fo.start (w := wr) (I := fun W s => IsRd B w0 W x s) (T := 63) (zs := #[.int .i64 0, .int .i64 0, .int .i64 0, .int .i64 0, .slice none 0 0]) hI hB hI.lt hI.ge (fun _ _ _ e h => h.at e))
  have HI := Lib.hid hI; have HB := Lib.hid hB; have HK := Lib.hid hK; have HO := Lib.hid hO; have HF := Lib.hid hF; have HS := Lib.hid hS; have HUN := Lib.hid hUn
  obtain ⟨Av, cv, rfl⟩ := Kd.R_slice hS
  obtain ⟨A, c, k, g1, g2, g3⟩ := hI
  have c1 : wr.cell? ⟨x, 2, none⟩ = some (.int .i64 s2.e) := by simp [World.cell?, g1]
  clear hB hK hO hF hS hUn g1 g2 g3 k
  by_cases hlt : (U.length : Int) < n
  ·by_cases he : s2.e = 0
   ·have hq1 : decide ((U.length : Int) < n) = true := decide_eq_true hlt
    have hq2 : (s2.e == 0) = true := by rw [he]; rfl
    obtain ⟨a, ha⟩ : ∃ a, (eNum s2).1 = a := ⟨_, rfl⟩
    obtain ⟨s3, hs3⟩ : ∃ s3, (eNum s2).2 = s3 := ⟨_, rfl⟩
    have ho3 := okS_num HO.out
    rw [hs3] at ho3
    obtain ⟨⟨y0, y1, y2, yl⟩, hy⟩ : ∃ y, (rEntry s3).1 = y := ⟨_, rfl⟩
    obtain ⟨s4, hs4⟩ : ∃ s4, (rEntry s3).2 = s4 := ⟨_, rfl⟩
    have ho4 := okS_rentry ho3
    rw [hs4] at ho4
    have hTR : rTr s2 = ((⟨a, ⟨y0, y1, y2, yl⟩⟩ : TrD), s4) := by unfold rTr trOf FM PR; rw [ha, hs3, hy, hs4]
    have HF2 := Lib.hid (show eList rTr s = ((U ++ [(⟨a, ⟨y0, y1, y2, yl⟩⟩ : TrD)]) ++ (eMany rTr (n.toNat - (U ++ [(⟨a, ⟨y0, y1, y2, yl⟩⟩ : TrD)]).length) s4).1, (eMany rTr (n.toNat - (U ++ [(⟨a, ⟨y0, y1, y2, yl⟩⟩ : TrD)]).length) s4).2) by
     rw [HF.out]
     have e1 : n.toNat - U.length = (n.toNat - (U ++ [(⟨a, ⟨y0, y1, y2, yl⟩⟩ : TrD)]).length) + 1 := by simp; omega
     rw [e1]
     simp only [eMany, he, if_true, hTR, List.append_assoc, List.singleton_append])
    have HO3 := Lib.hid ho3; have HO4 := Lib.hid ho4; have HE1 := Lib.hid (And.intro ha hs3); have HE2 := Lib.hid (And.intro hy hs4)
    have HLT2 := Lib.hid hlt; have HOWN := Lib.hid (Kd.R_lt HS.out)
    clear hlt he ha hs3 ho3 hy hs4 ho4 hTR
    go_upto_region 7 with fail
    obtain ⟨w2, hw2⟩ : ∃ W, wr.alloc (.cells #[.int .i64 0, .int .i64 0, .int .i64 0, .int .i64 0, .slice none 0 0] 63) = W := ⟨_, rfl⟩
    rw [hw2] at HT1 ⊢
    clear hw2 c1 hq1 hq2
    go_wp2_with fail
    have h4 := rdNum_is HT1.out.i HT1.out.d HO.out
    rw [HE1.out.1, HE1.out.2] at h4
    refine h4.mono ?_
    rintro e w3 ⟨rfl, h1, h2, h3⟩
    have HT2 := Lib.hid (HT1.out.call h1 h2 h3)
    clear h1 h2 h3 h4 HT1
    have d0 : w3.cell? ⟨wr.heap.size, 0, none⟩ = some (.int .i64 0) := (blk_cell HT2.out.g0 0).trans rfl
    have z0 : w3.frozen? ⟨wr.heap.size, 0, none⟩ = false := blk_frozen HT2.out.g0 0
    go_upto_region 8 with fail
    have hT : Fo _ w0 wr x 63 #[.int .i64 a, .int .i64 0, .int .i64 0, .int .i64 0, .slice none 0 0] _ _ := HT2.out.put 0 (.int .i64 a)
    have HT3 := Lib.hid hT
    obtain ⟨w3', hw⟩ : ∃ W, w3.setCell ⟨wr.heap.size, 0, none⟩ (.int .i64 a) = W := ⟨_, rfl⟩
    rw [hw] at HT3 ⊢
    clear hT hw HT2 d0 z0
    go_wp2_with fail
    have h4 := rdEntry_is HT3.out.i HT3.out.d HO3.out
    rw [HE2.out.1, HE2.out.2] at h4
    refine h4.mono ?_
    rintro e w4 ⟨v_, rfl, hv, h1, h2, h3⟩
    have hv : Kd.R G.k26 26 w4 w3'.heap.size (fun _ => True) v_ yl := hv
    obtain ⟨A4, c4, rfl⟩ := Kd.R_slice hv
    have HT4 := Lib.hid (HT3.out.call h1 h2 h3)
    have HZ := Lib.hid HT3.out.hz
    have HV := Lib.hid (Kd.R_bound hv)
    clear h1 h2 h3 h4 hv HT3
    have d0 : w4.cell? ⟨wr.heap.size, 0, none⟩ = some (.int .i64 a) := (blk_cell HT4.out.g0 0).trans rfl
    have z0 : w4.frozen? ⟨wr.heap.size, 0, none⟩ = false := blk_frozen HT4.out.g0 0
    have d1 : w4.cell? ⟨wr.heap.size, 1, none⟩ = some (.int .i64 0) := (blk_cell HT4.out.g0 1).trans rfl
    have z1 : w4.frozen? ⟨wr.heap.size, 1, none⟩ = false := blk_frozen HT4.out.g0 1
    have d2 : w4.cell? ⟨wr.heap.size, 2, none⟩ = some (.int .i64 0) := (blk_cell HT4.out.g0 2).trans rfl
    have z2 : w4.frozen? ⟨wr.heap.size, 2, none⟩ = false := blk_frozen HT4.out.g0 2
    have d3 : w4.cell? ⟨wr.heap.size, 3, none⟩ = some (.int .i64 0) := (blk_cell HT4.out.g0 3).trans rfl
    have z3 : w4.frozen? ⟨wr.heap.size, 3, none⟩ = false := blk_frozen HT4.out.g0 3
    have d4 : w4.cell? ⟨wr.heap.size, 4, none⟩ = some (.slice none 0 0) := (blk_cell HT4.out.g0 4).trans rfl
    have z4 : w4.frozen? ⟨wr.heap.size, 4, none⟩ = false := blk_frozen HT4.out.g0 4
    go_upto_region 9 with fail
    have hT : Fo _ w0 wr x 63 #[.int .i64 a, .int .i64 y0, .int .i64 y1, .int .i64 y2, .slice A4 yl.length c4] _ _ := (((HT4.out.put 1 (.int .i64 y0)).put 2 (.int .i64 y1)).put 3 (.int .i64 y2)).put 4 (.slice A4 yl.length c4)
    have HT5 := Lib.hid hT
    have R4 := Lib.hid (show Kd.R G.k26 26 ((((w4.setCell ⟨wr.heap.size, 1, none⟩ (.int .i64 y0)).setCell ⟨wr.heap.size, 2, none⟩ (.int .i64 y1)).setCell ⟨wr.heap.size, 3, none⟩ (.int .i64 y2)).setCell ⟨wr.heap.size, 4, none⟩ (.slice A4 yl.length c4)) w.heap.size (fun k => wr.heap.size < k) (.slice A4 yl.length c4) yl from by
     have h0 : Kd.R G.k26 26 w4 w.heap.size (fun k => wr.heap.size < k) (.slice A4 yl.length c4) yl := Kd.R_mono (Kd.R_lower HV.out (Nat.le_trans HK.out.size (Nat.le_of_lt HZ.out))) (fun k hk => Nat.lt_of_lt_of_le HZ.out hk.2.1)
     exact Kd.R_far (p := ⟨wr.heap.size, 4, none⟩) (Kd.R_far (p := ⟨wr.heap.size, 3, none⟩) (Kd.R_far (p := ⟨wr.heap.size, 2, none⟩) (Kd.R_far (p := ⟨wr.heap.size, 1, none⟩) h0 (fun k hk => Nat.ne_of_gt hk) _) (fun k hk => Nat.ne_of_gt hk) _) (fun k hk => Nat.ne_of_gt hk) _) (fun k hk => Nat.ne_of_gt hk) _)
    obtain ⟨w5, hw⟩ : ∃ W, (((w4.setCell ⟨wr.heap.size, 1, none⟩ (.int .i64 y0)).setCell ⟨wr.heap.size, 2, none⟩ (.int .i64 y1)).setCell ⟨wr.heap.size, 3, none⟩ (.int .i64 y2)).setCell ⟨wr.heap.size, 4, none⟩ (.slice A4 yl.length c4) = W := ⟨_, rfl⟩
    rw [hw] at HT5 R4 ⊢
    clear hT hw HT4 HZ HV d0 z0 d1 z1 d2 z2 d3 z3 d4 z4
    have d0 : w5.cell? ⟨wr.heap.size, 0, none⟩ = some (.int .i64 a) := (blk_cell HT5.out.g0 0).trans rfl
    have d1 : w5.cell? ⟨wr.heap.size, 1, none⟩ = some (.int .i64 y0) := (blk_cell HT5.out.g0 1).trans rfl
    have d2 : w5.cell? ⟨wr.heap.size, 2, none⟩ = some (.int .i64 y1) := (blk_cell HT5.out.g0 2).trans rfl
    have d3 : w5.cell? ⟨wr.heap.size, 3, none⟩ = some (.int .i64 y2) := (blk_cell HT5.out.g0 3).trans rfl
    have d4 : w5.cell? ⟨wr.heap.size, 4, none⟩ = some (.slice A4 yl.length c4) := (blk_cell HT5.out.g0 4).trans rfl
    have HS3 := Lib.hid (show Kd.R G.k63 63 w5 w.heap.size (fun _ => True) (.slice Av U.length cv) U from R_keep' HLT.out HS.out HT5.out.q)
    have K3 := Lib.hid (HK.out.trans HT5.out.q)
    have HZ3 := Lib.hid K3.out.size
    have hul : U.length ≤ 4096 := by have h1 := HUN.out; have h2 := HSZ.out; omega
    go_wp2_with ((with_reducible refine gate_builtin (b := .append) (xs := #[.tmp 27, .tmp 29]) rfl ?_); at_builtin; refine Kd.R_append G.k63 (w0 := w5) w.heap.size rfl (.tmp 27) (.tmp 29) 30 63 (.agg #[.int .i64 0, .int .i64 0, .int .i64 0, .int .i64 0, .slice none 0 0]) 56 rfl Tryz.underlying30 G.info63 rfl (by decide) (by omega) _ U (⟨a, ⟨y0, y1, y2, yl⟩⟩ : TrD) [.int .i64 a, .int .i64 y0, .int .i64 y1, .int .i64 y2, .slice A4 yl.length c4] (fun _ => True) (fun k => wr.heap.size < k) rfl rfl (G.k63_mkM _ _ _ (⟨a, ⟨y0, y1, y2, yl⟩⟩ : TrD) R4.out) (fun k hk => ⟨trivial, fun e => by have := HOWN.out k e.symm; omega⟩) (fun _ _ => trivial) HS3.out (Below.refl _ _) HZ3.out (by omega) ?_; intro v1 w6 ho hb5 hg5 hat; obtain ⟨A9, c9, rfl⟩ := Kd.R_slice ho; have HS5 := Lib.hid ho; have HK5 := Lib.hid (K3.out.then_base hb5); have HI5 := Lib.hid (HT5.out.i.at (hb5.block x HLT.out)); have HB5 := Lib.hid (HT5.out.d.trans (hb5.mono HGEW.out)); clear ho hb5 hg5 hat)
    go_roundw
    case rel =>
     refine ⟨U ++ [(⟨a, ⟨y0, y1, y2, yl⟩⟩ : TrD)], s4, by rw [List.length_append]; go_num, ?_, (by have h9 := HS5.out; rw [List.length_append] at h9; exact h9), HI5.out, HB5.out, HK5.out, HO4.out, HF2.out⟩
     have h2 := HLT2.out
     rw [List.length_append, List.length_singleton]
     omega
    case measure => simp [intOf]; have h2 := HLT2.out; omega
   ·have hq1 : decide ((U.length : Int) < n) = true := decide_eq_true hlt
    have hq2 : (s2.e == 0) = false := beq_eq_false_iff_ne.2 he
    have HF2 := Lib.hid (show eList rTr s = (U, s2) by rw [HF.out, eMany_stop he, List.append_nil])
    clear hlt he
    go_wp2_with fail
    go_ret
    exact ⟨_, rfl, by rw [HF2.out]; exact HS.out, by rw [HF2.out]; exact HI.out, HB.out, HK.out⟩
  ·have hq1 : decide ((U.length : Int) < n) = false := decide_eq_false hlt
   have HF2 := Lib.hid (show eList rTr s = (U, s2) by
    have e1 : n.toNat - U.length = 0 := by omega
    rw [HF.out, e1]
    simp only [eMany, List.append_nil])
   clear hlt
   go_wp2_with fail
   go_ret
   exact ⟨_, rfl, by rw [HF2.out]; exact HS.out, by rw [HF2.out]; exact HI.out, HB.out, HK.out⟩
end Go.Proofs.YtgiefblcckikeaaGreat.M
end

section
/- The reference's Reader: a message, kinds 1, 2, 4 (printed by genrdq04.py). -/
set_option maxRecDepth 100000
attribute [local irreducible] Go.wpStill
namespace Go.Proofs.YtgiefblcckikeaaGreat.M
open Go.RowKit Go.Proofs.YtgiefblcckikeaaGreatW.PrintWords Go.Proofs.YtgiefblcckikeaaGreatW.PrintLast Go.Proofs.YtgiefblcckikeaaGreatW.PrintMore Go.Proofs.YtgiefblcckikeaaGreat.G
theorem okS_rtrs {s : EyeS} (h : okS s) : okS (eList rTr s).2 := okS_list (fun _ => okS_rtr) h
theorem okS_part {s : EyeS} (h : okS s) : okS (ptOf rSmall s).2 := okS_data (okS_rsmall (okS_rsmall (okS_num h)))
set_option maxHeartbeats 4000000 in
theorem rdMsg1 {B : List Int} {w0 w : World} {x : Nat} {s : EyeS} (hI : IsRd B w0 w x s) (hB : Below w0.heap.size w0 w) (hok : okS s) (hk : (rSmall s).1 = 1) (he : (rSmall s).2.e = 0) :
  Calls Tryz.prog 62 #[.pointer (some ⟨x, 0, none⟩)] w fun e w' => MsP (fun W s => IsRd B w0 W x s) w0 w x (rMsg s).1 (rMsg s).2 e w' := by
 have HT1 := Lib.hid ((Fo.start (I := fun W s => IsRd B w0 W x s) (T := 34) (zs := #[.int .i64 0, .int .i64 0, .int .i64 0, .int .i64 0, .int .i64 0, .int .i64 0, .int .i64 0, .bool false, .slice none 0 0, .int .i64 0, .int .i64 0, .int .i64 0, .slice none 0 0, .int .i64 0, .int .i64 0, .int .i64 0, .slice none 0 0]) hI hB hI.lt hI.ge (fun _ _ _ e h => h.at e)).lay #[.int .i64 0, .int .i64 0, .int .i64 0, .int .i64 0, .int .i64 0, .int .i64 0, .int .i64 0, .bool false, .slice none 0 0, .int .i64 0, .int .i64 0, .int .i64 0, .slice none 0 0, .int .i64 0, .int .i64 0, .int .i64 0, .slice none 0 0])
 obtain ⟨s0, hs0⟩ : ∃ s0, (rSmall s).2 = s0 := ⟨_, rfl⟩
 have HN := Lib.hid (And.intro hk hs0)
 have HO0 := Lib.hid hok
 have ho1 := okS_rsmall hok
 rw [hs0] at ho1 he
 obtain ⟨s1, hs1⟩ : ∃ s1, s0 = s1 := ⟨_, rfl⟩
 rw [hs1] at hs0 ho1 he HN
 have HF0 := Lib.hid (show rMsg s = mBody rSmall rEntry (eList rTr) 1 s1 by
  have hm : rMk s = s1 := by unfold rMk; rw [hk, hs0]; exact eWrong_false _
  unfold rMsg
  rw [hm, hk])
 have HQ := Lib.hid (show (s1.e == 0) = true by rw [he]; rfl)
 clear hI hB hok hk hs0 hs1 he
 obtain ⟨v1, hv1⟩ : ∃ v, (rSmall s1).1 = v := ⟨_, rfl⟩
 obtain ⟨s2, hs2⟩ : ∃ t, (rSmall s1).2 = t := ⟨_, rfl⟩
 have ho2 := okS_rsmall ho1
 rw [hs2] at ho2
 have HO1 := Lib.hid ho1; have HE1 := Lib.hid (And.intro hv1 hs2)
 obtain ⟨v2, hv2⟩ : ∃ v, (rSmall s2).1 = v := ⟨_, rfl⟩
 obtain ⟨s3, hs3⟩ : ∃ t, (rSmall s2).2 = t := ⟨_, rfl⟩
 have ho3 := okS_rsmall ho2
 rw [hs3] at ho3
 have HO2 := Lib.hid ho2; have HE2 := Lib.hid (And.intro hv2 hs3)
 obtain ⟨v3, hv3⟩ : ∃ v, (eNum s3).1 = v := ⟨_, rfl⟩
 obtain ⟨s4, hs4⟩ : ∃ t, (eNum s3).2 = t := ⟨_, rfl⟩
 have ho4 := okS_num ho3
 rw [hs4] at ho4
 have HO3 := Lib.hid ho3; have HE3 := Lib.hid (And.intro hv3 hs4)
 obtain ⟨v4, hv4⟩ : ∃ v, (eNum s4).1 = v := ⟨_, rfl⟩
 obtain ⟨s5, hs5⟩ : ∃ t, (eNum s4).2 = t := ⟨_, rfl⟩
 have ho5 := okS_num ho4
 rw [hs5] at ho5
 have HO4 := Lib.hid ho4; have HE4 := Lib.hid (And.intro hv4 hs5)
 obtain ⟨v5, hv5⟩ : ∃ v, (eNum s5).1 = v := ⟨_, rfl⟩
 obtain ⟨s6, hs6⟩ : ∃ t, (eNum s5).2 = t := ⟨_, rfl⟩
 have ho6 := okS_num ho5
 rw [hs6] at ho6
 have HO5 := Lib.hid ho5; have HE5 := Lib.hid (And.intro hv5 hs6)
 have HF := Lib.hid (show rMsg s = (⟨1, v1, v2, v3, v4, v5, 0, false, [], zE, zP⟩, s6) by
  rw [HF0.out]
  unfold mBody
  rw [if_pos rfl]
  simp only [FM, PR, enOf, hv1, hs2, hv2, hs3, hv3, hs4, hv4, hs5, hv5, hs6])
 clear HF0 hv1 hs2 ho1 hv2 hs3 ho2 hv3 hs4 ho3 hv4 hs5 ho4 hv5 hs6 ho5 ho6
 go_enter Tryz.func62, Tryz.ntmps62
 go_upto_region 2 with fail
 obtain ⟨g, hg⟩ : ∃ g, (w.alloc (.cells #[.int .i64 0, .int .i64 0, .int .i64 0, .int .i64 0, .int .i64 0, .int .i64 0, .int .i64 0, .bool false, .slice none 0 0, .int .i64 0, .int .i64 0, .int .i64 0, .slice none 0 0, .int .i64 0, .int .i64 0, .int .i64 0, .slice none 0 0] 34)).heap.size = g := ⟨_, rfl⟩
 have hg' : w.heap.size + 1 = g := by rw [← hg]; simp
 obtain ⟨w1, hw1⟩ : ∃ W, (w.alloc (.cells #[.int .i64 0, .int .i64 0, .int .i64 0, .int .i64 0, .int .i64 0, .int .i64 0, .int .i64 0, .bool false, .slice none 0 0, .int .i64 0, .int .i64 0, .int .i64 0, .slice none 0 0, .int .i64 0, .int .i64 0, .int .i64 0, .slice none 0 0] 34)).alloc (.cells #[.int .i64 0, .int .i64 0, .int .i64 0, .int .i64 0, .int .i64 0, .int .i64 0, .int .i64 0, .bool false, .slice none 0 0, .int .i64 0, .int .i64 0, .int .i64 0, .slice none 0 0, .int .i64 0, .int .i64 0, .int .i64 0, .slice none 0 0] 34) = W := ⟨_, rfl⟩
 rw [hg, hw1] at HT1
 rw [hw1, hg']
 clear hg hw1 hg'
 go_wp2_with fail
 have h4 := rdSmall_is HT1.out.i HT1.out.d HO0.out
 rw [HN.out.1, HN.out.2] at h4
 refine h4.mono ?_
 rintro e w2 ⟨rfl, h1, h2, h3⟩
 have HT2 := Lib.hid (HT1.out.call h1 h2 h3)
 clear h1 h2 h3 h4 HT1 HN
 have d0 : w2.cell? ⟨g, 0, none⟩ = some (.int .i64 0) := (blk_cell HT2.out.y 0).trans rfl
 have z0 : w2.frozen? ⟨g, 0, none⟩ = false := blk_frozen HT2.out.y 0
 go_upto_region 3 with fail
 have hT : Fr _ w0 w x g 34 _ #[.int .i64 1, .int .i64 0, .int .i64 0, .int .i64 0, .int .i64 0, .int .i64 0, .int .i64 0, .bool false, .slice none 0 0, .int .i64 0, .int .i64 0, .int .i64 0, .slice none 0 0, .int .i64 0, .int .i64 0, .int .i64 0, .slice none 0 0] _ _ _ := HT2.out.put 0 (.int .i64 1)
 have HT3 := Lib.hid hT
 obtain ⟨w3, hw⟩ : ∃ W, w2.setCell ⟨g, 0, none⟩ (.int .i64 1) = W := ⟨_, rfl⟩
 rw [hw] at HT3 ⊢
 clear hT hw HT2 d0 z0
 have c2 : w3.cell? ⟨x, 2, none⟩ = some (.int .i64 s1.e) := by
  obtain ⟨A, c, j, g1, _⟩ := HT3.out.i
  simp [World.cell?, g1]
 have hq := HQ.out
 have d0 : w3.cell? ⟨g, 0, none⟩ = some (.int .i64 1) := (blk_cell HT3.out.y 0).trans rfl
 go_wp2_with fail
 clear c2 hq d0
 have h4 := rdSmall_is HT3.out.i HT3.out.d HO1.out
 rw [HE1.out.1, HE1.out.2] at h4
 refine h4.mono ?_
 rintro e w4 ⟨rfl, h1, h2, h3⟩
 have HT4 := Lib.hid (HT3.out.call h1 h2 h3)
 clear h1 h2 h3 h4 HT3
 have d1 : w4.cell? ⟨g, 1, none⟩ = some (.int .i64 0) := (blk_cell HT4.out.y 1).trans rfl
 have z1 : w4.frozen? ⟨g, 1, none⟩ = false := blk_frozen HT4.out.y 1
 have d0 : w4.cell? ⟨g, 0, none⟩ = some (.int .i64 1) := (blk_cell HT4.out.y 0).trans rfl
 have z0 : w4.frozen? ⟨g, 0, none⟩ = false := blk_frozen HT4.out.y 0
 go_wp2_with fail
 have hT : Fr _ w0 w x g 34 _ #[.int .i64 1, .int .i64 v1, .int .i64 0, .int .i64 0, .int .i64 0, .int .i64 0, .int .i64 0, .bool false, .slice none 0 0, .int .i64 0, .int .i64 0, .int .i64 0, .slice none 0 0, .int .i64 0, .int .i64 0, .int .i64 0, .slice none 0 0] _ _ _ := (HT4.out.put 1 (.int .i64 v1))
 have HT5 := Lib.hid hT
 obtain ⟨w5, hw⟩ : ∃ W, (w4.setCell ⟨g, 1, none⟩ (.int .i64 v1)) = W := ⟨_, rfl⟩
 rw [hw] at HT5 ⊢
 clear hT hw HT4 d1 z1 d0 z0
 have h4 := rdSmall_is HT5.out.i HT5.out.d HO2.out
 rw [HE2.out.1, HE2.out.2] at h4
 refine h4.mono ?_
 rintro e w6 ⟨rfl, h1, h2, h3⟩
 have HT6 := Lib.hid (HT5.out.call h1 h2 h3)
 clear h1 h2 h3 h4 HT5
 have d2 : w6.cell? ⟨g, 2, none⟩ = some (.int .i64 0) := (blk_cell HT6.out.y 2).trans rfl
 have z2 : w6.frozen? ⟨g, 2, none⟩ = false := blk_frozen HT6.out.y 2
 have d0 : w6.cell? ⟨g, 0, none⟩ = some (.int .i64 1) := (blk_cell HT6.out.y 0).trans rfl
 have z0 : w6.frozen? ⟨g, 0, none⟩ = false := blk_frozen HT6.out.y 0
 go_wp2_with fail
 have hT : Fr _ w0 w x g 34 _ #[.int .i64 1, .int .i64 v1, .int .i64 v2, .int .i64 0, .int .i64 0, .int .i64 0, .int .i64 0, .bool false, .slice none 0 0, .int .i64 0, .int .i64 0, .int .i64 0, .slice none 0 0, .int .i64 0, .int .i64 0, .int .i64 0, .slice none 0 0] _ _ _ := (HT6.out.put 2 (.int .i64 v2))
 have HT7 := Lib.hid hT
 obtain ⟨w7, hw⟩ : ∃ W, (w6.setCell ⟨g, 2, none⟩ (.int .i64 v2)) = W := ⟨_, rfl⟩
 rw [hw] at HT7 ⊢
 clear hT hw HT6 d2 z2 d0 z0
 have h4 := rdNum_is HT7.out.i HT7.out.d HO3.out
 rw [HE3.out.1, HE3.out.2] at h4
 refine h4.mono ?_
 rintro e w8 ⟨rfl, h1, h2, h3⟩
 have HT8 := Lib.hid (HT7.out.call h1 h2 h3)
 clear h1 h2 h3 h4 HT7
 have d3 : w8.cell? ⟨g, 3, none⟩ = some (.int .i64 0) := (blk_cell HT8.out.y 3).trans rfl
 have z3 : w8.frozen? ⟨g, 3, none⟩ = false := blk_frozen HT8.out.y 3
 have d0 : w8.cell? ⟨g, 0, none⟩ = some (.int .i64 1) := (blk_cell HT8.out.y 0).trans rfl
 have z0 : w8.frozen? ⟨g, 0, none⟩ = false := blk_frozen HT8.out.y 0
 go_wp2_with fail
 have hT : Fr _ w0 w x g 34 _ #[.int .i64 1, .int .i64 v1, .int .i64 v2, .int .i64 v3, .int .i64 0, .int .i64 0, .int .i64 0, .bool false, .slice none 0 0, .int .i64 0, .int .i64 0, .int .i64 0, .slice none 0 0, .int .i64 0, .int .i64 0, .int .i64 0, .slice none 0 0] _ _ _ := (HT8.out.put 3 (.int .i64 v3))
 have HT9 := Lib.hid hT
 obtain ⟨w9, hw⟩ : ∃ W, (w8.setCell ⟨g, 3, none⟩ (.int .i64 v3)) = W := ⟨_, rfl⟩
 rw [hw] at HT9 ⊢
 clear hT hw HT8 d3 z3 d0 z0
 have h4 := rdNum_is HT9.out.i HT9.out.d HO4.out
 rw [HE4.out.1, HE4.out.2] at h4
 refine h4.mono ?_
 rintro e w10 ⟨rfl, h1, h2, h3⟩
 have HT10 := Lib.hid (HT9.out.call h1 h2 h3)
 clear h1 h2 h3 h4 HT9
 have d4 : w10.cell? ⟨g, 4, none⟩ = some (.int .i64 0) := (blk_cell HT10.out.y 4).trans rfl
 have z4 : w10.frozen? ⟨g, 4, none⟩ = false := blk_frozen HT10.out.y 4
 have d0 : w10.cell? ⟨g, 0, none⟩ = some (.int .i64 1) := (blk_cell HT10.out.y 0).trans rfl
 have z0 : w10.frozen? ⟨g, 0, none⟩ = false := blk_frozen HT10.out.y 0
 go_wp2_with fail
 have hT : Fr _ w0 w x g 34 _ #[.int .i64 1, .int .i64 v1, .int .i64 v2, .int .i64 v3, .int .i64 v4, .int .i64 0, .int .i64 0, .bool false, .slice none 0 0, .int .i64 0, .int .i64 0, .int .i64 0, .slice none 0 0, .int .i64 0, .int .i64 0, .int .i64 0, .slice none 0 0] _ _ _ := (HT10.out.put 4 (.int .i64 v4))
 have HT11 := Lib.hid hT
 obtain ⟨w11, hw⟩ : ∃ W, (w10.setCell ⟨g, 4, none⟩ (.int .i64 v4)) = W := ⟨_, rfl⟩
 rw [hw] at HT11 ⊢
 clear hT hw HT10 d4 z4 d0 z0
 have h4 := rdNum_is HT11.out.i HT11.out.d HO5.out
 rw [HE5.out.1, HE5.out.2] at h4
 refine h4.mono ?_
 rintro e w12 ⟨rfl, h1, h2, h3⟩
 have HT12 := Lib.hid (HT11.out.call h1 h2 h3)
 clear h1 h2 h3 h4 HT11
 have d5 : w12.cell? ⟨g, 5, none⟩ = some (.int .i64 0) := (blk_cell HT12.out.y 5).trans rfl
 have z5 : w12.frozen? ⟨g, 5, none⟩ = false := blk_frozen HT12.out.y 5
 have d0 : w12.cell? ⟨g, 0, none⟩ = some (.int .i64 1) := (blk_cell HT12.out.y 0).trans rfl
 have z0 : w12.frozen? ⟨g, 0, none⟩ = false := blk_frozen HT12.out.y 0
 go_upto_region 28 with fail
 have hT : Fr _ w0 w x g 34 _ #[.int .i64 1, .int .i64 v1, .int .i64 v2, .int .i64 v3, .int .i64 v4, .int .i64 v5, .int .i64 0, .bool false, .slice none 0 0, .int .i64 0, .int .i64 0, .int .i64 0, .slice none 0 0, .int .i64 0, .int .i64 0, .int .i64 0, .slice none 0 0] _ _ _ := (HT12.out.put 5 (.int .i64 v5))
 have HT13 := Lib.hid hT
 obtain ⟨w13, hw⟩ : ∃ W, (w12.setCell ⟨g, 5, none⟩ (.int .i64 v5)) = W := ⟨_, rfl⟩
 rw [hw] at HT13 ⊢
 clear hT hw HT12 d5 z5 d0 z0
 refine wp_region_list ?_
 refine wpList_load_row rfl 34 (.tmp 3) rfl g rfl 34 #[.int .i64 1, .int .i64 v1, .int .i64 v2, .int .i64 v3, .int .i64 v4, .int .i64 v5, .int .i64 0, .bool false, .slice none 0 0, .int .i64 0, .int .i64 0, .int .i64 0, .slice none 0 0, .int .i64 0, .int .i64 0, .int .i64 0, .slice none 0 0] (0, 0) _ HT13.out.y Tryz.underlying34 rfl (by kernel_rfl) ?_
 refine wpList_store_row rfl 34 (.tmp 2) (.tmp 78) rfl w.heap.size #[.int .i64 1, .int .i64 v1, .int .i64 v2, .int .i64 v3, .int .i64 v4, .int .i64 v5, .int .i64 0, .bool false, .slice none 0 0, .int .i64 0, .int .i64 0, .int .i64 0, .slice none 0 0, .int .i64 0, .int .i64 0, .int .i64 0, .slice none 0 0] rfl rfl 34 #[.int .i64 0, .int .i64 0, .int .i64 0, .int .i64 0, .int .i64 0, .int .i64 0, .int .i64 0, .bool false, .slice none 0 0, .int .i64 0, .int .i64 0, .int .i64 0, .slice none 0 0, .int .i64 0, .int .i64 0, .int .i64 0, .slice none 0 0] HT13.out.g0 (by kernel_rfl) rfl (by simp [Value.oneCell']) ?_
 have HD := Lib.hid (HT13.out.fin (cs' := #[.int .i64 1, .int .i64 v1, .int .i64 v2, .int .i64 v3, .int .i64 v4, .int .i64 v5, .int .i64 0, .bool false, .slice none 0 0, .int .i64 0, .int .i64 0, .int .i64 0, .slice none 0 0, .int .i64 0, .int .i64 0, .int .i64 0, .slice none 0 0]))
 obtain ⟨W, hW⟩ : ∃ W, w13.setRow w.heap.size #[.int .i64 1, .int .i64 v1, .int .i64 v2, .int .i64 v3, .int .i64 v4, .int .i64 v5, .int .i64 0, .bool false, .slice none 0 0, .int .i64 0, .int .i64 0, .int .i64 0, .slice none 0 0, .int .i64 0, .int .i64 0, .int .i64 0, .slice none 0 0] = W := ⟨_, rfl⟩
 rw [hW] at HD ⊢
 clear hW
 go_wp2_with fail
 refine bodyPost_ret (results_cell_row rfl _ _ w.heap.size 34 #[.int .i64 1, .int .i64 v1, .int .i64 v2, .int .i64 v3, .int .i64 v4, .int .i64 v5, .int .i64 0, .bool false, .slice none 0 0, .int .i64 0, .int .i64 0, .int .i64 0, .slice none 0 0, .int .i64 0, .int .i64 0, .int .i64 0, .slice none 0 0] (0, 0) _ rfl HD.out.1 Tryz.underlying34 rfl (by kernel_rfl)) rfl ?_
 rw [HF.out]
 obtain ⟨_, hp, i, d, q⟩ := HD.out
 exact ⟨_, _, _, rfl, Kd.R_nil _ _ _ _ _, Kd.R_nil _ _ _ _ _, Kd.R_nil _ _ _ _ _, i, d, q⟩
set_option maxHeartbeats 4000000 in
theorem rdMsg2 {B : List Int} {w0 w : World} {x : Nat} {s : EyeS} (hI : IsRd B w0 w x s) (hB : Below w0.heap.size w0 w) (hok : okS s) (hk : (rSmall s).1 = 2) (he : (rSmall s).2.e = 0) :
  Calls Tryz.prog 62 #[.pointer (some ⟨x, 0, none⟩)] w fun e w' => MsP (fun W s => IsRd B w0 W x s) w0 w x (rMsg s).1 (rMsg s).2 e w' := by
 have HT1 := Lib.hid ((Fo.start (I := fun W s => IsRd B w0 W x s) (T := 34) (zs := #[.int .i64 0, .int .i64 0, .int .i64 0, .int .i64 0, .int .i64 0, .int .i64 0, .int .i64 0, .bool false, .slice none 0 0, .int .i64 0, .int .i64 0, .int .i64 0, .slice none 0 0, .int .i64 0, .int .i64 0, .int .i64 0, .slice none 0 0]) hI hB hI.lt hI.ge (fun _ _ _ e h => h.at e)).lay #[.int .i64 0, .int .i64 0, .int .i64 0, .int .i64 0, .int .i64 0, .int .i64 0, .int .i64 0, .bool false, .slice none 0 0, .int .i64 0, .int .i64 0, .int .i64 0, .slice none 0 0, .int .i64 0, .int .i64 0, .int .i64 0, .slice none 0 0])
 obtain ⟨s0, hs0⟩ : ∃ s0, (rSmall s).2 = s0 := ⟨_, rfl⟩
 have HN := Lib.hid (And.intro hk hs0)
 have HO0 := Lib.hid hok
 have ho1 := okS_rsmall hok
 rw [hs0] at ho1 he
 obtain ⟨s1, hs1⟩ : ∃ s1, s0 = s1 := ⟨_, rfl⟩
 rw [hs1] at hs0 ho1 he HN
 have HF0 := Lib.hid (show rMsg s = mBody rSmall rEntry (eList rTr) 2 s1 by
  have hm : rMk s = s1 := by unfold rMk; rw [hk, hs0]; exact eWrong_false _
  unfold rMsg
  rw [hm, hk])
 have HQ := Lib.hid (show (s1.e == 0) = true by rw [he]; rfl)
 clear hI hB hok hk hs0 hs1 he
 obtain ⟨v1, hv1⟩ : ∃ v, (rSmall s1).1 = v := ⟨_, rfl⟩
 obtain ⟨s2, hs2⟩ : ∃ t, (rSmall s1).2 = t := ⟨_, rfl⟩
 have ho2 := okS_rsmall ho1
 rw [hs2] at ho2
 have HO1 := Lib.hid ho1; have HE1 := Lib.hid (And.intro hv1 hs2)
 obtain ⟨v2, hv2⟩ : ∃ v, (rSmall s2).1 = v := ⟨_, rfl⟩
 obtain ⟨s3, hs3⟩ : ∃ t, (rSmall s2).2 = t := ⟨_, rfl⟩
 have ho3 := okS_rsmall ho2
 rw [hs3] at ho3
 have HO2 := Lib.hid ho2; have HE2 := Lib.hid (And.intro hv2 hs3)
 obtain ⟨v3, hv3⟩ : ∃ v, (eNum s3).1 = v := ⟨_, rfl⟩
 obtain ⟨s4, hs4⟩ : ∃ t, (eNum s3).2 = t := ⟨_, rfl⟩
 have ho4 := okS_num ho3
 rw [hs4] at ho4
 have HO3 := Lib.hid ho3; have HE3 := Lib.hid (And.intro hv3 hs4)
 obtain ⟨v4, hv4⟩ : ∃ v, (eYes s4).1 = v := ⟨_, rfl⟩
 obtain ⟨s5, hs5⟩ : ∃ t, (eYes s4).2 = t := ⟨_, rfl⟩
 have ho5 := okS_yes ho4
 rw [hs5] at ho5
 have HO4 := Lib.hid ho4; have HE4 := Lib.hid (And.intro hv4 hs5)
 have HF := Lib.hid (show rMsg s = (⟨2, v1, v2, v3, 0, 0, 0, v4, [], zE, zP⟩, s5) by
  rw [HF0.out]
  unfold mBody
  rw [if_neg (by decide)]; rw [if_pos rfl]
  simp only [FM, PR, enOf, hv1, hs2, hv2, hs3, hv3, hs4, hv4, hs5])
 clear HF0 hv1 hs2 ho1 hv2 hs3 ho2 hv3 hs4 ho3 hv4 hs5 ho4 ho5
 go_enter Tryz.func62, Tryz.ntmps62
 go_upto_region 2 with fail
 obtain ⟨g, hg⟩ : ∃ g, (w.alloc (.cells #[.int .i64 0, .int .i64 0, .int .i64 0, .int .i64 0, .int .i64 0, .int .i64 0, .int .i64 0, .bool false, .slice none 0 0, .int .i64 0, .int .i64 0, .int .i64 0, .slice none 0 0, .int .i64 0, .int .i64 0, .int .i64 0, .slice none 0 0] 34)).heap.size = g := ⟨_, rfl⟩
 have hg' : w.heap.size + 1 = g := by rw [← hg]; simp
 obtain ⟨w1, hw1⟩ : ∃ W, (w.alloc (.cells #[.int .i64 0, .int .i64 0, .int .i64 0, .int .i64 0, .int .i64 0, .int .i64 0, .int .i64 0, .bool false, .slice none 0 0, .int .i64 0, .int .i64 0, .int .i64 0, .slice none 0 0, .int .i64 0, .int .i64 0, .int .i64 0, .slice none 0 0] 34)).alloc (.cells #[.int .i64 0, .int .i64 0, .int .i64 0, .int .i64 0, .int .i64 0, .int .i64 0, .int .i64 0, .bool false, .slice none 0 0, .int .i64 0, .int .i64 0, .int .i64 0, .slice none 0 0, .int .i64 0, .int .i64 0, .int .i64 0, .slice none 0 0] 34) = W := ⟨_, rfl⟩
 rw [hg, hw1] at HT1
 rw [hw1, hg']
 clear hg hw1 hg'
 go_wp2_with fail
 have h4 := rdSmall_is HT1.out.i HT1.out.d HO0.out
 rw [HN.out.1, HN.out.2] at h4
 refine h4.mono ?_
 rintro e w2 ⟨rfl, h1, h2, h3⟩
 have HT2 := Lib.hid (HT1.out.call h1 h2 h3)
 clear h1 h2 h3 h4 HT1 HN
 have d0 : w2.cell? ⟨g, 0, none⟩ = some (.int .i64 0) := (blk_cell HT2.out.y 0).trans rfl
 have z0 : w2.frozen? ⟨g, 0, none⟩ = false := blk_frozen HT2.out.y 0
 go_upto_region 3 with fail
 have hT : Fr _ w0 w x g 34 _ #[.int .i64 2, .int .i64 0, .int .i64 0, .int .i64 0, .int .i64 0, .int .i64 0, .int .i64 0, .bool false, .slice none 0 0, .int .i64 0, .int .i64 0, .int .i64 0, .slice none 0 0, .int .i64 0, .int .i64 0, .int .i64 0, .slice none 0 0] _ _ _ := HT2.out.put 0 (.int .i64 2)
 have HT3 := Lib.hid hT
 obtain ⟨w3, hw⟩ : ∃ W, w2.setCell ⟨g, 0, none⟩ (.int .i64 2) = W := ⟨_, rfl⟩
 rw [hw] at HT3 ⊢
 clear hT hw HT2 d0 z0
 have c2 : w3.cell? ⟨x, 2, none⟩ = some (.int .i64 s1.e) := by
  obtain ⟨A, c, j, g1, _⟩ := HT3.out.i
  simp [World.cell?, g1]
 have hq := HQ.out
 have d0 : w3.cell? ⟨g, 0, none⟩ = some (.int .i64 2) := (blk_cell HT3.out.y 0).trans rfl
 go_wp2_with fail
 clear c2 hq d0
 have h4 := rdSmall_is HT3.out.i HT3.out.d HO1.out
 rw [HE1.out.1, HE1.out.2] at h4
 refine h4.mono ?_
 rintro e w4 ⟨rfl, h1, h2, h3⟩
 have HT4 := Lib.hid (HT3.out.call h1 h2 h3)
 clear h1 h2 h3 h4 HT3
 have d1 : w4.cell? ⟨g, 1, none⟩ = some (.int .i64 0) := (blk_cell HT4.out.y 1).trans rfl
 have z1 : w4.frozen? ⟨g, 1, none⟩ = false := blk_frozen HT4.out.y 1
 have d0 : w4.cell? ⟨g, 0, none⟩ = some (.int .i64 2) := (blk_cell HT4.out.y 0).trans rfl
 have z0 : w4.frozen? ⟨g, 0, none⟩ = false := blk_frozen HT4.out.y 0
 go_wp2_with fail
 have hT : Fr _ w0 w x g 34 _ #[.int .i64 2, .int .i64 v1, .int .i64 0, .int .i64 0, .int .i64 0, .int .i64 0, .int .i64 0, .bool false, .slice none 0 0, .int .i64 0, .int .i64 0, .int .i64 0, .slice none 0 0, .int .i64 0, .int .i64 0, .int .i64 0, .slice none 0 0] _ _ _ := (HT4.out.put 1 (.int .i64 v1))
 have HT5 := Lib.hid hT
 obtain ⟨w5, hw⟩ : ∃ W, (w4.setCell ⟨g, 1, none⟩ (.int .i64 v1)) = W := ⟨_, rfl⟩
 rw [hw] at HT5 ⊢
 clear hT hw HT4 d1 z1 d0 z0
 have h4 := rdSmall_is HT5.out.i HT5.out.d HO2.out
 rw [HE2.out.1, HE2.out.2] at h4
 refine h4.mono ?_
 rintro e w6 ⟨rfl, h1, h2, h3⟩
 have HT6 := Lib.hid (HT5.out.call h1 h2 h3)
 clear h1 h2 h3 h4 HT5
 have d2 : w6.cell? ⟨g, 2, none⟩ = some (.int .i64 0) := (blk_cell HT6.out.y 2).trans rfl
 have z2 : w6.frozen? ⟨g, 2, none⟩ = false := blk_frozen HT6.out.y 2
 have d0 : w6.cell? ⟨g, 0, none⟩ = some (.int .i64 2) := (blk_cell HT6.out.y 0).trans rfl
 have z0 : w6.frozen? ⟨g, 0, none⟩ = false := blk_frozen HT6.out.y 0
 go_wp2_with fail
 have hT : Fr _ w0 w x g 34 _ #[.int .i64 2, .int .i64 v1, .int .i64 v2, .int .i64 0, .int .i64 0, .int .i64 0, .int .i64 0, .bool false, .slice none 0 0, .int .i64 0, .int .i64 0, .int .i64 0, .slice none 0 0, .int .i64 0, .int .i64 0, .int .i64 0, .slice none 0 0] _ _ _ := (HT6.out.put 2 (.int .i64 v2))
 have HT7 := Lib.hid hT
 obtain ⟨w7, hw⟩ : ∃ W, (w6.setCell ⟨g, 2, none⟩ (.int .i64 v2)) = W := ⟨_, rfl⟩
 rw [hw] at HT7 ⊢
 clear hT hw HT6 d2 z2 d0 z0
 have h4 := rdNum_is HT7.out.i HT7.out.d HO3.out
 rw [HE3.out.1, HE3.out.2] at h4
 refine h4.mono ?_
 rintro e w8 ⟨rfl, h1, h2, h3⟩
 have HT8 := Lib.hid (HT7.out.call h1 h2 h3)
 clear h1 h2 h3 h4 HT7
 have d3 : w8.cell? ⟨g, 3, none⟩ = some (.int .i64 0) := (blk_cell HT8.out.y 3).trans rfl
 have z3 : w8.frozen? ⟨g, 3, none⟩ = false := blk_frozen HT8.out.y 3
 have d0 : w8.cell? ⟨g, 0, none⟩ = some (.int .i64 2) := (blk_cell HT8.out.y 0).trans rfl
 have z0 : w8.frozen? ⟨g, 0, none⟩ = false := blk_frozen HT8.out.y 0
 go_wp2_with fail
 have hT : Fr _ w0 w x g 34 _ #[.int .i64 2, .int .i64 v1, .int .i64 v2, .int .i64 v3, .int .i64 0, .int .i64 0, .int .i64 0, .bool false, .slice none 0 0, .int .i64 0, .int .i64 0, .int .i64 0, .slice none 0 0, .int .i64 0, .int .i64 0, .int .i64 0, .slice none 0 0] _ _ _ := (HT8.out.put 3 (.int .i64 v3))
 have HT9 := Lib.hid hT
 obtain ⟨w9, hw⟩ : ∃ W, (w8.setCell ⟨g, 3, none⟩ (.int .i64 v3)) = W := ⟨_, rfl⟩
 rw [hw] at HT9 ⊢
 clear hT hw HT8 d3 z3 d0 z0
 have h4 := rdYes_is HT9.out.i HT9.out.d HO4.out
 rw [HE4.out.1, HE4.out.2] at h4
 refine h4.mono ?_
 rintro e w10 ⟨rfl, h1, h2, h3⟩
 have HT10 := Lib.hid (HT9.out.call h1 h2 h3)
 clear h1 h2 h3 h4 HT9
 have d7 : w10.cell? ⟨g, 7, none⟩ = some (.bool false) := (blk_cell HT10.out.y 7).trans rfl
 have z7 : w10.frozen? ⟨g, 7, none⟩ = false := blk_frozen HT10.out.y 7
 have d0 : w10.cell? ⟨g, 0, none⟩ = some (.int .i64 2) := (blk_cell HT10.out.y 0).trans rfl
 have z0 : w10.frozen? ⟨g, 0, none⟩ = false := blk_frozen HT10.out.y 0
 go_upto_region 28 with fail
 have hT : Fr _ w0 w x g 34 _ #[.int .i64 2, .int .i64 v1, .int .i64 v2, .int .i64 v3, .int .i64 0, .int .i64 0, .int .i64 0, .bool v4, .slice none 0 0, .int .i64 0, .int .i64 0, .int .i64 0, .slice none 0 0, .int .i64 0, .int .i64 0, .int .i64 0, .slice none 0 0] _ _ _ := (HT10.out.put 7 (.bool v4))
 have HT11 := Lib.hid hT
 obtain ⟨w11, hw⟩ : ∃ W, (w10.setCell ⟨g, 7, none⟩ (.bool v4)) = W := ⟨_, rfl⟩
 rw [hw] at HT11 ⊢
 clear hT hw HT10 d7 z7 d0 z0
 refine wp_region_list ?_
 refine wpList_load_row rfl 34 (.tmp 3) rfl g rfl 34 #[.int .i64 2, .int .i64 v1, .int .i64 v2, .int .i64 v3, .int .i64 0, .int .i64 0, .int .i64 0, .bool v4, .slice none 0 0, .int .i64 0, .int .i64 0, .int .i64 0, .slice none 0 0, .int .i64 0, .int .i64 0, .int .i64 0, .slice none 0 0] (0, 0) _ HT11.out.y Tryz.underlying34 rfl (by kernel_rfl) ?_
 refine wpList_store_row rfl 34 (.tmp 2) (.tmp 78) rfl w.heap.size #[.int .i64 2, .int .i64 v1, .int .i64 v2, .int .i64 v3, .int .i64 0, .int .i64 0, .int .i64 0, .bool v4, .slice none 0 0, .int .i64 0, .int .i64 0, .int .i64 0, .slice none 0 0, .int .i64 0, .int .i64 0, .int .i64 0, .slice none 0 0] rfl rfl 34 #[.int .i64 0, .int .i64 0, .int .i64 0, .int .i64 0, .int .i64 0, .int .i64 0, .int .i64 0, .bool false, .slice none 0 0, .int .i64 0, .int .i64 0, .int .i64 0, .slice none 0 0, .int .i64 0, .int .i64 0, .int .i64 0, .slice none 0 0] HT11.out.g0 (by kernel_rfl) rfl (by simp [Value.oneCell']) ?_
 have HD := Lib.hid (HT11.out.fin (cs' := #[.int .i64 2, .int .i64 v1, .int .i64 v2, .int .i64 v3, .int .i64 0, .int .i64 0, .int .i64 0, .bool v4, .slice none 0 0, .int .i64 0, .int .i64 0, .int .i64 0, .slice none 0 0, .int .i64 0, .int .i64 0, .int .i64 0, .slice none 0 0]))
 obtain ⟨W, hW⟩ : ∃ W, w11.setRow w.heap.size #[.int .i64 2, .int .i64 v1, .int .i64 v2, .int .i64 v3, .int .i64 0, .int .i64 0, .int .i64 0, .bool v4, .slice none 0 0, .int .i64 0, .int .i64 0, .int .i64 0, .slice none 0 0, .int .i64 0, .int .i64 0, .int .i64 0, .slice none 0 0] = W := ⟨_, rfl⟩
 rw [hW] at HD ⊢
 clear hW
 go_wp2_with fail
 refine bodyPost_ret (results_cell_row rfl _ _ w.heap.size 34 #[.int .i64 2, .int .i64 v1, .int .i64 v2, .int .i64 v3, .int .i64 0, .int .i64 0, .int .i64 0, .bool v4, .slice none 0 0, .int .i64 0, .int .i64 0, .int .i64 0, .slice none 0 0, .int .i64 0, .int .i64 0, .int .i64 0, .slice none 0 0] (0, 0) _ rfl HD.out.1 Tryz.underlying34 rfl (by kernel_rfl)) rfl ?_
 rw [HF.out]
 obtain ⟨_, hp, i, d, q⟩ := HD.out
 exact ⟨_, _, _, rfl, Kd.R_nil _ _ _ _ _, Kd.R_nil _ _ _ _ _, Kd.R_nil _ _ _ _ _, i, d, q⟩
set_option maxHeartbeats 4000000 in
theorem rdMsg4 {B : List Int} {w0 w : World} {x : Nat} {s : EyeS} (hI : IsRd B w0 w x s) (hB : Below w0.heap.size w0 w) (hok : okS s) (hk : (rSmall s).1 = 4) (he : (rSmall s).2.e = 0) :
  Calls Tryz.prog 62 #[.pointer (some ⟨x, 0, none⟩)] w fun e w' => MsP (fun W s => IsRd B w0 W x s) w0 w x (rMsg s).1 (rMsg s).2 e w' := by
 have HT1 := Lib.hid ((Fo.start (I := fun W s => IsRd B w0 W x s) (T := 34) (zs := #[.int .i64 0, .int .i64 0, .int .i64 0, .int .i64 0, .int .i64 0, .int .i64 0, .int .i64 0, .bool false, .slice none 0 0, .int .i64 0, .int .i64 0, .int .i64 0, .slice none 0 0, .int .i64 0, .int .i64 0, .int .i64 0, .slice none 0 0]) hI hB hI.lt hI.ge (fun _ _ _ e h => h.at e)).lay #[.int .i64 0, .int .i64 0, .int .i64 0, .int .i64 0, .int .i64 0, .int .i64 0, .int .i64 0, .bool false, .slice none 0 0, .int .i64 0, .int .i64 0, .int .i64 0, .slice none 0 0, .int .i64 0, .int .i64 0, .int .i64 0, .slice none 0 0])
 obtain ⟨s0, hs0⟩ : ∃ s0, (rSmall s).2 = s0 := ⟨_, rfl⟩
 have HN := Lib.hid (And.intro hk hs0)
 have HO0 := Lib.hid hok
 have ho1 := okS_rsmall hok
 rw [hs0] at ho1 he
 obtain ⟨s1, hs1⟩ : ∃ s1, s0 = s1 := ⟨_, rfl⟩
 rw [hs1] at hs0 ho1 he HN
 have HF0 := Lib.hid (show rMsg s = mBody rSmall rEntry (eList rTr) 4 s1 by
  have hm : rMk s = s1 := by unfold rMk; rw [hk, hs0]; exact eWrong_false _
  unfold rMsg
  rw [hm, hk])
 have HQ := Lib.hid (show (s1.e == 0) = true by rw [he]; rfl)
 clear hI hB hok hk hs0 hs1 he
 obtain ⟨v1, hv1⟩ : ∃ v, (rSmall s1).1 = v := ⟨_, rfl⟩
 obtain ⟨s2, hs2⟩ : ∃ t, (rSmall s1).2 = t := ⟨_, rfl⟩
 have ho2 := okS_rsmall ho1
 rw [hs2] at ho2
 have HO1 := Lib.hid ho1; have HE1 := Lib.hid (And.intro hv1 hs2)
 obtain ⟨v2, hv2⟩ : ∃ v, (rSmall s2).1 = v := ⟨_, rfl⟩
 obtain ⟨s3, hs3⟩ : ∃ t, (rSmall s2).2 = t := ⟨_, rfl⟩
 have ho3 := okS_rsmall ho2
 rw [hs3] at ho3
 have HO2 := Lib.hid ho2; have HE2 := Lib.hid (And.intro hv2 hs3)
 obtain ⟨v3, hv3⟩ : ∃ v, (eNum s3).1 = v := ⟨_, rfl⟩
 obtain ⟨s4, hs4⟩ : ∃ t, (eNum s3).2 = t := ⟨_, rfl⟩
 have ho4 := okS_num ho3
 rw [hs4] at ho4
 have HO3 := Lib.hid ho3; have HE3 := Lib.hid (And.intro hv3 hs4)
 obtain ⟨v4, hv4⟩ : ∃ v, (eYes s4).1 = v := ⟨_, rfl⟩
 obtain ⟨s5, hs5⟩ : ∃ t, (eYes s4).2 = t := ⟨_, rfl⟩
 have ho5 := okS_yes ho4
 rw [hs5] at ho5
 have HO4 := Lib.hid ho4; have HE4 := Lib.hid (And.intro hv4 hs5)
 obtain ⟨v5, hv5⟩ : ∃ v, (eNum s5).1 = v := ⟨_, rfl⟩
 obtain ⟨s6, hs6⟩ : ∃ t, (eNum s5).2 = t := ⟨_, rfl⟩
 have ho6 := okS_num ho5
 rw [hs6] at ho6
 have HO5 := Lib.hid ho5; have HE5 := Lib.hid (And.intro hv5 hs6)
 have HF := Lib.hid (show rMsg s = (⟨4, v1, v2, v3, v5, 0, 0, v4, [], zE, zP⟩, s6) by
  rw [HF0.out]
  unfold mBody
  rw [if_neg (by decide)]; rw [if_neg (by decide)]; rw [if_neg (by decide)]; rw [if_pos rfl]
  simp only [FM, PR, enOf, hv1, hs2, hv2, hs3, hv3, hs4, hv4, hs5, hv5, hs6])
 clear HF0 hv1 hs2 ho1 hv2 hs3 ho2 hv3 hs4 ho3 hv4 hs5 ho4 hv5 hs6 ho5 ho6
 go_enter Tryz.func62, Tryz.ntmps62
 go_upto_region 2 with fail
 obtain ⟨g, hg⟩ : ∃ g, (w.alloc (.cells #[.int .i64 0, .int .i64 0, .int .i64 0, .int .i64 0, .int .i64 0, .int .i64 0, .int .i64 0, .bool false, .slice none 0 0, .int .i64 0, .int .i64 0, .int .i64 0, .slice none 0 0, .int .i64 0, .int .i64 0, .int .i64 0, .slice none 0 0] 34)).heap.size = g := ⟨_, rfl⟩
 have hg' : w.heap.size + 1 = g := by rw [← hg]; simp
 obtain ⟨w1, hw1⟩ : ∃ W, (w.alloc (.cells #[.int .i64 0, .int .i64 0, .int .i64 0, .int .i64 0, .int .i64 0, .int .i64 0, .int .i64 0, .bool false, .slice none 0 0, .int .i64 0, .int .i64 0, .int .i64 0, .slice none 0 0, .int .i64 0, .int .i64 0, .int .i64 0, .slice none 0 0] 34)).alloc (.cells #[.int .i64 0, .int .i64 0, .int .i64 0, .int .i64 0, .int .i64 0, .int .i64 0, .int .i64 0, .bool false, .slice none 0 0, .int .i64 0, .int .i64 0, .int .i64 0, .slice none 0 0, .int .i64 0, .int .i64 0, .int .i64 0, .slice none 0 0] 34) = W := ⟨_, rfl⟩
 rw [hg, hw1] at HT1
 rw [hw1, hg']
 clear hg hw1 hg'
 go_wp2_with fail
 have h4 := rdSmall_is HT1.out.i HT1.out.d HO0.out
 rw [HN.out.1, HN.out.2] at h4
 refine h4.mono ?_
 rintro e w2 ⟨rfl, h1, h2, h3⟩
 have HT2 := Lib.hid (HT1.out.call h1 h2 h3)
 clear h1 h2 h3 h4 HT1 HN
 have d0 : w2.cell? ⟨g, 0, none⟩ = some (.int .i64 0) := (blk_cell HT2.out.y 0).trans rfl
 have z0 : w2.frozen? ⟨g, 0, none⟩ = false := blk_frozen HT2.out.y 0
 go_upto_region 3 with fail
 have hT : Fr _ w0 w x g 34 _ #[.int .i64 4, .int .i64 0, .int .i64 0, .int .i64 0, .int .i64 0, .int .i64 0, .int .i64 0, .bool false, .slice none 0 0, .int .i64 0, .int .i64 0, .int .i64 0, .slice none 0 0, .int .i64 0, .int .i64 0, .int .i64 0, .slice none 0 0] _ _ _ := HT2.out.put 0 (.int .i64 4)
 have HT3 := Lib.hid hT
 obtain ⟨w3, hw⟩ : ∃ W, w2.setCell ⟨g, 0, none⟩ (.int .i64 4) = W := ⟨_, rfl⟩
 rw [hw] at HT3 ⊢
 clear hT hw HT2 d0 z0
 have c2 : w3.cell? ⟨x, 2, none⟩ = some (.int .i64 s1.e) := by
  obtain ⟨A, c, j, g1, _⟩ := HT3.out.i
  simp [World.cell?, g1]
 have hq := HQ.out
 have d0 : w3.cell? ⟨g, 0, none⟩ = some (.int .i64 4) := (blk_cell HT3.out.y 0).trans rfl
 go_wp2_with fail
 clear c2 hq d0
 have h4 := rdSmall_is HT3.out.i HT3.out.d HO1.out
 rw [HE1.out.1, HE1.out.2] at h4
 refine h4.mono ?_
 rintro e w4 ⟨rfl, h1, h2, h3⟩
 have HT4 := Lib.hid (HT3.out.call h1 h2 h3)
 clear h1 h2 h3 h4 HT3
 have d1 : w4.cell? ⟨g, 1, none⟩ = some (.int .i64 0) := (blk_cell HT4.out.y 1).trans rfl
 have z1 : w4.frozen? ⟨g, 1, none⟩ = false := blk_frozen HT4.out.y 1
 have d0 : w4.cell? ⟨g, 0, none⟩ = some (.int .i64 4) := (blk_cell HT4.out.y 0).trans rfl
 have z0 : w4.frozen? ⟨g, 0, none⟩ = false := blk_frozen HT4.out.y 0
 go_wp2_with fail
 have hT : Fr _ w0 w x g 34 _ #[.int .i64 4, .int .i64 v1, .int .i64 0, .int .i64 0, .int .i64 0, .int .i64 0, .int .i64 0, .bool false, .slice none 0 0, .int .i64 0, .int .i64 0, .int .i64 0, .slice none 0 0, .int .i64 0, .int .i64 0, .int .i64 0, .slice none 0 0] _ _ _ := (HT4.out.put 1 (.int .i64 v1))
 have HT5 := Lib.hid hT
 obtain ⟨w5, hw⟩ : ∃ W, (w4.setCell ⟨g, 1, none⟩ (.int .i64 v1)) = W := ⟨_, rfl⟩
 rw [hw] at HT5 ⊢
 clear hT hw HT4 d1 z1 d0 z0
 have h4 := rdSmall_is HT5.out.i HT5.out.d HO2.out
 rw [HE2.out.1, HE2.out.2] at h4
 refine h4.mono ?_
 rintro e w6 ⟨rfl, h1, h2, h3⟩
 have HT6 := Lib.hid (HT5.out.call h1 h2 h3)
 clear h1 h2 h3 h4 HT5
 have d2 : w6.cell? ⟨g, 2, none⟩ = some (.int .i64 0) := (blk_cell HT6.out.y 2).trans rfl
 have z2 : w6.frozen? ⟨g, 2, none⟩ = false := blk_frozen HT6.out.y 2
 have d0 : w6.cell? ⟨g, 0, none⟩ = some (.int .i64 4) := (blk_cell HT6.out.y 0).trans rfl
 have z0 : w6.frozen? ⟨g, 0, none⟩ = false := blk_frozen HT6.out.y 0
 go_wp2_with fail
 have hT : Fr _ w0 w x g 34 _ #[.int .i64 4, .int .i64 v1, .int .i64 v2, .int .i64 0, .int .i64 0, .int .i64 0, .int .i64 0, .bool false, .slice none 0 0, .int .i64 0, .int .i64 0, .int .i64 0, .slice none 0 0, .int .i64 0, .int .i64 0, .int .i64 0, .slice none 0 0] _ _ _ := (HT6.out.put 2 (.int .i64 v2))
 have HT7 := Lib.hid hT
 obtain ⟨w7, hw⟩ : ∃ W, (w6.setCell ⟨g, 2, none⟩ (.int .i64 v2)) = W := ⟨_, rfl⟩
 rw [hw] at HT7 ⊢
 clear hT hw HT6 d2 z2 d0 z0
 have h4 := rdNum_is HT7.out.i HT7.out.d HO3.out
 rw [HE3.out.1, HE3.out.2] at h4
 refine h4.mono ?_
 rintro e w8 ⟨rfl, h1, h2, h3⟩
 have HT8 := Lib.hid (HT7.out.call h1 h2 h3)
 clear h1 h2 h3 h4 HT7
 have d3 : w8.cell? ⟨g, 3, none⟩ = some (.int .i64 0) := (blk_cell HT8.out.y 3).trans rfl
 have z3 : w8.frozen? ⟨g, 3, none⟩ = false := blk_frozen HT8.out.y 3
 have d0 : w8.cell? ⟨g, 0, none⟩ = some (.int .i64 4) := (blk_cell HT8.out.y 0).trans rfl
 have z0 : w8.frozen? ⟨g, 0, none⟩ = false := blk_frozen HT8.out.y 0
 go_wp2_with fail
 have hT : Fr _ w0 w x g 34 _ #[.int .i64 4, .int .i64 v1, .int .i64 v2, .int .i64 v3, .int .i64 0, .int .i64 0, .int .i64 0, .bool false, .slice none 0 0, .int .i64 0, .int .i64 0, .int .i64 0, .slice none 0 0, .int .i64 0, .int .i64 0, .int .i64 0, .slice none 0 0] _ _ _ := (HT8.out.put 3 (.int .i64 v3))
 have HT9 := Lib.hid hT
 obtain ⟨w9, hw⟩ : ∃ W, (w8.setCell ⟨g, 3, none⟩ (.int .i64 v3)) = W := ⟨_, rfl⟩
 rw [hw] at HT9 ⊢
 clear hT hw HT8 d3 z3 d0 z0
 have h4 := rdYes_is HT9.out.i HT9.out.d HO4.out
 rw [HE4.out.1, HE4.out.2] at h4
 refine h4.mono ?_
 rintro e w10 ⟨rfl, h1, h2, h3⟩
 have HT10 := Lib.hid (HT9.out.call h1 h2 h3)
 clear h1 h2 h3 h4 HT9
 have d7 : w10.cell? ⟨g, 7, none⟩ = some (.bool false) := (blk_cell HT10.out.y 7).trans rfl
 have z7 : w10.frozen? ⟨g, 7, none⟩ = false := blk_frozen HT10.out.y 7
 have d0 : w10.cell? ⟨g, 0, none⟩ = some (.int .i64 4) := (blk_cell HT10.out.y 0).trans rfl
 have z0 : w10.frozen? ⟨g, 0, none⟩ = false := blk_frozen HT10.out.y 0
 go_wp2_with fail
 have hT : Fr _ w0 w x g 34 _ #[.int .i64 4, .int .i64 v1, .int .i64 v2, .int .i64 v3, .int .i64 0, .int .i64 0, .int .i64 0, .bool v4, .slice none 0 0, .int .i64 0, .int .i64 0, .int .i64 0, .slice none 0 0, .int .i64 0, .int .i64 0, .int .i64 0, .slice none 0 0] _ _ _ := (HT10.out.put 7 (.bool v4))
 have HT11 := Lib.hid hT
 obtain ⟨w11, hw⟩ : ∃ W, (w10.setCell ⟨g, 7, none⟩ (.bool v4)) = W := ⟨_, rfl⟩
 rw [hw] at HT11 ⊢
 clear hT hw HT10 d7 z7 d0 z0
 have h4 := rdNum_is HT11.out.i HT11.out.d HO5.out
 rw [HE5.out.1, HE5.out.2] at h4
 refine h4.mono ?_
 rintro e w12 ⟨rfl, h1, h2, h3⟩
 have HT12 := Lib.hid (HT11.out.call h1 h2 h3)
 clear h1 h2 h3 h4 HT11
 have d4 : w12.cell? ⟨g, 4, none⟩ = some (.int .i64 0) := (blk_cell HT12.out.y 4).trans rfl
 have z4 : w12.frozen? ⟨g, 4, none⟩ = false := blk_frozen HT12.out.y 4
 have d0 : w12.cell? ⟨g, 0, none⟩ = some (.int .i64 4) := (blk_cell HT12.out.y 0).trans rfl
 have z0 : w12.frozen? ⟨g, 0, none⟩ = false := blk_frozen HT12.out.y 0
 go_upto_region 28 with fail
 have hT : Fr _ w0 w x g 34 _ #[.int .i64 4, .int .i64 v1, .int .i64 v2, .int .i64 v3, .int .i64 v5, .int .i64 0, .int .i64 0, .bool v4, .slice none 0 0, .int .i64 0, .int .i64 0, .int .i64 0, .slice none 0 0, .int .i64 0, .int .i64 0, .int .i64 0, .slice none 0 0] _ _ _ := (HT12.out.put 4 (.int .i64 v5))
 have HT13 := Lib.hid hT
 obtain ⟨w13, hw⟩ : ∃ W, (w12.setCell ⟨g, 4, none⟩ (.int .i64 v5)) = W := ⟨_, rfl⟩
 rw [hw] at HT13 ⊢
 clear hT hw HT12 d4 z4 d0 z0
 refine wp_region_list ?_
 refine wpList_load_row rfl 34 (.tmp 3) rfl g rfl 34 #[.int .i64 4, .int .i64 v1, .int .i64 v2, .int .i64 v3, .int .i64 v5, .int .i64 0, .int .i64 0, .bool v4, .slice none 0 0, .int .i64 0, .int .i64 0, .int .i64 0, .slice none 0 0, .int .i64 0, .int .i64 0, .int .i64 0, .slice none 0 0] (0, 0) _ HT13.out.y Tryz.underlying34 rfl (by kernel_rfl) ?_
 refine wpList_store_row rfl 34 (.tmp 2) (.tmp 78) rfl w.heap.size #[.int .i64 4, .int .i64 v1, .int .i64 v2, .int .i64 v3, .int .i64 v5, .int .i64 0, .int .i64 0, .bool v4, .slice none 0 0, .int .i64 0, .int .i64 0, .int .i64 0, .slice none 0 0, .int .i64 0, .int .i64 0, .int .i64 0, .slice none 0 0] rfl rfl 34 #[.int .i64 0, .int .i64 0, .int .i64 0, .int .i64 0, .int .i64 0, .int .i64 0, .int .i64 0, .bool false, .slice none 0 0, .int .i64 0, .int .i64 0, .int .i64 0, .slice none 0 0, .int .i64 0, .int .i64 0, .int .i64 0, .slice none 0 0] HT13.out.g0 (by kernel_rfl) rfl (by simp [Value.oneCell']) ?_
 have HD := Lib.hid (HT13.out.fin (cs' := #[.int .i64 4, .int .i64 v1, .int .i64 v2, .int .i64 v3, .int .i64 v5, .int .i64 0, .int .i64 0, .bool v4, .slice none 0 0, .int .i64 0, .int .i64 0, .int .i64 0, .slice none 0 0, .int .i64 0, .int .i64 0, .int .i64 0, .slice none 0 0]))
 obtain ⟨W, hW⟩ : ∃ W, w13.setRow w.heap.size #[.int .i64 4, .int .i64 v1, .int .i64 v2, .int .i64 v3, .int .i64 v5, .int .i64 0, .int .i64 0, .bool v4, .slice none 0 0, .int .i64 0, .int .i64 0, .int .i64 0, .slice none 0 0, .int .i64 0, .int .i64 0, .int .i64 0, .slice none 0 0] = W := ⟨_, rfl⟩
 rw [hW] at HD ⊢
 clear hW
 go_wp2_with fail
 refine bodyPost_ret (results_cell_row rfl _ _ w.heap.size 34 #[.int .i64 4, .int .i64 v1, .int .i64 v2, .int .i64 v3, .int .i64 v5, .int .i64 0, .int .i64 0, .bool v4, .slice none 0 0, .int .i64 0, .int .i64 0, .int .i64 0, .slice none 0 0, .int .i64 0, .int .i64 0, .int .i64 0, .slice none 0 0] (0, 0) _ rfl HD.out.1 Tryz.underlying34 rfl (by kernel_rfl)) rfl ?_
 rw [HF.out]
 obtain ⟨_, hp, i, d, q⟩ := HD.out
 exact ⟨_, _, _, rfl, Kd.R_nil _ _ _ _ _, Kd.R_nil _ _ _ _ _, Kd.R_nil _ _ _ _ _, i, d, q⟩
end Go.Proofs.YtgiefblcckikeaaGreat.M
end
