/- SkipMapSaid: contracts of the functions that the law goes through, put together in build order (part 2 of 2). -/
import Derived.Test.YtdolmkiiflhehaaPart0
import Derived.Laws.ResultCell
import Derived.Test.YtdolmkiiflhehaaWN
import Derived.Test.YtdolmkiiflhehaaWMore
import Derived.Test.YtdolmkiiflhehaaWLast
section
/- The map's keys; its elements' zero. -/
set_option linter.unusedVariables false
set_option linter.unusedSimpArgs false
set_option maxRecDepth 100000
namespace Go.Proofs.Ytdolmkiiflhehaa.M
open Go.RowKit Go.Maps Go.Proofs.YtdolmkiiflhehaaW.PrintWords
theorem keyS : KeyT Try.prog 29 (mk2 .i32 .i64) (wf2 .i32 .i64) :=
  keyT_struct2 Try.underlying29 Try.underlying21 Try.underlying2 ⟨rfl, rfl⟩ ⟨by rfl, by rfl⟩ (by kernel_rfl) (by kernel_rfl) (by kernel_rfl) (by kernel_rfl) ⟨Try.prog.types.size - 1, by have h : 0 < Try.prog.types.size := of_decide_eq_true (by kernel_rfl); omega⟩
    (keyed_deep laidOut (of_decide_eq_true (by kernel_rfl)) (by kernel_rfl) (by rw [Try.underlying29]))
theorem zeroCell (u : World) : (zeroValue 31).run Try.prog u = .ok (celV ⟨0, 0, 0, 0⟩) u := by kernel_rfl
end Go.Proofs.Ytdolmkiiflhehaa.M
end

section
/- rising. -/
set_option linter.unusedVariables false
set_option linter.unusedSimpArgs false
set_option maxRecDepth 100000
namespace Go.Proofs.Ytdolmkiiflhehaa.M
open Go.RowKit Go.Shelf Go.Maps Go.Proofs.YtdolmkiiflhehaaW.PrintWords
attribute [local go_sem] Oper.semAt_some

abbrev S4 := { x : T4 // wf2 .i32 .i64 x.1 }
theorem lift4 : ∀ l : List T4, (∀ x, x ∈ l → wf2 .i32 .i64 x.1) → ∃ xs : List S4, xs.map (·.1) = l
  | [], _ => ⟨[], rfl⟩
  | x :: l, h => by
    obtain ⟨xs, e⟩ := lift4 l (fun y hy => h y (List.mem_cons_of_mem _ hy))
    exact ⟨⟨x, h x List.mem_cons_self⟩ :: xs, by rw [List.map_cons, e]⟩
/-- What a map has of a store. -/
def mapV (L : List Nd) (k : Int × Int) : Option Value := (getL L k).map celV
def Good (L : List Nd) (pre : List S4) : Prop := (∀ x, x ∈ pre → (getL L x.1.1).map t4 = some x.1) ∧ pre.Pairwise (fun x y => kLt x.1.1 y.1.1 = true)
def lastT (pre : List S4) : T4 := match pre.getLast? with | some x => x.1 | none => ((0, 0), (0, 0))
theorem lastT_snoc (pre : List S4) (x : S4) : lastT (pre ++ [x]) = x.1 := by unfold lastT; simp
theorem good_snoc {L : List Nd} {pre : List S4} {x : S4} (h : Good L pre) (hx : (getL L x.1.1).map t4 = some x.1) (hl : pre = [] ∨ kLt (lastT pre).1 x.1.1 = true) : Good L (pre ++ [x]) := by
  refine ⟨fun y hy => ?_, ?_⟩
  · rcases List.mem_append.1 hy with hy | hy
    · exact h.1 y hy
    · rw [List.mem_singleton.1 hy]; exact hx
  · rw [List.pairwise_append]
    refine ⟨h.2, List.pairwise_singleton _ _, fun a ha b hb => ?_⟩
    rw [List.mem_singleton.1 hb]
    rcases hl with rfl | hl
    · cases ha
    · obtain ⟨q, z, rfl⟩ : ∃ q z, pre = q ++ [z] := ⟨_, _, (List.dropLast_concat_getLast (List.ne_nil_of_mem ha)).symm⟩
      rw [lastT_snoc] at hl
      rcases List.mem_append.1 ha with ha | ha
      · exact kLt_trans ((List.pairwise_append.1 h.2).2.2 a ha z (by simp)) hl
      · rw [List.mem_singleton.1 ha]; exact hl
theorem not_good_map {L : List Nd} {pre : List S4} {x : S4} (hx : (getL L x.1.1).map t4 ≠ some x.1) : ¬ Good L (pre ++ [x]) := fun h => hx (h.1 x (by simp))
theorem not_good_lt {L : List Nd} {pre : List S4} {x : S4} (hn : pre ≠ []) (hl : kLt (lastT pre).1 x.1.1 = false) : ¬ Good L (pre ++ [x]) := fun h => by
  obtain ⟨q, z, rfl⟩ : ∃ q z, pre = q ++ [z] := ⟨_, _, (List.dropLast_concat_getLast hn).symm⟩
  rw [lastT_snoc] at hl
  have := (List.pairwise_append.1 h.2).2.2 z (by simp) x (by simp)
  rw [hl] at this
  cases this
theorem rank_lo {L : List Nd} (hw : ∀ e, e ∈ L → wf2 .i32 .i64 e.c.key) : rank L (-2147483648, -9223372036854775808) = 0 := by
  unfold rank
  cases L with
  | nil => rfl
  | cons e l =>
    have h := hw e List.mem_cons_self
    have h1 : -2147483648 ≤ e.c.key.1 := by have h2 := h.1; simp only [Lit.wf, Bool.and_eq_true, decide_eq_true_eq] at h2; exact h2.1
    have h2 : -9223372036854775808 ≤ e.c.key.2 := by have h2 := h.2; simp only [Lit.wf, Bool.and_eq_true, decide_eq_true_eq] at h2; exact h2.1
    rw [List.takeWhile_cons, if_neg]
    · rfl
    · unfold kLt
      simp only [Bool.or_eq_true, Bool.and_eq_true, decide_eq_true_eq]
      omega
theorem good_all {L : List Nd} (hs : Sorted L) {xs : List S4} (hx : xs.map (·.1) = cellsL L) : Good L xs := by
  refine ⟨fun x hm => ?_, ?_⟩
  · have h1 : x.1 ∈ cellsL L := by rw [← hx]; exact List.mem_map.2 ⟨x, hm, rfl⟩
    obtain ⟨e, he, h2⟩ := List.mem_map.1 h1
    have h3 : getL L x.1.1 = some e.c := (getL_iff hs _ _).2 ⟨e, he, rfl, by rw [← h2]; rfl⟩
    rw [h3, ← h2]
    rfl
  · have h1 : (xs.map (·.1)).Pairwise (fun x y => kLt x.1 y.1 = true) := by
      rw [hx]
      exact List.Pairwise.map _ (fun a b h => h) hs
    exact List.pairwise_map.1 h1
theorem good_prefix {L : List Nd} {xs pre : List S4} (h : Good L xs) (hp : pre <+: xs) : Good L pre := by
  obtain ⟨r, rfl⟩ := hp
  exact ⟨fun x hx => h.1 x (List.mem_append_left _ hx), (List.pairwise_append.1 h.2).1⟩
theorem undef_bool (b : Bool) (h : some undef = some (Value.bool b)) : False := by
  have := Option.some.inj h
  cases this
/-- What the loop over a store's cells holds. -/
structure RiI (B mp : Nat) (L : List Nd) (n0 : Nat) (w5 : World) (pre : List S4) (W : World) : Prop where
  mb : W.heap[B]? = some (.cells #[.map (some mp)] 27)
  rb : W.heap[B + 1]? = some (.cells #[.bool false] 4)
  lb : W.heap[B + 2]? = some (.cells #[.int .i32 (lastT pre).1.1, .int .i64 (lastT pre).1.2, .int .i64 (lastT pre).2.1, .int .i64 (lastT pre).2.2] 31)
  nb : W.heap[B + 3]? = some (.cells #[.int .i64 pre.length] 3)
  m : IsM Try.prog 29 (mk2 .i32 .i64) W mp n0 (mapV L) L.length
  good : Good L pre
theorem own_riI (B mp : Nat) (L : List Nd) (n0 : Nat) (w5 : World) (hmp : mp < w5.heap.size) : OwnFrom w5.heap.size (RiI B mp L n0 w5) := fun s A C row hs hg hr => by
  have hr' : ∀ r, row = some r → ∃ o : Obj, A.heap[r]? = some o ∧ o.isCells = false := fun r e => (hr r e).2
  have hb : ∀ {i : Nat} {cs : Array Value} {t : TypeId}, A.heap[i]? = some (.cells cs t) → C.heap[i]? = some (.cells cs t) := fun {i cs t} h1 => by
    refine (hg.block _ (Array.getElem?_eq_some_iff.1 h1).1 (fun e => ?_)).trans h1
    obtain ⟨o, ho, hn⟩ := hr' _ e.symm
    rw [h1] at ho
    cases ho
    cases hn
  exact ⟨hb hs.mb, hb hs.rb, hb hs.lb, hb hs.nb, hs.m.move (hg.block mp hs.m.lt (fun e => by have := (hr mp e.symm).1; omega)), hs.good⟩
theorem RiI.below {B mp n0 : Nat} {L : List Nd} {w5 : World} {pre : List S4} {W W' : World} (h : RiI B mp L n0 w5 pre W) (hb : Below W.heap.size W W') : RiI B mp L n0 w5 pre W' :=
  ⟨(hb.block _ (Array.getElem?_eq_some_iff.1 h.mb).1).trans h.mb, (hb.block _ (Array.getElem?_eq_some_iff.1 h.rb).1).trans h.rb, (hb.block _ (Array.getElem?_eq_some_iff.1 h.lb).1).trans h.lb, (hb.block _ (Array.getElem?_eq_some_iff.1 h.nb).1).trans h.nb, h.m.below hb, h.good⟩
def set5 (W : World) (B : Nat) (x : S4) (v : Int) : World := ((((W.setCell ⟨B + 1 + 1, 0, none⟩ (.int .i32 x.1.1.1)).setCell ⟨B + 1 + 1, 1, none⟩ (.int .i64 x.1.1.2)).setCell ⟨B + 1 + 1, 2, none⟩ (.int .i64 x.1.2.1)).setCell ⟨B + 1 + 1, 3, none⟩ (.int .i64 x.1.2.2)).setCell ⟨B + 1 + 1 + 1, 0, none⟩ (.int .i64 v)
theorem set5_keep (W : World) (B : Nat) (x : S4) (v : Int) : KeepS (fun i => i = B + 2 ∨ i = B + 3) W (set5 W B x v) :=
  (((((KeepS.refl (fun i => i = B + 2 ∨ i = B + 3) W).set (p := ⟨B + 1 + 1, 0, none⟩) (.inl (.inl rfl)) _).set (p := ⟨B + 1 + 1, 1, none⟩) (.inl (.inl rfl)) _).set (p := ⟨B + 1 + 1, 2, none⟩) (.inl (.inl rfl)) _).set (p := ⟨B + 1 + 1, 3, none⟩) (.inl (.inl rfl)) _).set (p := ⟨B + 1 + 1 + 1, 0, none⟩) (.inl (.inr rfl)) _
theorem set5_others (W : World) (B : Nat) (x : S4) (v : Int) : KeepsOthers W (set5 W B x v) :=
  ((((KeepsOthers.setCell _ _ _).trans (KeepsOthers.setCell _ _ _)).trans (KeepsOthers.setCell _ _ _)).trans (KeepsOthers.setCell _ _ _)).trans (KeepsOthers.setCell _ _ _)
theorem RiI.next {B mp n0 : Nat} {L : List Nd} {w5 : World} {pre : List S4} {W : World} (h : RiI B mp L n0 w5 pre W) {x : S4} (hg : Good L (pre ++ [x])) (hm : mp < B) (v : Int) (hv : v = (pre.length + 1 : Nat)) : RiI B mp L n0 w5 (pre ++ [x]) (set5 W B x v) := by
  have hk := set5_keep W B x v
  have hlt : ∀ {i : Nat} {o : Obj}, W.heap[i]? = some o → i < W.heap.size := fun h => (Array.getElem?_eq_some_iff.1 h).1
  refine ⟨(hk.block B (hlt h.mb) (by omega)).trans h.mb, (hk.block (B + 1) (hlt h.rb) (by omega)).trans h.rb, ?_, ?_, h.m.move (hk.block mp h.m.lt (by omega)), hg⟩
  · have h1 := heap_same (a := ⟨B + 1 + 1, 0, none⟩) (v := .int .i32 x.1.1.1) h.lb rfl
    have h2 := heap_same (a := ⟨B + 1 + 1, 1, none⟩) (v := .int .i64 x.1.1.2) h1 rfl
    have h3 := heap_same (a := ⟨B + 1 + 1, 2, none⟩) (v := .int .i64 x.1.2.1) h2 rfl
    have h4 := heap_same (a := ⟨B + 1 + 1, 3, none⟩) (v := .int .i64 x.1.2.2) h3 rfl
    have h5 := (Below.heap_setCell _ ⟨B + 1 + 1 + 1, 0, none⟩ (.int .i64 v) (B + 2) (by show B + 2 ≠ B + 1 + 1 + 1; omega)).trans h4
    rw [lastT_snoc]
    exact h5
  · unfold set5
    have h6 : ((((W.setCell ⟨B + 1 + 1, 0, none⟩ (.int .i32 x.1.1.1)).setCell ⟨B + 1 + 1, 1, none⟩ (.int .i64 x.1.1.2)).setCell ⟨B + 1 + 1, 2, none⟩ (.int .i64 x.1.2.1)).setCell ⟨B + 1 + 1, 3, none⟩ (.int .i64 x.1.2.2)).heap[B + 1 + 1 + 1]? = some (.cells #[.int .i64 pre.length] 3) := by
      rw [Below.heap_setCell _ _ _ _ (by show B + 1 + 1 + 1 ≠ B + 1 + 1; omega), Below.heap_setCell _ _ _ _ (by show B + 1 + 1 + 1 ≠ B + 1 + 1; omega), Below.heap_setCell _ _ _ _ (by show B + 1 + 1 + 1 ≠ B + 1 + 1; omega), Below.heap_setCell _ _ _ _ (by show B + 1 + 1 + 1 ≠ B + 1 + 1; omega)]
      exact h.nb
    have h7 := heap_same (a := ⟨B + 1 + 1 + 1, 0, none⟩) (v := .int .i64 v) h6 rfl
    rw [List.length_append, List.length_singleton, ← hv]
    exact h7
set_option maxHeartbeats 2000000 in
theorem rising_is {w : World} {s h mp n0 : Nat} {L : List Nd} {x : Int} {nx : Nat → Nat → Option Nat} (H : IsSk w s h L x nx) (hL : L.length ≤ 1048576) (hM : IsM Try.prog 29 (mk2 .i32 .i64) w mp n0 (mapV L) L.length) (hw : ∀ e, e ∈ L → wf2 .i32 .i64 e.c.key) :
    Calls Try.prog 15 #[.pointer (some ⟨s, 0, none⟩), .map (some mp)] w fun e w' => e = .returned (.bool true) ∧ Below w.heap.size w w' := by
  obtain ⟨xs, hxs⟩ := lift4 (cellsL L) (fun y hy => by
    obtain ⟨e, he, rfl⟩ := List.mem_map.1 hy
    exact hw e he)
  have hr := rank_lo hw
  have hlen : xs.length = L.length := by have := congrArg List.length hxs; simpa [cellsL] using this
  have hgood := good_all H.store.sorted hxs
  refine (callsIn_wide (n := 4)).1 ?_
  refine callsIn_of_wp_marks Try.func15 rfl trivial ?_ rfl
  simp only [Try.ntmps15, List.size_toArray, List.length_cons, List.length_nil, Nat.reduceAdd, Nat.reduceSub, Array.replicate_succ, Array.replicate_zero, List.push_toArray, List.append_toArray, List.nil_append, List.cons_append]
  gi_wp2_with fail
  have hB4 : Below w.heap.size w ((((w.alloc (.cells #[.map (some mp)] 27)).alloc (.cells #[.bool false] 4)).alloc (.cells #[.int .i32 0, .int .i64 0, .int .i64 0, .int .i64 0] 31)).alloc (.cells #[.int .i64 0] 3)) := ((((Below.refl _ _).alloc (Nat.le_refl _) _).alloc (by simp) _).alloc (by simp; omega) _).alloc (by simp; omega) _
  have hsz : ((((w.alloc (.cells #[.map (some mp)] 27)).alloc (.cells #[.bool false] 4)).alloc (.cells #[.int .i32 0, .int .i64 0, .int .i64 0, .int .i64 0] 31)).alloc (.cells #[.int .i64 0] 3)).heap.size = w.heap.size + 4 := by simp
  have f0 : ((((w.alloc (.cells #[.map (some mp)] 27)).alloc (.cells #[.bool false] 4)).alloc (.cells #[.int .i32 0, .int .i64 0, .int .i64 0, .int .i64 0] 31)).alloc (.cells #[.int .i64 0] 3)).heap[w.heap.size]? = some (.cells #[.map (some mp)] 27) := by
    rw [Below.heap_alloc _ _ _ (by simp; omega), Below.heap_alloc _ _ _ (by simp; omega), Below.heap_alloc _ _ _ (by simp), heap_alloc_new]
  have f1 : ((((w.alloc (.cells #[.map (some mp)] 27)).alloc (.cells #[.bool false] 4)).alloc (.cells #[.int .i32 0, .int .i64 0, .int .i64 0, .int .i64 0] 31)).alloc (.cells #[.int .i64 0] 3)).heap[w.heap.size + 1]? = some (.cells #[.bool false] 4) := by
    rw [Below.heap_alloc _ _ _ (by simp), Below.heap_alloc _ _ _ (by simp)]
    have := heap_alloc_new (w.alloc (.cells #[.map (some mp)] 27)) (.cells #[.bool false] 4)
    rwa [World.size_alloc] at this
  have f2 : ((((w.alloc (.cells #[.map (some mp)] 27)).alloc (.cells #[.bool false] 4)).alloc (.cells #[.int .i32 0, .int .i64 0, .int .i64 0, .int .i64 0] 31)).alloc (.cells #[.int .i64 0] 3)).heap[w.heap.size + 2]? = some (.cells #[.int .i32 0, .int .i64 0, .int .i64 0, .int .i64 0] 31) := by
    rw [Below.heap_alloc _ _ _ (by simp)]
    have := heap_alloc_new ((w.alloc (.cells #[.map (some mp)] 27)).alloc (.cells #[.bool false] 4)) (.cells #[.int .i32 0, .int .i64 0, .int .i64 0, .int .i64 0] 31)
    rwa [World.size_alloc, World.size_alloc] at this
  have f3 : ((((w.alloc (.cells #[.map (some mp)] 27)).alloc (.cells #[.bool false] 4)).alloc (.cells #[.int .i32 0, .int .i64 0, .int .i64 0, .int .i64 0] 31)).alloc (.cells #[.int .i64 0] 3)).heap[w.heap.size + 3]? = some (.cells #[.int .i64 0] 3) := by
    have := heap_alloc_new (((w.alloc (.cells #[.map (some mp)] 27)).alloc (.cells #[.bool false] 4)).alloc (.cells #[.int .i32 0, .int .i64 0, .int .i64 0, .int .i64 0] 31)) (.cells #[.int .i64 0] 3)
    rwa [World.size_alloc, World.size_alloc, World.size_alloc] at this
  have HF0 := from_is (H.below hB4) hL (-2147483648, -9223372036854775808)
  rw [hr, List.drop_zero] at HF0
  have hM4 := hM.below hB4
  obtain ⟨w3, hw3⟩ : ∃ w3, (((w.alloc (.cells #[.map (some mp)] 27)).alloc (.cells #[.bool false] 4)).alloc (.cells #[.int .i32 0, .int .i64 0, .int .i64 0, .int .i64 0] 31)).alloc (.cells #[.int .i64 0] 3) = w3 := ⟨_, rfl⟩
  rw [hw3] at hB4 hsz f0 f1 f2 f3 HF0 hM4 ⊢
  unfold keyV at HF0
  clear hw3
  refine ⟨trivial, (callsIn_wide.2 HF0).mono ?_⟩
  rintro e w4 ⟨rfl, ⟨A, cc, hcl, hF⟩, hb4⟩
  rw [hsz] at hcl hF ⊢
  have HB := Lib.hid (hB4.trans (hb4.mono hB4.size))
  have hI0 : RiI w.heap.size mp L n0 w4 [] w4 := ⟨(hb4.block _ (by omega)).trans f0, (hb4.block _ (by omega)).trans f1, (hb4.block _ (by omega)).trans f2, (hb4.block _ (by omega)).trans f3, hM4.below hb4, ⟨fun _ h => (by cases h), List.Pairwise.nil⟩⟩
  have hF' : Kd.F cellK w4 (fun i => w.heap.size + 4 ≤ i ∧ i < w4.heap.size) A (xs.map (·.1)).length (xs.map (·.1)) := by rw [hxs]; exact hF
  have hcl' : w4.cell? ⟨w.heap.size + 4 + 1, 0, none⟩ = some (.slice A xs.length cc) := by rw [← hxs, List.length_map] at hcl; exact hcl
  have hmp : mp < w.heap.size := hM.lt
  have HXL := Lib.hid (show xs.length ≤ 1048576 by omega)
  have HLN := Lib.hid hlen
  have hs4 : w.heap.size + 4 ≤ w4.heap.size := by have := hb4.size; omega
  clear HF0 f0 f1 f2 f3 hM4 hB4 hb4 hF hcl H hM hw hsz hlen hr
  gi_wp2_with fail
  have hlt4 : w.heap.size + 4 + 1 < w4.heap.size := World.block_lt_of_cell? _ _ hcl'
  refine wpIn_rangeFunc_ownH (w := w4) rfl (by omega) (gf := 44) (lb := #[.pointer (some ⟨w.heap.size + 4 + 1, 0, none⟩)]) rfl trivial (enters_of Try.func44 (by kernel_rfl) rfl)
    (from1_stopsF (fun x : S4 => x.1) Fence.wide (4 - 1) trivial rfl (by omega) (w.heap.size + 4 + 1) (fun i => w.heap.size + 4 ≤ i ∧ i < w4.heap.size) ⟨by omega, hlt4⟩ A cc xs w4 (fun i hi => hi.2) hcl' hF') (fun h k => h.trans k) (keepT_b (fun i hi => hi.2)) (Below.refl _ _) (fun _ => rfl)
    (fun pre W => RiI w.heap.size mp L n0 w4 pre W ∧ KeepS (fun i => i = w.heap.size + 2 ∨ i = w.heap.size + 3) w4 W)
    (fun c pre W => ¬ Good L pre)
    (OwnFrom.and (own_riI _ _ _ _ _ (by omega)) (ownFrom_keepS _ _))
    (fun c _ _ _ _ hs _ _ => hs)
    ⟨hI0, KeepS.refl _ _⟩
    (fun x a' W => ∃ q, w4.heap.size ≤ q ∧ a' = { tmps := #[.pointer (some ⟨s, 0, none⟩), .map (some mp), undef, .pointer (some ⟨w.heap.size, 0, none⟩), .pointer (some ⟨w.heap.size + 1, 0, none⟩), .pointer (some ⟨w.heap.size + 1 + 1, 0, none⟩), .pointer (some ⟨w.heap.size + 1 + 1 + 1, 0, none⟩), .pointer (some ⟨q, 0, none⟩), undef, undef, .pointer (some ⟨s, 0, none⟩), .agg #[.int .i32 (-2147483648), .int .i64 (-9223372036854775808)], .func (.func 44) #[] #[.pointer (some ⟨w.heap.size + 4 + 1, 0, none⟩)], t4V x.1, undef, undef, undef, undef, undef, undef, undef, undef, undef, undef, undef, undef, undef, undef, undef, undef, undef, undef, undef, undef, undef, undef, undef, undef, undef, undef, undef, undef, undef, undef, undef, undef, undef], defers := [] } ∧ W.cell? ⟨q, 0, none⟩ = some (.int .i32 x.1.1.1) ∧ W.cell? ⟨q, 1, none⟩ = some (.int .i64 x.1.1.2) ∧ W.cell? ⟨q, 2, none⟩ = some (.int .i64 x.1.2.1) ∧ W.cell? ⟨q, 3, none⟩ = some (.int .i64 x.1.2.2))
    (fun x a' => Own.from (fun _ A B row hs hg hr => by obtain ⟨q, h0, h1, h2, h3, h4, h5⟩ := hs; exact ⟨q, h0, h1, cell_kept h2 hg hr, cell_kept h3 hg hr, cell_kept h4 hg hr, cell_kept h5 hg hr⟩) _) ?assign ?body ?done ?stop
  case assign =>
    rintro l pre x W K ⟨hi, hk⟩ hK
    dsimp only [encC]
    gi_wp2
    have hbW : Below W.heap.size W (W.alloc (.cells #[.int .i32 x.1.1.1, .int .i64 x.1.1.2, .int .i64 x.1.2.1, .int .i64 x.1.2.2] 31)) := (Below.refl _ W).alloc (Nat.le_refl _) _
    exact hK _ _ (below_from hbW) (KeepT.of_below hbW) ⟨hi.below hbW, hk.alloc _⟩ ⟨W.heap.size, hk.size, rfl, Joins.cell_alloc_mark_at W #[.int .i32 x.1.1.1, .int .i64 x.1.1.2, .int .i64 x.1.2.1, .int .i64 x.1.2.2] 31 (0, 0) W.heap.size 0 rfl, Joins.cell_alloc_mark_at W #[.int .i32 x.1.1.1, .int .i64 x.1.1.2, .int .i64 x.1.2.1, .int .i64 x.1.2.2] 31 (0, 0) W.heap.size 1 rfl, Joins.cell_alloc_mark_at W #[.int .i32 x.1.1.1, .int .i64 x.1.1.2, .int .i64 x.1.2.1, .int .i64 x.1.2.2] 31 (0, 0) W.heap.size 2 rfl, Joins.cell_alloc_mark_at W #[.int .i32 x.1.1.1, .int .i64 x.1.1.2, .int .i64 x.1.2.1, .int .i64 x.1.2.2] 31 (0, 0) W.heap.size 3 rfl⟩
  case body =>
    rintro l pre x W0 W hl ⟨rr, hrr⟩ ⟨hI, hK⟩ ⟨q, hq, rfl, c0, c1, c2, c3⟩ hpl
    have HI := Lib.hid hI; have HK := Lib.hid hK; have HQ := Lib.hid hq
    have m0 : W.cell? ⟨w.heap.size, 0, none⟩ = some (.map (some mp)) := by simp [World.cell?, hI.mb]
    have r0 : W.cell? ⟨w.heap.size + 1, 0, none⟩ = some (.bool false) := by simp [World.cell?, hI.rb]
    have r1 : W.frozen? ⟨w.heap.size + 1, 0, none⟩ = false := by simp [World.frozen?, hI.rb]
    have l0 : W.cell? ⟨w.heap.size + 1 + 1, 0, none⟩ = some (.int .i32 (lastT pre).1.1) := by simp [World.cell?, hI.lb]
    have l1 : W.cell? ⟨w.heap.size + 1 + 1, 1, none⟩ = some (.int .i64 (lastT pre).1.2) := by simp [World.cell?, hI.lb]
    have l2 : W.cell? ⟨w.heap.size + 1 + 1, 2, none⟩ = some (.int .i64 (lastT pre).2.1) := by simp [World.cell?, hI.lb]
    have l3 : W.cell? ⟨w.heap.size + 1 + 1, 3, none⟩ = some (.int .i64 (lastT pre).2.2) := by simp [World.cell?, hI.lb]
    have nn : W.cell? ⟨w.heap.size + 1 + 1 + 1, 0, none⟩ = some (.int .i64 pre.length) := by simp [World.cell?, hI.nb]
    have fl0 : W.frozen? ⟨w.heap.size + 1 + 1, 0, none⟩ = false := by simp [World.frozen?, hI.lb]
    have fl1 : W.frozen? ⟨w.heap.size + 1 + 1, 1, none⟩ = false := by simp [World.frozen?, hI.lb]
    have fl2 : W.frozen? ⟨w.heap.size + 1 + 1, 2, none⟩ = false := by simp [World.frozen?, hI.lb]
    have fl3 : W.frozen? ⟨w.heap.size + 1 + 1, 3, none⟩ = false := by simp [World.frozen?, hI.lb]
    have fnn : W.frozen? ⟨w.heap.size + 1 + 1 + 1, 0, none⟩ = false := by simp [World.frozen?, hI.nb]
    have HLK := hI.m.get_ok keyS Try.underlying27 zeroCell x.2
    simp only [mk2] at HLK
    have HXL2 := Lib.hid hpl
    have hz : w.heap.size + 4 ≤ W.heap.size := Nat.le_trans hs4 HK.out.size
    have z0 : w.heap.size < W.heap.size := by omega
    have z1 : w.heap.size + 1 < W.heap.size := by omega
    have z2 : w.heap.size + 1 + 1 < W.heap.size := by omega
    have z3 : w.heap.size + 1 + 1 + 1 < W.heap.size := by omega
    have zq : q < W.heap.size := World.block_lt_of_cell? _ _ c0
    clear hI hK hq hrr hl hpl
    unfold t4V
    cases hg : getL L x.1.1 with
    | none =>
      have HBAD := Lib.hid (not_good_map (L := L) (pre := pre) (x := x) (by rw [hg]; intro e; cases e))
      rw [show mapV L x.1.1 = none by unfold mapV; rw [hg]; rfl] at HLK
      simp only [Option.getD_none, Option.isSome_none, celV] at HLK
      clear hg
      gi_wp2_with fail
      all_goals (try exact (undef_bool _ (by assumption)).elim)
      all_goals (repeat (refine ⟨trivial, ?_⟩; gi_wp2_with fail; all_goals (try exact (undef_bool _ (by assumption)).elim)))
      all_goals exact ⟨((KeepsOthers.setCell _ _ _).from _).trans (below_from ((Below.refl _ _).alloc (Nat.le_refl _) _)), HBAD.out⟩
    | some c =>
      rw [show mapV L x.1.1 = some (celV c) by unfold mapV; rw [hg]; rfl] at HLK
      simp only [Option.getD_some, Option.isSome_some, celV] at HLK
      by_cases hc : t4 c = x.1
      · have hq : ∀ W : World, (Op.equalIn 10000 31 (.agg #[.int .i32 x.1.1.1, .int .i64 x.1.1.2, .int .i64 x.1.2.1, .int .i64 x.1.2.2]) (.agg #[.int .i32 c.table, .int .i64 c.row, .int .i64 c.value, .int .i64 c.slot])).run Try.prog W = .ok true W := fun W => by
          rw [← hc]; exact eqc_self c W
        have HM := Lib.hid (show (getL L x.1.1).map t4 = some x.1 by rw [hg, ← hc]; rfl)
        clear hc hg
        by_cases h0 : pre = []
        · obtain ⟨zl, hzl⟩ : ∃ zl : Int, (pre.length : Int) = zl := ⟨_, rfl⟩
          have hneg : decide ((0 : Int) < zl) = false := decide_eq_false (by rw [← hzl, h0]; simp)
          have HZL := Lib.hid hzl
          have HGD := Lib.hid (good_snoc HI.out.good HM.out (.inl h0))
          have HL1 := Lib.hid (show IntKind.i64.wrap (zl + 1) = ((pre.length + 1 : Nat) : Int) by rw [← hzl, h0]; rfl)
          rw [hzl] at nn
          clear hzl h0
          gi_wp2_with fail
          all_goals (try exact (undef_bool _ (by assumption)).elim)
          all_goals (repeat (refine ⟨trivial, ?_⟩; gi_wp2_with fail; all_goals (try exact (undef_bool _ (by assumption)).elim)))
          exact ⟨((set5_others _ _ _ _).from _).trans (below_from ((Below.refl _ _).alloc (Nat.le_refl _) _)), fun i hi hl => (Below.heap_alloc _ _ _ (by simpa [set5, World.setCell] using hl)).trans ((set5_keep W w.heap.size x _).block i hl (by omega)), ⟨(HI.out.next HGD.out hmp _ ((wrapE _).symm.trans HL1.out)).below ((Below.refl _ _).alloc (Nat.le_refl _) _), ((HK.out).trans (set5_keep _ _ _ _)).alloc _⟩⟩
        · obtain ⟨zl, hzl⟩ : ∃ zl : Int, (pre.length : Int) = zl := ⟨_, rfl⟩
          have hpos : decide ((0 : Int) < zl) = true := decide_eq_true (by have := List.length_pos_iff.2 h0; omega)
          have HZL := Lib.hid hzl
          have HNE := Lib.hid h0
          rw [hzl] at nn
          clear hzl h0
          gi_wp2_with fail
          all_goals (try exact (undef_bool _ (by assumption)).elim)
          refine ⟨trivial, ((callsIn_wide.2 (less_is (lastT pre).1 x.1.1 _)).inRound l).mono ?_⟩
          rintro e W2 ⟨rfl, hb⟩
          have hB2 : Below W.heap.size W W2 := ((Below.refl _ W).alloc (Nat.le_refl _) _).trans (hb.mono (by simp))
          have HB2 := Lib.hid hB2
          have HI2 := Lib.hid (HI.out.below hB2)
          have HK2 := Lib.hid (HK.out.then_below hB2)
          have e0 := (hB2.cell (p := ⟨q, 0, none⟩) zq).trans c0
          have e1 := (hB2.cell (p := ⟨q, 1, none⟩) zq).trans c1
          have e2 := (hB2.cell (p := ⟨q, 2, none⟩) zq).trans c2
          have e3 := (hB2.cell (p := ⟨q, 3, none⟩) zq).trans c3
          have g0 := (hB2.cell (p := ⟨w.heap.size + 1, 0, none⟩) z1).trans r0
          have g1 := (hB2.frozen (p := ⟨w.heap.size + 1, 0, none⟩) z1).trans r1
          have i0 := (hB2.cell (p := ⟨w.heap.size + 1 + 1, 0, none⟩) z2).trans l0
          have i1 := (hB2.cell (p := ⟨w.heap.size + 1 + 1, 1, none⟩) z2).trans l1
          have i2 := (hB2.cell (p := ⟨w.heap.size + 1 + 1, 2, none⟩) z2).trans l2
          have i3 := (hB2.cell (p := ⟨w.heap.size + 1 + 1, 3, none⟩) z2).trans l3
          have j0 := (hB2.frozen (p := ⟨w.heap.size + 1 + 1, 0, none⟩) z2).trans fl0
          have j1 := (hB2.frozen (p := ⟨w.heap.size + 1 + 1, 1, none⟩) z2).trans fl1
          have j2 := (hB2.frozen (p := ⟨w.heap.size + 1 + 1, 2, none⟩) z2).trans fl2
          have j3 := (hB2.frozen (p := ⟨w.heap.size + 1 + 1, 3, none⟩) z2).trans fl3
          have k0 := (hB2.cell (p := ⟨w.heap.size + 1 + 1 + 1, 0, none⟩) z3).trans nn
          have k1 := (hB2.frozen (p := ⟨w.heap.size + 1 + 1 + 1, 0, none⟩) z3).trans fnn
          clear c0 c1 c2 c3 r0 r1 l0 l1 l2 l3 fl0 fl1 fl2 fl3 nn fnn m0 hb hB2 z0 z1 z2 z3 zq HLK
          obtain ⟨kb, hkb⟩ : ∃ kb, kLt (lastT pre).1 x.1.1 = kb := ⟨_, rfl⟩
          rw [hkb]
          cases kb with
          | true =>
            have HGD := Lib.hid (good_snoc HI2.out.good HM.out (.inr hkb))
            have HL1 := Lib.hid (show IntKind.i64.wrap (zl + 1) = ((pre.length + 1 : Nat) : Int) by rw [← HZL.out, IntKind.wrap_i64]; have := HXL.out; have := HXL2.out; omega)
            clear hkb
            gi_wp2_with fail
            exact ⟨(below_from HB2.out).trans ((set5_others _ _ _ _).from _), fun i hi hl => ((set5_keep W2 w.heap.size x _).block i (Nat.lt_of_lt_of_le hl HB2.out.size) (by omega)).trans (HB2.out.block i hl), ⟨HI2.out.next HGD.out hmp _ ((wrapE _).symm.trans HL1.out), HK2.out.trans (set5_keep _ _ _ _)⟩⟩
          | false =>
            have HBAD := Lib.hid (not_good_lt (L := L) (pre := pre) (x := x) HNE.out hkb)
            clear hkb
            gi_wp2_with fail
            exact ⟨(below_from HB2.out).trans ((KeepsOthers.setCell _ _ _).from _), HBAD.out⟩
      · have hq : ∀ W : World, (Op.equalIn 10000 31 (.agg #[.int .i32 x.1.1.1, .int .i64 x.1.1.2, .int .i64 x.1.2.1, .int .i64 x.1.2.2]) (.agg #[.int .i32 c.table, .int .i64 c.row, .int .i64 c.value, .int .i64 c.slot])).run Try.prog W = .ok false W := fun W =>
          eqc_ne (a := ⟨x.1.1.1, x.1.1.2, x.1.2.1, x.1.2.2⟩) (b := c) (fun e => hc (by rw [← e]; rfl)) W
        have HBAD := Lib.hid (not_good_map (L := L) (pre := pre) (x := x) (by rw [hg]; intro e; exact hc (Option.some.inj e)))
        clear hc hg
        gi_wp2_with fail
        all_goals (try exact (undef_bool _ (by assumption)).elim)
        all_goals (repeat (refine ⟨trivial, ?_⟩; gi_wp2_with fail; all_goals (try exact (undef_bool _ (by assumption)).elim)))
        all_goals exact ⟨((KeepsOthers.setCell _ _ _).from _).trans (below_from ((Below.refl _ _).alloc (Nat.le_refl _) _)), HBAD.out⟩
  case done =>
    rintro D ys W hD hys ⟨hI, hK⟩ hKD
    have HK := Lib.hid hK
    have m0 : W.cell? ⟨w.heap.size, 0, none⟩ = some (.map (some mp)) := by simp [World.cell?, hI.mb]
    have r0 : W.cell? ⟨w.heap.size + 1, 0, none⟩ = some (.bool false) := by simp [World.cell?, hI.rb]
    have r1 : W.frozen? ⟨w.heap.size + 1, 0, none⟩ = false := by simp [World.frozen?, hI.rb]
    have nn : W.cell? ⟨w.heap.size + 1 + 1 + 1, 0, none⟩ = some (.int .i64 L.length) := by
      have h1 : ys.length = L.length := by rw [hys]; exact HLN.out
      rw [← h1]; simp [World.cell?, hI.nb]
    have hlen := hI.m.len Try.underlying27 3
    clear hI hK
    gi_wp2
    have hK' := (KeepsOthers.setCell W ⟨w.heap.size + 1, 0, none⟩ (.bool true)).same D _ hKD rfl
    refine ⟨by simp, .inl ⟨_, _, rfl, run_takeDeferred hK', ?_⟩⟩
    have hc5 := cell_kept (World.cell?_setCell_same' W ⟨w.heap.size + 1, 0, none⟩ (.bool true) (by rw [r0]; rfl)) (grownBy_putObj' _ D (.deferred none)) (fun r e => by cases e; exact ⟨_, hK', rfl⟩)
    refine ⟨.bool true, ?_, rfl, ?_⟩
    · simp [results, Try.f15, go_sem, hc5]
    · have h2 := HB.out.trans (HK.out.below (B := w.heap.size) HB.out.size (by rintro i (rfl | rfl) <;> omega))
      exact (h2.setCell (p := ⟨w.heap.size + 1, 0, none⟩) (by show w.heap.size ≤ w.heap.size + 1; omega) _).trans (belowK_b (w := w) (Nat.le_refl _) _ D _ (.deferred none) (by have := HB.out.size; omega) hK' rfl rfl)
  case stop =>
    rintro D c pre W hD hp hbad hKD
    exact absurd (good_prefix hgood hp) hbad
end Go.Proofs.Ytdolmkiiflhehaa.M
end

section
/- An operation of a script, read. -/
set_option linter.unusedVariables false
set_option linter.unusedSimpArgs false
set_option maxRecDepth 100000
namespace Go.Proofs.Ytdolmkiiflhehaa.M
open Go.RowKit Go.Proofs.YtdolmkiiflhehaaW.PrintWords

structure OpD where
  Do : Int
  c : CellD
  tk : Int × Int
  seed : Int
  stop : Int
def keyK2 : Kd (Int × Int) := Kd.iso (Kd.pair (Kd.int .i32) (Kd.int .i64)) (fun x => x)
def celK2 : Kd CellD := Kd.iso (Kd.pair keyK2 (Kd.pair (Kd.int .i64) (Kd.int .i64))) (fun c => (c.key, c.value, c.slot))
def opT : Kd (Int × CellD × (Int × Int) × Int × Int) := Kd.pair (Kd.int .i64) (Kd.pair celK2 (Kd.pair keyK2 (Kd.pair (Kd.int .u64) (Kd.int .i64))))
def OpD.t (o : OpD) : Int × CellD × (Int × Int) × Int × Int := (o.Do, o.c, o.tk, o.seed, o.stop)
def opK : Kd OpD := Kd.iso opT OpD.t
abbrev I64 (x : Int) : Prop := (Lit.int .i64 x).wf = true
abbrev I32 (x : Int) : Prop := (Lit.int .i32 x).wf = true
abbrev U64 (x : Int) : Prop := (Lit.int .u64 x).wf = true
def okKey (k : Int × Int) : Prop := I32 k.1 ∧ I64 k.2
def okCel (c : CellD) : Prop := okKey c.key ∧ I64 c.value ∧ I64 c.slot
def okOp (o : OpD) : Prop := I64 o.Do ∧ okCel o.c ∧ okKey o.tk ∧ U64 o.seed ∧ I64 o.stop
theorem opens_i64 : Opens Try.prog 3 (Kd.int .i64) I64 (fun _ => 1) := opens_int Try.underlying3 (by kernel_rfl)
theorem opens_j64 : Opens Try.prog 2 (Kd.int .i64) I64 (fun _ => 1) := opens_int Try.underlying2 (by kernel_rfl)
theorem opens_i32 : Opens Try.prog 21 (Kd.int .i32) I32 (fun _ => 1) := opens_int Try.underlying21 (by kernel_rfl)
theorem opens_u64 : Opens Try.prog 22 (Kd.int .u64) U64 (fun _ => 1) := opens_int Try.underlying22 (by kernel_rfl)
theorem opens_key : Opens Try.prog 29 keyK2 okKey (fun _ => 1 + 1 + 1) := by
  have h := opens_struct (d := Kd.pair (Kd.int .i32) (Kd.int .i64)) (fun x => x) (fun x => (x.1, x.2)) (fun _ => rfl) Try.underlying29 (by kernel_rfl) (opensL_cons rfl opens_i32 (opensL_one rfl opens_j64))
  exact h
theorem opens_cel : Opens Try.prog 31 celK2 okCel (fun _ => (1 + 1 + 1) + (1 + 1) + 1) := by
  have h := opens_struct (d := Kd.pair keyK2 (Kd.pair (Kd.int .i64) (Kd.int .i64))) (fun c : CellD => (c.key, c.value, c.slot)) (fun x => ⟨x.1.1, x.1.2, x.2.1, x.2.2⟩) (fun _ => rfl) Try.underlying31 (by kernel_rfl) (opensL_cons rfl opens_key (opensL_cons rfl opens_j64 (opensL_one rfl opens_j64)))
  exact h
theorem opens_op : Opens Try.prog 33 opK okOp (fun _ => 1 + (((1 + 1 + 1) + (1 + 1) + 1) + ((1 + 1 + 1) + (1 + 1))) + 1) := by
  have h := opens_struct (d := opT) OpD.t (fun x => ⟨x.1, x.2.1, x.2.2.1, x.2.2.2.1, x.2.2.2.2⟩) (fun _ => rfl) Try.underlying33 (by kernel_rfl)
    (opensL_cons rfl opens_i64 (opensL_cons rfl opens_cel (opensL_cons rfl opens_key (opensL_cons rfl opens_u64 (opensL_one rfl opens_i64)))))
  exact h
theorem opens_ops : Opens Try.prog 23 (Kd.slice 33 opK) (fun l => l.length ≤ 9223372036854775807 ∧ ∀ x ∈ l, okOp x) (szL (fun _ => 1 + (((1 + 1 + 1) + (1 + 1) + 1) + ((1 + 1 + 1) + (1 + 1))) + 1)) := opens_slice Try.underlying23 (by kernel_rfl) opens_op
def zOp : OpD := ⟨0, ⟨0, 0, 0, 0⟩, (0, 0), 0, 0⟩
theorem op_cells {W : World} {o : OpD} {c : List Value} (h : opK.K W o c) : c = [.int .i64 o.Do, .int .i32 o.c.table, .int .i64 o.c.row, .int .i64 o.c.value, .int .i64 o.c.slot, .int .i32 o.tk.1, .int .i64 o.tk.2, .int .u64 o.seed, .int .i64 o.stop] := by
  obtain ⟨c0, d0, rfl, rfl, c1, d1, rfl, ⟨a0, b0, rfl, ⟨p0, q0, rfl, rfl, rfl⟩, ⟨p1, q1, rfl, rfl, rfl⟩⟩, c2, d2, rfl, ⟨p2, q2, rfl, rfl, rfl⟩, c3, d3, rfl, rfl, rfl⟩ := h
  rfl
/-- The k-th operation of a script. -/
theorem op_get {W : World} {ok : Nat → Prop} {A : Option Addr} {n : Nat} {l : List OpD} (h : Kd.F opK W ok A n l) {k : Nat} {o : OpD} (hk : l[k]? = some o) :
    ∃ ad, A = some ad ∧ W.cell? (ad.add (k * 9)) = some (.int .i64 o.Do) ∧ W.cell? ⟨(ad.add (k * 9)).block, (ad.add (k * 9)).off + 1, none⟩ = some (.int .i32 o.c.table) ∧ W.cell? ⟨(ad.add (k * 9)).block, (ad.add (k * 9)).off + 2, none⟩ = some (.int .i64 o.c.row) ∧ W.cell? ⟨(ad.add (k * 9)).block, (ad.add (k * 9)).off + 3, none⟩ = some (.int .i64 o.c.value) ∧ W.cell? ⟨(ad.add (k * 9)).block, (ad.add (k * 9)).off + 4, none⟩ = some (.int .i64 o.c.slot) ∧ W.cell? ⟨(ad.add (k * 9)).block, (ad.add (k * 9)).off + 5, none⟩ = some (.int .i32 o.tk.1) ∧ W.cell? ⟨(ad.add (k * 9)).block, (ad.add (k * 9)).off + 6, none⟩ = some (.int .i64 o.tk.2) ∧ W.cell? ⟨(ad.add (k * 9)).block, (ad.add (k * 9)).off + 7, none⟩ = some (.int .u64 o.seed) ∧ W.cell? ⟨(ad.add (k * 9)).block, (ad.add (k * 9)).off + 8, none⟩ = some (.int .i64 o.stop) := by
  have hlt : k < n := by
    have := (List.getElem?_eq_some_iff.1 hk).1
    have := Kd.F_len h
    omega
  obtain ⟨ad, c, rfl, hcl, hK, hcc, _⟩ := Kd.F_get h zOp (k : Int) (by omega) (by omega)
  have e : l.getD (k : Int).toNat zOp = o := by rw [Int.toNat_natCast, List.getD_eq_getElem?_getD, hk]; rfl
  rw [e] at hK
  rw [Int.toNat_natCast] at hcc
  obtain rfl := op_cells (Foot.now hK)
  have hs : opK.sz = 9 := rfl
  rw [hs] at hcc
  refine ⟨ad, rfl, by simpa using hcc 0 _ rfl, ?_, ?_, ?_, ?_, ?_, ?_, ?_, ?_⟩
  · rw [← add_field ad (k * 9) 1 (by omega)]; exact hcc 1 _ rfl
  · rw [← add_field ad (k * 9) 2 (by omega)]; exact hcc 2 _ rfl
  · rw [← add_field ad (k * 9) 3 (by omega)]; exact hcc 3 _ rfl
  · rw [← add_field ad (k * 9) 4 (by omega)]; exact hcc 4 _ rfl
  · rw [← add_field ad (k * 9) 5 (by omega)]; exact hcc 5 _ rfl
  · rw [← add_field ad (k * 9) 6 (by omega)]; exact hcc 6 _ rfl
  · rw [← add_field ad (k * 9) 7 (by omega)]; exact hcc 7 _ rfl
  · rw [← add_field ad (k * 9) 8 (by omega)]; exact hcc 8 _ rfl
end Go.Proofs.Ytdolmkiiflhehaa.M
end

section
/- SkipMap: the walk (under way). -/
set_option linter.unusedVariables false
set_option linter.unusedSimpArgs false
set_option maxRecDepth 100000
namespace Go.Proofs.Ytdolmkiiflhehaa.M
open Go.RowKit Go.Maps Go.Proofs.YtdolmkiiflhehaaW.PrintWords Go.Proofs.YtdolmkiiflhehaaW.PrintMore Go.Proofs.YtdolmkiiflhehaaW.PrintLast

/-- A store and a map in memory; M is what the map has, sz how many keys it has. -/
structure MSt (s h mp n : Nat) (w3 wr : World) (L : List Nd) (x : Int) (nx : Nat → Nat → Option Nat) (M : Int × Int → Option Value) (sz : Nat) : Prop where
  sk : IsSk wr s h L x nx
  m : IsM Try.prog 29 (mk2 .i32 .i64) wr mp n M sz
  own : ∀ i, IsSk.Own s h L i → i = s ∨ i = h ∨ w3.heap.size ≤ i
  keep : KeepS (fun i => i = s ∨ i = h ∨ i = mp) w3 wr
  ne : mp ≠ s ∧ mp ≠ h ∧ mp < w3.heap.size
namespace MSt
variable {s h mp n : Nat} {w3 wr w' : World} {L L' : List Nd} {x x' : Int} {nx nx' : Nat → Nat → Option Nat} {M M' : Int × Int → Option Value} {sz sz' : Nat}
theorem notOwn (H : MSt s h mp n w3 wr L x nx M sz) : ¬ IsSk.Own s h L mp := fun ho => by
  rcases H.own mp ho with r | r | r
  · exact H.ne.1 r
  · exact H.ne.2.1 r
  · have := H.ne.2.2; omega
theorem below (H : MSt s h mp n w3 wr L x nx M sz) (hb : Below wr.heap.size wr w') : MSt s h mp n w3 w' L x nx M sz :=
  ⟨H.sk.below hb, H.m.below hb, H.own, H.keep.then_below hb, H.ne⟩
theorem turn (H : MSt s h mp n w3 wr L x nx M sz) (h1 : IsSk w' s h L' x' nx') (h2 : KeepS (IsSk.Own s h L) wr w') (h3 : ∀ i, IsSk.Own s h L' i → IsSk.Own s h L i ∨ wr.heap.size ≤ i) : MSt s h mp n w3 w' L' x' nx' M sz :=
  ⟨h1, H.m.move (h2.block mp H.m.lt H.notOwn), fun i hi => by
    rcases h3 i hi with r | r
    · exact H.own i r
    · have := H.keep.size; exact .inr (.inr (by omega)),
   ⟨h2.os.trans H.keep.os, h2.tape.trans H.keep.tape, h2.output.trans H.keep.output, Nat.le_trans H.keep.size h2.size, fun i hi hn => (h2.block i (Nat.lt_of_lt_of_le hi H.keep.size) (fun ho => by
      rcases H.own i ho with r | r | r
      · exact hn (.inl r)
      · exact hn (.inr (.inl r))
      · omega)).trans (H.keep.block i hi hn)⟩, H.ne⟩
theorem put (H : MSt s h mp n w3 wr L x nx M sz) {n' : Nat} (h1 : IsM Try.prog 29 (mk2 .i32 .i64) w' mp n' M' sz') (h2 : wr.grownBy w' (some mp)) : MSt s h mp n' w3 w' L x nx M' sz' :=
  ⟨H.sk.move fun i hi => h2.block i (H.sk.own_lt hi) (fun e => by cases e; exact H.notOwn hi), h1, H.own, H.keep.trans (KeepS.of_grown h2 (fun i e => by cases e; exact .inr (.inr rfl))), H.ne⟩
end MSt
/-- An operation in a box. -/
def OpBox (W : World) (b : Nat) (o : OpD) : Prop := W.heap[b]? = some (.cells #[.int .i64 o.Do, .int .i32 o.c.table, .int .i64 o.c.row, .int .i64 o.c.value, .int .i64 o.c.slot, .int .i32 o.tk.1, .int .i64 o.tk.2, .int .u64 o.seed, .int .i64 o.stop] 33)
theorem OpBox.cell {W : World} {b : Nat} {o : OpD} (h : OpBox W b o) : W.cell? ⟨b, 0, none⟩ = some (.int .i64 o.Do) ∧ W.cell? ⟨b, 1, none⟩ = some (.int .i32 o.c.table) ∧ W.cell? ⟨b, 2, none⟩ = some (.int .i64 o.c.row) ∧ W.cell? ⟨b, 3, none⟩ = some (.int .i64 o.c.value) ∧ W.cell? ⟨b, 4, none⟩ = some (.int .i64 o.c.slot) ∧ W.cell? ⟨b, 5, none⟩ = some (.int .i32 o.tk.1) ∧ W.cell? ⟨b, 6, none⟩ = some (.int .i64 o.tk.2) ∧ W.cell? ⟨b, 7, none⟩ = some (.int .u64 o.seed) ∧ W.cell? ⟨b, 8, none⟩ = some (.int .i64 o.stop) := by
  unfold OpBox at h
  simp [World.cell?, h]
theorem OpBox.lt {W : World} {b : Nat} {o : OpD} (h : OpBox W b o) : b < W.heap.size := (Array.getElem?_eq_some_iff.1 h).1
theorem OpBox.move {W W' : World} {b : Nat} {o : OpD} (h : OpBox W b o) (hb : W'.heap[b]? = W.heap[b]?) : OpBox W' b o := hb.trans h
theorem OpBox.below {W W' : World} {b : Nat} {o : OpD} (h : OpBox W b o) (hb : Below W.heap.size W W') : OpBox W' b o := h.move (hb.block b h.lt)
/-- Where the main loop stands: j operations are done; s the store, mp the map. -/
def MapL (s h mp n : Nat) (w3 : World) (i : Value) (wr : World) : Prop :=
  ∃ (j : Nat) (L : List Nd) (x : Int) (nx : Nat → Nat → Option Nat), i = .int .i64 j ∧ j ≤ n ∧ L.length ≤ j ∧ MSt s h mp j w3 wr L x nx (mapV L) L.length ∧ (∀ e, e ∈ L → wf2 .i32 .i64 e.c.key)
/-- Behind the put. -/
def MapC (s h mp j : Nat) (w3 : World) (ob : Nat) (o : OpD) (wx : World) : Prop :=
  ∃ (L : List Nd) (x : Int) (nx : Nat → Nat → Option Nat), L.length ≤ j + 1 ∧ MSt s h mp (j + 1) w3 wx L x nx (mapV L) L.length ∧ (∀ e, e ∈ L → wf2 .i32 .i64 e.c.key) ∧ OpBox wx ob o ∧ ¬ IsSk.Own s h L ob ∧ ob ≠ mp
theorem mapV_put {L L' : List Nd} {c : CellD} (h : ∀ k, getL L' k = if k = c.key then some c else getL L k) : mapV L' = fun y => if y = c.key then some (celV c) else mapV L y := by
  funext y
  unfold mapV
  rw [h y]
  split <;> rfl
theorem mapV_del {L L' : List Nd} {k : Int × Int} (h : ∀ q, getL L' q = if q = k then none else getL L q) : mapV L' = fun y => if y = k then none else mapV L y := by
  funext y
  unfold mapV
  rw [h y]
  split <;> rfl
theorem mapV_some (L : List Nd) (k : Int × Int) : (mapV L k).isSome = (getL L k).isSome := by unfold mapV; cases getL L k <;> rfl
theorem wf_put {L L' : List Nd} {c : CellD} (hs : Sorted L) (hs' : Sorted L') (h : ∀ k, getL L' k = if k = c.key then some c else getL L k) (hc : wf2 .i32 .i64 c.key) (hw : ∀ e, e ∈ L → wf2 .i32 .i64 e.c.key) : ∀ e, e ∈ L' → wf2 .i32 .i64 e.c.key := fun e he => by
  have h1 := (getL_iff hs' e.c.key e.c).2 ⟨e, he, rfl, rfl⟩
  rw [h] at h1
  by_cases hk : e.c.key = c.key
  · rw [hk]; exact hc
  · rw [if_neg hk] at h1
    obtain ⟨f, hf, e1, _⟩ := (getL_iff hs _ _).1 h1
    rw [← e1]; exact hw f hf
theorem wf_del {L L' : List Nd} {k : Int × Int} (hs : Sorted L) (hs' : Sorted L') (h : ∀ q, getL L' q = if q = k then none else getL L q) (hw : ∀ e, e ∈ L → wf2 .i32 .i64 e.c.key) : ∀ e, e ∈ L' → wf2 .i32 .i64 e.c.key := fun e he => by
  have h1 := (getL_iff hs' e.c.key e.c).2 ⟨e, he, rfl, rfl⟩
  rw [h] at h1
  by_cases hk : e.c.key = k
  · rw [if_pos hk] at h1; cases h1
  · rw [if_neg hk] at h1
    obtain ⟨f, hf, e1, _⟩ := (getL_iff hs _ _).1 h1
    rw [← e1]; exact hw f hf
theorem mapV_nil : mapV ([] : List Nd) = fun _ => none := by funext k; rfl
theorem eraR_map {L L' : List Nd} {k : Int × Int} {E : Int} (h : EraR L k E L') : mapV L' = (fun y => if y = k then none else mapV L y) ∧ L'.length = (if (mapV L k).isSome then L.length - 1 else L.length) ∧ E = (if (mapV L k).isSome then 0 else 4) ∧ ∀ q, getL L' q = if q = k then none else getL L q := by
  rw [mapV_some]
  rcases h with ⟨h1, h2, h3, h4⟩ | ⟨h1, h2, h3⟩
  · rw [if_pos h1, if_pos h1]
    exact ⟨mapV_del h3, by omega, h2, h3⟩
  · have h5 : ∀ q, getL L' q = if q = k then none else getL L q := fun q => by
      subst h3
      by_cases e : q = k
      · rw [if_pos e, e]; cases hg : getL L' k with
        | none => rfl
        | some c => rw [hg] at h1; cases h1
      · rw [if_neg e]
    rw [h1]
    exact ⟨mapV_del h5, by rw [h3]; simp, by simp [h2], h5⟩
set_option maxHeartbeats 2000000 in
theorem map_walk (w : World) (seed : Int) (A : Option Addr) (c : Nat) (l : List OpD) (hl : Kd.F opK w (fun k => k < w.heap.size) A l.length l) (hlc : l.length ≤ c) (hok : ∀ o ∈ l, okOp o) :
    Calls Try.prog 3 #[.int .u64 seed, .slice A l.length c] w fun e w' => e = .returned (.bool true) ∧ Below w.heap.size w w' := by
  have hmm := @run_makeMap Try.prog
  go_enter Try.func3, Try.ntmps3
  go_wp2_with fail
  refine (new_is seed w).mono ?_
  rintro e w1 ⟨rfl, h1, b1⟩
  have H1 := Lib.hid h1; have HB1 := Lib.hid b1
  clear h1 b1
  go_wp2_with fail
  refine (begun_is w1).mono ?_
  rintro e w2 ⟨rfl, b2⟩
  have H2 := Lib.hid (H1.out.below b2); have HB2 := Lib.hid (HB1.out.trans (b2.mono HB1.out.size)); have HZ2 := Lib.hid b2.size
  clear b2
  have hlm : l.length ≤ 9223372036854775807 := Kd.F_max hl
  obtain ⟨nl, hnl⟩ : ∃ nl, nl = min l.length 300 := ⟨_, rfl⟩
  have HNL := Lib.hid hnl
  have h1 : nl ≤ c := by omega
  go_upto_region 5 with fail
  go_cut [31, 32, 33] (fun a b i wx => wx = w2.alloc (.map #[] 0) ∧ (∃ cc, a = .slice A nl cc) ∧ b = .int .i64 nl ∧ i = .int .i64 0)
  case first =>
    by_cases h300 : l.length ≤ 300
    · have g1 : decide ((300 : Int) < (l.length : Int)) = false := decide_eq_false (by omega)
      have hnn : nl = l.length := by have := HNL.out; omega
      have HNN := Lib.hid hnn
      clear hnn HNL h1
      go_wp2_with fail
      go_meet
      exact ⟨rfl, ⟨c, by rw [HNN.out]⟩, by rw [HNN.out], rfl⟩
    · have hnn : nl = 300 := by have := HNL.out; omega
      have g1 : decide ((300 : Int) < (l.length : Int)) = true := decide_eq_true (by omega)
      have g2 : (300 : Int) ≤ (c : Int) := by omega
      have HNN := Lib.hid hnn
      clear hnn HNL h1
      go_wp2_with fail
      go_meet
      exact ⟨rfl, ⟨c, by rw [HNN.out]⟩, by rw [HNN.out]; rfl, rfl⟩
  case rest =>
    obtain ⟨hwc, ⟨cc, rfl⟩, rfl, rfl⟩ := hcut
    have HWC := Lib.hid hwc
    have H3 : RowKit.Hid (IsSk wc (w.heap.size + 1) w.heap.size [] seed (fun _ _ => none)) := by rw [hwc]; exact Lib.hid (H2.out.alloc _)
    have HM3 : RowKit.Hid (IsM Try.prog 29 (mk2 .i32 .i64) wc w2.heap.size 0 (fun _ => none) 0) := by rw [hwc]; exact Lib.hid (isM_made w2 _ _ _)
    have HB3 : RowKit.Hid (Below w.heap.size w wc) := by rw [hwc]; exact Lib.hid (HB2.out.alloc HB2.out.size _)
    obtain ⟨w3, rfl⟩ : ∃ w3, w3 = wc := ⟨_, rfl⟩
    clear hwc hnl h1
    go_wp2_with fail
    go_loopw [33] (fun i wr => MapL (w.heap.size + 1) w.heap.size w2.heap.size nl w3 i wr) (fun i _ => nl - (intOf i).toNat)
    case atStart =>
      have hz := HB3.out.size
      refine ⟨0, [], seed, _, rfl, Nat.zero_le _, Nat.le_refl _, ⟨H3.out, by rw [mapV_nil]; exact HM3.out, fun i hi => ?_, KeepS.refl _ _, ?_⟩, fun e he => by cases he⟩
      · rcases hi with hi | hi
        · exact .inl hi
        · simp at hi; exact .inr (.inl hi)
      · have h1 := H2.out.slt; have h2 := HM3.out.lt
        exact ⟨by omega, by omega, h2⟩
    case round =>
      obtain ⟨j, L, x, nx, rfl, hj, hLj, hS, hW⟩ := hrel
      have HS := Lib.hid hS; have HW := Lib.hid hW
      clear hS hW
      have HN3 := Lib.hid (show nl ≤ 300 ∧ nl ≤ l.length by have := HNL.out; omega)
      have HL1 := Lib.hid (show L.length ≤ 1048576 by have := HN3.out; omega)
      by_cases hlt : j < nl
      · have hjl : j < l.length := by have := HN3.out; omega
        have ho : l[j]? = some l[j] := List.getElem?_eq_getElem hjl
        obtain ⟨o, hx⟩ : ∃ o, l[j] = o := ⟨_, rfl⟩
        have HOK := Lib.hid (hok l[j] (List.getElem_mem hjl))
        rw [hx] at ho HOK
        clear hx
        have HLr := Lib.hid (HS.out.keep.foot (Kd.F_below hl HB3.out) (fun i (hi : i < w.heap.size) => by
          have := HM3.out.lt; have := HB2.out.size
          rintro (rfl | rfl | rfl) <;> omega))
        obtain ⟨ad, rfl, hc0, hc1, hc2, hc3, hc4, hc5, hc6, hc7, hc8⟩ := op_get HLr.out ho
        clear ho HLr
        go_upto_block 1 with fail
        go_cut [] (fun wx => ∃ (L' : List Nd) (x' : Int) (nx' : Nat → Nat → Option Nat), L'.length ≤ j + 1 ∧ MSt (w.heap.size + 1) w.heap.size w2.heap.size (j + 1) w3 wx L' x' nx' (mapV L') L'.length ∧ (∀ e, e ∈ L' → wf2 .i32 .i64 e.c.key))
        case first =>
          cases hD : (o.Do == 1) with
          | true =>
            have HX := Lib.hid hD
            go_wp2_with fail
            have HSa := Lib.hid (HS.out.below ((Below.refl _ wr).alloc (Nat.le_refl _) (.cells #[.int .i64 o.Do, .int .i32 o.c.table, .int .i64 o.c.row, .int .i64 o.c.value, .int .i64 o.c.slot, .int .i32 o.tk.1, .int .i64 o.tk.2, .int .u64 o.seed, .int .i64 o.stop] 33)))
            have HOX := Lib.hid (show OpBox (wr.alloc (.cells #[.int .i64 o.Do, .int .i32 o.c.table, .int .i64 o.c.row, .int .i64 o.c.value, .int .i64 o.c.slot, .int .i32 o.tk.1, .int .i64 o.tk.2, .int .u64 o.seed, .int .i64 o.stop] 33)) wr.heap.size o from heap_alloc_new wr _)
            have HNO := Lib.hid (show ¬ IsSk.Own (w.heap.size + 1) w.heap.size L wr.heap.size from fun h => by have := HS.out.sk.own_lt h; omega)
            have HNM := Lib.hid (show wr.heap.size ≠ w2.heap.size from fun h => by have := HS.out.m.lt; omega)
            obtain ⟨wa, hwa⟩ : ∃ wa, wr.alloc (.cells #[.int .i64 o.Do, .int .i32 o.c.table, .int .i64 o.c.row, .int .i64 o.c.value, .int .i64 o.c.slot, .int .i32 o.tk.1, .int .i64 o.tk.2, .int .u64 o.seed, .int .i64 o.stop] 33) = wa := ⟨_, rfl⟩
            obtain ⟨ob, hob⟩ : ∃ ob, wr.heap.size = ob := ⟨_, rfl⟩
            rw [hwa] at HSa HOX ⊢
            rw [hob] at HOX HNO HNM ⊢
            clear hwa hob hc0 hc1 hc2 hc3 hc4 hc5 hc6 hc7 hc8 HS
            have HWF := Lib.hid (show wf2 .i32 .i64 o.c.key from HOK.out.2.1.1)
            have HLK := HSa.out.m.get_ok keyS Try.underlying27 zeroCell HWF.out
            simp only [mk2, CellD.key] at HLK
            obtain ⟨r, hr⟩ : ∃ r : CellD, (mapV L o.c.key).getD (celV ⟨0, 0, 0, 0⟩) = celV r := by unfold mapV; cases getL L o.c.key <;> exact ⟨_, rfl⟩
            unfold CellD.key at hr
            rw [hr] at HLK
            unfold celV at HLK
            have HR := Lib.hid hr
            clear hr
            obtain ⟨is, his⟩ : ∃ is, (mapV L o.c.key).isSome = is := ⟨_, rfl⟩
            unfold CellD.key at his
            rw [his] at HLK
            have HIS := Lib.hid his
            clear his
            obtain ⟨hc0, hc1, hc2, hc3, hc4, hc5, hc6, hc7, hc8⟩ := HOX.out.cell
            have zo := HOX.out.lt
            rw [HLK]
            go_simp
            go_wp2_with fail
            have HSb := Lib.hid (HSa.out.below ((Below.refl _ wa).alloc (Nat.le_refl _) (.cells #[.int .i32 r.table, .int .i64 r.row, .int .i64 r.value, .int .i64 r.slot] 31)))
            have HOb := Lib.hid (HOX.out.below ((Below.refl _ wa).alloc (Nat.le_refl _) (.cells #[.int .i32 r.table, .int .i64 r.row, .int .i64 r.value, .int .i64 r.slot] 31)))
            obtain ⟨wb, hwb⟩ : ∃ wb, wa.alloc (.cells #[.int .i32 r.table, .int .i64 r.row, .int .i64 r.value, .int .i64 r.slot] 31) = wb := ⟨_, rfl⟩
            rw [hwb] at HSb HOb ⊢
            clear hwb zo HLK hc0 hc1 hc2 hc3 hc4 hc5 hc6 hc7 hc8
            refine (erase_is HSb.out.sk HL1.out o.c.key).mono ?_
            rintro e w5 ⟨E, L', x', nx', rfl, hI, hK, hO, hR⟩
            have HS5 := Lib.hid (HSb.out.turn hI hK hO)
            have HO5 := Lib.hid (HOb.out.move (hK.block _ HOb.out.lt HNO.out))
            obtain ⟨hm, hl', hE, hg'⟩ := eraR_map hR
            have HW' := Lib.hid (wf_del HSa.out.sk.store.sorted HS5.out.sk.store.sorted hg' HW.out)
            unfold CellD.key at hE
            rw [HIS.out] at hE
            have HMM := Lib.hid hm
            have HLL := Lib.hid hl'
            have hlj : L'.length ≤ L.length := by have := HLL.out; split at this <;> omega
            have HLJ := Lib.hid (show L'.length ≤ j + 1 by omega)
            clear hI hK hO hm hl' hR hlj hg'
            obtain ⟨hc0, hc1, hc2, hc3, hc4, hc5, hc6, hc7, hc8⟩ := HO5.out.cell
            cases is with
            | true =>
              simp only [if_true] at hE
              subst hE
              go_wp2_with (at_delete; refine m_del _ HS5.out.m keyS 27 Try.underlying27 rfl (.tmp 65) (.tmp 68) rfl o.c.key HWF.out rfl rfl ?_; intro w6 hM hG)
              have HS6 := Lib.hid (HS5.out.put (hM.mono (by omega : j ≤ j + 1)) hG)
              clear hM hG
              go_wp2_with fail
              go_meet
              refine ⟨L', x', nx', HLJ.out, ?_, HW'.out⟩
              rw [HMM.out, HLL.out]
              exact HS6.out
            | false =>
              simp only [Bool.false_eq_true, if_false] at hE
              subst hE
              go_wp2_with (at_delete; refine m_del _ HS5.out.m keyS 27 Try.underlying27 rfl (.tmp 65) (.tmp 68) rfl o.c.key HWF.out rfl rfl ?_; intro w6 hM hG)
              have HS6 := Lib.hid (HS5.out.put (hM.mono (by omega : j ≤ j + 1)) hG)
              clear hM hG
              go_wp2_with fail
              go_meet
              refine ⟨L', x', nx', HLJ.out, ?_, HW'.out⟩
              rw [HMM.out, HLL.out]
              exact HS6.out
          | false =>
            have HX := Lib.hid hD
            go_upto_region 14 with fail
            have HSa := Lib.hid (HS.out.below ((Below.refl _ wr).alloc (Nat.le_refl _) (.cells #[.int .i64 o.Do, .int .i32 o.c.table, .int .i64 o.c.row, .int .i64 o.c.value, .int .i64 o.c.slot, .int .i32 o.tk.1, .int .i64 o.tk.2, .int .u64 o.seed, .int .i64 o.stop] 33)))
            have HOX := Lib.hid (show OpBox (wr.alloc (.cells #[.int .i64 o.Do, .int .i32 o.c.table, .int .i64 o.c.row, .int .i64 o.c.value, .int .i64 o.c.slot, .int .i32 o.tk.1, .int .i64 o.tk.2, .int .u64 o.seed, .int .i64 o.stop] 33)) wr.heap.size o from heap_alloc_new wr _)
            have HNO := Lib.hid (show ¬ IsSk.Own (w.heap.size + 1) w.heap.size L wr.heap.size from fun h => by have := HS.out.sk.own_lt h; omega)
            have HNM := Lib.hid (show wr.heap.size ≠ w2.heap.size from fun h => by have := HS.out.m.lt; omega)
            obtain ⟨wa, hwa⟩ : ∃ wa, wr.alloc (.cells #[.int .i64 o.Do, .int .i32 o.c.table, .int .i64 o.c.row, .int .i64 o.c.value, .int .i64 o.c.slot, .int .i32 o.tk.1, .int .i64 o.tk.2, .int .u64 o.seed, .int .i64 o.stop] 33) = wa := ⟨_, rfl⟩
            obtain ⟨ob, hob⟩ : ∃ ob, wr.heap.size = ob := ⟨_, rfl⟩
            rw [hwa] at HSa HOX ⊢
            rw [hob] at HOX HNO HNM ⊢
            clear hwa hob hc0 hc1 hc2 hc3 hc4 hc5 hc6 hc7 hc8 HS
            have HWF := Lib.hid (show wf2 .i32 .i64 o.c.key from HOK.out.2.1.1)
            obtain ⟨okb, hokb⟩ : ∃ okb, (decide (0 ≤ o.c.slot) && decide (o.c.slot ≤ 1099511627776)) = okb := ⟨_, rfl⟩
            have HB := Lib.hid hokb
            clear hokb
            go_cut [12] (fun a wx => wx = wa ∧ a = .bool okb)
            case first =>
              obtain ⟨hc0, hc1, hc2, hc3, hc4, hc5, hc6, hc7, hc8⟩ := HOX.out.cell
              cases h1 : decide (0 ≤ o.c.slot) with
              | false =>
                have HE := Lib.hid (show okb = false by rw [← HB.out, h1]; rfl)
                go_wp2_with fail
                go_meet
                exact ⟨rfl, by rw [HE.out]⟩
              | true =>
                cases h2 : decide (o.c.slot ≤ 1099511627776) with
                | false =>
                  have HE := Lib.hid (show okb = false by rw [← HB.out, h1, h2]; rfl)
                  go_wp2_with fail
                  go_meet
                  exact ⟨rfl, by rw [HE.out]⟩
                | true =>
                  have HE := Lib.hid (show okb = true by rw [← HB.out, h1, h2]; rfl)
                  go_wp2_with fail
                  go_meet
                  exact ⟨rfl, by rw [HE.out]⟩
            case rest =>
              obtain ⟨rfl, rfl⟩ := hcut
              obtain ⟨hc0, hc1, hc2, hc3, hc4, hc5, hc6, hc7, hc8⟩ := HOX.out.cell
              go_wp2_with fail
              clear hc0 hc1 hc2 hc3 hc4 hc5 hc6 hc7 hc8
              refine (put_is HSa.out.sk (by have := HN3.out; omega) o.c).mono ?_
              rintro e w5 ⟨E, L', x', nx', rfl, hI, hK, hO, hR⟩
              have HS5 := Lib.hid (HSa.out.turn hI hK hO)
              have HO5 := Lib.hid (HOX.out.move (hK.block _ HOX.out.lt HNO.out))
              have HNO5 := Lib.hid (show ¬ IsSk.Own (w.heap.size + 1) w.heap.size L' ob from fun h => by
                rcases hO _ h with r | r
                · exact HNO.out r
                · have := HOX.out.lt; omega)
              clear hI hK hO
              obtain ⟨hc0, hc1, hc2, hc3, hc4, hc5, hc6, hc7, hc8⟩ := HO5.out.cell
              cases okb with
              | true =>
                obtain ⟨rfl, hg, hl'⟩ := put_ok hR HB.out
                have HMM := Lib.hid (mapV_put hg)
                have HLL := Lib.hid hl'
                have HG := Lib.hid (show getL L' o.c.key = some o.c by rw [hg, if_pos rfl])
                have HWq := Lib.hid (wf_put HSa.out.sk.store.sorted HS5.out.sk.store.sorted hg HWF.out HW.out)
                have HLq := Lib.hid (show L'.length ≤ j + 1 by have := HLL.out; split at this <;> omega)
                have HLp := Lib.hid (show L'.length ≤ 1048576 by have := HLq.out; have := HN3.out; omega)
                clear hR hg hl'
                go_wp2_with (at_mapUpdate; refine m_put _ HS5.out.m keyS 27 Try.underlying27 (by have := HN3.out; simp only [maxLen]; omega) rfl (.tmp 96) (.tmp 99) (.tmp 101) rfl o.c.key HWF.out (celV o.c) rfl rfl rfl ?_; intro w6 hM hG; have HOp := Lib.hid (HO5.out.move (hG.block ob HO5.out.lt (by simp only [ne_eq, Option.some.injEq]; exact HNM.out))); obtain ⟨hd0, hd1, hd2, hd3, hd4, hd5, hd6, hd7, hd8⟩ := HOp.out.cell)
                have HSp : RowKit.Hid (MSt (w.heap.size + 1) w.heap.size w2.heap.size (j + 1) w3 w6 L' x' nx' (mapV L') L'.length) := by
                  rw [HMM.out, HLL.out, ← mapV_some]
                  have h1 : (if (mapV L o.c.key).isSome then L.length else L.length + 1) = L.length + (if (mapV L o.c.key).isSome then 0 else 1) := by split <;> rfl
                  rw [h1] at hM
                  exact Lib.hid (HS5.out.put hM hG)
                clear hd0 hd1 hd2 hd3 hd4 hd5 hd6 hd7 hd8
                clear hM hG hc0 hc1 hc2 hc3 hc4 hc5 hc6 hc7 hc8
                refine (get_is HSp.out.sk HLp.out o.c.key).mono ?_
                rintro e w7 ⟨rfl, hb⟩
                rw [HG.out]
                unfold getV celV
                have HS7 := Lib.hid (HSp.out.below hb)
                have HO7 := Lib.hid (HOp.out.below hb)
                clear hb
                have HLK := (HS7.out.m.alloc (.cells #[.int .i32 o.c.table, .int .i64 o.c.row, .int .i64 o.c.value, .int .i64 o.c.slot] 31)).get_ok keyS Try.underlying27 zeroCell HWF.out
                rw [show mapV L' o.c.key = some (celV o.c) by unfold mapV; rw [HG.out]; rfl] at HLK
                simp only [mk2, CellD.key, celV, Option.getD_some, Option.getD_none, Option.isSome_some, Option.isSome_none] at HLK
                have hq : ∀ W : World, (Op.equalIn 10000 31 (.agg #[.int .i32 o.c.table, .int .i64 o.c.row, .int .i64 o.c.value, .int .i64 o.c.slot]) (.agg #[.int .i32 o.c.table, .int .i64 o.c.row, .int .i64 o.c.value, .int .i64 o.c.slot])).run Try.prog W = .ok true W := fun W => eqc_self ⟨o.c.table, o.c.row, o.c.value, o.c.slot⟩ W
                obtain ⟨hc0, hc1, hc2, hc3, hc4, hc5, hc6, hc7, hc8⟩ := HO7.out.cell
                have zo := HO7.out.lt
                go_wp2_with fail
                go_meet
                exact ⟨_, _, _, HLq.out, HS7.out.below (((Below.refl _ w7).alloc (Nat.le_refl _) _).alloc (by simp) _), HWq.out⟩
              | false =>
                obtain ⟨rfl, hLL⟩ : E = 1 ∧ L' = L := by
                  rcases hR with ⟨h1, _⟩ | ⟨_, h2, h3⟩
                  · rw [HB.out] at h1; cases h1
                  · exact ⟨h2, h3⟩
                subst hLL
                have HSp := Lib.hid (show MSt (w.heap.size + 1) w.heap.size w2.heap.size (j + 1) w3 w5 L' x' nx' (mapV L') L'.length from ⟨HS5.out.sk, HS5.out.m.mono (by omega), HS5.out.own, HS5.out.keep, HS5.out.ne⟩)
                have HOp := HO5
                have HWq := HW
                have HLp := HL1
                have HLq := Lib.hid (show L'.length ≤ j + 1 by omega)
                clear hR
                cases hgg : getL L' o.c.key with
                | none =>
                  have HG := Lib.hid hgg
                  clear hgg hc0 hc1 hc2 hc3 hc4 hc5 hc6 hc7 hc8
                  obtain ⟨hc0, hc1, hc2, hc3, hc4, hc5, hc6, hc7, hc8⟩ := HOp.out.cell
                  go_wp2_with fail
                  clear hc0 hc1 hc2 hc3 hc4 hc5 hc6 hc7 hc8
                  refine (get_is HSp.out.sk HLp.out o.c.key).mono ?_
                  rintro e w7 ⟨rfl, hb⟩
                  rw [HG.out]
                  unfold getV celV
                  have HS7 := Lib.hid (HSp.out.below hb)
                  have HO7 := Lib.hid (HOp.out.below hb)
                  clear hb
                  have HLK := (HS7.out.m.alloc (.cells #[.int .i32 0, .int .i64 0, .int .i64 0, .int .i64 0] 31)).get_ok keyS Try.underlying27 zeroCell HWF.out
                  rw [show mapV L' o.c.key = none by unfold mapV; rw [HG.out]; rfl] at HLK
                  simp only [mk2, CellD.key, celV, Option.getD_some, Option.getD_none, Option.isSome_some, Option.isSome_none] at HLK
                  have hq : ∀ W : World, (Op.equalIn 10000 31 (.agg #[.int .i32 0, .int .i64 0, .int .i64 0, .int .i64 0]) (.agg #[.int .i32 0, .int .i64 0, .int .i64 0, .int .i64 0])).run Try.prog W = .ok true W := fun W => eqc_self ⟨0, 0, 0, 0⟩ W
                  obtain ⟨hc0, hc1, hc2, hc3, hc4, hc5, hc6, hc7, hc8⟩ := HO7.out.cell
                  have zo := HO7.out.lt
                  go_wp2_with fail
                  go_meet
                  exact ⟨_, _, _, HLq.out, HS7.out.below (((Below.refl _ w7).alloc (Nat.le_refl _) _).alloc (by simp) _), HWq.out⟩
                | some d =>
                  have HG := Lib.hid hgg
                  clear hgg hc0 hc1 hc2 hc3 hc4 hc5 hc6 hc7 hc8
                  obtain ⟨hc0, hc1, hc2, hc3, hc4, hc5, hc6, hc7, hc8⟩ := HOp.out.cell
                  go_wp2_with fail
                  clear hc0 hc1 hc2 hc3 hc4 hc5 hc6 hc7 hc8
                  refine (get_is HSp.out.sk HLp.out o.c.key).mono ?_
                  rintro e w7 ⟨rfl, hb⟩
                  rw [HG.out]
                  unfold getV celV
                  have HS7 := Lib.hid (HSp.out.below hb)
                  have HO7 := Lib.hid (HOp.out.below hb)
                  clear hb
                  have HLK := (HS7.out.m.alloc (.cells #[.int .i32 d.table, .int .i64 d.row, .int .i64 d.value, .int .i64 d.slot] 31)).get_ok keyS Try.underlying27 zeroCell HWF.out
                  rw [show mapV L' o.c.key = some (celV d) by unfold mapV; rw [HG.out]; rfl] at HLK
                  simp only [mk2, CellD.key, celV, Option.getD_some, Option.getD_none, Option.isSome_some, Option.isSome_none] at HLK
                  have hq : ∀ W : World, (Op.equalIn 10000 31 (.agg #[.int .i32 d.table, .int .i64 d.row, .int .i64 d.value, .int .i64 d.slot]) (.agg #[.int .i32 d.table, .int .i64 d.row, .int .i64 d.value, .int .i64 d.slot])).run Try.prog W = .ok true W := fun W => eqc_self ⟨d.table, d.row, d.value, d.slot⟩ W
                  obtain ⟨hc0, hc1, hc2, hc3, hc4, hc5, hc6, hc7, hc8⟩ := HO7.out.cell
                  have zo := HO7.out.lt
                  go_wp2_with fail
                  go_meet
                  exact ⟨_, _, _, HLq.out, HS7.out.below (((Below.refl _ w7).alloc (Nat.le_refl _) _).alloc (by simp) _), HWq.out⟩
        case rest =>
          obtain ⟨L', x', nx', hL', hS', hW'⟩ := hcut
          have HL' := Lib.hid hL'; have HS' := Lib.hid hS'; have HW' := Lib.hid hW'
          clear hL' hS' hW'
          go_wp2_with fail
          go_roundw
          case rel => exact ⟨j + 1, L', x', nx', by go_num, hlt, HL'.out, HS'.out, HW'.out⟩
          case measure => simp [intOf]; omega
      · have hjn : j = nl := by omega
        have hLN := HS.out.m.len Try.underlying27 3
        clear hjn
        go_wp2_with fail
        refine (len_is HS.out.sk).mono ?_
        rintro e w' ⟨rfl, rfl⟩
        go_wp2_with fail
        refine (rising_is HS.out.sk HL1.out HS.out.m HW.out).mono ?_
        rintro e w4 ⟨rfl, hb⟩
        have HB4 := Lib.hid hb
        clear hb
        go_wp2_with fail
        go_ret
        refine ⟨rfl, ?_⟩
        have h1 := HB3.out.trans (HS.out.keep.below (B := w.heap.size) HB3.out.size (by
          have := HM3.out.lt; have := HB2.out.size
          rintro i (rfl | rfl | rfl) <;> omega))
        exact h1.trans (HB4.out.mono h1.size)
end Go.Proofs.Ytdolmkiiflhehaa.M
end
