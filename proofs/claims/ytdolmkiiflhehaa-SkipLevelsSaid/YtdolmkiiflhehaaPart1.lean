/- SkipLevelsSaid: contracts of the functions that the law goes through, put together in build order (part 2 of 2). -/
import Derived.Test.YtdolmkiiflhehaaPart0
import Derived.Laws.ResultCell
import Derived.Test.YtdolmkiiflhehaaWN
import Derived.Test.YtdolmkiiflhehaaWMore
import Derived.Test.YtdolmkiiflhehaaWLast
section
/- The map's keys; its elements' zero. -/
set_option linter.unusedVariables false
set_option linter.unusedSimpArgs false
set_option maxRecDepth 100000
namespace Go.Proofs.Ytdolmkiiflhehaa.M
open Go.RowKit Go.Maps Go.Proofs.YtdolmkiiflhehaaW.PrintWords
theorem keyS : KeyT Try.prog 29 (mk2 .i32 .i64) (wf2 .i32 .i64) :=
  keyT_struct2 Try.underlying29 Try.underlying21 Try.underlying2 ⟨rfl, rfl⟩ ⟨by rfl, by rfl⟩ (by kernel_rfl) (by kernel_rfl) (by kernel_rfl) (by kernel_rfl) ⟨Try.prog.types.size - 1, by have h : 0 < Try.prog.types.size := of_decide_eq_true (by kernel_rfl); omega⟩
    (keyed_deep laidOut (of_decide_eq_true (by kernel_rfl)) (by kernel_rfl) (by rw [Try.underlying29]))
theorem zeroCell (u : World) : (zeroValue 31).run Try.prog u = .ok (celV ⟨0, 0, 0, 0⟩) u := by kernel_rfl
end Go.Proofs.Ytdolmkiiflhehaa.M
end

section
/- rising. -/
set_option linter.unusedVariables false
set_option linter.unusedSimpArgs false
set_option maxRecDepth 100000
namespace Go.Proofs.Ytdolmkiiflhehaa.M
open Go.RowKit Go.Shelf Go.Maps Go.Proofs.YtdolmkiiflhehaaW.PrintWords
attribute [local go_sem] Oper.semAt_some

abbrev S4 := { x : T4 // wf2 .i32 .i64 x.1 }
theorem lift4 : ∀ l : List T4, (∀ x, x ∈ l → wf2 .i32 .i64 x.1) → ∃ xs : List S4, xs.map (·.1) = l
  | [], _ => ⟨[], rfl⟩
  | x :: l, h => by
    obtain ⟨xs, e⟩ := lift4 l (fun y hy => h y (List.mem_cons_of_mem _ hy))
    exact ⟨⟨x, h x List.mem_cons_self⟩ :: xs, by rw [List.map_cons, e]⟩
/-- What a map has of a store. -/
def mapV (L : List Nd) (k : Int × Int) : Option Value := (getL L k).map celV
def Good (L : List Nd) (pre : List S4) : Prop := (∀ x, x ∈ pre → (getL L x.1.1).map t4 = some x.1) ∧ pre.Pairwise (fun x y => kLt x.1.1 y.1.1 = true)
def lastT (pre : List S4) : T4 := match pre.getLast? with | some x => x.1 | none => ((0, 0), (0, 0))
theorem lastT_snoc (pre : List S4) (x : S4) : lastT (pre ++ [x]) = x.1 := by unfold lastT; simp
theorem good_snoc {L : List Nd} {pre : List S4} {x : S4} (h : Good L pre) (hx : (getL L x.1.1).map t4 = some x.1) (hl : pre = [] ∨ kLt (lastT pre).1 x.1.1 = true) : Good L (pre ++ [x]) := by
  refine ⟨fun y hy => ?_, ?_⟩
  · rcases List.mem_append.1 hy with hy | hy
    · exact h.1 y hy
    · rw [List.mem_singleton.1 hy]; exact hx
  · rw [List.pairwise_append]
    refine ⟨h.2, List.pairwise_singleton _ _, fun a ha b hb => ?_⟩
    rw [List.mem_singleton.1 hb]
    rcases hl with rfl | hl
    · cases ha
    · obtain ⟨q, z, rfl⟩ : ∃ q z, pre = q ++ [z] := ⟨_, _, (List.dropLast_concat_getLast (List.ne_nil_of_mem ha)).symm⟩
      rw [lastT_snoc] at hl
      rcases List.mem_append.1 ha with ha | ha
      · exact kLt_trans ((List.pairwise_append.1 h.2).2.2 a ha z (by simp)) hl
      · rw [List.mem_singleton.1 ha]; exact hl
theorem not_good_map {L : List Nd} {pre : List S4} {x : S4} (hx : (getL L x.1.1).map t4 ≠ some x.1) : ¬ Good L (pre ++ [x]) := fun h => hx (h.1 x (by simp))
theorem not_good_lt {L : List Nd} {pre : List S4} {x : S4} (hn : pre ≠ []) (hl : kLt (lastT pre).1 x.1.1 = false) : ¬ Good L (pre ++ [x]) := fun h => by
  obtain ⟨q, z, rfl⟩ : ∃ q z, pre = q ++ [z] := ⟨_, _, (List.dropLast_concat_getLast hn).symm⟩
  rw [lastT_snoc] at hl
  have := (List.pairwise_append.1 h.2).2.2 z (by simp) x (by simp)
  rw [hl] at this
  cases this
theorem rank_lo {L : List Nd} (hw : ∀ e, e ∈ L → wf2 .i32 .i64 e.c.key) : rank L (-2147483648, -9223372036854775808) = 0 := by
  unfold rank
  cases L with
  | nil => rfl
  | cons e l =>
    have h := hw e List.mem_cons_self
    have h1 : -2147483648 ≤ e.c.key.1 := by have h2 := h.1; simp only [Lit.wf, Bool.and_eq_true, decide_eq_true_eq] at h2; exact h2.1
    have h2 : -9223372036854775808 ≤ e.c.key.2 := by have h2 := h.2; simp only [Lit.wf, Bool.and_eq_true, decide_eq_true_eq] at h2; exact h2.1
    rw [List.takeWhile_cons, if_neg]
    · rfl
    · unfold kLt
      simp only [Bool.or_eq_true, Bool.and_eq_true, decide_eq_true_eq]
      omega
theorem good_all {L : List Nd} (hs : Sorted L) {xs : List S4} (hx : xs.map (·.1) = cellsL L) : Good L xs := by
  refine ⟨fun x hm => ?_, ?_⟩
  · have h1 : x.1 ∈ cellsL L := by rw [← hx]; exact List.mem_map.2 ⟨x, hm, rfl⟩
    obtain ⟨e, he, h2⟩ := List.mem_map.1 h1
    have h3 : getL L x.1.1 = some e.c := (getL_iff hs _ _).2 ⟨e, he, rfl, by rw [← h2]; rfl⟩
    rw [h3, ← h2]
    rfl
  · have h1 : (xs.map (·.1)).Pairwise (fun x y => kLt x.1 y.1 = true) := by
      rw [hx]
      exact List.Pairwise.map _ (fun a b h => h) hs
    exact List.pairwise_map.1 h1
theorem good_prefix {L : List Nd} {xs pre : List S4} (h : Good L xs) (hp : pre <+: xs) : Good L pre := by
  obtain ⟨r, rfl⟩ := hp
  exact ⟨fun x hx => h.1 x (List.mem_append_left _ hx), (List.pairwise_append.1 h.2).1⟩
theorem undef_bool (b : Bool) (h : some undef = some (Value.bool b)) : False := by
  have := Option.some.inj h
  cases this
/-- What the loop over a store's cells holds. -/
structure RiI (B mp : Nat) (L : List Nd) (n0 : Nat) (w5 : World) (pre : List S4) (W : World) : Prop where
  mb : W.heap[B]? = some (.cells #[.map (some mp)] 27)
  rb : W.heap[B + 1]? = some (.cells #[.bool false] 4)
  lb : W.heap[B + 2]? = some (.cells #[.int .i32 (lastT pre).1.1, .int .i64 (lastT pre).1.2, .int .i64 (lastT pre).2.1, .int .i64 (lastT pre).2.2] 31)
  nb : W.heap[B + 3]? = some (.cells #[.int .i64 pre.length] 3)
  m : IsM Try.prog 29 (mk2 .i32 .i64) W mp n0 (mapV L) L.length
  good : Good L pre
theorem own_riI (B mp : Nat) (L : List Nd) (n0 : Nat) (w5 : World) (hmp : mp < w5.heap.size) : OwnFrom w5.heap.size (RiI B mp L n0 w5) := fun s A C row hs hg hr => by
  have hr' : ∀ r, row = some r → ∃ o : Obj, A.heap[r]? = some o ∧ o.isCells = false := fun r e => (hr r e).2
  have hb : ∀ {i : Nat} {cs : Array Value} {t : TypeId}, A.heap[i]? = some (.cells cs t) → C.heap[i]? = some (.cells cs t) := fun {i cs t} h1 => by
    refine (hg.block _ (Array.getElem?_eq_some_iff.1 h1).1 (fun e => ?_)).trans h1
    obtain ⟨o, ho, hn⟩ := hr' _ e.symm
    rw [h1] at ho
    cases ho
    cases hn
  exact ⟨hb hs.mb, hb hs.rb, hb hs.lb, hb hs.nb, hs.m.move (hg.block mp hs.m.lt (fun e => by have := (hr mp e.symm).1; omega)), hs.good⟩
theorem RiI.below {B mp n0 : Nat} {L : List Nd} {w5 : World} {pre : List S4} {W W' : World} (h : RiI B mp L n0 w5 pre W) (hb : Below W.heap.size W W') : RiI B mp L n0 w5 pre W' :=
  ⟨(hb.block _ (Array.getElem?_eq_some_iff.1 h.mb).1).trans h.mb, (hb.block _ (Array.getElem?_eq_some_iff.1 h.rb).1).trans h.rb, (hb.block _ (Array.getElem?_eq_some_iff.1 h.lb).1).trans h.lb, (hb.block _ (Array.getElem?_eq_some_iff.1 h.nb).1).trans h.nb, h.m.below hb, h.good⟩
def set5 (W : World) (B : Nat) (x : S4) (v : Int) : World := ((((W.setCell ⟨B + 1 + 1, 0, none⟩ (.int .i32 x.1.1.1)).setCell ⟨B + 1 + 1, 1, none⟩ (.int .i64 x.1.1.2)).setCell ⟨B + 1 + 1, 2, none⟩ (.int .i64 x.1.2.1)).setCell ⟨B + 1 + 1, 3, none⟩ (.int .i64 x.1.2.2)).setCell ⟨B + 1 + 1 + 1, 0, none⟩ (.int .i64 v)
theorem set5_keep (W : World) (B : Nat) (x : S4) (v : Int) : KeepS (fun i => i = B + 2 ∨ i = B + 3) W (set5 W B x v) :=
  (((((KeepS.refl (fun i => i = B + 2 ∨ i = B + 3) W).set (p := ⟨B + 1 + 1, 0, none⟩) (.inl (.inl rfl)) _).set (p := ⟨B + 1 + 1, 1, none⟩) (.inl (.inl rfl)) _).set (p := ⟨B + 1 + 1, 2, none⟩) (.inl (.inl rfl)) _).set (p := ⟨B + 1 + 1, 3, none⟩) (.inl (.inl rfl)) _).set (p := ⟨B + 1 + 1 + 1, 0, none⟩) (.inl (.inr rfl)) _
theorem set5_others (W : World) (B : Nat) (x : S4) (v : Int) : KeepsOthers W (set5 W B x v) :=
  ((((KeepsOthers.setCell _ _ _).trans (KeepsOthers.setCell _ _ _)).trans (KeepsOthers.setCell _ _ _)).trans (KeepsOthers.setCell _ _ _)).trans (KeepsOthers.setCell _ _ _)
theorem RiI.next {B mp n0 : Nat} {L : List Nd} {w5 : World} {pre : List S4} {W : World} (h : RiI B mp L n0 w5 pre W) {x : S4} (hg : Good L (pre ++ [x])) (hm : mp < B) (v : Int) (hv : v = (pre.length + 1 : Nat)) : RiI B mp L n0 w5 (pre ++ [x]) (set5 W B x v) := by
  have hk := set5_keep W B x v
  have hlt : ∀ {i : Nat} {o : Obj}, W.heap[i]? = some o → i < W.heap.size := fun h => (Array.getElem?_eq_some_iff.1 h).1
  refine ⟨(hk.block B (hlt h.mb) (by omega)).trans h.mb, (hk.block (B + 1) (hlt h.rb) (by omega)).trans h.rb, ?_, ?_, h.m.move (hk.block mp h.m.lt (by omega)), hg⟩
  · have h1 := heap_same (a := ⟨B + 1 + 1, 0, none⟩) (v := .int .i32 x.1.1.1) h.lb rfl
    have h2 := heap_same (a := ⟨B + 1 + 1, 1, none⟩) (v := .int .i64 x.1.1.2) h1 rfl
    have h3 := heap_same (a := ⟨B + 1 + 1, 2, none⟩) (v := .int .i64 x.1.2.1) h2 rfl
    have h4 := heap_same (a := ⟨B + 1 + 1, 3, none⟩) (v := .int .i64 x.1.2.2) h3 rfl
    have h5 := (Below.heap_setCell _ ⟨B + 1 + 1 + 1, 0, none⟩ (.int .i64 v) (B + 2) (by show B + 2 ≠ B + 1 + 1 + 1; omega)).trans h4
    rw [lastT_snoc]
    exact h5
  · unfold set5
    have h6 : ((((W.setCell ⟨B + 1 + 1, 0, none⟩ (.int .i32 x.1.1.1)).setCell ⟨B + 1 + 1, 1, none⟩ (.int .i64 x.1.1.2)).setCell ⟨B + 1 + 1, 2, none⟩ (.int .i64 x.1.2.1)).setCell ⟨B + 1 + 1, 3, none⟩ (.int .i64 x.1.2.2)).heap[B + 1 + 1 + 1]? = some (.cells #[.int .i64 pre.length] 3) := by
      rw [Below.heap_setCell _ _ _ _ (by show B + 1 + 1 + 1 ≠ B + 1 + 1; omega), Below.heap_setCell _ _ _ _ (by show B + 1 + 1 + 1 ≠ B + 1 + 1; omega), Below.heap_setCell _ _ _ _ (by show B + 1 + 1 + 1 ≠ B + 1 + 1; omega), Below.heap_setCell _ _ _ _ (by show B + 1 + 1 + 1 ≠ B + 1 + 1; omega)]
      exact h.nb
    have h7 := heap_same (a := ⟨B + 1 + 1 + 1, 0, none⟩) (v := .int .i64 v) h6 rfl
    rw [List.length_append, List.length_singleton, ← hv]
    exact h7
set_option maxHeartbeats 2000000 in
theorem rising_is {w : World} {s h mp n0 : Nat} {L : List Nd} {x : Int} {nx : Nat → Nat → Option Nat} (H : IsSk w s h L x nx) (hL : L.length ≤ 1048576) (hM : IsM Try.prog 29 (mk2 .i32 .i64) w mp n0 (mapV L) L.length) (hw : ∀ e, e ∈ L → wf2 .i32 .i64 e.c.key) :
    Calls Try.prog 15 #[.pointer (some ⟨s, 0, none⟩), .map (some mp)] w fun e w' => e = .returned (.bool true) ∧ Below w.heap.size w w' := by
  obtain ⟨xs, hxs⟩ := lift4 (cellsL L) (fun y hy => by
    obtain ⟨e, he, rfl⟩ := List.mem_map.1 hy
    exact hw e he)
  have hr := rank_lo hw
  have hlen : xs.length = L.length := by have := congrArg List.length hxs; simpa [cellsL] using this
  have hgood := good_all H.store.sorted hxs
  refine (callsIn_wide (n := 4)).1 ?_
  refine callsIn_of_wp_marks Try.func15 rfl trivial ?_ rfl
  simp only [Try.ntmps15, List.size_toArray, List.length_cons, List.length_nil, Nat.reduceAdd, Nat.reduceSub, Array.replicate_succ, Array.replicate_zero, List.push_toArray, List.append_toArray, List.nil_append, List.cons_append]
  gi_wp2_with fail
  have hB4 : Below w.heap.size w ((((w.alloc (.cells #[.map (some mp)] 27)).alloc (.cells #[.bool false] 4)).alloc (.cells #[.int .i32 0, .int .i64 0, .int .i64 0, .int .i64 0] 31)).alloc (.cells #[.int .i64 0] 3)) := ((((Below.refl _ _).alloc (Nat.le_refl _) _).alloc (by simp) _).alloc (by simp; omega) _).alloc (by simp; omega) _
  have hsz : ((((w.alloc (.cells #[.map (some mp)] 27)).alloc (.cells #[.bool false] 4)).alloc (.cells #[.int .i32 0, .int .i64 0, .int .i64 0, .int .i64 0] 31)).alloc (.cells #[.int .i64 0] 3)).heap.size = w.heap.size + 4 := by simp
  have f0 : ((((w.alloc (.cells #[.map (some mp)] 27)).alloc (.cells #[.bool false] 4)).alloc (.cells #[.int .i32 0, .int .i64 0, .int .i64 0, .int .i64 0] 31)).alloc (.cells #[.int .i64 0] 3)).heap[w.heap.size]? = some (.cells #[.map (some mp)] 27) := by
    rw [Below.heap_alloc _ _ _ (by simp; omega), Below.heap_alloc _ _ _ (by simp; omega), Below.heap_alloc _ _ _ (by simp), heap_alloc_new]
  have f1 : ((((w.alloc (.cells #[.map (some mp)] 27)).alloc (.cells #[.bool false] 4)).alloc (.cells #[.int .i32 0, .int .i64 0, .int .i64 0, .int .i64 0] 31)).alloc (.cells #[.int .i64 0] 3)).heap[w.heap.size + 1]? = some (.cells #[.bool false] 4) := by
    rw [Below.heap_alloc _ _ _ (by simp), Below.heap_alloc _ _ _ (by simp)]
    have := heap_alloc_new (w.alloc (.cells #[.map (some mp)] 27)) (.cells #[.bool false] 4)
    rwa [World.size_alloc] at this
  have f2 : ((((w.alloc (.cells #[.map (some mp)] 27)).alloc (.cells #[.bool false] 4)).alloc (.cells #[.int .i32 0, .int .i64 0, .int .i64 0, .int .i64 0] 31)).alloc (.cells #[.int .i64 0] 3)).heap[w.heap.size + 2]? = some (.cells #[.int .i32 0, .int .i64 0, .int .i64 0, .int .i64 0] 31) := by
    rw [Below.heap_alloc _ _ _ (by simp)]
    have := heap_alloc_new ((w.alloc (.cells #[.map (some mp)] 27)).alloc (.cells #[.bool false] 4)) (.cells #[.int .i32 0, .int .i64 0, .int .i64 0, .int .i64 0] 31)
    rwa [World.size_alloc, World.size_alloc] at this
  have f3 : ((((w.alloc (.cells #[.map (some mp)] 27)).alloc (.cells #[.bool false] 4)).alloc (.cells #[.int .i32 0, .int .i64 0, .int .i64 0, .int .i64 0] 31)).alloc (.cells #[.int .i64 0] 3)).heap[w.heap.size + 3]? = some (.cells #[.int .i64 0] 3) := by
    have := heap_alloc_new (((w.alloc (.cells #[.map (some mp)] 27)).alloc (.cells #[.bool false] 4)).alloc (.cells #[.int .i32 0, .int .i64 0, .int .i64 0, .int .i64 0] 31)) (.cells #[.int .i64 0] 3)
    rwa [World.size_alloc, World.size_alloc, World.size_alloc] at this
  have HF0 := from_is (H.below hB4) hL (-2147483648, -9223372036854775808)
  rw [hr, List.drop_zero] at HF0
  have hM4 := hM.below hB4
  obtain ⟨w3, hw3⟩ : ∃ w3, (((w.alloc (.cells #[.map (some mp)] 27)).alloc (.cells #[.bool false] 4)).alloc (.cells #[.int .i32 0, .int .i64 0, .int .i64 0, .int .i64 0] 31)).alloc (.cells #[.int .i64 0] 3) = w3 := ⟨_, rfl⟩
  rw [hw3] at hB4 hsz f0 f1 f2 f3 HF0 hM4 ⊢
  unfold keyV at HF0
  clear hw3
  refine ⟨trivial, (callsIn_wide.2 HF0).mono ?_⟩
  rintro e w4 ⟨rfl, ⟨A, cc, hcl, hF⟩, hb4⟩
  rw [hsz] at hcl hF ⊢
  have HB := Lib.hid (hB4.trans (hb4.mono hB4.size))
  have hI0 : RiI w.heap.size mp L n0 w4 [] w4 := ⟨(hb4.block _ (by omega)).trans f0, (hb4.block _ (by omega)).trans f1, (hb4.block _ (by omega)).trans f2, (hb4.block _ (by omega)).trans f3, hM4.below hb4, ⟨fun _ h => (by cases h), List.Pairwise.nil⟩⟩
  have hF' : Kd.F cellK w4 (fun i => w.heap.size + 4 ≤ i ∧ i < w4.heap.size) A (xs.map (·.1)).length (xs.map (·.1)) := by rw [hxs]; exact hF
  have hcl' : w4.cell? ⟨w.heap.size + 4 + 1, 0, none⟩ = some (.slice A xs.length cc) := by rw [← hxs, List.length_map] at hcl; exact hcl
  have hmp : mp < w.heap.size := hM.lt
  have HXL := Lib.hid (show xs.length ≤ 1048576 by omega)
  have HLN := Lib.hid hlen
  have hs4 : w.heap.size + 4 ≤ w4.heap.size := by have := hb4.size; omega
  clear HF0 f0 f1 f2 f3 hM4 hB4 hb4 hF hcl H hM hw hsz hlen hr
  gi_wp2_with fail
  have hlt4 : w.heap.size + 4 + 1 < w4.heap.size := World.block_lt_of_cell? _ _ hcl'
  refine wpIn_rangeFunc_ownH (w := w4) rfl (by omega) (gf := 44) (lb := #[.pointer (some ⟨w.heap.size + 4 + 1, 0, none⟩)]) rfl trivial (enters_of Try.func44 (by kernel_rfl) rfl)
    (from1_stopsF (fun x : S4 => x.1) Fence.wide (4 - 1) trivial rfl (by omega) (w.heap.size + 4 + 1) (fun i => w.heap.size + 4 ≤ i ∧ i < w4.heap.size) ⟨by omega, hlt4⟩ A cc xs w4 (fun i hi => hi.2) hcl' hF') (fun h k => h.trans k) (keepT_b (fun i hi => hi.2)) (Below.refl _ _) (fun _ => rfl)
    (fun pre W => RiI w.heap.size mp L n0 w4 pre W ∧ KeepS (fun i => i = w.heap.size + 2 ∨ i = w.heap.size + 3) w4 W)
    (fun c pre W => ¬ Good L pre)
    (OwnFrom.and (own_riI _ _ _ _ _ (by omega)) (ownFrom_keepS _ _))
    (fun c _ _ _ _ hs _ _ => hs)
    ⟨hI0, KeepS.refl _ _⟩
    (fun x a' W => ∃ q, w4.heap.size ≤ q ∧ a' = { tmps := #[.pointer (some ⟨s, 0, none⟩), .map (some mp), undef, .pointer (some ⟨w.heap.size, 0, none⟩), .pointer (some ⟨w.heap.size + 1, 0, none⟩), .pointer (some ⟨w.heap.size + 1 + 1, 0, none⟩), .pointer (some ⟨w.heap.size + 1 + 1 + 1, 0, none⟩), .pointer (some ⟨q, 0, none⟩), undef, undef, .pointer (some ⟨s, 0, none⟩), .agg #[.int .i32 (-2147483648), .int .i64 (-9223372036854775808)], .func (.func 44) #[] #[.pointer (some ⟨w.heap.size + 4 + 1, 0, none⟩)], t4V x.1, undef, undef, undef, undef, undef, undef, undef, undef, undef, undef, undef, undef, undef, undef, undef, undef, undef, undef, undef, undef, undef, undef, undef, undef, undef, undef, undef, undef, undef, undef, undef, undef, undef], defers := [] } ∧ W.cell? ⟨q, 0, none⟩ = some (.int .i32 x.1.1.1) ∧ W.cell? ⟨q, 1, none⟩ = some (.int .i64 x.1.1.2) ∧ W.cell? ⟨q, 2, none⟩ = some (.int .i64 x.1.2.1) ∧ W.cell? ⟨q, 3, none⟩ = some (.int .i64 x.1.2.2))
    (fun x a' => Own.from (fun _ A B row hs hg hr => by obtain ⟨q, h0, h1, h2, h3, h4, h5⟩ := hs; exact ⟨q, h0, h1, cell_kept h2 hg hr, cell_kept h3 hg hr, cell_kept h4 hg hr, cell_kept h5 hg hr⟩) _) ?assign ?body ?done ?stop
  case assign =>
    rintro l pre x W K ⟨hi, hk⟩ hK
    dsimp only [encC]
    gi_wp2
    have hbW : Below W.heap.size W (W.alloc (.cells #[.int .i32 x.1.1.1, .int .i64 x.1.1.2, .int .i64 x.1.2.1, .int .i64 x.1.2.2] 31)) := (Below.refl _ W).alloc (Nat.le_refl _) _
    exact hK _ _ (below_from hbW) (KeepT.of_below hbW) ⟨hi.below hbW, hk.alloc _⟩ ⟨W.heap.size, hk.size, rfl, Joins.cell_alloc_mark_at W #[.int .i32 x.1.1.1, .int .i64 x.1.1.2, .int .i64 x.1.2.1, .int .i64 x.1.2.2] 31 (0, 0) W.heap.size 0 rfl, Joins.cell_alloc_mark_at W #[.int .i32 x.1.1.1, .int .i64 x.1.1.2, .int .i64 x.1.2.1, .int .i64 x.1.2.2] 31 (0, 0) W.heap.size 1 rfl, Joins.cell_alloc_mark_at W #[.int .i32 x.1.1.1, .int .i64 x.1.1.2, .int .i64 x.1.2.1, .int .i64 x.1.2.2] 31 (0, 0) W.heap.size 2 rfl, Joins.cell_alloc_mark_at W #[.int .i32 x.1.1.1, .int .i64 x.1.1.2, .int .i64 x.1.2.1, .int .i64 x.1.2.2] 31 (0, 0) W.heap.size 3 rfl⟩
  case body =>
    rintro l pre x W0 W hl ⟨rr, hrr⟩ ⟨hI, hK⟩ ⟨q, hq, rfl, c0, c1, c2, c3⟩ hpl
    have HI := Lib.hid hI; have HK := Lib.hid hK; have HQ := Lib.hid hq
    have m0 : W.cell? ⟨w.heap.size, 0, none⟩ = some (.map (some mp)) := by simp [World.cell?, hI.mb]
    have r0 : W.cell? ⟨w.heap.size + 1, 0, none⟩ = some (.bool false) := by simp [World.cell?, hI.rb]
    have r1 : W.frozen? ⟨w.heap.size + 1, 0, none⟩ = false := by simp [World.frozen?, hI.rb]
    have l0 : W.cell? ⟨w.heap.size + 1 + 1, 0, none⟩ = some (.int .i32 (lastT pre).1.1) := by simp [World.cell?, hI.lb]
    have l1 : W.cell? ⟨w.heap.size + 1 + 1, 1, none⟩ = some (.int .i64 (lastT pre).1.2) := by simp [World.cell?, hI.lb]
    have l2 : W.cell? ⟨w.heap.size + 1 + 1, 2, none⟩ = some (.int .i64 (lastT pre).2.1) := by simp [World.cell?, hI.lb]
    have l3 : W.cell? ⟨w.heap.size + 1 + 1, 3, none⟩ = some (.int .i64 (lastT pre).2.2) := by simp [World.cell?, hI.lb]
    have nn : W.cell? ⟨w.heap.size + 1 + 1 + 1, 0, none⟩ = some (.int .i64 pre.length) := by simp [World.cell?, hI.nb]
    have fl0 : W.frozen? ⟨w.heap.size + 1 + 1, 0, none⟩ = false := by simp [World.frozen?, hI.lb]
    have fl1 : W.frozen? ⟨w.heap.size + 1 + 1, 1, none⟩ = false := by simp [World.frozen?, hI.lb]
    have fl2 : W.frozen? ⟨w.heap.size + 1 + 1, 2, none⟩ = false := by simp [World.frozen?, hI.lb]
    have fl3 : W.frozen? ⟨w.heap.size + 1 + 1, 3, none⟩ = false := by simp [World.frozen?, hI.lb]
    have fnn : W.frozen? ⟨w.heap.size + 1 + 1 + 1, 0, none⟩ = false := by simp [World.frozen?, hI.nb]
    have HLK := hI.m.get_ok keyS Try.underlying27 zeroCell x.2
    simp only [mk2] at HLK
    have HXL2 := Lib.hid hpl
    have hz : w.heap.size + 4 ≤ W.heap.size := Nat.le_trans hs4 HK.out.size
    have z0 : w.heap.size < W.heap.size := by omega
    have z1 : w.heap.size + 1 < W.heap.size := by omega
    have z2 : w.heap.size + 1 + 1 < W.heap.size := by omega
    have z3 : w.heap.size + 1 + 1 + 1 < W.heap.size := by omega
    have zq : q < W.heap.size := World.block_lt_of_cell? _ _ c0
    clear hI hK hq hrr hl hpl
    unfold t4V
    cases hg : getL L x.1.1 with
    | none =>
      have HBAD := Lib.hid (not_good_map (L := L) (pre := pre) (x := x) (by rw [hg]; intro e; cases e))
      rw [show mapV L x.1.1 = none by unfold mapV; rw [hg]; rfl] at HLK
      simp only [Option.getD_none, Option.isSome_none, celV] at HLK
      clear hg
      gi_wp2_with fail
      all_goals (try exact (undef_bool _ (by assumption)).elim)
      all_goals (repeat (refine ⟨trivial, ?_⟩; gi_wp2_with fail; all_goals (try exact (undef_bool _ (by assumption)).elim)))
      all_goals exact ⟨((KeepsOthers.setCell _ _ _).from _).trans (below_from ((Below.refl _ _).alloc (Nat.le_refl _) _)), HBAD.out⟩
    | some c =>
      rw [show mapV L x.1.1 = some (celV c) by unfold mapV; rw [hg]; rfl] at HLK
      simp only [Option.getD_some, Option.isSome_some, celV] at HLK
      by_cases hc : t4 c = x.1
      · have hq : ∀ W : World, (Op.equalIn 10000 31 (.agg #[.int .i32 x.1.1.1, .int .i64 x.1.1.2, .int .i64 x.1.2.1, .int .i64 x.1.2.2]) (.agg #[.int .i32 c.table, .int .i64 c.row, .int .i64 c.value, .int .i64 c.slot])).run Try.prog W = .ok true W := fun W => by
          rw [← hc]; exact eqc_self c W
        have HM := Lib.hid (show (getL L x.1.1).map t4 = some x.1 by rw [hg, ← hc]; rfl)
        clear hc hg
        by_cases h0 : pre = []
        · obtain ⟨zl, hzl⟩ : ∃ zl : Int, (pre.length : Int) = zl := ⟨_, rfl⟩
          have hneg : decide ((0 : Int) < zl) = false := decide_eq_false (by rw [← hzl, h0]; simp)
          have HZL := Lib.hid hzl
          have HGD := Lib.hid (good_snoc HI.out.good HM.out (.inl h0))
          have HL1 := Lib.hid (show IntKind.i64.wrap (zl + 1) = ((pre.length + 1 : Nat) : Int) by rw [← hzl, h0]; rfl)
          rw [hzl] at nn
          clear hzl h0
          gi_wp2_with fail
          all_goals (try exact (undef_bool _ (by assumption)).elim)
          all_goals (repeat (refine ⟨trivial, ?_⟩; gi_wp2_with fail; all_goals (try exact (undef_bool _ (by assumption)).elim)))
          exact ⟨((set5_others _ _ _ _).from _).trans (below_from ((Below.refl _ _).alloc (Nat.le_refl _) _)), fun i hi hl => (Below.heap_alloc _ _ _ (by simpa [set5, World.setCell] using hl)).trans ((set5_keep W w.heap.size x _).block i hl (by omega)), ⟨(HI.out.next HGD.out hmp _ ((wrapE _).symm.trans HL1.out)).below ((Below.refl _ _).alloc (Nat.le_refl _) _), ((HK.out).trans (set5_keep _ _ _ _)).alloc _⟩⟩
        · obtain ⟨zl, hzl⟩ : ∃ zl : Int, (pre.length : Int) = zl := ⟨_, rfl⟩
          have hpos : decide ((0 : Int) < zl) = true := decide_eq_true (by have := List.length_pos_iff.2 h0; omega)
          have HZL := Lib.hid hzl
          have HNE := Lib.hid h0
          rw [hzl] at nn
          clear hzl h0
          gi_wp2_with fail
          all_goals (try exact (undef_bool _ (by assumption)).elim)
          refine ⟨trivial, ((callsIn_wide.2 (less_is (lastT pre).1 x.1.1 _)).inRound l).mono ?_⟩
          rintro e W2 ⟨rfl, hb⟩
          have hB2 : Below W.heap.size W W2 := ((Below.refl _ W).alloc (Nat.le_refl _) _).trans (hb.mono (by simp))
          have HB2 := Lib.hid hB2
          have HI2 := Lib.hid (HI.out.below hB2)
          have HK2 := Lib.hid (HK.out.then_below hB2)
          have e0 := (hB2.cell (p := ⟨q, 0, none⟩) zq).trans c0
          have e1 := (hB2.cell (p := ⟨q, 1, none⟩) zq).trans c1
          have e2 := (hB2.cell (p := ⟨q, 2, none⟩) zq).trans c2
          have e3 := (hB2.cell (p := ⟨q, 3, none⟩) zq).trans c3
          have g0 := (hB2.cell (p := ⟨w.heap.size + 1, 0, none⟩) z1).trans r0
          have g1 := (hB2.frozen (p := ⟨w.heap.size + 1, 0, none⟩) z1).trans r1
          have i0 := (hB2.cell (p := ⟨w.heap.size + 1 + 1, 0, none⟩) z2).trans l0
          have i1 := (hB2.cell (p := ⟨w.heap.size + 1 + 1, 1, none⟩) z2).trans l1
          have i2 := (hB2.cell (p := ⟨w.heap.size + 1 + 1, 2, none⟩) z2).trans l2
          have i3 := (hB2.cell (p := ⟨w.heap.size + 1 + 1, 3, none⟩) z2).trans l3
          have j0 := (hB2.frozen (p := ⟨w.heap.size + 1 + 1, 0, none⟩) z2).trans fl0
          have j1 := (hB2.frozen (p := ⟨w.heap.size + 1 + 1, 1, none⟩) z2).trans fl1
          have j2 := (hB2.frozen (p := ⟨w.heap.size + 1 + 1, 2, none⟩) z2).trans fl2
          have j3 := (hB2.frozen (p := ⟨w.heap.size + 1 + 1, 3, none⟩) z2).trans fl3
          have k0 := (hB2.cell (p := ⟨w.heap.size + 1 + 1 + 1, 0, none⟩) z3).trans nn
          have k1 := (hB2.frozen (p := ⟨w.heap.size + 1 + 1 + 1, 0, none⟩) z3).trans fnn
          clear c0 c1 c2 c3 r0 r1 l0 l1 l2 l3 fl0 fl1 fl2 fl3 nn fnn m0 hb hB2 z0 z1 z2 z3 zq HLK
          obtain ⟨kb, hkb⟩ : ∃ kb, kLt (lastT pre).1 x.1.1 = kb := ⟨_, rfl⟩
          rw [hkb]
          cases kb with
          | true =>
            have HGD := Lib.hid (good_snoc HI2.out.good HM.out (.inr hkb))
            have HL1 := Lib.hid (show IntKind.i64.wrap (zl + 1) = ((pre.length + 1 : Nat) : Int) by rw [← HZL.out, IntKind.wrap_i64]; have := HXL.out; have := HXL2.out; omega)
            clear hkb
            gi_wp2_with fail
            exact ⟨(below_from HB2.out).trans ((set5_others _ _ _ _).from _), fun i hi hl => ((set5_keep W2 w.heap.size x _).block i (Nat.lt_of_lt_of_le hl HB2.out.size) (by omega)).trans (HB2.out.block i hl), ⟨HI2.out.next HGD.out hmp _ ((wrapE _).symm.trans HL1.out), HK2.out.trans (set5_keep _ _ _ _)⟩⟩
          | false =>
            have HBAD := Lib.hid (not_good_lt (L := L) (pre := pre) (x := x) HNE.out hkb)
            clear hkb
            gi_wp2_with fail
            exact ⟨(below_from HB2.out).trans ((KeepsOthers.setCell _ _ _).from _), HBAD.out⟩
      · have hq : ∀ W : World, (Op.equalIn 10000 31 (.agg #[.int .i32 x.1.1.1, .int .i64 x.1.1.2, .int .i64 x.1.2.1, .int .i64 x.1.2.2]) (.agg #[.int .i32 c.table, .int .i64 c.row, .int .i64 c.value, .int .i64 c.slot])).run Try.prog W = .ok false W := fun W =>
          eqc_ne (a := ⟨x.1.1.1, x.1.1.2, x.1.2.1, x.1.2.2⟩) (b := c) (fun e => hc (by rw [← e]; rfl)) W
        have HBAD := Lib.hid (not_good_map (L := L) (pre := pre) (x := x) (by rw [hg]; intro e; exact hc (Option.some.inj e)))
        clear hc hg
        gi_wp2_with fail
        all_goals (try exact (undef_bool _ (by assumption)).elim)
        all_goals (repeat (refine ⟨trivial, ?_⟩; gi_wp2_with fail; all_goals (try exact (undef_bool _ (by assumption)).elim)))
        all_goals exact ⟨((KeepsOthers.setCell _ _ _).from _).trans (below_from ((Below.refl _ _).alloc (Nat.le_refl _) _)), HBAD.out⟩
  case done =>
    rintro D ys W hD hys ⟨hI, hK⟩ hKD
    have HK := Lib.hid hK
    have m0 : W.cell? ⟨w.heap.size, 0, none⟩ = some (.map (some mp)) := by simp [World.cell?, hI.mb]
    have r0 : W.cell? ⟨w.heap.size + 1, 0, none⟩ = some (.bool false) := by simp [World.cell?, hI.rb]
    have r1 : W.frozen? ⟨w.heap.size + 1, 0, none⟩ = false := by simp [World.frozen?, hI.rb]
    have nn : W.cell? ⟨w.heap.size + 1 + 1 + 1, 0, none⟩ = some (.int .i64 L.length) := by
      have h1 : ys.length = L.length := by rw [hys]; exact HLN.out
      rw [← h1]; simp [World.cell?, hI.nb]
    have hlen := hI.m.len Try.underlying27 3
    clear hI hK
    gi_wp2
    have hK' := (KeepsOthers.setCell W ⟨w.heap.size + 1, 0, none⟩ (.bool true)).same D _ hKD rfl
    refine ⟨by simp, .inl ⟨_, _, rfl, run_takeDeferred hK', ?_⟩⟩
    have hc5 := cell_kept (World.cell?_setCell_same' W ⟨w.heap.size + 1, 0, none⟩ (.bool true) (by rw [r0]; rfl)) (grownBy_putObj' _ D (.deferred none)) (fun r e => by cases e; exact ⟨_, hK', rfl⟩)
    refine ⟨.bool true, ?_, rfl, ?_⟩
    · simp [results, Try.f15, go_sem, hc5]
    · have h2 := HB.out.trans (HK.out.below (B := w.heap.size) HB.out.size (by rintro i (rfl | rfl) <;> omega))
      exact (h2.setCell (p := ⟨w.heap.size + 1, 0, none⟩) (by show w.heap.size ≤ w.heap.size + 1; omega) _).trans (belowK_b (w := w) (Nat.le_refl _) _ D _ (.deferred none) (by have := HB.out.size; omega) hK' rfl rfl)
  case stop =>
    rintro D c pre W hD hp hbad hKD
    exact absurd (good_prefix hgood hp) hbad
end Go.Proofs.Ytdolmkiiflhehaa.M
end

section
/- An operation of a script, read. -/
set_option linter.unusedVariables false
set_option linter.unusedSimpArgs false
set_option maxRecDepth 100000
namespace Go.Proofs.Ytdolmkiiflhehaa.M
open Go.RowKit Go.Proofs.YtdolmkiiflhehaaW.PrintWords

structure OpD where
  Do : Int
  c : CellD
  tk : Int × Int
  seed : Int
  stop : Int
def keyK2 : Kd (Int × Int) := Kd.iso (Kd.pair (Kd.int .i32) (Kd.int .i64)) (fun x => x)
def celK2 : Kd CellD := Kd.iso (Kd.pair keyK2 (Kd.pair (Kd.int .i64) (Kd.int .i64))) (fun c => (c.key, c.value, c.slot))
def opT : Kd (Int × CellD × (Int × Int) × Int × Int) := Kd.pair (Kd.int .i64) (Kd.pair celK2 (Kd.pair keyK2 (Kd.pair (Kd.int .u64) (Kd.int .i64))))
def OpD.t (o : OpD) : Int × CellD × (Int × Int) × Int × Int := (o.Do, o.c, o.tk, o.seed, o.stop)
def opK : Kd OpD := Kd.iso opT OpD.t
abbrev I64 (x : Int) : Prop := (Lit.int .i64 x).wf = true
abbrev I32 (x : Int) : Prop := (Lit.int .i32 x).wf = true
abbrev U64 (x : Int) : Prop := (Lit.int .u64 x).wf = true
def okKey (k : Int × Int) : Prop := I32 k.1 ∧ I64 k.2
def okCel (c : CellD) : Prop := okKey c.key ∧ I64 c.value ∧ I64 c.slot
def okOp (o : OpD) : Prop := I64 o.Do ∧ okCel o.c ∧ okKey o.tk ∧ U64 o.seed ∧ I64 o.stop
theorem opens_i64 : Opens Try.prog 3 (Kd.int .i64) I64 (fun _ => 1) := opens_int Try.underlying3 (by kernel_rfl)
theorem opens_j64 : Opens Try.prog 2 (Kd.int .i64) I64 (fun _ => 1) := opens_int Try.underlying2 (by kernel_rfl)
theorem opens_i32 : Opens Try.prog 21 (Kd.int .i32) I32 (fun _ => 1) := opens_int Try.underlying21 (by kernel_rfl)
theorem opens_u64 : Opens Try.prog 22 (Kd.int .u64) U64 (fun _ => 1) := opens_int Try.underlying22 (by kernel_rfl)
theorem opens_key : Opens Try.prog 29 keyK2 okKey (fun _ => 1 + 1 + 1) := by
  have h := opens_struct (d := Kd.pair (Kd.int .i32) (Kd.int .i64)) (fun x => x) (fun x => (x.1, x.2)) (fun _ => rfl) Try.underlying29 (by kernel_rfl) (opensL_cons rfl opens_i32 (opensL_one rfl opens_j64))
  exact h
theorem opens_cel : Opens Try.prog 31 celK2 okCel (fun _ => (1 + 1 + 1) + (1 + 1) + 1) := by
  have h := opens_struct (d := Kd.pair keyK2 (Kd.pair (Kd.int .i64) (Kd.int .i64))) (fun c : CellD => (c.key, c.value, c.slot)) (fun x => ⟨x.1.1, x.1.2, x.2.1, x.2.2⟩) (fun _ => rfl) Try.underlying31 (by kernel_rfl) (opensL_cons rfl opens_key (opensL_cons rfl opens_j64 (opensL_one rfl opens_j64)))
  exact h
theorem opens_op : Opens Try.prog 33 opK okOp (fun _ => 1 + (((1 + 1 + 1) + (1 + 1) + 1) + ((1 + 1 + 1) + (1 + 1))) + 1) := by
  have h := opens_struct (d := opT) OpD.t (fun x => ⟨x.1, x.2.1, x.2.2.1, x.2.2.2.1, x.2.2.2.2⟩) (fun _ => rfl) Try.underlying33 (by kernel_rfl)
    (opensL_cons rfl opens_i64 (opensL_cons rfl opens_cel (opensL_cons rfl opens_key (opensL_cons rfl opens_u64 (opensL_one rfl opens_i64)))))
  exact h
theorem opens_ops : Opens Try.prog 23 (Kd.slice 33 opK) (fun l => l.length ≤ 9223372036854775807 ∧ ∀ x ∈ l, okOp x) (szL (fun _ => 1 + (((1 + 1 + 1) + (1 + 1) + 1) + ((1 + 1 + 1) + (1 + 1))) + 1)) := opens_slice Try.underlying23 (by kernel_rfl) opens_op
def zOp : OpD := ⟨0, ⟨0, 0, 0, 0⟩, (0, 0), 0, 0⟩
theorem op_cells {W : World} {o : OpD} {c : List Value} (h : opK.K W o c) : c = [.int .i64 o.Do, .int .i32 o.c.table, .int .i64 o.c.row, .int .i64 o.c.value, .int .i64 o.c.slot, .int .i32 o.tk.1, .int .i64 o.tk.2, .int .u64 o.seed, .int .i64 o.stop] := by
  obtain ⟨c0, d0, rfl, rfl, c1, d1, rfl, ⟨a0, b0, rfl, ⟨p0, q0, rfl, rfl, rfl⟩, ⟨p1, q1, rfl, rfl, rfl⟩⟩, c2, d2, rfl, ⟨p2, q2, rfl, rfl, rfl⟩, c3, d3, rfl, rfl, rfl⟩ := h
  rfl
theorem key_cells {W : World} {o : Int × Int} {c : List Value} (h : keyK2.K W o c) : c = [.int .i32 o.1, .int .i64 o.2] := by
  obtain ⟨c0, d0, rfl, rfl, rfl⟩ := h
  rfl
/-- The k-th operation of a script. -/
theorem op_get {W : World} {ok : Nat → Prop} {A : Option Addr} {n : Nat} {l : List OpD} (h : Kd.F opK W ok A n l) {k : Nat} {o : OpD} (hk : l[k]? = some o) :
    ∃ ad, A = some ad ∧ W.cell? (ad.add (k * 9)) = some (.int .i64 o.Do) ∧ W.cell? ⟨(ad.add (k * 9)).block, (ad.add (k * 9)).off + 1, none⟩ = some (.int .i32 o.c.table) ∧ W.cell? ⟨(ad.add (k * 9)).block, (ad.add (k * 9)).off + 2, none⟩ = some (.int .i64 o.c.row) ∧ W.cell? ⟨(ad.add (k * 9)).block, (ad.add (k * 9)).off + 3, none⟩ = some (.int .i64 o.c.value) ∧ W.cell? ⟨(ad.add (k * 9)).block, (ad.add (k * 9)).off + 4, none⟩ = some (.int .i64 o.c.slot) ∧ W.cell? ⟨(ad.add (k * 9)).block, (ad.add (k * 9)).off + 5, none⟩ = some (.int .i32 o.tk.1) ∧ W.cell? ⟨(ad.add (k * 9)).block, (ad.add (k * 9)).off + 6, none⟩ = some (.int .i64 o.tk.2) ∧ W.cell? ⟨(ad.add (k * 9)).block, (ad.add (k * 9)).off + 7, none⟩ = some (.int .u64 o.seed) ∧ W.cell? ⟨(ad.add (k * 9)).block, (ad.add (k * 9)).off + 8, none⟩ = some (.int .i64 o.stop) := by
  have hlt : k < n := by
    have := (List.getElem?_eq_some_iff.1 hk).1
    have := Kd.F_len h
    omega
  obtain ⟨ad, c, rfl, hcl, hK, hcc, _⟩ := Kd.F_get h zOp (k : Int) (by omega) (by omega)
  have e : l.getD (k : Int).toNat zOp = o := by rw [Int.toNat_natCast, List.getD_eq_getElem?_getD, hk]; rfl
  rw [e] at hK
  rw [Int.toNat_natCast] at hcc
  obtain rfl := op_cells (Foot.now hK)
  have hs : opK.sz = 9 := rfl
  rw [hs] at hcc
  refine ⟨ad, rfl, by simpa using hcc 0 _ rfl, ?_, ?_, ?_, ?_, ?_, ?_, ?_, ?_⟩
  · rw [← add_field ad (k * 9) 1 (by omega)]; exact hcc 1 _ rfl
  · rw [← add_field ad (k * 9) 2 (by omega)]; exact hcc 2 _ rfl
  · rw [← add_field ad (k * 9) 3 (by omega)]; exact hcc 3 _ rfl
  · rw [← add_field ad (k * 9) 4 (by omega)]; exact hcc 4 _ rfl
  · rw [← add_field ad (k * 9) 5 (by omega)]; exact hcc 5 _ rfl
  · rw [← add_field ad (k * 9) 6 (by omega)]; exact hcc 6 _ rfl
  · rw [← add_field ad (k * 9) 7 (by omega)]; exact hcc 7 _ rfl
  · rw [← add_field ad (k * 9) 8 (by omega)]; exact hcc 8 _ rfl
end Go.Proofs.Ytdolmkiiflhehaa.M
end

section
/- SkipMap: the walk (under way). -/
set_option linter.unusedVariables false
set_option linter.unusedSimpArgs false
set_option maxRecDepth 100000
namespace Go.Proofs.Ytdolmkiiflhehaa.M
open Go.RowKit Go.Maps Go.Proofs.YtdolmkiiflhehaaW.PrintWords Go.Proofs.YtdolmkiiflhehaaW.PrintMore Go.Proofs.YtdolmkiiflhehaaW.PrintLast

/-- A store and a map in memory; M is what the map has, sz how many keys it has. -/
structure MSt (s h mp n : Nat) (w3 wr : World) (L : List Nd) (x : Int) (nx : Nat → Nat → Option Nat) (M : Int × Int → Option Value) (sz : Nat) : Prop where
  sk : IsSk wr s h L x nx
  m : IsM Try.prog 29 (mk2 .i32 .i64) wr mp n M sz
  own : ∀ i, IsSk.Own s h L i → i = s ∨ i = h ∨ w3.heap.size ≤ i
  keep : KeepS (fun i => i = s ∨ i = h ∨ i = mp) w3 wr
  ne : mp ≠ s ∧ mp ≠ h ∧ mp < w3.heap.size
namespace MSt
variable {s h mp n : Nat} {w3 wr w' : World} {L L' : List Nd} {x x' : Int} {nx nx' : Nat → Nat → Option Nat} {M M' : Int × Int → Option Value} {sz sz' : Nat}
theorem notOwn (H : MSt s h mp n w3 wr L x nx M sz) : ¬ IsSk.Own s h L mp := fun ho => by
  rcases H.own mp ho with r | r | r
  · exact H.ne.1 r
  · exact H.ne.2.1 r
  · have := H.ne.2.2; omega
theorem below (H : MSt s h mp n w3 wr L x nx M sz) (hb : Below wr.heap.size wr w') : MSt s h mp n w3 w' L x nx M sz :=
  ⟨H.sk.below hb, H.m.below hb, H.own, H.keep.then_below hb, H.ne⟩
theorem turn (H : MSt s h mp n w3 wr L x nx M sz) (h1 : IsSk w' s h L' x' nx') (h2 : KeepS (IsSk.Own s h L) wr w') (h3 : ∀ i, IsSk.Own s h L' i → IsSk.Own s h L i ∨ wr.heap.size ≤ i) : MSt s h mp n w3 w' L' x' nx' M sz :=
  ⟨h1, H.m.move (h2.block mp H.m.lt H.notOwn), fun i hi => by
    rcases h3 i hi with r | r
    · exact H.own i r
    · have := H.keep.size; exact .inr (.inr (by omega)),
   ⟨h2.os.trans H.keep.os, h2.tape.trans H.keep.tape, h2.output.trans H.keep.output, Nat.le_trans H.keep.size h2.size, fun i hi hn => (h2.block i (Nat.lt_of_lt_of_le hi H.keep.size) (fun ho => by
      rcases H.own i ho with r | r | r
      · exact hn (.inl r)
      · exact hn (.inr (.inl r))
      · omega)).trans (H.keep.block i hi hn)⟩, H.ne⟩
theorem put (H : MSt s h mp n w3 wr L x nx M sz) {n' : Nat} (h1 : IsM Try.prog 29 (mk2 .i32 .i64) w' mp n' M' sz') (h2 : wr.grownBy w' (some mp)) : MSt s h mp n' w3 w' L x nx M' sz' :=
  ⟨H.sk.move fun i hi => h2.block i (H.sk.own_lt hi) (fun e => by cases e; exact H.notOwn hi), h1, H.own, H.keep.trans (KeepS.of_grown h2 (fun i e => by cases e; exact .inr (.inr rfl))), H.ne⟩
end MSt
/-- An operation in a box. -/
def OpBox (W : World) (b : Nat) (o : OpD) : Prop := W.heap[b]? = some (.cells #[.int .i64 o.Do, .int .i32 o.c.table, .int .i64 o.c.row, .int .i64 o.c.value, .int .i64 o.c.slot, .int .i32 o.tk.1, .int .i64 o.tk.2, .int .u64 o.seed, .int .i64 o.stop] 33)
theorem OpBox.cell {W : World} {b : Nat} {o : OpD} (h : OpBox W b o) : W.cell? ⟨b, 0, none⟩ = some (.int .i64 o.Do) ∧ W.cell? ⟨b, 1, none⟩ = some (.int .i32 o.c.table) ∧ W.cell? ⟨b, 2, none⟩ = some (.int .i64 o.c.row) ∧ W.cell? ⟨b, 3, none⟩ = some (.int .i64 o.c.value) ∧ W.cell? ⟨b, 4, none⟩ = some (.int .i64 o.c.slot) ∧ W.cell? ⟨b, 5, none⟩ = some (.int .i32 o.tk.1) ∧ W.cell? ⟨b, 6, none⟩ = some (.int .i64 o.tk.2) ∧ W.cell? ⟨b, 7, none⟩ = some (.int .u64 o.seed) ∧ W.cell? ⟨b, 8, none⟩ = some (.int .i64 o.stop) := by
  unfold OpBox at h
  simp [World.cell?, h]
theorem OpBox.lt {W : World} {b : Nat} {o : OpD} (h : OpBox W b o) : b < W.heap.size := (Array.getElem?_eq_some_iff.1 h).1
theorem OpBox.move {W W' : World} {b : Nat} {o : OpD} (h : OpBox W b o) (hb : W'.heap[b]? = W.heap[b]?) : OpBox W' b o := hb.trans h
theorem OpBox.below {W W' : World} {b : Nat} {o : OpD} (h : OpBox W b o) (hb : Below W.heap.size W W') : OpBox W' b o := h.move (hb.block b h.lt)
/-- Where the main loop stands: j operations are done; s the store, mp the map. -/
def MapL (s h mp n : Nat) (w3 : World) (i : Value) (wr : World) : Prop :=
  ∃ (j : Nat) (L : List Nd) (x : Int) (nx : Nat → Nat → Option Nat), i = .int .i64 j ∧ j ≤ n ∧ L.length ≤ j ∧ MSt s h mp j w3 wr L x nx (mapV L) L.length ∧ (∀ e, e ∈ L → wf2 .i32 .i64 e.c.key)
/-- Behind the put. -/
def MapC (s h mp j : Nat) (w3 : World) (ob : Nat) (o : OpD) (wx : World) : Prop :=
  ∃ (L : List Nd) (x : Int) (nx : Nat → Nat → Option Nat), L.length ≤ j + 1 ∧ MSt s h mp (j + 1) w3 wx L x nx (mapV L) L.length ∧ (∀ e, e ∈ L → wf2 .i32 .i64 e.c.key) ∧ OpBox wx ob o ∧ ¬ IsSk.Own s h L ob ∧ ob ≠ mp
theorem mapV_put {L L' : List Nd} {c : CellD} (h : ∀ k, getL L' k = if k = c.key then some c else getL L k) : mapV L' = fun y => if y = c.key then some (celV c) else mapV L y := by
  funext y
  unfold mapV
  rw [h y]
  split <;> rfl
theorem mapV_del {L L' : List Nd} {k : Int × Int} (h : ∀ q, getL L' q = if q = k then none else getL L q) : mapV L' = fun y => if y = k then none else mapV L y := by
  funext y
  unfold mapV
  rw [h y]
  split <;> rfl
theorem mapV_some (L : List Nd) (k : Int × Int) : (mapV L k).isSome = (getL L k).isSome := by unfold mapV; cases getL L k <;> rfl
theorem wf_put {L L' : List Nd} {c : CellD} (hs : Sorted L) (hs' : Sorted L') (h : ∀ k, getL L' k = if k = c.key then some c else getL L k) (hc : wf2 .i32 .i64 c.key) (hw : ∀ e, e ∈ L → wf2 .i32 .i64 e.c.key) : ∀ e, e ∈ L' → wf2 .i32 .i64 e.c.key := fun e he => by
  have h1 := (getL_iff hs' e.c.key e.c).2 ⟨e, he, rfl, rfl⟩
  rw [h] at h1
  by_cases hk : e.c.key = c.key
  · rw [hk]; exact hc
  · rw [if_neg hk] at h1
    obtain ⟨f, hf, e1, _⟩ := (getL_iff hs _ _).1 h1
    rw [← e1]; exact hw f hf
theorem wf_del {L L' : List Nd} {k : Int × Int} (hs : Sorted L) (hs' : Sorted L') (h : ∀ q, getL L' q = if q = k then none else getL L q) (hw : ∀ e, e ∈ L → wf2 .i32 .i64 e.c.key) : ∀ e, e ∈ L' → wf2 .i32 .i64 e.c.key := fun e he => by
  have h1 := (getL_iff hs' e.c.key e.c).2 ⟨e, he, rfl, rfl⟩
  rw [h] at h1
  by_cases hk : e.c.key = k
  · rw [if_pos hk] at h1; cases h1
  · rw [if_neg hk] at h1
    obtain ⟨f, hf, e1, _⟩ := (getL_iff hs _ _).1 h1
    rw [← e1]; exact hw f hf
theorem mapV_nil : mapV ([] : List Nd) = fun _ => none := by funext k; rfl
theorem eraR_map {L L' : List Nd} {k : Int × Int} {E : Int} (h : EraR L k E L') : mapV L' = (fun y => if y = k then none else mapV L y) ∧ L'.length = (if (mapV L k).isSome then L.length - 1 else L.length) ∧ E = (if (mapV L k).isSome then 0 else 4) ∧ ∀ q, getL L' q = if q = k then none else getL L q := by
  rw [mapV_some]
  rcases h with ⟨h1, h2, h3, h4⟩ | ⟨h1, h2, h3⟩
  · rw [if_pos h1, if_pos h1]
    exact ⟨mapV_del h3, by omega, h2, h3⟩
  · have h5 : ∀ q, getL L' q = if q = k then none else getL L q := fun q => by
      subst h3
      by_cases e : q = k
      · rw [if_pos e, e]; cases hg : getL L' k with
        | none => rfl
        | some c => rw [hg] at h1; cases h1
      · rw [if_neg e]
    rw [h1]
    exact ⟨mapV_del h5, by rw [h3]; simp, by simp [h2], h5⟩
set_option maxHeartbeats 2000000 in
theorem map_walk (w : World) (seed : Int) (A : Option Addr) (c : Nat) (l : List OpD) (hl : Kd.F opK w (fun k => k < w.heap.size) A l.length l) (hlc : l.length ≤ c) (hok : ∀ o ∈ l, okOp o) :
    Calls Try.prog 3 #[.int .u64 seed, .slice A l.length c] w fun e w' => e = .returned (.bool true) ∧ Below w.heap.size w w' := by
  have hmm := @run_makeMap Try.prog
  go_enter Try.func3, Try.ntmps3
  go_wp2_with fail
  refine (new_is seed w).mono ?_
  rintro e w1 ⟨rfl, h1, b1⟩
  have H1 := Lib.hid h1; have HB1 := Lib.hid b1
  clear h1 b1
  go_wp2_with fail
  refine (begun_is w1).mono ?_
  rintro e w2 ⟨rfl, b2⟩
  have H2 := Lib.hid (H1.out.below b2); have HB2 := Lib.hid (HB1.out.trans (b2.mono HB1.out.size)); have HZ2 := Lib.hid b2.size
  clear b2
  have hlm : l.length ≤ 9223372036854775807 := Kd.F_max hl
  obtain ⟨nl, hnl⟩ : ∃ nl, nl = min l.length 300 := ⟨_, rfl⟩
  have HNL := Lib.hid hnl
  have h1 : nl ≤ c := by omega
  go_upto_region 5 with fail
  go_cut [31, 32, 33] (fun a b i wx => wx = w2.alloc (.map #[] 0) ∧ (∃ cc, a = .slice A nl cc) ∧ b = .int .i64 nl ∧ i = .int .i64 0)
  case first =>
    by_cases h300 : l.length ≤ 300
    · have g1 : decide ((300 : Int) < (l.length : Int)) = false := decide_eq_false (by omega)
      have hnn : nl = l.length := by have := HNL.out; omega
      have HNN := Lib.hid hnn
      clear hnn HNL h1
      go_wp2_with fail
      go_meet
      exact ⟨rfl, ⟨c, by rw [HNN.out]⟩, by rw [HNN.out], rfl⟩
    · have hnn : nl = 300 := by have := HNL.out; omega
      have g1 : decide ((300 : Int) < (l.length : Int)) = true := decide_eq_true (by omega)
      have g2 : (300 : Int) ≤ (c : Int) := by omega
      have HNN := Lib.hid hnn
      clear hnn HNL h1
      go_wp2_with fail
      go_meet
      exact ⟨rfl, ⟨c, by rw [HNN.out]⟩, by rw [HNN.out]; rfl, rfl⟩
  case rest =>
    obtain ⟨hwc, ⟨cc, rfl⟩, rfl, rfl⟩ := hcut
    have HWC := Lib.hid hwc
    have H3 : RowKit.Hid (IsSk wc (w.heap.size + 1) w.heap.size [] seed (fun _ _ => none)) := by rw [hwc]; exact Lib.hid (H2.out.alloc _)
    have HM3 : RowKit.Hid (IsM Try.prog 29 (mk2 .i32 .i64) wc w2.heap.size 0 (fun _ => none) 0) := by rw [hwc]; exact Lib.hid (isM_made w2 _ _ _)
    have HB3 : RowKit.Hid (Below w.heap.size w wc) := by rw [hwc]; exact Lib.hid (HB2.out.alloc HB2.out.size _)
    obtain ⟨w3, rfl⟩ : ∃ w3, w3 = wc := ⟨_, rfl⟩
    clear hwc hnl h1
    go_wp2_with fail
    go_loopw [33] (fun i wr => MapL (w.heap.size + 1) w.heap.size w2.heap.size nl w3 i wr) (fun i _ => nl - (intOf i).toNat)
    case atStart =>
      have hz := HB3.out.size
      refine ⟨0, [], seed, _, rfl, Nat.zero_le _, Nat.le_refl _, ⟨H3.out, by rw [mapV_nil]; exact HM3.out, fun i hi => ?_, KeepS.refl _ _, ?_⟩, fun e he => by cases he⟩
      · rcases hi with hi | hi
        · exact .inl hi
        · simp at hi; exact .inr (.inl hi)
      · have h1 := H2.out.slt; have h2 := HM3.out.lt
        exact ⟨by omega, by omega, h2⟩
    case round =>
      obtain ⟨j, L, x, nx, rfl, hj, hLj, hS, hW⟩ := hrel
      have HS := Lib.hid hS; have HW := Lib.hid hW
      clear hS hW
      have HN3 := Lib.hid (show nl ≤ 300 ∧ nl ≤ l.length by have := HNL.out; omega)
      have HL1 := Lib.hid (show L.length ≤ 1048576 by have := HN3.out; omega)
      by_cases hlt : j < nl
      · have hjl : j < l.length := by have := HN3.out; omega
        have ho : l[j]? = some l[j] := List.getElem?_eq_getElem hjl
        obtain ⟨o, hx⟩ : ∃ o, l[j] = o := ⟨_, rfl⟩
        have HOK := Lib.hid (hok l[j] (List.getElem_mem hjl))
        rw [hx] at ho HOK
        clear hx
        have HLr := Lib.hid (HS.out.keep.foot (Kd.F_below hl HB3.out) (fun i (hi : i < w.heap.size) => by
          have := HM3.out.lt; have := HB2.out.size
          rintro (rfl | rfl | rfl) <;> omega))
        obtain ⟨ad, rfl, hc0, hc1, hc2, hc3, hc4, hc5, hc6, hc7, hc8⟩ := op_get HLr.out ho
        clear ho HLr
        go_upto_block 1 with fail
        go_cut [] (fun wx => ∃ (L' : List Nd) (x' : Int) (nx' : Nat → Nat → Option Nat), L'.length ≤ j + 1 ∧ MSt (w.heap.size + 1) w.heap.size w2.heap.size (j + 1) w3 wx L' x' nx' (mapV L') L'.length ∧ (∀ e, e ∈ L' → wf2 .i32 .i64 e.c.key))
        case first =>
          cases hD : (o.Do == 1) with
          | true =>
            have HX := Lib.hid hD
            go_wp2_with fail
            have HSa := Lib.hid (HS.out.below ((Below.refl _ wr).alloc (Nat.le_refl _) (.cells #[.int .i64 o.Do, .int .i32 o.c.table, .int .i64 o.c.row, .int .i64 o.c.value, .int .i64 o.c.slot, .int .i32 o.tk.1, .int .i64 o.tk.2, .int .u64 o.seed, .int .i64 o.stop] 33)))
            have HOX := Lib.hid (show OpBox (wr.alloc (.cells #[.int .i64 o.Do, .int .i32 o.c.table, .int .i64 o.c.row, .int .i64 o.c.value, .int .i64 o.c.slot, .int .i32 o.tk.1, .int .i64 o.tk.2, .int .u64 o.seed, .int .i64 o.stop] 33)) wr.heap.size o from heap_alloc_new wr _)
            have HNO := Lib.hid (show ¬ IsSk.Own (w.heap.size + 1) w.heap.size L wr.heap.size from fun h => by have := HS.out.sk.own_lt h; omega)
            have HNM := Lib.hid (show wr.heap.size ≠ w2.heap.size from fun h => by have := HS.out.m.lt; omega)
            obtain ⟨wa, hwa⟩ : ∃ wa, wr.alloc (.cells #[.int .i64 o.Do, .int .i32 o.c.table, .int .i64 o.c.row, .int .i64 o.c.value, .int .i64 o.c.slot, .int .i32 o.tk.1, .int .i64 o.tk.2, .int .u64 o.seed, .int .i64 o.stop] 33) = wa := ⟨_, rfl⟩
            obtain ⟨ob, hob⟩ : ∃ ob, wr.heap.size = ob := ⟨_, rfl⟩
            rw [hwa] at HSa HOX ⊢
            rw [hob] at HOX HNO HNM ⊢
            clear hwa hob hc0 hc1 hc2 hc3 hc4 hc5 hc6 hc7 hc8 HS
            have HWF := Lib.hid (show wf2 .i32 .i64 o.c.key from HOK.out.2.1.1)
            have HLK := HSa.out.m.get_ok keyS Try.underlying27 zeroCell HWF.out
            simp only [mk2, CellD.key] at HLK
            obtain ⟨r, hr⟩ : ∃ r : CellD, (mapV L o.c.key).getD (celV ⟨0, 0, 0, 0⟩) = celV r := by unfold mapV; cases getL L o.c.key <;> exact ⟨_, rfl⟩
            unfold CellD.key at hr
            rw [hr] at HLK
            unfold celV at HLK
            have HR := Lib.hid hr
            clear hr
            obtain ⟨is, his⟩ : ∃ is, (mapV L o.c.key).isSome = is := ⟨_, rfl⟩
            unfold CellD.key at his
            rw [his] at HLK
            have HIS := Lib.hid his
            clear his
            obtain ⟨hc0, hc1, hc2, hc3, hc4, hc5, hc6, hc7, hc8⟩ := HOX.out.cell
            have zo := HOX.out.lt
            rw [HLK]
            go_simp
            go_wp2_with fail
            have HSb := Lib.hid (HSa.out.below ((Below.refl _ wa).alloc (Nat.le_refl _) (.cells #[.int .i32 r.table, .int .i64 r.row, .int .i64 r.value, .int .i64 r.slot] 31)))
            have HOb := Lib.hid (HOX.out.below ((Below.refl _ wa).alloc (Nat.le_refl _) (.cells #[.int .i32 r.table, .int .i64 r.row, .int .i64 r.value, .int .i64 r.slot] 31)))
            obtain ⟨wb, hwb⟩ : ∃ wb, wa.alloc (.cells #[.int .i32 r.table, .int .i64 r.row, .int .i64 r.value, .int .i64 r.slot] 31) = wb := ⟨_, rfl⟩
            rw [hwb] at HSb HOb ⊢
            clear hwb zo HLK hc0 hc1 hc2 hc3 hc4 hc5 hc6 hc7 hc8
            refine (erase_is HSb.out.sk HL1.out o.c.key).mono ?_
            rintro e w5 ⟨E, L', x', nx', rfl, hI, hK, hO, hR⟩
            have HS5 := Lib.hid (HSb.out.turn hI hK hO)
            have HO5 := Lib.hid (HOb.out.move (hK.block _ HOb.out.lt HNO.out))
            obtain ⟨hm, hl', hE, hg'⟩ := eraR_map hR
            have HW' := Lib.hid (wf_del HSa.out.sk.store.sorted HS5.out.sk.store.sorted hg' HW.out)
            unfold CellD.key at hE
            rw [HIS.out] at hE
            have HMM := Lib.hid hm
            have HLL := Lib.hid hl'
            have hlj : L'.length ≤ L.length := by have := HLL.out; split at this <;> omega
            have HLJ := Lib.hid (show L'.length ≤ j + 1 by omega)
            clear hI hK hO hm hl' hR hlj hg'
            obtain ⟨hc0, hc1, hc2, hc3, hc4, hc5, hc6, hc7, hc8⟩ := HO5.out.cell
            cases is with
            | true =>
              simp only [if_true] at hE
              subst hE
              go_wp2_with (at_delete; refine m_del _ HS5.out.m keyS 27 Try.underlying27 rfl (.tmp 65) (.tmp 68) rfl o.c.key HWF.out rfl rfl ?_; intro w6 hM hG)
              have HS6 := Lib.hid (HS5.out.put (hM.mono (by omega : j ≤ j + 1)) hG)
              clear hM hG
              go_wp2_with fail
              go_meet
              refine ⟨L', x', nx', HLJ.out, ?_, HW'.out⟩
              rw [HMM.out, HLL.out]
              exact HS6.out
            | false =>
              simp only [Bool.false_eq_true, if_false] at hE
              subst hE
              go_wp2_with (at_delete; refine m_del _ HS5.out.m keyS 27 Try.underlying27 rfl (.tmp 65) (.tmp 68) rfl o.c.key HWF.out rfl rfl ?_; intro w6 hM hG)
              have HS6 := Lib.hid (HS5.out.put (hM.mono (by omega : j ≤ j + 1)) hG)
              clear hM hG
              go_wp2_with fail
              go_meet
              refine ⟨L', x', nx', HLJ.out, ?_, HW'.out⟩
              rw [HMM.out, HLL.out]
              exact HS6.out
          | false =>
            have HX := Lib.hid hD
            go_upto_region 14 with fail
            have HSa := Lib.hid (HS.out.below ((Below.refl _ wr).alloc (Nat.le_refl _) (.cells #[.int .i64 o.Do, .int .i32 o.c.table, .int .i64 o.c.row, .int .i64 o.c.value, .int .i64 o.c.slot, .int .i32 o.tk.1, .int .i64 o.tk.2, .int .u64 o.seed, .int .i64 o.stop] 33)))
            have HOX := Lib.hid (show OpBox (wr.alloc (.cells #[.int .i64 o.Do, .int .i32 o.c.table, .int .i64 o.c.row, .int .i64 o.c.value, .int .i64 o.c.slot, .int .i32 o.tk.1, .int .i64 o.tk.2, .int .u64 o.seed, .int .i64 o.stop] 33)) wr.heap.size o from heap_alloc_new wr _)
            have HNO := Lib.hid (show ¬ IsSk.Own (w.heap.size + 1) w.heap.size L wr.heap.size from fun h => by have := HS.out.sk.own_lt h; omega)
            have HNM := Lib.hid (show wr.heap.size ≠ w2.heap.size from fun h => by have := HS.out.m.lt; omega)
            obtain ⟨wa, hwa⟩ : ∃ wa, wr.alloc (.cells #[.int .i64 o.Do, .int .i32 o.c.table, .int .i64 o.c.row, .int .i64 o.c.value, .int .i64 o.c.slot, .int .i32 o.tk.1, .int .i64 o.tk.2, .int .u64 o.seed, .int .i64 o.stop] 33) = wa := ⟨_, rfl⟩
            obtain ⟨ob, hob⟩ : ∃ ob, wr.heap.size = ob := ⟨_, rfl⟩
            rw [hwa] at HSa HOX ⊢
            rw [hob] at HOX HNO HNM ⊢
            clear hwa hob hc0 hc1 hc2 hc3 hc4 hc5 hc6 hc7 hc8 HS
            have HWF := Lib.hid (show wf2 .i32 .i64 o.c.key from HOK.out.2.1.1)
            obtain ⟨okb, hokb⟩ : ∃ okb, (decide (0 ≤ o.c.slot) && decide (o.c.slot ≤ 1099511627776)) = okb := ⟨_, rfl⟩
            have HB := Lib.hid hokb
            clear hokb
            go_cut [12] (fun a wx => wx = wa ∧ a = .bool okb)
            case first =>
              obtain ⟨hc0, hc1, hc2, hc3, hc4, hc5, hc6, hc7, hc8⟩ := HOX.out.cell
              cases h1 : decide (0 ≤ o.c.slot) with
              | false =>
                have HE := Lib.hid (show okb = false by rw [← HB.out, h1]; rfl)
                go_wp2_with fail
                go_meet
                exact ⟨rfl, by rw [HE.out]⟩
              | true =>
                cases h2 : decide (o.c.slot ≤ 1099511627776) with
                | false =>
                  have HE := Lib.hid (show okb = false by rw [← HB.out, h1, h2]; rfl)
                  go_wp2_with fail
                  go_meet
                  exact ⟨rfl, by rw [HE.out]⟩
                | true =>
                  have HE := Lib.hid (show okb = true by rw [← HB.out, h1, h2]; rfl)
                  go_wp2_with fail
                  go_meet
                  exact ⟨rfl, by rw [HE.out]⟩
            case rest =>
              obtain ⟨rfl, rfl⟩ := hcut
              obtain ⟨hc0, hc1, hc2, hc3, hc4, hc5, hc6, hc7, hc8⟩ := HOX.out.cell
              go_wp2_with fail
              clear hc0 hc1 hc2 hc3 hc4 hc5 hc6 hc7 hc8
              refine (put_is HSa.out.sk (by have := HN3.out; omega) o.c).mono ?_
              rintro e w5 ⟨E, L', x', nx', rfl, hI, hK, hO, hR⟩
              have HS5 := Lib.hid (HSa.out.turn hI hK hO)
              have HO5 := Lib.hid (HOX.out.move (hK.block _ HOX.out.lt HNO.out))
              have HNO5 := Lib.hid (show ¬ IsSk.Own (w.heap.size + 1) w.heap.size L' ob from fun h => by
                rcases hO _ h with r | r
                · exact HNO.out r
                · have := HOX.out.lt; omega)
              clear hI hK hO
              obtain ⟨hc0, hc1, hc2, hc3, hc4, hc5, hc6, hc7, hc8⟩ := HO5.out.cell
              cases okb with
              | true =>
                obtain ⟨rfl, hg, hl'⟩ := put_ok hR HB.out
                have HMM := Lib.hid (mapV_put hg)
                have HLL := Lib.hid hl'
                have HG := Lib.hid (show getL L' o.c.key = some o.c by rw [hg, if_pos rfl])
                have HWq := Lib.hid (wf_put HSa.out.sk.store.sorted HS5.out.sk.store.sorted hg HWF.out HW.out)
                have HLq := Lib.hid (show L'.length ≤ j + 1 by have := HLL.out; split at this <;> omega)
                have HLp := Lib.hid (show L'.length ≤ 1048576 by have := HLq.out; have := HN3.out; omega)
                clear hR hg hl'
                go_wp2_with (at_mapUpdate; refine m_put _ HS5.out.m keyS 27 Try.underlying27 (by have := HN3.out; simp only [maxLen]; omega) rfl (.tmp 96) (.tmp 99) (.tmp 101) rfl o.c.key HWF.out (celV o.c) rfl rfl rfl ?_; intro w6 hM hG; have HOp := Lib.hid (HO5.out.move (hG.block ob HO5.out.lt (by simp only [ne_eq, Option.some.injEq]; exact HNM.out))); obtain ⟨hd0, hd1, hd2, hd3, hd4, hd5, hd6, hd7, hd8⟩ := HOp.out.cell)
                have HSp : RowKit.Hid (MSt (w.heap.size + 1) w.heap.size w2.heap.size (j + 1) w3 w6 L' x' nx' (mapV L') L'.length) := by
                  rw [HMM.out, HLL.out, ← mapV_some]
                  have h1 : (if (mapV L o.c.key).isSome then L.length else L.length + 1) = L.length + (if (mapV L o.c.key).isSome then 0 else 1) := by split <;> rfl
                  rw [h1] at hM
                  exact Lib.hid (HS5.out.put hM hG)
                clear hd0 hd1 hd2 hd3 hd4 hd5 hd6 hd7 hd8
                clear hM hG hc0 hc1 hc2 hc3 hc4 hc5 hc6 hc7 hc8
                refine (get_is HSp.out.sk HLp.out o.c.key).mono ?_
                rintro e w7 ⟨rfl, hb⟩
                rw [HG.out]
                unfold getV celV
                have HS7 := Lib.hid (HSp.out.below hb)
                have HO7 := Lib.hid (HOp.out.below hb)
                clear hb
                have HLK := (HS7.out.m.alloc (.cells #[.int .i32 o.c.table, .int .i64 o.c.row, .int .i64 o.c.value, .int .i64 o.c.slot] 31)).get_ok keyS Try.underlying27 zeroCell HWF.out
                rw [show mapV L' o.c.key = some (celV o.c) by unfold mapV; rw [HG.out]; rfl] at HLK
                simp only [mk2, CellD.key, celV, Option.getD_some, Option.getD_none, Option.isSome_some, Option.isSome_none] at HLK
                have hq : ∀ W : World, (Op.equalIn 10000 31 (.agg #[.int .i32 o.c.table, .int .i64 o.c.row, .int .i64 o.c.value, .int .i64 o.c.slot]) (.agg #[.int .i32 o.c.table, .int .i64 o.c.row, .int .i64 o.c.value, .int .i64 o.c.slot])).run Try.prog W = .ok true W := fun W => eqc_self ⟨o.c.table, o.c.row, o.c.value, o.c.slot⟩ W
                obtain ⟨hc0, hc1, hc2, hc3, hc4, hc5, hc6, hc7, hc8⟩ := HO7.out.cell
                have zo := HO7.out.lt
                go_wp2_with fail
                go_meet
                exact ⟨_, _, _, HLq.out, HS7.out.below (((Below.refl _ w7).alloc (Nat.le_refl _) _).alloc (by simp) _), HWq.out⟩
              | false =>
                obtain ⟨rfl, hLL⟩ : E = 1 ∧ L' = L := by
                  rcases hR with ⟨h1, _⟩ | ⟨_, h2, h3⟩
                  · rw [HB.out] at h1; cases h1
                  · exact ⟨h2, h3⟩
                subst hLL
                have HSp := Lib.hid (show MSt (w.heap.size + 1) w.heap.size w2.heap.size (j + 1) w3 w5 L' x' nx' (mapV L') L'.length from ⟨HS5.out.sk, HS5.out.m.mono (by omega), HS5.out.own, HS5.out.keep, HS5.out.ne⟩)
                have HOp := HO5
                have HWq := HW
                have HLp := HL1
                have HLq := Lib.hid (show L'.length ≤ j + 1 by omega)
                clear hR
                cases hgg : getL L' o.c.key with
                | none =>
                  have HG := Lib.hid hgg
                  clear hgg hc0 hc1 hc2 hc3 hc4 hc5 hc6 hc7 hc8
                  obtain ⟨hc0, hc1, hc2, hc3, hc4, hc5, hc6, hc7, hc8⟩ := HOp.out.cell
                  go_wp2_with fail
                  clear hc0 hc1 hc2 hc3 hc4 hc5 hc6 hc7 hc8
                  refine (get_is HSp.out.sk HLp.out o.c.key).mono ?_
                  rintro e w7 ⟨rfl, hb⟩
                  rw [HG.out]
                  unfold getV celV
                  have HS7 := Lib.hid (HSp.out.below hb)
                  have HO7 := Lib.hid (HOp.out.below hb)
                  clear hb
                  have HLK := (HS7.out.m.alloc (.cells #[.int .i32 0, .int .i64 0, .int .i64 0, .int .i64 0] 31)).get_ok keyS Try.underlying27 zeroCell HWF.out
                  rw [show mapV L' o.c.key = none by unfold mapV; rw [HG.out]; rfl] at HLK
                  simp only [mk2, CellD.key, celV, Option.getD_some, Option.getD_none, Option.isSome_some, Option.isSome_none] at HLK
                  have hq : ∀ W : World, (Op.equalIn 10000 31 (.agg #[.int .i32 0, .int .i64 0, .int .i64 0, .int .i64 0]) (.agg #[.int .i32 0, .int .i64 0, .int .i64 0, .int .i64 0])).run Try.prog W = .ok true W := fun W => eqc_self ⟨0, 0, 0, 0⟩ W
                  obtain ⟨hc0, hc1, hc2, hc3, hc4, hc5, hc6, hc7, hc8⟩ := HO7.out.cell
                  have zo := HO7.out.lt
                  go_wp2_with fail
                  go_meet
                  exact ⟨_, _, _, HLq.out, HS7.out.below (((Below.refl _ w7).alloc (Nat.le_refl _) _).alloc (by simp) _), HWq.out⟩
                | some d =>
                  have HG := Lib.hid hgg
                  clear hgg hc0 hc1 hc2 hc3 hc4 hc5 hc6 hc7 hc8
                  obtain ⟨hc0, hc1, hc2, hc3, hc4, hc5, hc6, hc7, hc8⟩ := HOp.out.cell
                  go_wp2_with fail
                  clear hc0 hc1 hc2 hc3 hc4 hc5 hc6 hc7 hc8
                  refine (get_is HSp.out.sk HLp.out o.c.key).mono ?_
                  rintro e w7 ⟨rfl, hb⟩
                  rw [HG.out]
                  unfold getV celV
                  have HS7 := Lib.hid (HSp.out.below hb)
                  have HO7 := Lib.hid (HOp.out.below hb)
                  clear hb
                  have HLK := (HS7.out.m.alloc (.cells #[.int .i32 d.table, .int .i64 d.row, .int .i64 d.value, .int .i64 d.slot] 31)).get_ok keyS Try.underlying27 zeroCell HWF.out
                  rw [show mapV L' o.c.key = some (celV d) by unfold mapV; rw [HG.out]; rfl] at HLK
                  simp only [mk2, CellD.key, celV, Option.getD_some, Option.getD_none, Option.isSome_some, Option.isSome_none] at HLK
                  have hq : ∀ W : World, (Op.equalIn 10000 31 (.agg #[.int .i32 d.table, .int .i64 d.row, .int .i64 d.value, .int .i64 d.slot]) (.agg #[.int .i32 d.table, .int .i64 d.row, .int .i64 d.value, .int .i64 d.slot])).run Try.prog W = .ok true W := fun W => eqc_self ⟨d.table, d.row, d.value, d.slot⟩ W
                  obtain ⟨hc0, hc1, hc2, hc3, hc4, hc5, hc6, hc7, hc8⟩ := HO7.out.cell
                  have zo := HO7.out.lt
                  go_wp2_with fail
                  go_meet
                  exact ⟨_, _, _, HLq.out, HS7.out.below (((Below.refl _ w7).alloc (Nat.le_refl _) _).alloc (by simp) _), HWq.out⟩
        case rest =>
          obtain ⟨L', x', nx', hL', hS', hW'⟩ := hcut
          have HL' := Lib.hid hL'; have HS' := Lib.hid hS'; have HW' := Lib.hid hW'
          clear hL' hS' hW'
          go_wp2_with fail
          go_roundw
          case rel => exact ⟨j + 1, L', x', nx', by go_num, hlt, HL'.out, HS'.out, HW'.out⟩
          case measure => simp [intOf]; omega
      · have hjn : j = nl := by omega
        have hLN := HS.out.m.len Try.underlying27 3
        clear hjn
        go_wp2_with fail
        refine (len_is HS.out.sk).mono ?_
        rintro e w' ⟨rfl, rfl⟩
        go_wp2_with fail
        refine (rising_is HS.out.sk HL1.out HS.out.m HW.out).mono ?_
        rintro e w4 ⟨rfl, hb⟩
        have HB4 := Lib.hid hb
        clear hb
        go_wp2_with fail
        go_ret
        refine ⟨rfl, ?_⟩
        have h1 := HB3.out.trans (HS.out.keep.below (B := w.heap.size) HB3.out.size (by
          have := HM3.out.lt; have := HB2.out.size
          rintro i (rfl | rfl | rfl) <;> omega))
        exact h1.trans (HB4.out.mono h1.size)
end Go.Proofs.Ytdolmkiiflhehaa.M
end

section
/- Level: the keys of a level. -/
set_option linter.unusedVariables false
set_option linter.unusedSimpArgs false
set_option maxRecDepth 100000
namespace Go.Proofs.Ytdolmkiiflhehaa.M
open Go.RowKit Go.Shelf Go.Proofs.YtdolmkiiflhehaaW.PrintWords
attribute [local go_sem] Oper.semAt_some

def keyK : Kd (Int × Int) := Kd.pair (Kd.int .i32) (Kd.int .i64)
theorem heap_keyK : Kd.Heap keyK := Kd.heap_pair (Kd.heap_int _) (Kd.heap_int _)
theorem infoK : (Try.prog.info? 29).map (fun i => (i.zero, i.size, i.bytes)) = some (some (.agg #[.int .i32 0, .int .i64 0]), 2, 16) := by kernel_rfl
/-- The keys of a level. -/
def lvl (L : List Nd) (l : Nat) : List (Int × Int) := (L.filter (fun e => decide (l < e.hi))).map (fun e => (e.c.table, e.c.row))
theorem lvl_snoc {L : List Nd} {b l : Nat} {e : Nd} (h : L[b]? = some e) : lvl (L.take (b + 1)) l = lvl (L.take b) l ++ (if l < e.hi then [(e.c.table, e.c.row)] else []) := by
  unfold lvl
  rw [List.take_add_one, h, List.filter_append, List.map_append]
  by_cases hl : l < e.hi <;> simp [hl]
theorem lvl_gap {L : List Nd} {l a : Nat} : ∀ (n : Nat), a + n ≤ L.length → (∀ i, a ≤ i → i < a + n → hiAt L i ≤ l) → lvl (L.take (a + n)) l = lvl (L.take a) l
  | 0, _, _ => rfl
  | n + 1, hb, h => by
    have he : L[a + n]? = some L[a + n] := List.getElem?_eq_getElem (by omega)
    have h1 := h (a + n) (by omega) (by omega)
    unfold hiAt at h1
    rw [he] at h1
    rw [← Nat.add_assoc, lvl_snoc he, if_neg (Nat.not_lt.2 h1), List.append_nil]
    exact lvl_gap n (by omega) (fun i hi hl => h i hi (by omega))
theorem lvl_none {L : List Nd} {l a : Nat} (ha : a ≤ L.length) (h : nxPos L l a L.length = none) : lvl (L.take a) l = lvl L l := by
  have h1 := lvl_gap (L := L) (l := l) (a := a) (L.length - a) (by omega) (fun i hi hl => nxPos_none h (by omega) i hi (by omega))
  rw [show a + (L.length - a) = L.length by omega, List.take_length] at h1
  exact h1.symm
theorem lvl_some {L : List Nd} {l a i : Nat} {e : Nd} (h : nxPos L l a L.length = some i) (he : L[i]? = some e) : lvl (L.take (i + 1)) l = lvl (L.take a) l ++ [(e.c.table, e.c.row)] := by
  obtain ⟨h1, h2, h3, h4⟩ := nxPos_some h
  have h5 := lvl_gap (L := L) (l := l) (a := a) (i - a) (by omega) (fun j hj hl => h4 j hj (by omega))
  rw [show a + (i - a) = i by omega] at h5
  unfold hiAt at h3
  rw [he] at h3
  rw [lvl_snoc he, h5, if_pos h3]
theorem lvl_len (L : List Nd) (l : Nat) : (lvl L l).length ≤ L.length := by
  unfold lvl
  rw [List.length_map]
  exact List.length_filter_le _ _
theorem lvl_top {L : List Nd} (hs : Store L) : lvl L 8 = [] := by
  unfold lvl
  rw [List.filter_eq_nil_iff.2 (fun e he => by have := (hs.hi e he).2; simp; omega)]
  rfl
theorem lvl_zero {L : List Nd} (hs : Store L) : lvl L 0 = L.map (fun e => (e.c.table, e.c.row)) := by
  unfold lvl
  rw [List.filter_eq_self.2 (fun e he => by have := (hs.hi e he).1; simp; omega)]
theorem lvl_sub (L : List Nd) (l : Nat) {k : Int × Int} (h : k ∈ lvl L (l + 1)) : k ∈ lvl L l := by
  unfold lvl at h ⊢
  obtain ⟨e, he, rfl⟩ := List.mem_map.1 h
  have := List.mem_filter.1 he
  exact List.mem_map.2 ⟨e, List.mem_filter.2 ⟨this.1, by have := this.2; simp at this ⊢; omega⟩, rfl⟩
def IsSeqK (w' : World) (lo B : Nat) (xs : List (Int × Int)) : Prop := lo ≤ B ∧ ∃ (A : Option Addr) (cc : Nat), w'.cell? ⟨B, 0, none⟩ = some (.slice A xs.length cc) ∧ Kd.F keyK w' (fun i => lo ≤ i ∧ i < w'.heap.size) A xs.length xs
theorem values_is (w : World) (A : Option Addr) (n c : Nat) :
    Calls Try.prog 41 #[.slice A n c] w fun e w' => e = .returned (.func (.func 61) #[] #[.pointer (some ⟨w.heap.size, 0, none⟩)]) ∧ w' = w.alloc (.cells #[.slice A n c] 42) := by
  have hmf : ∀ (fn : Fn) (first cap : Array Value) (w : World), (Instr.makeFunc fn first cap).run Try.prog w = .ok (.func fn first cap) w := fun _ _ _ _ => rfl
  go_enter Try.func41, Try.ntmps41
  go_wp2_with fail
  go_ret
  exact ⟨rfl, rfl⟩
def LvP (w : World) (xs : List (Int × Int)) (e : Ending) (w' : World) : Prop := ∃ B, e = .returned (.func (.func 61) #[] #[.pointer (some ⟨B, 0, none⟩)]) ∧ IsSeqK w' w.heap.size B xs ∧ Below w.heap.size w w'
def LvI (w : World) (L : List Nd) (l : Nat) (v x : Value) (wr : World) : Prop :=
  ∃ (a : Nat) (A : Option Addr) (cc : Nat), a ≤ L.length ∧ l < hiP L a ∧ x = np (nxt L l a) ∧ v = .slice A (lvl (L.take a) l).length cc ∧ Kd.R keyK 29 wr w.heap.size (fun _ => True) (.slice A (lvl (L.take a) l).length cc) (lvl (L.take a) l) ∧ Below w.heap.size w wr
set_option maxHeartbeats 1000000 in
theorem level_is {w : World} {s h : Nat} {L : List Nd} {x : Int} {nx : Nat → Nat → Option Nat} (H : IsSk w s h L x nx) (hL : L.length ≤ 1048576) (l : Nat) (h8 : l < 8) :
    Calls Try.prog 17 #[.pointer (some ⟨s, 0, none⟩), .int .i64 l] w fun e w' => LvP w (lvl L l) e w' := by
  have HH := Lib.hid H
  clear H
  have g0 : (0 : Int) ≤ (l : Int) := by omega
  have g8 : (l : Int) < 8 := by omega
  go_enter Try.func17, Try.ntmps17
  go_wp2_with fail
  refine (none_is HH.out).mono ?_
  rintro e w' ⟨rfl, rfl⟩
  have n0 := HH.out.c0
  have n1 := (HH.out.nds 0 (Nat.zero_le _)).next h8
  rw [HH.out.links 0 (Nat.zero_le _) l h8] at n1
  have e0 : adr h L 0 = h := rfl
  rw [e0] at n1
  obtain ⟨p0, hp0⟩ : ∃ p0, np (nxt L l 0) = .pointer p0 := by cases nxt L l 0 <;> exact ⟨_, rfl⟩
  have HP0 := Lib.hid hp0
  rw [hp0] at n1
  clear e0 hp0
  go_wp2_with fail
  go_loopw [5, 6] (fun v x wr => LvI w' L l v x wr) (fun v _ _ => L.length - lenOf v)
  case atStart => exact ⟨0, none, 0, Nat.zero_le _, h8, HP0.out.symm, rfl, Kd.R_nil _ _ _ _ _, Below.refl _ _⟩
  case round =>
    obtain ⟨a, A, cc, ha, hla, rfl, rfl, hR, hB⟩ := hrel
    have HB := Lib.hid hB; have HR := Lib.hid hR
    have HHr := Lib.hid (HH.out.below hB)
    clear hR hB
    cases hn : nxPos L l a L.length with
    | none =>
      have hx : np (nxt L l a) = .pointer none := by unfold nxt; rw [hn]; rfl
      have hU := lvl_none ha hn
      rw [hx]
      rw [hU] at HR ⊢
      clear hn hx hU
      go_wp2_with fail
      refine (values_is _ _ _ _).mono ?_
      rintro e w' ⟨rfl, rfl⟩
      go_wp2_with fail
      go_ret
      have h1 := Kd.R_mono (Kd.R_bound (Kd.R_alloc HR.out (.cells #[.slice A (lvl L l).length cc] 42))) (fun k hk => (⟨hk.2.1, hk.2.2.1⟩ : _ ≤ k ∧ k < _))
      obtain ⟨A', c', e1, _, hF⟩ := Kd.R_V (base' := 0) h1
      simp only [Value.slice.injEq] at e1
      obtain ⟨rfl, _, rfl⟩ := e1
      exact ⟨_, rfl, ⟨HB.out.size, A, cc, Joins.cell_alloc_mark_at _ #[.slice A (lvl L l).length cc] 42 (0, 0) _ 0 rfl, hF⟩, HB.out.alloc HB.out.size _⟩
    | some i =>
      obtain ⟨h1, h2, h3, h4⟩ := nxPos_some hn
      obtain ⟨e, he⟩ : ∃ e, L[i]? = some e := ⟨_, List.getElem?_eq_getElem h2⟩
      have hU := lvl_some hn he
      have hx : np (nxt L l a) = .pointer (some ⟨e.b, 0, none⟩) := by unfold nxt; rw [hn]; simp only [Option.map_some, blkAt, he]; rfl
      have hnd := HHr.out.nd he
      have n0 := hnd.c0; have n1 := hnd.c1
      have n4 := hnd.next h8
      have eb : adr h L (i + 1) = e.b := by show blkAt L i = _; unfold blkAt; rw [he]
      have hlx : nx e.b l = nxt L l (i + 1) := by rw [← eb, HHr.out.links (i + 1) (by omega) l h3]
      rw [hlx] at n4
      have HN4 := Lib.hid n4
      have HLT := Lib.hid (HH.out.nd he).lt
      have HI := Lib.hid (show i + 1 ≤ L.length from h2)
      have HH3 := Lib.hid (show l < hiP L (i + 1) from h3)
      have HLN := Lib.hid (show (lvl (L.take a) l).length ≤ a from Nat.le_trans (lvl_len _ _) (by rw [List.length_take]; omega))
      have HLM := Lib.hid (show a ≤ i from h1)
      rw [hx]
      obtain ⟨r, hr⟩ : ∃ r, np (nxt L l (i + 1)) = r := ⟨_, rfl⟩
      rw [hr] at n4 HN4
      have HRr := Lib.hid hr
      obtain ⟨U, hUe⟩ : ∃ U, lvl (L.take a) l = U := ⟨_, rfl⟩
      rw [hUe] at HR HLN hU ⊢
      have HU := Lib.hid hU
      have hub : U.length ≤ 1048576 := by have := HLN.out; omega
      clear hU n4 hlx hnd he hx hr hUe hn h1 h2 h3 h4 eb hla
      go_wp2_with ((with_reducible refine gate_builtin (b := .append) (xs := #[.tmp 35, .tmp 41]) rfl ?_); at_builtin; refine Kd.R_append keyK (w0 := wr) w'.heap.size rfl (.tmp 35) (.tmp 41) 42 29 _ 16 rfl Try.underlying42 infoK rfl (by decide) (by omega) _ U (e.c.table, e.c.row) [.int .i32 e.c.table, .int .i64 e.c.row] (fun _ => True) (fun _ => False) rfl rfl ⟨_, _, rfl, rfl, rfl⟩ (fun _ hk => hk.elim) (fun _ _ => trivial) HR.out (Below.refl _ _) HB.out.size (by omega) ?_; intro v1 w5 ho hb5 hg5 hat; obtain ⟨A5, c5, rfl⟩ := Kd.R_slice ho; have HO5 := Lib.hid ho; have HB5 := Lib.hid (show Below w'.heap.size w' w5 from HB.out.trans hb5); have n5 := (hb5.cell (p := ⟨e.b, 4 + l, none⟩) HLT.out).trans HN4.out; clear ho hb5 hg5 hat)
      go_roundw
      case rel =>
        refine ⟨i + 1, A5, c5, HI.out, HH3.out, HRr.out.symm, by rw [HU.out, List.length_append]; rfl, by rw [HU.out]; exact Kd.R_mono (Kd.R_bound HO5.out) (fun _ _ => trivial), HB5.out⟩
      case measure => simp [lenOf]; have := HLN.out; have := HI.out; have := HLM.out; omega
end Go.Proofs.Ytdolmkiiflhehaa.M
end

section
/- The iterator of keys; slices.Collect. -/
set_option linter.unusedVariables false
set_option linter.unusedSimpArgs false
set_option maxRecDepth 100000
namespace Go.Proofs.Ytdolmkiiflhehaa.M
open Go.RowKit Go.Shelf Go.Proofs.YtdolmkiiflhehaaW.PrintWords
attribute [local go_sem] Oper.semAt_some

theorem key_get {W : World} {A : Option Addr} {n : Nat} {l : List (Int × Int)} (h : Kd.C keyK W A n l) {k : Nat} {x : Int × Int} (hk : l[k]? = some x) :
    ∃ ad, A = some ad ∧ W.cell? (ad.add (k * 2)) = some (.int .i32 x.1) ∧ W.cell? ⟨(ad.add (k * 2)).block, (ad.add (k * 2)).off + 1, none⟩ = some (.int .i64 x.2) := by
  have hlt : k < n := by
    have := (List.getElem?_eq_some_iff.1 hk).1
    have := h.1
    omega
  obtain ⟨ad, c, rfl, hcl, hK, hcc⟩ := Kd.C_get h (0, 0) (k : Int) (by omega) (by omega)
  have e : l.getD (k : Int).toNat (0, 0) = x := by rw [Int.toNat_natCast, List.getD_eq_getElem?_getD, hk]; rfl
  rw [e] at hK
  rw [Int.toNat_natCast] at hcc
  obtain ⟨c0, c1, rfl, rfl, rfl⟩ := hK
  have hs : keyK.sz = 2 := rfl
  rw [hs] at hcc
  refine ⟨ad, rfl, by simpa using hcc 0 _ rfl, ?_⟩
  rw [← add_field ad (k * 2) 1 (by omega)]; exact hcc 1 _ rfl
def k2V (x : Int × Int) : Value := .agg #[.int .i32 x.1, .int .i64 x.2]
def encK (x : Int × Int) : Array Value := #[.agg #[.int .i32 x.1, .int .i64 x.2]]
set_option maxHeartbeats 2000000 in
theorem val1_in (F : Fence) (n : Nat) (hf : F.fn 61) (hro : F.round = none) (hn : 1 ≤ n) (l Bs : Nat) (T : Nat → Prop) (hTB : T Bs) (A : Option Addr) (c : Nat) (xs : List (Int × Int)) (J Jx : List (Int × Int) → World → Prop) (W : World) (hJ : AbidesFrom W.heap.size J)
    (hY : ∀ pre x W1, J pre W1 → pre.length < xs.length → YieldAt F (n - 1) Try.prog l (encK x) W1 fun e W' =>
      (e = .returned (.bool true) ∧ J (pre ++ [x]) W' ∧ KeepT T W1 W') ∨ (e = .returned (.bool false) ∧ Jx (pre ++ [x]) W'))
    (hBs : W.cell? ⟨Bs, 0, none⟩ = some (.slice A xs.length c)) (hF : Kd.F keyK W T A xs.length xs) (h0 : J [] W) :
    CallsIn F n Try.prog 61 #[.func (.yield l) #[] #[], .pointer (some ⟨Bs, 0, none⟩)] W fun e W' => (∃ v, e = .returned v) ∧ ((∃ ys, ys = xs ∧ J ys W') ∨ (∃ pre, pre <+: xs ∧ Jx pre W')) := by
  have hlm : xs.length ≤ 9223372036854775807 := Kd.F_max hF
  have HF := Lib.hid hF
  clear hF
  refine callsIn_of_wp Try.func61 rfl hf ?_ hro
  simp only [Try.ntmps61, List.size_toArray, List.length_cons, List.length_nil, Nat.reduceAdd, Nat.reduceSub, Array.replicate_succ, Array.replicate_zero, List.push_toArray, List.append_toArray, List.nil_append, List.cons_append]
  gi_wp2
  gi_loopw [7] (fun i wr => ∃ k : Nat, k ≤ xs.length ∧ i = .int .i64 k ∧ J (xs.take k) wr ∧ Aside0 (KeepT T W wr)) (fun i _ => xs.length - (intOf i).toNat)
  case atStart => exact ⟨0, Nat.zero_le _, rfl, by simpa using h0, ⟨KeepT.refl _ _⟩⟩
  case round =>
    obtain ⟨k, hk, rfl, hJs, HK⟩ := hrel
    by_cases hlt : k < xs.length
    · obtain ⟨x, hx⟩ : ∃ x, xs[k]? = some x := ⟨_, List.getElem?_eq_getElem hlt⟩
      obtain ⟨ad, rfl, hc0, hc1⟩ := key_get (Kd.F_now (HK.out.foot HF.out)) hx
      have HX := Lib.hid hx
      clear hx
      have hJa : J (xs.take k) (wr.alloc (.cells #[.int .i32 x.1, .int .i64 x.2] 29)) := hJ _ _ _ none hJs (World.grownBy_alloc _ _ _) (by simp)
      obtain ⟨fn, tmps, assign, body, hy, hR⟩ := hY _ x _ hJa (by rw [List.length_take]; omega)
      simp only [encK] at hy
      gi_wp2
      refine hR.mono ?_
      rintro e W3 (⟨rfl, hJ3, hk3⟩ | ⟨rfl, hJx3⟩)
      · have HK3 := Lib.hid (HK.out.trans ((KeepT.of_below ((Below.refl _ _).alloc (Nat.le_refl _) _)).trans hk3))
        clear hk3
        gi_wp2
        go_roundw
        case rel => exact ⟨k + 1, by omega, by simp, by rw [← take_snoc' HX.out]; exact hJ3, ⟨HK3.out⟩⟩
        case measure => simp [intOf]; omega
      · gi_wp2
        refine bodyPost_ret (results_none rfl _ _ _) rfl ?_
        exact ⟨⟨_, rfl⟩, .inr ⟨_, by rw [take_snoc' HX.out]; exact List.take_prefix _ _, hJx3⟩⟩
    · obtain rfl : k = xs.length := by omega
      gi_wp2
      go_end0
      exact ⟨⟨_, rfl⟩, .inl ⟨_, rfl, by simpa using hJs⟩⟩
theorem val1_stops (F : Fence) (n : Nat) (hf : F.fn 61) (hro : F.round = none) (hn : 1 ≤ n) (Bs : Nat) (T : Nat → Prop) (hTB : T Bs) (A : Option Addr) (c : Nat) (xs : List (Int × Int)) (w : World) (hT : ∀ i, T i → i < w.heap.size)
    (hBs : w.cell? ⟨Bs, 0, none⟩ = some (.slice A xs.length c)) (hF : Kd.F keyK w T A xs.length xs) :
    SeqStopsK F n Try.prog 61 #[.pointer (some ⟨Bs, 0, none⟩)] encK (KeepT T) (fun ys => ys = xs) (fun pre => pre <+: xs) xs.length w := fun l J Jx W hW hJ _ hY h0 =>
  val1_in F n hf hro hn l Bs T hTB A c xs J Jx W hJ hY ((hW.cell (p := ⟨Bs, 0, none⟩) (hT Bs hTB)).trans hBs) (Kd.F_below hF hW) h0
/-- What the loop holds: the list's box b0. -/
structure ApI (b0 : Nat) (w4 : World) (pre : List (Int × Int)) (W : World) : Prop where
  l : ∃ (A : Option Addr) (c : Nat), W.heap[b0]? = some (.cells #[.slice A pre.length c] 42) ∧ Kd.R keyK 29 W w4.heap.size (fun _ => True) (.slice A pre.length c) pre
theorem own_apI (b0 : Nat) (w4 : World) : OwnFrom w4.heap.size (ApI b0 w4) := fun s A B row hs hg hr => by
  have hr' : ∀ r, row = some r → ∃ o : Obj, A.heap[r]? = some o ∧ o.isCells = false := fun r e => (hr r e).2
  obtain ⟨⟨A1, c, h1, h2⟩⟩ := hs
  refine ⟨⟨A1, c, ?_, R_kept_own h2 hg hr'⟩⟩
  refine (hg.block _ (Array.getElem?_eq_some_iff.1 h1).1 (fun e => ?_)).trans h1
  obtain ⟨o, ho, hn⟩ := hr' _ e.symm
  rw [h1] at ho
  cases ho
  cases hn
theorem ApI.below {b0 : Nat} {w4 : World} {pre : List (Int × Int)} {W W' : World} (h : ApI b0 w4 pre W) (hb : Below W.heap.size W W') : ApI b0 w4 pre W' := by
  obtain ⟨⟨A1, c, h1, h2⟩⟩ := h
  exact ⟨⟨A1, c, (hb.block _ (Array.getElem?_eq_some_iff.1 h1).1).trans h1, R_belowA h2 hb⟩⟩
set_option maxHeartbeats 2000000 in
theorem appseq_is {w : World} {B : Nat} {A : Option Addr} {cc : Nat} {xs : List (Int × Int)} (hB : w.cell? ⟨B, 0, none⟩ = some (.slice A xs.length cc)) (hF : Kd.F keyK w (fun i => i < w.heap.size) A xs.length xs) (hxl : xs.length ≤ 1048576) :
    Calls Try.prog 40 #[.slice none 0 0, .func (.func 61) #[] #[.pointer (some ⟨B, 0, none⟩)]] w fun e w' => ∃ (A : Option Addr) (cc : Nat), e = .returned (.slice A xs.length cc) ∧ Kd.F keyK w' (fun i => w.heap.size ≤ i ∧ i < w'.heap.size) A xs.length xs ∧ Below w.heap.size w w' := by
  have HB := Lib.hid (show Below w.heap.size w (w.alloc (.cells #[.slice none 0 0] 42)) from (Below.refl _ _).alloc (Nat.le_refl _) _)
  have hsz : (w.alloc (.cells #[.slice none 0 0] 42)).heap.size = w.heap.size + 1 := by simp
  have bl := heap_alloc_new w (.cells #[.slice none 0 0] 42)
  have hlt : B < w.heap.size := World.block_lt_of_cell? _ _ hB
  have hcl := (HB.out.cell (p := ⟨B, 0, none⟩) hlt).trans hB
  have hF4 := Kd.F_below hF HB.out
  refine (callsIn_wide (n := 4)).1 ?_
  refine callsIn_of_wp_marks Try.func40 rfl trivial ?_ rfl
  simp only [Try.ntmps40, List.size_toArray, List.length_cons, List.length_nil, Nat.reduceAdd, Nat.reduceSub, Array.replicate_succ, Array.replicate_zero, List.push_toArray, List.append_toArray, List.nil_append, List.cons_append]
  gi_wp2_with fail
  obtain ⟨w4, hw4⟩ : ∃ w4, w.alloc (.cells #[.slice none 0 0] 42) = w4 := ⟨_, rfl⟩
  rw [hw4] at HB hsz bl hcl hF4 ⊢
  clear hw4 hB hF
  refine wpIn_rangeFunc_ownH (w := w4) rfl (by omega) (gf := 61) (lb := #[.pointer (some ⟨B, 0, none⟩)]) rfl trivial (enters_of Try.func61 (by kernel_rfl) rfl)
    (val1_stops Fence.wide (4 - 1) trivial rfl (by omega) B (fun i => i < w.heap.size) hlt A cc xs w4 (fun i hi => by show i < w4.heap.size; omega) hcl hF4) (fun h k => h.trans k) (keepT_b (fun i hi => by show i < w4.heap.size; omega)) (Below.refl _ _) (fun _ => rfl)
    (fun pre W => ApI w.heap.size w4 pre W ∧ KeepS (fun i => i = w.heap.size) w4 W)
    (fun c pre W => False)
    (OwnFrom.and (own_apI _ _) (ownFrom_keepS _ _))
    (fun c _ _ _ _ hs _ _ => hs)
    ⟨⟨⟨none, 0, bl, Kd.R_nil _ _ _ _ _⟩⟩, KeepS.refl _ _⟩
    (fun x a' W => ∃ q, w4.heap.size ≤ q ∧ a' = { tmps := #[.slice none 0 0, .func (.func 61) #[] #[.pointer (some ⟨B, 0, none⟩)], .pointer (some ⟨w.heap.size, 0, none⟩), undef, .slice none 0 0, .pointer (some ⟨q, 0, none⟩), .func (.func 61) #[] #[.pointer (some ⟨B, 0, none⟩)], k2V x, undef, undef, undef, undef, undef], defers := [] } ∧ W.cell? ⟨q, 0, none⟩ = some (.int .i32 x.1) ∧ W.cell? ⟨q, 1, none⟩ = some (.int .i64 x.2))
    (fun x a' => Own.from (fun _ A B row hs hg hr => by obtain ⟨q, h0, h1, h2, h3⟩ := hs; exact ⟨q, h0, h1, cell_kept h2 hg hr, cell_kept h3 hg hr⟩) _) ?assign ?body ?done ?stop
  case assign =>
    rintro l pre x W K ⟨hi, hk⟩ hK
    dsimp only [encK]
    gi_wp2
    have hbW : Below W.heap.size W (W.alloc (.cells #[.int .i32 x.1, .int .i64 x.2] 29)) := (Below.refl _ W).alloc (Nat.le_refl _) _
    exact hK _ _ (below_from hbW) (KeepT.of_below hbW) ⟨hi.below hbW, hk.alloc _⟩ ⟨W.heap.size, hk.size, rfl, Joins.cell_alloc_mark_at W #[.int .i32 x.1, .int .i64 x.2] 29 (0, 0) W.heap.size 0 rfl, Joins.cell_alloc_mark_at W #[.int .i32 x.1, .int .i64 x.2] 29 (0, 0) W.heap.size 1 rfl⟩
  case body =>
    rintro l pre x a' W hl ⟨rr, hrr⟩ ⟨hI, hK⟩ ⟨q, hq, rfl, c0, c1⟩ hlen
    have HK := Lib.hid hK; have HQ := Lib.hid hq
    have HXL := Lib.hid hxl; have HSZ := Lib.hid hsz
    obtain ⟨A1, c1', h1, h2⟩ := hI.l
    have HR := Lib.hid h2; have HBX := Lib.hid h1
    have b0 : W.cell? ⟨w.heap.size, 0, none⟩ = some (.slice A1 pre.length c1') := by simp [World.cell?, h1]
    have z0 : W.frozen? ⟨w.heap.size, 0, none⟩ = false := by simp [World.frozen?, h1]
    have hsz1 : w4.heap.size ≤ W.heap.size := hK.size
    have hpl : pre.length ≤ 1048576 := by omega
    clear hI hK hq hrr hl h1 h2 hlen hxl hsz
    unfold k2V
    gi_wp2_with (gi_at_builtin; refine R_append_in keyK (w0 := W) w4.heap.size rfl (.tmp 8) (.tmp 10) 42 29 _ 16 rfl Try.underlying42 infoK rfl (by decide) (by omega) _ pre x [.int .i32 x.1, .int .i64 x.2] (fun _ => True) (fun _ => False) rfl rfl ⟨_, _, rfl, rfl, rfl⟩ (fun _ hk => hk.elim) (fun _ _ => trivial) HR.out (Below.refl _ _) hsz1 (by omega) ?_; intro v1 w5 ho hb5 hg5 hat; obtain ⟨A5, c5, rfl⟩ := Kd.R_slice ho; have HO5 := Lib.hid ho; have HB5 := Lib.hid hb5; have HG5 := Lib.hid hg5; have HX5 := Lib.hid ((hb5.block w.heap.size (by have := HSZ.out; omega)).trans HBX.out); have y0 : w5.cell? ⟨w.heap.size, 0, none⟩ = some (.slice A1 pre.length c1') := (by simp [World.cell?, HX5.out]); have y1 : w5.frozen? ⟨w.heap.size, 0, none⟩ = false := (by simp [World.frozen?, HX5.out]); clear ho hb5 hg5 hat b0 z0)
    have hsz := HSZ.out
    refine ⟨((app_others HR.out HG5.out).from _).trans ((KeepsOthers.setCell _ _ _).from _), fun i hi hl => ?_, ⟨⟨A5, c5, ?_, ?_⟩⟩, ?_⟩
    · exact (Below.heap_setCell w5 ⟨w.heap.size, 0, none⟩ _ i (by show i ≠ w.heap.size; omega)).trans (HB5.out.block i (by omega))
    · have := heap_same (a := ⟨w.heap.size, 0, none⟩) (v := .slice A5 (pre ++ [x]).length c5) HX5.out rfl
      simpa using this
    · have h1 := Kd.R_mono (Kd.R_bound HO5.out) (fun k hk => (hk.2.1 : w4.heap.size ≤ k))
      exact Kd.R_mono (Kd.R_far (p := ⟨w.heap.size, 0, none⟩) h1 (fun k hk => by show k ≠ w.heap.size; omega) _) (fun _ _ => trivial)
    · exact (HK.out.then_base HB5.out).set (.inl rfl) _
  case done =>
    rintro D ys W hD rfl ⟨hI, hK⟩ hKD
    obtain ⟨A1, c1, h1, h2⟩ := hI.l
    have b0 : W.cell? ⟨w.heap.size, 0, none⟩ = some (.slice A1 ys.length c1) := by simp [World.cell?, h1]
    gi_wp2
    refine ⟨by simp, .inl ⟨_, _, rfl, run_takeDeferred hKD, ?_⟩⟩
    refine ⟨_, results_tmp rfl _ _ _, ?_⟩
    have hb1 : Below w.heap.size w w4 := HB.out
    have hb2 := hb1.trans (hK.below (B := w.heap.size) hb1.size (by rintro i rfl; omega))
    have hb3 := hb2.trans (belowK_b (w := w) (Nat.le_refl _) W D _ (.deferred none) (by have := hb1.size; omega) hKD rfl rfl)
    have hR := R_kept_own h2 (grownBy_putObj' W D (.deferred none)) (fun r e => by cases e; exact ⟨_, hKD, rfl⟩)
    have hR1 := Kd.R_mono (Kd.R_bound hR) (fun k hk => (⟨by have := hk.2.1; have := hb1.size; omega, hk.2.2.1⟩ : w.heap.size ≤ k ∧ k < _))
    obtain ⟨A', c', e1, _, hF⟩ := Kd.R_V (base' := 0) hR1
    simp only [Value.slice.injEq] at e1
    obtain ⟨rfl, _, rfl⟩ := e1
    exact ⟨_, _, rfl, hF, hb3⟩
  case stop =>
    rintro D c pre W hD hp hbad hKD
    exact hbad.elim
theorem collect_is {w : World} {B : Nat} {A : Option Addr} {cc : Nat} {xs : List (Int × Int)} (hB : w.cell? ⟨B, 0, none⟩ = some (.slice A xs.length cc)) (hF : Kd.F keyK w (fun i => i < w.heap.size) A xs.length xs) (hxl : xs.length ≤ 1048576) :
    Calls Try.prog 16 #[.func (.func 61) #[] #[.pointer (some ⟨B, 0, none⟩)]] w fun e w' => ∃ (A : Option Addr) (cc : Nat), e = .returned (.slice A xs.length cc) ∧ Kd.F keyK w' (fun i => w.heap.size ≤ i ∧ i < w'.heap.size) A xs.length xs ∧ Below w.heap.size w w' := by
  have H := Lib.hid (appseq_is hB hF hxl)
  clear hB hF hxl
  go_enter Try.func16, Try.ntmps16
  go_wp2_with fail
  refine H.out.mono ?_
  rintro e w1 ⟨A1, c1, rfl, h1, h2⟩
  have H1 := Lib.hid h1; have H2 := Lib.hid h2
  clear h1 h2
  go_wp2_with fail
  go_ret
  exact ⟨_, _, rfl, H1.out, H2.out⟩
end Go.Proofs.Ytdolmkiiflhehaa.M
end

section
/- slices.Index and Contains of keys; Steps. -/
set_option linter.unusedVariables false
set_option linter.unusedSimpArgs false
set_option maxRecDepth 100000
attribute [local irreducible] Go.wpStill
namespace Go.Proofs.Ytdolmkiiflhehaa.M
open Go.RowKit Go.Shelf Go.Proofs.YtdolmkiiflhehaaW.PrintWords

def HasV (w : World) (xs : List (Int × Int)) (k : Int × Int) (e : Ending) (w' : World) : Prop := ∃ i : Int, e = .returned (.int .i64 i) ∧ (0 ≤ i ↔ k ∈ xs) ∧ Below w.heap.size w w'
def HasB (w : World) (xs : List (Int × Int)) (k : Int × Int) (e : Ending) (w' : World) : Prop := e = .returned (.bool (decide (k ∈ xs))) ∧ Below w.heap.size w w'
def HasI (xs : List (Int × Int)) (k : Int × Int) (w1 : World) (i : Value) (wr : World) : Prop := ∃ j : Nat, i = .int .i64 j ∧ j ≤ xs.length ∧ k ∉ xs.take j ∧ Below w1.heap.size w1 wr
set_option maxHeartbeats 1000000 in
theorem index_is {w : World} {A : Option Addr} {cc : Nat} {xs : List (Int × Int)} (hF : Kd.F keyK w (fun i => i < w.heap.size) A xs.length xs) (k : Int × Int) :
    Calls Try.prog 42 #[.slice A xs.length cc, keyV k] w fun e w' => HasV w xs k e w' := by
  have hlm : xs.length ≤ 9223372036854775807 := Kd.F_max hF
  have HB := Lib.hid (show Below w.heap.size w (w.alloc (.cells #[.int .i32 k.1, .int .i64 k.2] 29)) from (Below.refl _ _).alloc (Nat.le_refl _) _)
  have HX := Lib.hid (heap_alloc_new w (.cells #[.int .i32 k.1, .int .i64 k.2] 29))
  have HF := Lib.hid (Kd.F_below hF HB.out)
  clear hF
  unfold keyV
  go_enter Try.func42, Try.ntmps42
  go_wp2_with fail
  obtain ⟨w1, hw1⟩ : ∃ w1, w.alloc (.cells #[.int .i32 k.1, .int .i64 k.2] 29) = w1 := ⟨_, rfl⟩
  rw [hw1] at HB HX HF ⊢
  clear hw1
  go_loopw [8] (fun i wr => HasI xs k w1 i wr) (fun i _ => xs.length - (intOf i).toNat)
  case atStart => exact ⟨0, rfl, Nat.zero_le _, by simp, Below.refl _ _⟩
  case round =>
    obtain ⟨j, rfl, hj, hn, hb⟩ := hrel
    have HN := Lib.hid hn; have HBr := Lib.hid hb
    have HXr := Lib.hid ((hb.block w.heap.size (Array.getElem?_eq_some_iff.1 HX.out).1).trans HX.out)
    have HFr := Lib.hid (Kd.F_below HF.out hb)
    clear hn hb
    by_cases hlt : j < xs.length
    · obtain ⟨x, hx⟩ : ∃ x, xs[j]? = some x := ⟨_, List.getElem?_eq_getElem hlt⟩
      obtain ⟨ad, rfl, hc0, hc1⟩ := key_get (Kd.F_now HFr.out) hx
      have HXX := Lib.hid hx
      have b0 : wr.cell? ⟨w.heap.size, 0, none⟩ = some (.int .i32 k.1) := by simp [World.cell?, HXr.out]
      have b1 : wr.cell? ⟨w.heap.size, 1, none⟩ = some (.int .i64 k.2) := by simp [World.cell?, HXr.out]
      clear hx
      by_cases hk : k = x
      · have hq : ∀ W : World, (Op.equalIn 10000 29 (.agg #[.int .i32 k.1, .int .i64 k.2]) (.agg #[.int .i32 x.1, .int .i64 x.2])).run Try.prog W = .ok true W := fun W => by rw [hk]; exact eqk_self x W
        have HK := Lib.hid hk
        clear hk
        go_wp2_with fail
        refine wp_region_still_tail 5 (by kernel_rfl) (by kernel_rfl) ?_
        simp only [List.take_succ_cons, List.take_zero, List.drop_succ_cons, List.drop_zero]
        iterate 5 still_step
        refine wpStill_nil ?_
        change wpList _ _ _ _ _ wr.drew
        go_wp2_with fail
        go_ret
        exact ⟨j, rfl, ⟨fun _ => by rw [HK.out]; exact List.mem_of_getElem? HXX.out, fun _ => by omega⟩, (HB.out.trans (HBr.out.mono HB.out.size)).drew⟩
      · have hq : ∀ W : World, (Op.equalIn 10000 29 (.agg #[.int .i32 k.1, .int .i64 k.2]) (.agg #[.int .i32 x.1, .int .i64 x.2])).run Try.prog W = .ok false W := fun W => eqk_ne hk W
        have HK := Lib.hid hk
        clear hk
        go_wp2_with fail
        refine wp_region_still_tail 5 (by kernel_rfl) (by kernel_rfl) ?_
        simp only [List.take_succ_cons, List.take_zero, List.drop_succ_cons, List.drop_zero]
        iterate 5 still_step
        refine wpStill_nil ?_
        change wpList _ _ _ _ _ wr.drew
        go_wp2_with fail
        go_roundw
        case rel =>
          refine ⟨j + 1, by go_num, hlt, ?_, HBr.out.drew⟩
          rw [← take_snoc' HXX.out]
          intro h
          rcases List.mem_append.1 h with h | h
          · exact HN.out h
          · exact HK.out (List.mem_singleton.1 h)
        case measure => simp [intOf]; omega
    · have hjg : j = xs.length := by omega
      have HNA := Lib.hid (show k ∉ xs by have := HN.out; rwa [hjg, List.take_length] at this)
      have hlt' : decide ((j : Int) < (xs.length : Int)) = false := decide_eq_false (by omega)
      clear hjg
      go_wp2_with fail
      go_ret
      exact ⟨-1, rfl, ⟨fun h => by omega, fun h => absurd h HNA.out⟩, HB.out.trans (HBr.out.mono HB.out.size)⟩
theorem contains_is {w : World} {A : Option Addr} {cc : Nat} {xs : List (Int × Int)} (hF : Kd.F keyK w (fun i => i < w.heap.size) A xs.length xs) (k : Int × Int) :
    Calls Try.prog 18 #[.slice A xs.length cc, keyV k] w fun e w' => HasB w xs k e w' := by
  have HB := Lib.hid (show Below w.heap.size w (w.alloc (.cells #[.int .i32 k.1, .int .i64 k.2] 29)) from (Below.refl _ _).alloc (Nat.le_refl _) _)
  have HI := Lib.hid (index_is (cc := cc) (Kd.F_mono (Kd.F_below hF HB.out) (fun i (hi : i < w.heap.size) => Nat.lt_of_lt_of_le hi HB.out.size)) k)
  clear hF
  unfold keyV at HI ⊢
  go_enter Try.func18, Try.ntmps18
  go_wp2_with fail
  refine HI.out.mono ?_
  rintro e w1 ⟨i, rfl, hi, hb⟩
  have HII := Lib.hid hi; have HB1 := Lib.hid hb
  clear hi hb
  go_wp2_with fail
  go_ret
  refine ⟨?_, HB.out.trans (HB1.out.mono HB.out.size)⟩
  show Ending.returned (.bool (decide (0 ≤ i))) = _
  rw [decide_eq_decide.2 HII.out]
set_option maxHeartbeats 1000000 in
theorem steps_is {w : World} {s h : Nat} {L : List Nd} {x : Int} {nx : Nat → Nat → Option Nat} (H : IsSk w s h L x nx) (hL : L.length ≤ 1048576) (k : Int × Int) :
    Calls Try.prog 19 #[.pointer (some ⟨s, 0, none⟩), keyV k] w fun e w' => e = .returned (.int .i64 (stp L (rank L k) 8)) ∧ Below w.heap.size w w' := by
  have HB := Lib.hid (show Below w.heap.size w (w.alloc (.cells #[.int .i32 k.1, .int .i64 k.2] 29)) from (Below.refl _ _).alloc (Nat.le_refl _) _)
  have HH := Lib.hid (H.below HB.out)
  clear H
  unfold keyV
  go_enter Try.func19, Try.ntmps19
  go_wp2_with fail
  refine (none_is HH.out).mono ?_
  rintro e w' ⟨rfl, rfl⟩
  go_wp2_with fail
  refine (path_is HH.out hL k).mono ?_
  rintro e w3 ⟨rfl, hb⟩
  have HB3 := Lib.hid hb
  clear hb
  unfold ptrArr
  simp only [np]
  go_wp2_with fail
  go_ret
  exact ⟨rfl, (HB.out.trans (HB3.out.mono HB.out.size)).alloc (Nat.le_trans HB.out.size HB3.out.size) _⟩
end Go.Proofs.Ytdolmkiiflhehaa.M
end

section
/- SkipLevels: the walk. -/
set_option linter.unusedVariables false
set_option linter.unusedSimpArgs false
set_option maxRecDepth 100000
namespace Go.Proofs.Ytdolmkiiflhehaa.M
open Go.RowKit Go.Maps Go.Proofs.YtdolmkiiflhehaaW.PrintWords Go.Proofs.YtdolmkiiflhehaaW.PrintMore Go.Proofs.YtdolmkiiflhehaaW.PrintLast

/-- A store that only its own blocks turn. -/
structure LSt (s h : Nat) (w3 wr : World) (L : List Nd) (x : Int) (nx : Nat → Nat → Option Nat) : Prop where
  sk : IsSk wr s h L x nx
  own : ∀ i, IsSk.Own s h L i → i = s ∨ i = h ∨ w3.heap.size ≤ i
  keep : KeepS (fun i => i = s ∨ i = h) w3 wr
namespace LSt
variable {s h : Nat} {w3 wr w' : World} {L L' : List Nd} {x x' : Int} {nx nx' : Nat → Nat → Option Nat}
theorem below (H : LSt s h w3 wr L x nx) (hb : Below wr.heap.size wr w') : LSt s h w3 w' L x nx :=
  ⟨H.sk.below hb, H.own, H.keep.then_below hb⟩
theorem turn (H : LSt s h w3 wr L x nx) (h1 : IsSk w' s h L' x' nx') (h2 : KeepS (IsSk.Own s h L) wr w') (h3 : ∀ i, IsSk.Own s h L' i → IsSk.Own s h L i ∨ wr.heap.size ≤ i) : LSt s h w3 w' L' x' nx' :=
  ⟨h1, fun i hi => by
    rcases h3 i hi with r | r
    · exact H.own i r
    · have := H.keep.size; exact .inr (.inr (by omega)),
   ⟨h2.os.trans H.keep.os, h2.tape.trans H.keep.tape, h2.output.trans H.keep.output, Nat.le_trans H.keep.size h2.size, fun i hi hn => (h2.block i (Nat.lt_of_lt_of_le hi H.keep.size) (fun ho => by
      rcases H.own i ho with r | r | r
      · exact hn (.inl r)
      · exact hn (.inr r)
      · omega)).trans (H.keep.block i hi hn)⟩⟩
end LSt
def LevL (s h n : Nat) (w3 : World) (i : Value) (wr : World) : Prop :=
  ∃ (j : Nat) (L : List Nd) (x : Int) (nx : Nat → Nat → Option Nat), i = .int .i64 j ∧ j ≤ n ∧ L.length ≤ j ∧ LSt s h w3 wr L x nx
def LevN (s h : Nat) (L : List Nd) (w5 : World) (v n : Value) (wr : World) : Prop :=
  ∃ (m : Nat) (A : Option Addr) (cc : Nat), n = .int .i64 m ∧ 1 ≤ m ∧ m ≤ 8 ∧ v = .slice A (lvl L (m - 1)).length cc ∧ Kd.F keyK wr (fun i => i < wr.heap.size) A (lvl L (m - 1)).length (lvl L (m - 1)) ∧ Below w5.heap.size w5 wr
theorem putR_len {L L' : List Nd} {c : CellD} {E : Int} (h : PutR L c E L') : L'.length ≤ L.length + 1 := by
  rcases h with ⟨_, _, _, h4⟩ | ⟨_, _, rfl⟩
  · split at h4 <;> omega
  · omega
theorem eraR_len {L L' : List Nd} {k : Int × Int} {E : Int} (h : EraR L k E L') : L'.length ≤ L.length := by
  rcases h with ⟨_, _, _, h4⟩ | ⟨_, _, rfl⟩ <;> omega
set_option maxHeartbeats 2000000 in
theorem levels_walk (w : World) (seed : Int) (A : Option Addr) (c : Nat) (l : List OpD) (hl : Kd.F opK w (fun k => k < w.heap.size) A l.length l) (hlc : l.length ≤ c) (k : Int × Int) :
    Calls Try.prog 4 #[.int .u64 seed, .slice A l.length c, keyV k] w fun e w' => e = .returned (.bool true) ∧ Below w.heap.size w w' := by
  have HB0 := Lib.hid (show Below w.heap.size w (w.alloc (.cells #[.int .i32 k.1, .int .i64 k.2] 29)) from (Below.refl _ _).alloc (Nat.le_refl _) _)
  have HX0 := Lib.hid (heap_alloc_new w (.cells #[.int .i32 k.1, .int .i64 k.2] 29))
  unfold keyV
  go_enter Try.func4, Try.ntmps4
  go_wp2_with fail
  obtain ⟨w0, hw0⟩ : ∃ w0, w.alloc (.cells #[.int .i32 k.1, .int .i64 k.2] 29) = w0 := ⟨_, rfl⟩
  rw [hw0] at HB0 HX0 ⊢
  clear hw0
  refine (new_is seed w0).mono ?_
  rintro e w1 ⟨rfl, h1, b1⟩
  have H1 := Lib.hid h1; have HB1 := Lib.hid b1
  clear h1 b1
  go_wp2_with fail
  refine (begun_is w1).mono ?_
  rintro e w2 ⟨rfl, b2⟩
  have H2 := Lib.hid (H1.out.below b2); have HB2 := Lib.hid (HB1.out.trans (b2.mono HB1.out.size))
  clear b2
  have HBw := Lib.hid (HB0.out.trans (HB2.out.mono HB0.out.size))
  have HX2 := Lib.hid ((HB2.out.block w.heap.size (Array.getElem?_eq_some_iff.1 HX0.out).1).trans HX0.out)
  have HS0 := Lib.hid (show w.heap.size < w0.heap.size from (Array.getElem?_eq_some_iff.1 HX0.out).1)
  have hlm : l.length ≤ 9223372036854775807 := Kd.F_max hl
  obtain ⟨nl, hnl⟩ : ∃ nl, nl = min l.length 300 := ⟨_, rfl⟩
  have HNL := Lib.hid hnl
  have h1 : nl ≤ c := by omega
  go_upto_region 4 with fail
  go_cut [27, 28, 29] (fun a b i wx => wx = w2 ∧ (∃ cc, a = .slice A nl cc) ∧ b = .int .i64 nl ∧ i = .int .i64 0)
  case first =>
    by_cases h300 : l.length ≤ 300
    · have g1 : decide ((300 : Int) < (l.length : Int)) = false := decide_eq_false (by omega)
      have hnn : nl = l.length := by have := HNL.out; omega
      have HNN := Lib.hid hnn
      clear hnn HNL h1 hnl
      go_wp2_with fail
      go_meet
      exact ⟨rfl, ⟨c, by rw [HNN.out]⟩, by rw [HNN.out], rfl⟩
    · have hnn : nl = 300 := by have := HNL.out; omega
      have g1 : decide ((300 : Int) < (l.length : Int)) = true := decide_eq_true (by omega)
      have g2 : (300 : Int) ≤ (c : Int) := by omega
      have HNN := Lib.hid hnn
      clear hnn HNL h1 hnl
      go_wp2_with fail
      go_meet
      exact ⟨rfl, ⟨c, by rw [HNN.out]⟩, by rw [HNN.out]; rfl, rfl⟩
  case rest =>
    obtain ⟨rfl, ⟨cc, rfl⟩, rfl, rfl⟩ := hcut
    clear hnl h1
    have HN3 := Lib.hid (show nl ≤ 300 ∧ nl ≤ l.length by have := HNL.out; omega)
    go_wp2_with fail
    go_loopw [29] (fun i wr => LevL (w0.heap.size + 1) w0.heap.size nl wc i wr) (fun i _ => nl - (intOf i).toNat)
    case atStart =>
      refine ⟨0, [], seed, _, rfl, Nat.zero_le _, Nat.le_refl _, ⟨H2.out, fun i hi => ?_, KeepS.refl _ _⟩⟩
      rcases hi with hi | hi
      · exact .inl hi
      · simp at hi; exact .inr (.inl hi)
    case round =>
      obtain ⟨j, L, x, nx, rfl, hj, hLj, hS⟩ := hrel
      have HS := Lib.hid hS
      clear hS
      have HL1 := Lib.hid (show L.length ≤ 1048576 by have := HN3.out; omega)
      by_cases hlt : j < nl
      · have hjl : j < l.length := by have := HN3.out; omega
        have ho : l[j]? = some l[j] := List.getElem?_eq_getElem hjl
        obtain ⟨o, hx⟩ : ∃ o, l[j] = o := ⟨_, rfl⟩
        rw [hx] at ho
        clear hx
        have HLr := Lib.hid (HS.out.keep.foot (Kd.F_below hl HBw.out) (fun i (hi : i < w.heap.size) => by
          have := HS0.out
          rintro (rfl | rfl) <;> omega))
        obtain ⟨ad, rfl, hc0, hc1, hc2, hc3, hc4, hc5, hc6, hc7, hc8⟩ := op_get HLr.out ho
        clear ho HLr
        go_upto_block 1 with fail
        go_cut [] (fun wx => ∃ (L' : List Nd) (x' : Int) (nx' : Nat → Nat → Option Nat), L'.length ≤ j + 1 ∧ LSt (w0.heap.size + 1) w0.heap.size wc wx L' x' nx')
        case first =>
          cases hD : (o.Do == 1) with
          | true =>
            have HX := Lib.hid hD
            go_wp2_with fail
            have HSa := Lib.hid (HS.out.below ((Below.refl _ wr).alloc (Nat.le_refl _) (.cells #[.int .i64 o.Do, .int .i32 o.c.table, .int .i64 o.c.row, .int .i64 o.c.value, .int .i64 o.c.slot, .int .i32 o.tk.1, .int .i64 o.tk.2, .int .u64 o.seed, .int .i64 o.stop] 33)))
            refine (erase_is HSa.out.sk HL1.out o.c.key).mono ?_
            rintro e w5 ⟨E, L', x', nx', rfl, hI, hK, hO, hR⟩
            have HS5 := Lib.hid (HSa.out.turn hI hK hO)
            have HLE := Lib.hid (eraR_len hR)
            clear hI hK hO hR
            go_wp2_with fail
            go_meet
            exact ⟨L', x', nx', by have := HLE.out; omega, HS5.out⟩
          | false =>
            have HX := Lib.hid hD
            go_wp2_with fail
            have HSa := Lib.hid (HS.out.below ((Below.refl _ wr).alloc (Nat.le_refl _) (.cells #[.int .i64 o.Do, .int .i32 o.c.table, .int .i64 o.c.row, .int .i64 o.c.value, .int .i64 o.c.slot, .int .i32 o.tk.1, .int .i64 o.tk.2, .int .u64 o.seed, .int .i64 o.stop] 33)))
            refine (put_is HSa.out.sk (by have := HN3.out; omega) o.c).mono ?_
            rintro e w5 ⟨E, L', x', nx', rfl, hI, hK, hO, hR⟩
            have HS5 := Lib.hid (HSa.out.turn hI hK hO)
            have HLE := Lib.hid (putR_len hR)
            clear hI hK hO hR
            go_wp2_with fail
            go_meet
            exact ⟨L', x', nx', by have := HLE.out; omega, HS5.out⟩
        case rest =>
          obtain ⟨L', x', nx', hL', hS'⟩ := hcut
          have HL' := Lib.hid hL'; have HS' := Lib.hid hS'
          clear hL' hS'
          go_wp2_with fail
          go_roundw
          case rel => exact ⟨j + 1, L', x', nx', by go_num, hlt, HL'.out, HS'.out⟩
          case measure => simp [intOf]; omega
      · clear hl
        go_wp2_with fail
        clear hlt hj
        have HLV := Lib.hid (level_is HS.out.sk HL1.out 0 (by omega))
        refine HLV.out.mono ?_
        rintro e w4 ⟨B, rfl, ⟨hBl, A4, c4, hB4, hF4⟩, hb4⟩
        have HS4 := Lib.hid (HS.out.below hb4)
        have HCO := Lib.hid (collect_is hB4 (Kd.F_mono hF4 (fun i hi => hi.2)) (Nat.le_trans (lvl_len L 0) HL1.out))
        clear hBl hB4 hF4 hb4
        go_wp2_with fail
        refine HCO.out.mono ?_
        rintro e w5 ⟨A5, c5, rfl, hF5, hb5⟩
        have HS5 := Lib.hid (HS4.out.below hb5)
        have HF5 := Lib.hid (Kd.F_mono hF5 (fun i hi => hi.2))
        have hz := lvl_zero HS.out.sk.store
        have hzl : (lvl L 0).length = L.length := by rw [hz, List.length_map]
        have HZL := Lib.hid hzl
        rw [hzl]
        clear hF5 hb5 hz hzl HCO HLV
        go_wp2_with fail
        refine (len_is HS5.out.sk).mono ?_
        rintro e w' ⟨rfl, rfl⟩
        go_wp2_with fail
        go_loopw [10, 11] (fun v n wr => LevN (w0.heap.size + 1) w0.heap.size L w' v n wr) (fun _ n _ => 8 - (intOf n).toNat)
        case atStart => exact ⟨1, A5, c5, rfl, by omega, by omega, by rw [HZL.out], HF5.out, Below.refl _ _⟩
        case round =>
          obtain ⟨m, A6, c6, rfl, hm1, hm8, rfl, hF6, hb6⟩ := hrel
          have HF6 := Lib.hid hF6; have HB6 := Lib.hid hb6
          have HS6 := Lib.hid (HS5.out.below hb6)
          clear hF6 hb6
          by_cases hm : m < 8
          · have hm' : decide ((m : Int) < 8) = true := decide_eq_true (by omega)
            obtain ⟨n, hn⟩ : ∃ n, m = n + 1 := ⟨m - 1, by omega⟩
            have HMN := Lib.hid hn
            have HLV := Lib.hid (level_is HS6.out.sk HL1.out m hm)
            clear hn
            go_wp2_with fail
            refine HLV.out.mono ?_
            rintro e w7 ⟨B, rfl, ⟨hBl, A7, c7, hB7, hF7⟩, hb7⟩
            have HB7 := Lib.hid hb7
            have HCO := Lib.hid (collect_is hB7 (Kd.F_mono hF7 (fun i hi => hi.2)) (Nat.le_trans (lvl_len L m) HL1.out))
            clear hBl hB7 hF7 hb7
            go_wp2_with fail
            refine HCO.out.mono ?_
            rintro e w8 ⟨A8, c8, rfl, hF8, hb8⟩
            have HB8 := Lib.hid (HB7.out.trans (hb8.mono HB7.out.size))
            have HF8 := Lib.hid (Kd.F_mono hF8 (fun i hi => hi.2))
            have HF6' := Lib.hid (Kd.F_mono (Kd.F_below HF6.out HB8.out) (fun i (hi : i < wr.heap.size) => Nat.lt_of_lt_of_le hi HB8.out.size))
            have HMX := Lib.hid (Kd.F_max hF8)
            clear hF8 hb8 HCO HLV
            obtain ⟨xs, hxs⟩ : ∃ xs, lvl L m = xs := ⟨_, rfl⟩
            obtain ⟨ys, hys⟩ : ∃ ys, lvl L (m - 1) = ys := ⟨_, rfl⟩
            have HSUB := Lib.hid (show ∀ y, y ∈ xs → y ∈ ys from fun y hy => by
              rw [← hxs, HMN.out] at hy
              rw [← hys, HMN.out]
              exact lvl_sub L n hy)
            rw [hxs] at HF8 HMX ⊢
            rw [hys] at HF6' ⊢
            have HXS := Lib.hid hxs; have HYS := Lib.hid hys
            clear hxs hys
            have hxm := HMX.out
            go_wp2_with fail
            go_loopw [64] (fun i wq => ∃ j : Nat, i = .int .i64 j ∧ j ≤ xs.length ∧ Aside0 (Below w8.heap.size w8 wq)) (fun i _ => xs.length - (intOf i).toNat)
            case atStart => exact ⟨0, rfl, Nat.zero_le _, ⟨Below.refl _ _⟩⟩
            case round =>
              obtain ⟨j', rfl, hj', HBq⟩ := hrel
              by_cases hlt' : j' < xs.length
              · obtain ⟨x', hx'⟩ : ∃ x', xs[j']? = some x' := ⟨_, List.getElem?_eq_getElem hlt'⟩
                obtain ⟨ad, rfl, hc0, hc1⟩ := key_get (Kd.F_now (Kd.F_below HF8.out HBq.out)) hx'
                have HIN := Lib.hid (HSUB.out x' (List.mem_of_getElem? hx'))
                clear hx'
                have HC := Lib.hid (contains_is (cc := c6) (Kd.F_mono (Kd.F_below (Kd.F_below HF6'.out HBq.out) ((Below.refl _ wr).alloc (Nat.le_refl _) (.cells #[.int .i32 x'.1, .int .i64 x'.2] 29))) (fun i (hi : i < w8.heap.size) => by have := HBq.out.size; simp; omega)) x')
                unfold keyV at HC
                go_wp2_with fail
                refine HC.out.mono ?_
                rintro e w9 ⟨rfl, hb9⟩
                have HBn := Lib.hid (HBq.out.trans ((((Below.refl _ wr).alloc (Nat.le_refl _) _).trans (hb9.mono (by simp))).mono HBq.out.size))
                have HDT := Lib.hid (show decide (x' ∈ ys) = true from decide_eq_true HIN.out)
                rw [HDT.out]
                clear hb9
                go_wp2_with fail
                go_roundw
                case rel => exact ⟨j' + 1, by go_num, hlt', ⟨HBn.out⟩⟩
                case measure => simp [intOf]; omega
              · go_wp2_with fail
                go_roundw
                case rel => exact ⟨m + 1, A8, c8, by go_num, by omega, hm, by rw [Nat.add_sub_cancel, HXS.out], by rw [Nat.add_sub_cancel, HXS.out]; exact Kd.F_mono (Kd.F_below HF8.out HBq.out) (fun i (hi : i < w8.heap.size) => Nat.lt_of_lt_of_le hi HBq.out.size), HB6.out.trans ((HB8.out.trans (HBq.out.mono HB8.out.size)).mono HB6.out.size)⟩
                case measure => simp [intOf]; omega
          · have hm9 : decide ((m : Int) < 8) = false := decide_eq_false (by omega)
            have HX6 := Lib.hid ((HS6.out.keep.block w.heap.size (Array.getElem?_eq_some_iff.1 HX2.out).1 (by have := HS0.out; rintro (h | h) <;> omega)).trans HX2.out)
            have k0 : wr.cell? ⟨w.heap.size, 0, none⟩ = some (.int .i32 k.1) := by simp [World.cell?, HX6.out]
            have k1 : wr.cell? ⟨w.heap.size, 1, none⟩ = some (.int .i64 k.2) := by simp [World.cell?, HX6.out]
            have HST := Lib.hid (stp_le L (rank L k) 8 (by omega))
            clear hm hm1 hm8
            go_wp2_with fail
            refine (steps_is HS6.out.sk HL1.out k).mono ?_
            rintro e w7 ⟨rfl, hb7⟩
            have HB7 := Lib.hid hb7
            clear hb7
            go_wp2_with fail
            refine (len_is (HS6.out.sk.below HB7.out)).mono ?_
            rintro e w' ⟨rfl, rfl⟩
            have hst : stp L (rank L k) 8 ≤ 2 * L.length + 8 := by
              have h1 := HST.out
              have h2 := pre_le L (8 - 8) (rank L k)
              have h3 := rank_le L k
              omega
            obtain ⟨st, hste⟩ : ∃ st, stp L (rank L k) 8 = st := ⟨_, rfl⟩
            rw [hste] at hst ⊢
            have hll := HL1.out
            have hstb : decide ((st : Int) ≤ 2 * (L.length : Int) + 8) = true := decide_eq_true (by omega)
            clear hste
            go_wp2_with fail
            go_ret
            refine ⟨rfl, ?_⟩
            have h1 := HBw.out.trans (HS6.out.keep.below (B := w.heap.size) HBw.out.size (by
              have := HS0.out
              rintro i (rfl | rfl) <;> omega))
            exact h1.trans (HB7.out.mono h1.size)
end Go.Proofs.Ytdolmkiiflhehaa.M
end
