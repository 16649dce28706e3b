/- SkipNoneSaid: contracts of the functions that the law goes through, put together in build order (part 2 of 2). -/
import Derived.Test.YtdolmkiiflhehaaPart0
import Derived.StillTailTactics
import Derived.Test.YtdolmkiiflhehaaWMore
import Derived.Test.YtdolmkiiflhehaaWLast
import Derived.Maps.OwnSet
import Derived.Maps.OwnOps
import Derived.Maps.RangeWalk
import Derived.Maps.Views
import Derived.DeepKeys4
import Derived.KernelRfl
import Derived.Laws.ResultCell
import Derived.Test.YtdolmkiiflhehaaWN
section
/- The memory behind a key's new value, behind a node put in and one taken out. -/
set_option linter.unusedVariables false
set_option linter.unusedSimpArgs false
namespace Go.Proofs.Ytdolmkiiflhehaa.M
open Go.RowKit

def set4 (w : World) (b : Nat) (c : CellD) : World := (((w.setCell ⟨b, 0, none⟩ (.int .i32 c.table)).setCell ⟨b, 1, none⟩ (.int .i64 c.row)).setCell ⟨b, 2, none⟩ (.int .i64 c.value)).setCell ⟨b, 3, none⟩ (.int .i64 c.slot)
theorem NodeIs.set4 {w : World} {b : Nat} {c : CellD} {f : Nat → Option Nat} {hi : Int} (h : NodeIs w b c f hi) (c' : CellD) : NodeIs (set4 w b c') b c' f hi := by
  have h1 := heap_same (a := ⟨b, 0, none⟩) (v := .int .i32 c'.table) h.blk rfl
  have h2 := heap_same (a := ⟨b, 1, none⟩) (v := .int .i64 c'.row) h1 rfl
  have h3 := heap_same (a := ⟨b, 2, none⟩) (v := .int .i64 c'.value) h2 rfl
  have h4 := heap_same (a := ⟨b, 3, none⟩) (v := .int .i64 c'.slot) h3 rfl
  exact ⟨h4.trans rfl⟩
theorem keep_set4 (w : World) (b : Nat) (c : CellD) : KeepS (fun i => i = b) w (set4 w b c) :=
  ((((KeepS.refl (fun i => i = b) w).set (p := ⟨b, 0, none⟩) (.inl rfl) _).set (p := ⟨b, 1, none⟩) (.inl rfl) _).set (p := ⟨b, 2, none⟩) (.inl rfl) _).set (p := ⟨b, 3, none⟩) (.inl rfl) _
section
variable {w w' : World} {s h : Nat} {L : List Nd} {x : Int} {nx : Nat → Nat → Option Nat}
theorem IsSk.set4 (H : IsSk w s h L x nx) {m : Nat} {e : Nd} (hm : L[m]? = some e) {c : CellD} (hc : c.key = e.c.key) : IsSk (set4 w e.b c) s h (setC L m c) x nx := by
  have hl := (List.getElem?_eq_some_iff.1 hm).1
  have eb : adr h L (m + 1) = e.b := by show blkAt L m = _; unfold blkAt; rw [hm]
  have hk := keep_set4 w e.b c
  refine ⟨?_, fun a ha => ?_, setC_links H.links hm c, setC_apart H.apart hm c, setC_store H.store hm hc, by rw [setC_map hm]; exact H.sne⟩
  · rw [setC_length]
    exact (hk.block s H.slt (fun e' => H.sadr (a := m + 1) (by omega) (by rw [eb]; exact e'.symm))).trans H.sh
  · rw [setC_length] at ha
    obtain ⟨n1, n2, n3⟩ := nodes_set (h := h) hm c (a := a)
    rw [n1, n2, n3]
    by_cases he : a = m + 1
    · subst he
      rw [if_pos rfl]
      have h1 := (H.nds (m + 1) ha).set4 c
      rw [eb] at h1 ⊢
      exact h1
    · rw [if_neg he]
      exact (H.nds a ha).move (hk.block _ (H.nds a ha).lt (fun e' => he (adr_inj H.apart ha (by omega) (by rw [eb]; exact e'))))
/-- While a node is put in: j levels are linked. -/
structure InsI (w : World) (s h : Nat) (L : List Nd) (x : Int) (nx : Nat → Nat → Option Nat) (m : Nat) (e : Nd) (j : Nat) : Prop where
  sh : w.heap[s]? = some (.cells #[.pointer (some ⟨h, 0, none⟩), .int .i64 L.length, .int .u64 x] 52)
  nds : ∀ a, a ≤ L.length → NodeIs w (adr h L a) (celP L a) (insJ nx h L m e j (adr h L a)) (hiP L a)
  nd : NodeIs w e.b e.c (insJ nx h L m e j e.b) e.hi
namespace InsI
variable {m j : Nat} {e : Nd}
theorem move (H : InsI w s h L x nx m e j) (hb : ∀ i, IsSk.Own s h L i ∨ i = e.b → w'.heap[i]? = w.heap[i]?) : InsI w' s h L x nx m e j :=
  ⟨(hb s (.inl (.inl rfl))).trans H.sh, fun a ha => (H.nds a ha).move (hb _ (.inl (IsSk.own_adr s h L ha))), H.nd.move (hb _ (.inr rfl))⟩
theorem zero (H : IsSk w s h L x nx) {e : Nd} (he : e.b ∉ h :: L.map (·.b)) (hn : NodeIs w e.b e.c (fun _ => none) e.hi) (m : Nat) : InsI w s h L x nx m e 0 :=
  ⟨H.sh, fun a ha => by rw [insJ_zero (fun e' => he (e' ▸ adr_mem h L ha))]; exact H.nds a ha, by rw [insJ_zero_e]; exact hn⟩
/-- What a level's two stores leave. -/
theorem step (H : InsI w s h L x nx m e j) (ha : Apart h L) (hs : s ∉ h :: L.map (·.b)) (hm : m ≤ L.length) (he : e.b ∉ h :: L.map (·.b)) (hes : e.b ≠ s) (hj : j < e.hi) (h8 : e.hi ≤ 8) :
    InsI ((w.setCell ⟨e.b, 4 + j, none⟩ (np (nx (adr h L (pre L j m)) j))).setCell ⟨adr h L (pre L j m), 4 + j, none⟩ (np (some e.b))) s h L x nx m e (j + 1) := by
  have hp : pre L j m ≤ L.length := Nat.le_trans (pre_le L j m) hm
  have hne : ∀ a, a ≤ L.length → adr h L a ≠ e.b := fun a ha e' => he (e' ▸ adr_mem h L ha)
  have hns : ∀ a, a ≤ L.length → adr h L a ≠ s := fun a ha e' => hs (e' ▸ adr_mem h L ha)
  refine ⟨?_, fun a hal => ?_, ?_⟩
  · rw [Below.heap_setCell _ _ _ _ (hns _ hp).symm, Below.heap_setCell _ _ _ _ hes.symm]
    exact H.sh
  · by_cases hap : a = pre L j m
    · subst hap
      have h1 := ((H.nds _ hp).far (p := ⟨e.b, 4 + j, none⟩) (hne _ hp).symm (np (nx (adr h L (pre L j m)) j))).setNext (l := j) (by omega) (some e.b)
      rw [insJ_step_p hj (hne _ hp)] at h1
      exact h1
    · have hx : adr h L a ≠ adr h L (pre L j m) := fun e' => hap (adr_inj ha hal hp e')
      rw [← insJ_step_o (hne _ hal) hx]
      exact ((H.nds a hal).far (p := ⟨e.b, 4 + j, none⟩) (hne _ hal).symm _).far (p := ⟨adr h L (pre L j m), 4 + j, none⟩) hx.symm _
  · have h1 := (H.nd.setNext (l := j) (by omega) (nx (adr h L (pre L j m)) j)).far (p := ⟨adr h L (pre L j m), 4 + j, none⟩) (hne _ hp) (np (some e.b))
    rw [insJ_step_e hj] at h1
    exact h1
theorem done (H : InsI w s h L x nx m e e.hi) (hl : Links nx h L) (ha : Apart h L) (hs : Store L) (hsn : s ∉ h :: L.map (·.b)) (hr : m = rank L e.c.key) (hm : m ≤ L.length) (he : e.b ∉ h :: L.map (·.b)) (hes : e.b ≠ s) (h1 : 1 ≤ e.hi) (h8 : e.hi ≤ 8) (hno : getL L e.c.key = none) :
    IsSk (w.setCell ⟨s, 1, none⟩ (.int .i64 (L.length + 1 : Nat))) s h (ins L m e) x (insJ nx h L m e e.hi) := by
  subst hr
  have hsI : s ∉ h :: (ins L (rank L e.c.key) e).map (·.b) := by
    intro hx
    rcases List.mem_cons.1 hx with hx | hx
    · exact hsn (hx ▸ List.mem_cons_self)
    · obtain ⟨e', h1, h2⟩ := List.mem_map.1 hx
      rcases ins_mem.1 h1 with rfl | h3
      · exact hes h2
      · exact hsn (List.mem_cons_of_mem _ (List.mem_map.2 ⟨e', h3, h2⟩))
  refine ⟨?_, fun a hal => ?_, insJ_links hl ha hm he h8, ins_apart ha he _, ins_store hs hno ⟨h1, h8⟩, hsI⟩
  · rw [heap_same (a := ⟨s, 1, none⟩) H.sh rfl, ins_length hm]; rfl
  · rcases nodes_ins (h := h) hm hal with ⟨a', h2, h3, h4, h5⟩ | ⟨h3, h4, h5⟩
    · rw [h3, h4, h5]; exact (H.nds a' h2).far (p := ⟨s, 1, none⟩) (fun (e' : s = adr h L a') => hsn (e' ▸ adr_mem h L h2)) _
    · rw [h3, h4, h5]; exact H.nd.far (p := ⟨s, 1, none⟩) (fun e' => hes e'.symm) _
end InsI
/-- While a node is taken out: j levels are past it. -/
structure DelI (w : World) (s h : Nat) (L : List Nd) (x : Int) (nx : Nat → Nat → Option Nat) (m j : Nat) : Prop where
  sh : w.heap[s]? = some (.cells #[.pointer (some ⟨h, 0, none⟩), .int .i64 L.length, .int .u64 x] 52)
  nds : ∀ a, a ≤ L.length → NodeIs w (adr h L a) (celP L a) (delJ nx h L m j (adr h L a)) (hiP L a)
namespace DelI
variable {m j : Nat}
theorem move (H : DelI w s h L x nx m j) (hb : ∀ i, IsSk.Own s h L i → w'.heap[i]? = w.heap[i]?) : DelI w' s h L x nx m j :=
  ⟨(hb s (.inl rfl)).trans H.sh, fun a ha => (H.nds a ha).move (hb _ (IsSk.own_adr s h L ha))⟩
theorem zero (H : IsSk w s h L x nx) (m : Nat) : DelI w s h L x nx m 0 := ⟨H.sh, fun a ha => by rw [delJ_zero]; exact H.nds a ha⟩
theorem step (H : DelI w s h L x nx m j) (ha : Apart h L) (hs : s ∉ h :: L.map (·.b)) (hm : m < L.length) (hj : j < hiAt L m) (h8 : hiAt L m ≤ 8) :
    DelI (w.setCell ⟨adr h L (pre L j m), 4 + j, none⟩ (np (nx (blkAt L m) j))) s h L x nx m (j + 1) := by
  have hp : pre L j m ≤ L.length := Nat.le_trans (pre_le L j m) (by omega)
  have hns : ∀ a, a ≤ L.length → adr h L a ≠ s := fun a ha e' => hs (e' ▸ adr_mem h L ha)
  refine ⟨(Below.heap_setCell _ _ _ _ (hns _ hp).symm).trans H.sh, fun a hal => ?_⟩
  by_cases hap : a = pre L j m
  · subst hap
    have h1 := (H.nds _ hp).setNext (l := j) (by omega) (nx (blkAt L m) j)
    rw [delJ_step_p hj] at h1
    exact h1
  · have hx : adr h L a ≠ adr h L (pre L j m) := fun e' => hap (adr_inj ha hal hp e')
    rw [← delJ_step_o hx]
    exact (H.nds a hal).far (p := ⟨adr h L (pre L j m), 4 + j, none⟩) hx.symm _
theorem done (H : DelI w s h L x nx m (hiAt L m)) (hl : Links nx h L) (ha : Apart h L) (hs : Store L) (hsn : s ∉ h :: L.map (·.b)) (hm : m < L.length) :
    IsSk (w.setCell ⟨s, 1, none⟩ (.int .i64 (L.length - 1 : Nat))) s h (del L m) x (delJ nx h L m (hiAt L m)) := by
  have hsI : s ∉ h :: (del L m).map (·.b) := by
    intro hx
    rcases List.mem_cons.1 hx with hx | hx
    · exact hsn (hx ▸ List.mem_cons_self)
    · exact hsn (List.mem_cons_of_mem _ (((del_sublist L m).map _).subset hx))
  have hlen := del_length hm
  refine ⟨?_, fun a hal => ?_, delJ_links hl ha hm, del_apart ha m, del_store hs m, hsI⟩
  · rw [heap_same (a := ⟨s, 1, none⟩) H.sh rfl, show (del L m).length = L.length - 1 by omega]; rfl
  · obtain ⟨a', h2, h3, h4, h5⟩ := nodes_del (h := h) hm hal
    rw [h3, h4, h5]
    exact (H.nds a' h2).far (p := ⟨s, 1, none⟩) (fun (e' : s = adr h L a') => hsn (e' ▸ adr_mem h L h2)) _
end DelI
end
end Go.Proofs.Ytdolmkiiflhehaa.M
end

section
/- Put. -/
set_option linter.unusedVariables false
set_option linter.unusedSimpArgs false
set_option maxRecDepth 100000
attribute [local irreducible] Go.wpStill
namespace Go.Proofs.Ytdolmkiiflhehaa.M
open Go.RowKit Go.Proofs.YtdolmkiiflhehaaW.PrintWords Go.Proofs.YtdolmkiiflhehaaW.PrintMore Go.Proofs.YtdolmkiiflhehaaW.PrintLast

theorem boxC {W : World} {b : Nat} {c : CellD} {t : TypeId} (h : W.heap[b]? = some (.cells #[.int .i32 c.table, .int .i64 c.row, .int .i64 c.value, .int .i64 c.slot] t)) : W.cell? ⟨b, 0, none⟩ = some (.int .i32 c.table) ∧ W.cell? ⟨b, 1, none⟩ = some (.int .i64 c.row) ∧ W.cell? ⟨b, 2, none⟩ = some (.int .i64 c.value) ∧ W.cell? ⟨b, 3, none⟩ = some (.int .i64 c.slot) := by simp [World.cell?, h]
/-- Where the loop over a new node's levels stands. -/
def PutL (s h : Nat) (L : List Nd) (x : Int) (nx : Nat → Nat → Option Nat) (m : Nat) (e : Nd) (P : Nat) (w7 : World) (i : Value) (wr : World) : Prop :=
  ∃ j : Nat, i = .int .i64 j ∧ j ≤ e.hi ∧ InsI wr s h L x nx m e j ∧ wr.heap[P]? = some (.cells (ptrArr fun l => some (adr h L (pre L l m))) 82) ∧ KeepS (fun i => IsSk.Own s h L i ∨ i = e.b) w7 wr
theorem HPx {s h : Nat} {L : List Nd} {a b : Nat} (h1 : IsSk.Own s h L a) (e : a = b) : IsSk.Own s h L b := e ▸ h1
theorem np_ptr (o : Option Nat) : ∃ q, np o = .pointer q := by cases o <;> exact ⟨_, rfl⟩
def PathA (w2 : World) (h : Nat) (L : List Nd) (m : Nat) (p : Value) (wx : World) : Prop :=
  ∃ P, p = .pointer (some ⟨P, 0, none⟩) ∧ w2.heap.size ≤ P ∧ wx.heap[P]? = some (.cells (ptrArr fun l => some (adr h L (pre L l m))) 82) ∧ Below w2.heap.size w2 wx
def PutT (L : List Nd) (k : Int × Int) (a b : Value) : Prop := ∃ d : Bool, b = .bool d ∧ ((d = false ∧ getL L k = none) ∨ (d = true ∧ ∃ e, L[rank L k]? = some e ∧ e.c.key = k ∧ a = .pointer (some ⟨e.b, 0, none⟩)))
def PutP (w : World) (s h : Nat) (L : List Nd) (c : CellD) (e : Ending) (w' : World) : Prop :=
  ∃ (E : Int) (L' : List Nd) (x' : Int) (nx' : Nat → Nat → Option Nat), e = .returned (.int .i64 E) ∧ IsSk w' s h L' x' nx' ∧ KeepS (IsSk.Own s h L) w w' ∧ (∀ i, IsSk.Own s h L' i → IsSk.Own s h L i ∨ w.heap.size ≤ i) ∧ PutR L c E L'
set_option maxHeartbeats 1000000 in
theorem put_is {w : World} {s h : Nat} {L : List Nd} {x : Int} {nx : Nat → Nat → Option Nat} (H : IsSk w s h L x nx) (hL : L.length < 1048576) (c : CellD) :
    Calls Try.prog 12 #[.pointer (some ⟨s, 0, none⟩), celV c] w fun e w' => PutP w s h L c e w' := by
  have HB := Lib.hid (show Below w.heap.size w (w.alloc (.cells #[.int .i32 c.table, .int .i64 c.row, .int .i64 c.value, .int .i64 c.slot] 31)) from (Below.refl _ _).alloc (Nat.le_refl _) _)
  have HA := H.below HB.out
  have b0 := heap_alloc_new w (.cells #[.int .i32 c.table, .int .i64 c.row, .int .i64 c.value, .int .i64 c.slot] 31)
  have HSZ := Lib.hid (show (w.alloc (.cells #[.int .i32 c.table, .int .i64 c.row, .int .i64 c.value, .int .i64 c.slot] 31)).heap.size = w.heap.size + 1 by simp)
  unfold celV
  go_enter Try.func12, Try.ntmps12
  go_wp2_with fail
  obtain ⟨w2, hw2⟩ : ∃ w2, w.alloc (.cells #[.int .i32 c.table, .int .i64 c.row, .int .i64 c.value, .int .i64 c.slot] 31) = w2 := ⟨_, rfl⟩
  rw [hw2] at HB HA b0 HSZ ⊢
  clear hw2
  have HH := Lib.hid HA
  have HW := Lib.hid H
  have HX := Lib.hid b0
  have c0 : w2.cell? ⟨w.heap.size, 0, none⟩ = some (.int .i32 c.table) := by simp [World.cell?, b0]
  have c1 : w2.cell? ⟨w.heap.size, 1, none⟩ = some (.int .i64 c.row) := by simp [World.cell?, b0]
  have c2 : w2.cell? ⟨w.heap.size, 2, none⟩ = some (.int .i64 c.value) := by simp [World.cell?, b0]
  have c3 : w2.cell? ⟨w.heap.size, 3, none⟩ = some (.int .i64 c.slot) := by simp [World.cell?, b0]
  clear HA H b0
  by_cases s1 : c.slot < 0
  · have HS := Lib.hid s1
    have s1b : decide (c.slot < 0) = true := decide_eq_true s1
    clear s1
    refine (none_is HH.out).mono ?_
    rintro e w' ⟨rfl, rfl⟩
    go_wp2_with fail
    go_ret
    exact ⟨1, L, x, nx, rfl, HH.out, KeepS.of_below _ HB.out, fun i hi => .inl hi, .inr ⟨by rw [Bool.and_eq_false_iff]; left; have := HS.out; simp; omega, rfl, rfl⟩⟩
  have HS1 := Lib.hid s1
  have s1b : decide (c.slot < 0) = false := decide_eq_false s1
  by_cases s2 : c.slot > 1099511627776
  · have HS := Lib.hid s2
    have s2b : decide (1099511627776 < c.slot) = true := decide_eq_true s2
    clear s1 s2
    refine (none_is HH.out).mono ?_
    rintro e w' ⟨rfl, rfl⟩
    go_wp2_with fail
    go_ret
    exact ⟨1, L, x, nx, rfl, HH.out, KeepS.of_below _ HB.out, fun i hi => .inl hi, .inr ⟨by rw [Bool.and_eq_false_iff]; right; have := HS.out; simp; omega, rfl, rfl⟩⟩
  have HS2 := Lib.hid s2
  have s2b : decide (1099511627776 < c.slot) = false := decide_eq_false (by omega)
  clear s1 s2
  refine (none_is HH.out).mono ?_
  rintro e w' ⟨rfl, rfl⟩
  go_wp2_with fail
  refine (path_is HH.out (by omega) c.key).mono ?_
  rintro e w3 ⟨rfl, hb⟩
  have HB3 := Lib.hid hb
  have h1 := HH.out.below hb
  have hm := rank_le L c.key
  have hp := pre_zero h1.store hm
  have n1 := (h1.nds (rank L c.key) hm).next (l := 0) (by omega)
  rw [h1.links _ hm 0 (by rw [← hp]; exact pre_hi L (by omega) _), nxt_at h1.store hm] at n1
  have n2 := (h1.nds _ hm).lt
  have hcs : ∀ i, w3.cell? ⟨w.heap.size, i, none⟩ = w'.cell? ⟨w.heap.size, i, none⟩ := fun i => hb.cell (p := ⟨w.heap.size, i, none⟩) (by rw [HSZ.out]; show w.heap.size < _; omega)
  have d0 := (hcs 0).trans c0; have d1 := (hcs 1).trans c1; have d2 := (hcs 2).trans c2; have d3 := (hcs 3).trans c3
  clear h1 hm hb hcs c0 c1 c2 c3
  obtain ⟨pb, hpb⟩ : ∃ pb, adr h L (rank L c.key) = pb := ⟨_, rfl⟩
  rw [hpb] at n1 n2
  have hp2 : adr h L (pre L 0 (rank L c.key)) = pb := by rw [hp]; exact hpb
  have HP2 := Lib.hid hp2
  have HA8 := Lib.hid (heap_alloc_new w3 (.cells (ptrArr (fun l => some (adr h L (pre L l (rank L c.key))))) 82))
  unfold ptrArr
  simp only [np]
  simp only [hp2]
  clear hpb hp hp2
  have n3 : w3.cell? ⟨pb, 4, none⟩ = some (np (atB L c.key)) := n1
  obtain ⟨r, hr⟩ : ∃ r, np (atB L c.key) = r := ⟨_, rfl⟩
  rw [hr] at n3
  have HR := Lib.hid hr
  have hlt : w.heap.size < w3.heap.size := by have := HB3.out.size; rw [HSZ.out] at this; omega
  clear n1 hr
  go_wp2_with fail
  have HB4 := Lib.hid (HB3.out.alloc HB3.out.size (.cells (ptrArr (fun l => some (adr h L (pre L l (rank L c.key))))) 82))
  have hE : w3.alloc (.cells #[(.pointer (some ⟨pb, 0, none⟩)), (.pointer (some ⟨adr h L (pre L 1 (rank L c.key)), 0, none⟩)), (.pointer (some ⟨adr h L (pre L 2 (rank L c.key)), 0, none⟩)), (.pointer (some ⟨adr h L (pre L 3 (rank L c.key)), 0, none⟩)), (.pointer (some ⟨adr h L (pre L 4 (rank L c.key)), 0, none⟩)), (.pointer (some ⟨adr h L (pre L 5 (rank L c.key)), 0, none⟩)), (.pointer (some ⟨adr h L (pre L 6 (rank L c.key)), 0, none⟩)), (.pointer (some ⟨adr h L (pre L 7 (rank L c.key)), 0, none⟩))] 82) = w3.alloc (.cells (ptrArr (fun l => some (adr h L (pre L l (rank L c.key))))) 82) := by rw [← HP2.out]; rfl
  rw [hE]
  obtain ⟨w4, hw4⟩ : ∃ w4, w3.alloc (.cells (ptrArr (fun l => some (adr h L (pre L l (rank L c.key))))) 82) = w4 := ⟨_, rfl⟩
  rw [hw4] at HA8 HB4 ⊢
  clear hE hw4 n2 n3 d0 d1 d2 d3 hlt
  have HH4 := Lib.hid (HH.out.below HB4.out)
  have HX4 := Lib.hid ((HB4.out.block w.heap.size (by rw [HSZ.out]; omega)).trans HX.out)
  have HP4 := Lib.hid (show w'.heap.size ≤ w3.heap.size from HB3.out.size)
  obtain ⟨P, hP⟩ : ∃ P, w3.heap.size = P := ⟨_, rfl⟩
  rw [hP] at HA8 HP4 ⊢
  clear hP HB3
  go_cut [7, 44] (fun a b wx => Below w4.heap.size w4 wx ∧ PutT L c.key a b)
  case first =>
    have b0 := HX4.out
    have c0 : w4.cell? ⟨w.heap.size, 0, none⟩ = some (.int .i32 c.table) := by simp [World.cell?, b0]
    have c1 : w4.cell? ⟨w.heap.size, 1, none⟩ = some (.int .i64 c.row) := by simp [World.cell?, b0]
    clear b0
    rcases getB HH4.out c.key with ⟨h1, h2⟩ | ⟨e, h1, h2, h3, h4⟩
    · have HG := Lib.hid h2
      have hr : r = .pointer none := by rw [← HR.out, h1]; rfl
      rw [hr]
      clear h1 h2 hr HR
      refine wp_region_still_tail 11 (by kernel_rfl) (by kernel_rfl) ?_
      simp only [List.take_succ_cons, List.take_zero, List.drop_succ_cons, List.drop_zero]
      iterate 11 still_step
      refine wpStill_nil ?_
      change wpList _ _ _ _ _ w4.drew
      go_wp2_with fail
      go_meet
      exact ⟨(Below.refl _ _).drew, false, rfl, .inl ⟨rfl, HG.out⟩⟩
    · have n0 := h3.c0
      have n1 := h3.c1
      have HG := Lib.hid h4
      have HM := Lib.hid h2
      have hr : r = .pointer (some ⟨e.b, 0, none⟩) := by rw [← HR.out, h1]; rfl
      rw [hr]
      clear h1 h2 h3 h4 hr HR
      by_cases hk : e.c.key = c.key
      · have hq : ∀ W : World, (Op.equalIn 10000 29 (.agg #[.int .i32 e.c.table, .int .i64 e.c.row]) (.agg #[.int .i32 c.table, .int .i64 c.row])).run Try.prog W = .ok true W := fun W => by
          have := eqk_self e.c.key W
          rw [show keyV e.c.key = .agg #[.int .i32 c.table, .int .i64 c.row] by rw [hk]; rfl] at this
          have h2 : keyV e.c.key = .agg #[.int .i32 e.c.table, .int .i64 e.c.row] := rfl
          rw [show (Value.agg #[.int .i32 e.c.table, .int .i64 e.c.row]) = .agg #[.int .i32 c.table, .int .i64 c.row] by rw [← h2, hk]; rfl]
          exact this
        have HE := Lib.hid hk
        clear hk
        refine wp_region_still_tail 11 (by kernel_rfl) (by kernel_rfl) ?_
        simp only [List.take_succ_cons, List.take_zero, List.drop_succ_cons, List.drop_zero]
        iterate 11 still_step
        refine wpStill_nil ?_
        change wpList _ _ _ _ _ w4.drew
        go_wp2_with fail
        go_meet
        exact ⟨(Below.refl _ _).drew, true, rfl, .inr ⟨rfl, e, HM.out, HE.out, rfl⟩⟩
      · have hq : ∀ W : World, (Op.equalIn 10000 29 (.agg #[.int .i32 e.c.table, .int .i64 e.c.row]) (.agg #[.int .i32 c.table, .int .i64 c.row])).run Try.prog W = .ok false W := fun W => eqk_ne hk W
        have HE := Lib.hid (show getL L c.key = none by rw [HG.out, if_neg hk])
        clear hk
        refine wp_region_still_tail 11 (by kernel_rfl) (by kernel_rfl) ?_
        simp only [List.take_succ_cons, List.take_zero, List.drop_succ_cons, List.drop_zero]
        iterate 11 still_step
        refine wpStill_nil ?_
        change wpList _ _ _ _ _ w4.drew
        go_wp2_with fail
        go_meet
        exact ⟨(Below.refl _ _).drew, false, rfl, .inl ⟨rfl, HE.out⟩⟩
  case rest =>
    obtain ⟨hB5, d, rfl, hd⟩ := hcut
    have HB5 := Lib.hid hB5
    obtain ⟨w5, rfl⟩ : ∃ w5, w5 = wc := ⟨_, rfl⟩
    clear hB5
    rcases hd with ⟨rfl, hg⟩ | ⟨rfl, e, he, hk, rfl⟩
    · have HG := Lib.hid hg
      have HH5 := Lib.hid (HH4.out.below HB5.out)
      have f1 := HH5.out.c1
      have hfull : decide ((1048576 : Int) ≤ (L.length : Int)) = false := decide_eq_false (by omega)
      clear hg
      go_wp2_with fail
      have HX5 := Lib.hid ((HB5.out.block w.heap.size (by have := HB4.out.size; rw [HSZ.out] at this; omega)).trans HX4.out)
      have HL5 := Lib.hid (show w.heap.size < w5.drew.heap.size from by have h1 := HB4.out.size; have h2 := HB5.out.size; rw [HSZ.out] at h1; show w.heap.size < w5.heap.size; omega)
      have hws : w.heap.size ≠ s := by have := HW.out.slt; omega
      have HA5 := Lib.hid ((HB5.out.block P (Array.getElem?_eq_some_iff.1 HA8.out).1).trans HA8.out)
      clear f1 hfull HX HX4 HA8
      refine start_ (n := 6) (S := (fun W => W.cell? ⟨w.heap.size, 0, none⟩ = some (.int .i32 c.table) ∧ W.cell? ⟨w.heap.size, 1, none⟩ = some (.int .i64 c.row) ∧ W.cell? ⟨w.heap.size, 2, none⟩ = some (.int .i64 c.value) ∧ W.cell? ⟨w.heap.size, 3, none⟩ = some (.int .i64 c.slot))) (ds := []) #[false, false, false, false, false, false] (by kernel_rfl) rfl rfl (boxC (show w5.drew.heap[w.heap.size]? = _ from HX5.out)) (fun hHeld => ?_)
      refine take_ (i := 0) (N := some 54) (v := ?_) (a' := ?_) #[true, false, false, false, false, false] rfl rfl (by kernel_rfl) (fun _ _ _ h => h) (Or.inl ⟨by rfl, ?_⟩) hHeld ?_ ?_
      rotate_left
      · intro W hS
        go_simp
        try with_reducible rfl
      rotate_left
      · simp only [Act.put, List.setIfInBounds_toArray, List.set_cons_zero, List.set_cons_succ, i64_w, i32_w]
        rfl
      refine pure_ (i := 1) (N := some 55) (v := ?_) (a' := ?_) #[true, true, false, false, false, false] rfl rfl (by kernel_rfl) (fun _ _ _ h => h) (Or.inl ⟨by rfl, ?_⟩) ?_ ?_
      rotate_left
      · intro W
        go_simp
        try with_reducible rfl
      rotate_left
      · simp only [Act.put, List.setIfInBounds_toArray, List.set_cons_zero, List.set_cons_succ, i64_w, i32_w]
        rfl
      refine one_ (i := 2) (N := some 56) #[true, true, true, false, false, false] rfl rfl (by kernel_rfl) (by decide) (fun K hK => ?_)
      go_simp
      refine (height_is HH5.out.drew).mono ?_
      rintro e w6 ⟨g, y, rfl, g1, g2, h6, k6⟩
      have HH6 := Lib.hid h6; have HK6 := Lib.hid k6; have HG12 := Lib.hid (And.intro g1 g2)
      clear g1 g2 h6 k6
      have HX6 := Lib.hid ((HK6.out.block w.heap.size HL5.out hws).trans HX5.out)
      have HL6 := Lib.hid (show w.heap.size < w6.heap.size from Nat.lt_of_lt_of_le HL5.out HK6.out.size)
      refine hK.out _ _ (boxC HX6.out) (fun hHeld => ?_)
      refine pure_ (i := 3) (N := some 57) (v := ?_) (a' := ?_) #[true, true, true, true, false, false] rfl rfl (by kernel_rfl) (fun _ _ _ h => h) (Or.inl ⟨by rfl, ?_⟩) ?_ ?_
      rotate_left
      · intro W
        go_simp
        try with_reducible rfl
      rotate_left
      · simp only [Act.put, List.setIfInBounds_toArray, List.set_cons_zero, List.set_cons_succ, i64_w, i32_w]
        rfl
      refine one_ (i := 4) (N := some 58) #[true, true, true, true, true, false] rfl rfl (by kernel_rfl) (by decide) (fun K hK => ?_)
      go_simp
      refine hK.out _ _ (boxC ((Below.heap_alloc _ _ _ HL6.out).trans HX6.out)) (fun hHeld => ?_)
      refine pure_ (i := 5) (N := some 8) (v := ?_) (a' := ?_) #[true, true, true, true, true, true] rfl rfl (by kernel_rfl) (fun _ _ _ h => h) (Or.inl ⟨by rfl, ?_⟩) ?_ ?_
      rotate_left
      · intro W
        go_simp
        try with_reducible rfl
      rotate_left
      · simp only [Act.put, List.setIfInBounds_toArray, List.set_cons_zero, List.set_cons_succ, i64_w, i32_w]
        rfl
      refine done_ (by kernel_rfl) ?_
      have HN7 := Lib.hid (show NodeIs (w6.alloc (.cells (ndArr c (fun _ => none) g) 84)) w6.heap.size c (fun _ => none) g from ⟨heap_alloc_new w6 _⟩)
      have HH7 := Lib.hid (HH6.out.alloc (.cells (ndArr c (fun _ => none) g) 84))
      have HPL := Lib.hid (show P < w6.heap.size from Nat.lt_of_lt_of_le (Array.getElem?_eq_some_iff.1 HA5.out).1 HK6.out.size)
      have HPs := Lib.hid (show P ≠ s from by have := HH.out.slt; have := HP4.out; omega)
      have HA7 := Lib.hid ((Below.heap_alloc w6 (.cells (ndArr c (fun _ => none) g) 84) P HPL.out).trans ((HK6.out.block P (Array.getElem?_eq_some_iff.1 HA5.out).1 HPs.out).trans HA5.out))
      have HK7 := Lib.hid ((((KeepS.of_below (IsSk.Own s h L) HB.out).then_below HB4.out).then_below HB5.out).drew.trans ((HK6.out.mono (S' := IsSk.Own s h L) (fun i hi => .inl hi)).alloc (.cells (ndArr c (fun _ => none) g) 84)))
      have hE7 : w6.alloc (.cells #[.int .i32 c.table, .int .i64 c.row, .int .i64 c.value, .int .i64 c.slot, .pointer none, .pointer none, .pointer none, .pointer none, .pointer none, .pointer none, .pointer none, .pointer none, .int .i64 g] 84) = w6.alloc (.cells (ndArr c (fun _ => none) g) 84) := rfl
      rw [hE7]
      have HBX := Lib.hid (show ∀ i, IsSk.Own s h L i → i < w6.heap.size from fun i hi => HH6.out.own_lt hi)
      have HWB := Lib.hid (show w.heap.size ≤ w6.heap.size from Nat.le_of_lt HL6.out)
      obtain ⟨w7, hw7⟩ : ∃ w7, w6.alloc (.cells (ndArr c (fun _ => none) g) 84) = w7 := ⟨_, rfl⟩
      obtain ⟨bx, hbx⟩ : ∃ bx, w6.heap.size = bx := ⟨_, rfl⟩
      rw [hw7] at HN7 HH7 HA7 HK7 ⊢
      rw [hbx] at HN7 HPL HBX HWB ⊢
      clear hE7 hw7 hbx HX6 HL6 HH6 HK6 HA5 HX5 HL5 HH5 hHeld
      have n12 := HN7.out.c12
      go_wp2_with fail
      go_loopw [63] (fun i wr => PutL s h L y nx (rank L c.key) ⟨bx, c, g⟩ P w7 i wr) (fun i _ => g - (intOf i).toNat)
      case atStart =>
        exact ⟨0, rfl, Nat.zero_le _, InsI.zero HH7.out (e := ⟨bx, c, g⟩) (fun hx => absurd (HBX.out bx (.inr hx)) (Nat.lt_irrefl _)) HN7.out _, HA7.out, KeepS.refl _ _⟩
      case round =>
        obtain ⟨j, rfl, hj, hI, hA, hK⟩ := hrel
        have HI := Lib.hid hI; have HAj := Lib.hid hA; have HKj := Lib.hid hK
        clear hI hA hK n12
        by_cases hlt : j < g
        · have hm := rank_le L c.key
          have hp : pre L j (rank L c.key) ≤ L.length := Nat.le_trans (pre_le L j _) hm
          have hj8 : j < 8 := Nat.lt_of_lt_of_le hlt HG12.out.2
          have hpb : adr h L (pre L j (rank L c.key)) ≠ bx := fun e' => absurd (HBX.out bx (.inr (e' ▸ adr_mem h L hp))) (Nat.lt_irrefl _)
          have hPb : P ≠ bx := by have := HPL.out; omega
          have hat := (HI.out.nds _ hp).next hj8
          rw [insJ_at hpb] at hat
          have hzp := (HI.out.nds _ hp).z (4 + j)
          have a3 := HI.out.nd.next hj8
          have z3 := HI.out.nd.z (4 + j)
          have a1 : wr.cell? ⟨P, j, none⟩ = some (.pointer (some ⟨adr h L (pre L j (rank L c.key)), 0, none⟩)) := by
            have := ptrArr_get (fun l => some (adr h L (pre L l (rank L c.key)))) hj8
            simp [World.cell?, HAj.out, this, np]
          have HST := Lib.hid (show InsI ((wr.drew.setCell ⟨bx, 4 + j, none⟩ (np (nx (adr h L (pre L j (rank L c.key))) j))).setCell ⟨adr h L (pre L j (rank L c.key)), 4 + j, none⟩ (np (some bx))) s h L y nx (rank L c.key) ⟨bx, c, g⟩ (j + 1) from
            (HI.out.move (w' := wr.drew) (fun _ _ => rfl)).step HH7.out.apart HH7.out.sne hm (fun hx => absurd (HBX.out bx (.inr hx)) (Nat.lt_irrefl _)) (fun e' => absurd (HBX.out bx (.inl e')) (Nat.lt_irrefl _)) hlt HG12.out.2)
          have HOW := Lib.hid (IsSk.own_adr s h L hp)
          have HPO := Lib.hid (show P ≠ adr h L (pre L j (rank L c.key)) from fun e' => absurd (HH.out.own_lt (HPx HOW.out e'.symm)) (by have := HP4.out; omega))
          obtain ⟨pa, hpa⟩ : ∃ pa, adr h L (pre L j (rank L c.key)) = pa := ⟨_, rfl⟩
          rw [hpa] at hpb hat hzp a1 HST HOW HPO
          obtain ⟨nv, hnv⟩ : ∃ nv, np (nx pa j) = .pointer nv := np_ptr _
          rw [hnv] at hat HST
          obtain ⟨ov, hov⟩ : ∃ ov, np (insJ nx h L (rank L c.key) ⟨bx, c, g⟩ j bx j) = ov := ⟨_, rfl⟩
          have a3' : wr.cell? ⟨bx, 4 + j, none⟩ = some ov := by rw [← hov]; exact a3
          have z3' : wr.frozen? ⟨bx, 4 + j, none⟩ = false := z3
          have g0 : (0 : Int) ≤ (j : Int) := by omega
          have g8 : (j : Int) < 8 := by omega
          have gl : (j : Int) < (g : Int) := by omega
          clear hm hp hnv hov hpa a3 z3
          go_wp2_with fail
          go_cut [] (fun wx => wx = wr.drew.setCell ⟨bx, 4 + j, none⟩ (.pointer nv))
          case first =>
            refine wp_region_still_tail 13 (by kernel_rfl) (by kernel_rfl) ?_
            simp only [List.take_succ_cons, List.take_zero, List.drop_succ_cons, List.drop_zero]
            iterate 13 still_step
            refine wpStill_nil ?_
            change wpList _ _ _ _ _ wr.drew
            go_wp2_with fail
            go_meet
            rfl
          case rest =>
            have HWC := Lib.hid hcut
            have b1 : wc.cell? ⟨P, j, none⟩ = some (.pointer (some ⟨pa, 0, none⟩)) := by rw [hcut, World.cell?_setCell_other _ _ _ _ (by simp [hPb])]; exact a1
            have b2 : wc.cell? ⟨pa, 4 + j, none⟩ = some (.pointer nv) := by rw [hcut, World.cell?_setCell_other _ _ _ _ (by simp [hpb])]; exact hat
            have zb : wc.frozen? ⟨pa, 4 + j, none⟩ = false := by rw [hcut, World.frozen?_setCell]; exact hzp
            clear hcut a1 hat hzp a3' z3'
            go_wp2_with fail
            go_roundw
            case rel =>
              refine ⟨j + 1, by go_num, hlt, ?_, ?_, ?_⟩
              · rw [HWC.out]; exact HST.out
              · rw [HWC.out]
                exact (Below.heap_setCell _ _ _ P (by exact HPO.out)).trans ((Below.heap_setCell _ _ _ P (by exact hPb)).trans HAj.out)
              · rw [HWC.out]
                exact (HKj.out.drew.set (p := ⟨bx, 4 + j, none⟩) (.inl (.inr rfl)) _).set (p := ⟨pa, 4 + j, none⟩) (.inl (.inl HOW.out)) _
            case measure => simp [intOf]; omega
        · have hjg : j = g := by simp only at hj; omega
          subst hjg
          have hlt' : decide ((j : Int) < (j : Int)) = false := decide_eq_false (by omega)
          have s1 : wr.cell? ⟨s, 1, none⟩ = some (.int .i64 L.length) := by simp [World.cell?, HI.out.sh]
          have zs : wr.frozen? ⟨s, 1, none⟩ = false := by simp [World.frozen?, HI.out.sh]
          clear hlt hj
          go_wp2_with fail
          go_ret
          have hm := rank_le L c.key
          have hbx : bx ∉ h :: L.map (·.b) := fun hx => absurd (HBX.out bx (.inr hx)) (Nat.lt_irrefl _)
          have hbs : bx ≠ s := fun e' => absurd (HBX.out bx (.inl e')) (Nat.lt_irrefl _)
          have hsl : (decide (0 ≤ c.slot) && decide (c.slot ≤ 1099511627776)) = true := by rw [Bool.and_eq_true]; have := HS1.out; have := HS2.out; constructor <;> (apply decide_eq_true; omega)
          have hd := InsI.done (e := ⟨bx, c, j⟩) HI.out HH7.out.links HH7.out.apart HH7.out.store HH7.out.sne rfl hm hbx hbs HG12.out.1 HG12.out.2 HG.out
          refine ⟨0, ins L (rank L c.key) ⟨bx, c, j⟩, y, insJ nx h L (rank L c.key) ⟨bx, c, j⟩ j, rfl, ?_, ?_, ?_, .inl ⟨hsl, rfl, fun q => ins_getL (e := ⟨bx, c, j⟩) HH7.out.store.sorted HG.out q, by rw [ins_length hm, HG.out]; rfl⟩⟩
          · exact hd
          · refine KeepS.set ?_ (p := ⟨s, 1, none⟩) (.inl (.inl rfl)) _
            refine ⟨HKj.out.os.trans HK7.out.os, HKj.out.tape.trans HK7.out.tape, HKj.out.output.trans HK7.out.output, Nat.le_trans HK7.out.size HKj.out.size, fun i hi hn => ?_⟩
            exact (HKj.out.block i (Nat.lt_of_lt_of_le hi HK7.out.size) (by rintro (e' | e'); exact hn e'; have := HWB.out; have e2 : i = bx := e'; omega)).trans (HK7.out.block i hi hn)
          · intro i hi
            rcases hi with hi | hi
            · exact .inl (.inl hi)
            · rcases List.mem_cons.1 hi with hi | hi
              · exact .inl (.inr (hi ▸ List.mem_cons_self))
              · obtain ⟨e', h1, h2⟩ := List.mem_map.1 hi
                rcases ins_mem.1 h1 with rfl | h3
                · exact .inr (by rw [← h2]; exact HWB.out)
                · exact .inl (.inr (List.mem_cons_of_mem _ (List.mem_map.2 ⟨e', h3, h2⟩)))
    · have HE := Lib.hid he
      have HK := Lib.hid hk
      have HH5 := Lib.hid (HH4.out.below HB5.out)
      have HX5 := (HB5.out.block w.heap.size (by have := HB4.out.size; rw [HSZ.out] at this; omega)).trans HX4.out
      have c0 : w5.cell? ⟨w.heap.size, 0, none⟩ = some (.int .i32 c.table) := by simp [World.cell?, HX5]
      have c1 : w5.cell? ⟨w.heap.size, 1, none⟩ = some (.int .i64 c.row) := by simp [World.cell?, HX5]
      have c2 : w5.cell? ⟨w.heap.size, 2, none⟩ = some (.int .i64 c.value) := by simp [World.cell?, HX5]
      have c3 : w5.cell? ⟨w.heap.size, 3, none⟩ = some (.int .i64 c.slot) := by simp [World.cell?, HX5]
      have hn := HH5.out.nd he
      have m0 := hn.c0; have m1 := hn.c1; have m2 := hn.c2; have m3 := hn.c3
      have z0 := hn.z 0; have z1 := hn.z 1; have z2 := hn.z 2; have z3 := hn.z 3
      clear he hk HX5 hn
      go_wp2_with fail
      go_ret
      have hm := (List.getElem?_eq_some_iff.1 HE.out).1
      have hown : IsSk.Own s h L e.b := .inr (List.mem_cons_of_mem _ (List.mem_map.2 ⟨e, List.mem_of_getElem? HE.out, rfl⟩))
      have hsl : (decide (0 ≤ c.slot) && decide (c.slot ≤ 1099511627776)) = true := by rw [Bool.and_eq_true]; have := HS1.out; have := HS2.out; constructor <;> (apply decide_eq_true; omega)
      have hget : getL L c.key = some e.c := by unfold getL; rw [HE.out]; simp only; rw [if_pos HK.out]
      refine ⟨0, setC L (rank L c.key) c, x, nx, rfl, HH5.out.set4 HE.out HK.out.symm, ?_, ?_, .inl ⟨hsl, rfl, fun q => setC_getL HH5.out.store.sorted HE.out HK.out.symm q, by rw [setC_length, hget]; rfl⟩⟩
      · exact (((KeepS.of_below _ HB.out).then_below HB4.out).then_below HB5.out).trans ((keep_set4 w5 e.b c).mono (fun i hi => by rw [hi]; exact hown))
      · intro i hi
        unfold IsSk.Own at hi ⊢
        rw [setC_map HE.out] at hi
        exact .inl hi
end Go.Proofs.Ytdolmkiiflhehaa.M
end

section
/- Erase. -/
set_option linter.unusedVariables false
set_option linter.unusedSimpArgs false
set_option maxRecDepth 100000
attribute [local irreducible] Go.wpStill
namespace Go.Proofs.Ytdolmkiiflhehaa.M
open Go.RowKit Go.Proofs.YtdolmkiiflhehaaW.PrintWords Go.Proofs.YtdolmkiiflhehaaW.PrintMore Go.Proofs.YtdolmkiiflhehaaW.PrintLast

def EraP (w : World) (s h : Nat) (L : List Nd) (k : Int × Int) (e : Ending) (w' : World) : Prop :=
  ∃ (E : Int) (L' : List Nd) (x' : Int) (nx' : Nat → Nat → Option Nat), e = .returned (.int .i64 E) ∧ IsSk w' s h L' x' nx' ∧ KeepS (IsSk.Own s h L) w w' ∧ (∀ i, IsSk.Own s h L' i → IsSk.Own s h L i ∨ w.heap.size ≤ i) ∧ EraR L k E L'
def EraT (L : List Nd) (k : Int × Int) (a b : Value) : Prop := ∃ d : Bool, b = .bool d ∧ ((d = true ∧ getL L k = none) ∨ (d = false ∧ ∃ e, L[rank L k]? = some e ∧ e.c.key = k ∧ a = .pointer (some ⟨e.b, 0, none⟩)))
def EraL (s h : Nat) (L : List Nd) (x : Int) (nx : Nat → Nat → Option Nat) (m P : Nat) (w7 : World) (i : Value) (wr : World) : Prop :=
  ∃ j : Nat, i = .int .i64 j ∧ j ≤ hiAt L m ∧ DelI wr s h L x nx m j ∧ wr.heap[P]? = some (.cells (ptrArr fun l => some (adr h L (pre L l m))) 82) ∧ KeepS (IsSk.Own s h L) w7 wr
set_option maxHeartbeats 1000000 in
theorem erase_is {w : World} {s h : Nat} {L : List Nd} {x : Int} {nx : Nat → Nat → Option Nat} (H : IsSk w s h L x nx) (hL : L.length ≤ 1048576) (k : Int × Int) :
    Calls Try.prog 11 #[.pointer (some ⟨s, 0, none⟩), keyV k] w fun e w' => EraP w s h L k e w' := by
  have HB := Lib.hid (show Below w.heap.size w (w.alloc (.cells #[.int .i32 k.1, .int .i64 k.2] 29)) from (Below.refl _ _).alloc (Nat.le_refl _) _)
  have HA := H.below HB.out
  have b0 := heap_alloc_new w (.cells #[.int .i32 k.1, .int .i64 k.2] 29)
  have HSZ := Lib.hid (show (w.alloc (.cells #[.int .i32 k.1, .int .i64 k.2] 29)).heap.size = w.heap.size + 1 by simp)
  unfold keyV
  go_enter Try.func11, Try.ntmps11
  go_wp2_with fail
  obtain ⟨w2, hw2⟩ : ∃ w2, w.alloc (.cells #[.int .i32 k.1, .int .i64 k.2] 29) = w2 := ⟨_, rfl⟩
  rw [hw2] at HB HA b0 HSZ ⊢
  clear hw2
  have HH := Lib.hid HA
  have HW := Lib.hid H
  have HX := Lib.hid b0
  have c0 : w2.cell? ⟨w.heap.size, 0, none⟩ = some (.int .i32 k.1) := by simp [World.cell?, b0]
  have c1 : w2.cell? ⟨w.heap.size, 1, none⟩ = some (.int .i64 k.2) := by simp [World.cell?, b0]
  clear HA H b0
  refine (none_is HH.out).mono ?_
  rintro e w' ⟨rfl, rfl⟩
  go_wp2_with fail
  refine (path_is HH.out hL k).mono ?_
  rintro e w3 ⟨rfl, hb⟩
  have HB3 := Lib.hid hb
  have h1 := HH.out.below hb
  have hm := rank_le L k
  have hp := pre_zero h1.store hm
  have n1 := (h1.nds (rank L k) hm).next (l := 0) (by omega)
  rw [h1.links _ hm 0 (by rw [← hp]; exact pre_hi L (by omega) _), nxt_at h1.store hm] at n1
  have n2 := (h1.nds _ hm).lt
  clear h1 hm hb c0 c1
  obtain ⟨pb, hpb⟩ : ∃ pb, adr h L (rank L k) = pb := ⟨_, rfl⟩
  rw [hpb] at n1 n2
  have hp2 : adr h L (pre L 0 (rank L k)) = pb := by rw [hp]; exact hpb
  have HP2 := Lib.hid hp2
  have HA8 := Lib.hid (heap_alloc_new w3 (.cells (ptrArr (fun l => some (adr h L (pre L l (rank L k))))) 82))
  unfold ptrArr
  simp only [np]
  simp only [hp2]
  clear hpb hp hp2
  have n3 : w3.cell? ⟨pb, 4, none⟩ = some (np (atB L k)) := n1
  obtain ⟨r, hr⟩ : ∃ r, np (atB L k) = r := ⟨_, rfl⟩
  rw [hr] at n3
  have HR := Lib.hid hr
  clear n1 hr
  go_wp2_with fail
  have HB4 := Lib.hid (HB3.out.alloc HB3.out.size (.cells (ptrArr (fun l => some (adr h L (pre L l (rank L k))))) 82))
  have hE : w3.alloc (.cells #[(.pointer (some ⟨pb, 0, none⟩)), (.pointer (some ⟨adr h L (pre L 1 (rank L k)), 0, none⟩)), (.pointer (some ⟨adr h L (pre L 2 (rank L k)), 0, none⟩)), (.pointer (some ⟨adr h L (pre L 3 (rank L k)), 0, none⟩)), (.pointer (some ⟨adr h L (pre L 4 (rank L k)), 0, none⟩)), (.pointer (some ⟨adr h L (pre L 5 (rank L k)), 0, none⟩)), (.pointer (some ⟨adr h L (pre L 6 (rank L k)), 0, none⟩)), (.pointer (some ⟨adr h L (pre L 7 (rank L k)), 0, none⟩))] 82) = w3.alloc (.cells (ptrArr (fun l => some (adr h L (pre L l (rank L k))))) 82) := by rw [← HP2.out]; rfl
  rw [hE]
  obtain ⟨w4, hw4⟩ : ∃ w4, w3.alloc (.cells (ptrArr (fun l => some (adr h L (pre L l (rank L k))))) 82) = w4 := ⟨_, rfl⟩
  rw [hw4] at HA8 HB4 ⊢
  clear hE hw4 n2 n3
  have HH4 := Lib.hid (HH.out.below HB4.out)
  have HX4 := Lib.hid ((HB4.out.block w.heap.size (by rw [HSZ.out]; omega)).trans HX.out)
  have HP4 := Lib.hid (show w'.heap.size ≤ w3.heap.size from HB3.out.size)
  obtain ⟨P, hP⟩ : ∃ P, w3.heap.size = P := ⟨_, rfl⟩
  rw [hP] at HA8 HP4 ⊢
  clear hP HB3
  go_cut [7, 33] (fun a b wx => Below w4.heap.size w4 wx ∧ EraT L k a b)
  case first =>
    have b0 := HX4.out
    have c0 : w4.cell? ⟨w.heap.size, 0, none⟩ = some (.int .i32 k.1) := by simp [World.cell?, b0]
    have c1 : w4.cell? ⟨w.heap.size, 1, none⟩ = some (.int .i64 k.2) := by simp [World.cell?, b0]
    clear b0
    rcases getB HH4.out k with ⟨h1, h2⟩ | ⟨e, h1, h2, h3, h4⟩
    · have HG := Lib.hid h2
      have hr : r = .pointer none := by rw [← HR.out, h1]; rfl
      rw [hr]
      clear h1 h2 hr HR
      refine wp_region_still_tail 10 (by kernel_rfl) (by kernel_rfl) ?_
      simp only [List.take_succ_cons, List.take_zero, List.drop_succ_cons, List.drop_zero]
      iterate 10 still_step
      refine wpStill_nil ?_
      change wpList _ _ _ _ _ w4.drew
      go_wp2_with fail
      go_meet
      exact ⟨(Below.refl _ _).drew, true, rfl, .inl ⟨rfl, HG.out⟩⟩
    · have n0 := h3.c0
      have n1 := h3.c1
      have HG := Lib.hid h4
      have HM := Lib.hid h2
      have hr : r = .pointer (some ⟨e.b, 0, none⟩) := by rw [← HR.out, h1]; rfl
      rw [hr]
      clear h1 h2 h3 h4 hr HR
      by_cases hk : e.c.key = k
      · have hq : ∀ W : World, (Op.equalIn 10000 29 (.agg #[.int .i32 e.c.table, .int .i64 e.c.row]) (.agg #[.int .i32 k.1, .int .i64 k.2])).run Try.prog W = .ok true W := fun W => by
          rw [← hk]; exact eqk_self e.c.key W
        have HE := Lib.hid hk
        clear hk
        refine wp_region_still_tail 10 (by kernel_rfl) (by kernel_rfl) ?_
        simp only [List.take_succ_cons, List.take_zero, List.drop_succ_cons, List.drop_zero]
        iterate 10 still_step
        refine wpStill_nil ?_
        change wpList _ _ _ _ _ w4.drew
        go_wp2_with fail
        go_meet
        exact ⟨(Below.refl _ _).drew, false, rfl, .inr ⟨rfl, e, HM.out, HE.out, rfl⟩⟩
      · have hq : ∀ W : World, (Op.equalIn 10000 29 (.agg #[.int .i32 e.c.table, .int .i64 e.c.row]) (.agg #[.int .i32 k.1, .int .i64 k.2])).run Try.prog W = .ok false W := fun W => eqk_ne hk W
        have HE := Lib.hid (show getL L k = none by rw [HG.out, if_neg hk])
        clear hk
        refine wp_region_still_tail 10 (by kernel_rfl) (by kernel_rfl) ?_
        simp only [List.take_succ_cons, List.take_zero, List.drop_succ_cons, List.drop_zero]
        iterate 10 still_step
        refine wpStill_nil ?_
        change wpList _ _ _ _ _ w4.drew
        go_wp2_with fail
        go_meet
        exact ⟨(Below.refl _ _).drew, true, rfl, .inl ⟨rfl, HE.out⟩⟩
  case rest =>
    obtain ⟨hB5, d, rfl, hd⟩ := hcut
    have HB5 := Lib.hid hB5
    obtain ⟨w5, rfl⟩ : ∃ w5, w5 = wc := ⟨_, rfl⟩
    clear hB5
    rcases hd with ⟨rfl, hg⟩ | ⟨rfl, e, he, hk, rfl⟩
    · have HG := Lib.hid hg
      have HH5 := Lib.hid (HH4.out.below HB5.out)
      clear hg
      go_wp2_with fail
      go_ret
      exact ⟨4, L, x, nx, rfl, HH5.out, ((KeepS.of_below _ HB.out).then_below HB4.out).then_below HB5.out, fun i hi => .inl hi, .inr ⟨by rw [HG.out]; rfl, rfl, rfl⟩⟩
    · have HE := Lib.hid he
      have HK := Lib.hid hk
      have HH5 := Lib.hid (HH4.out.below HB5.out)
      have HA5 := Lib.hid ((HB5.out.block P (Array.getElem?_eq_some_iff.1 HA8.out).1).trans HA8.out)
      have HK5 := Lib.hid (((KeepS.of_below (IsSk.Own s h L) HB.out).then_below HB4.out).then_below HB5.out)
      have HL := Lib.hid (List.getElem?_eq_some_iff.1 he).1
      have HHI := Lib.hid (show hiAt L (rank L k) = e.hi by unfold hiAt; rw [he])
      have HBL := Lib.hid (show blkAt L (rank L k) = e.b by unfold blkAt; rw [he])
      have H8 := Lib.hid (HH5.out.store.hi e (List.mem_of_getElem? he))
      have n12 := (HH5.out.nd he).c12
      have HPO := Lib.hid (show ∀ i, IsSk.Own s h L i → P ≠ i from fun i hi e' => by have := HH.out.own_lt hi; have := HP4.out; omega)
      clear he hk HX HX4 HA8
      go_wp2_with fail
      go_loopw [38] (fun i wr => EraL s h L x nx (rank L k) P w5 i wr) (fun i _ => e.hi - (intOf i).toNat)
      case atStart => exact ⟨0, rfl, Nat.zero_le _, DelI.zero HH5.out _, HA5.out, KeepS.refl _ _⟩
      case round =>
        obtain ⟨j, rfl, hj, hI, hA, hK⟩ := hrel
        rw [HHI.out] at hj
        have HI := Lib.hid hI; have HAj := Lib.hid hA; have HKj := Lib.hid hK
        clear hI hA hK n12
        by_cases hlt : j < e.hi
        · have hm := rank_le L k
          have hp : pre L j (rank L k) ≤ L.length := Nat.le_trans (pre_le L j _) hm
          have hj8 : j < 8 := Nat.lt_of_lt_of_le hlt H8.out.2
          have hzp := (HI.out.nds _ hp).z (4 + j)
          have hcp := (HI.out.nds _ hp).next hj8
          have hat := (HI.out.nds (rank L k + 1) HL.out).next hj8
          rw [delJ_at] at hat
          have eb : adr h L (rank L k + 1) = e.b := HBL.out
          rw [eb] at hat
          have a1 : wr.cell? ⟨P, j, none⟩ = some (.pointer (some ⟨adr h L (pre L j (rank L k)), 0, none⟩)) := by
            have := ptrArr_get (fun l => some (adr h L (pre L l (rank L k)))) hj8
            simp [World.cell?, HAj.out, this, np]
          have HST := Lib.hid ((HI.out.move (w' := wr.drew) (fun _ _ => rfl)).step HH5.out.apart HH5.out.sne HL.out (by rw [HHI.out]; exact hlt) (by rw [HHI.out]; exact H8.out.2))
          rw [HBL.out] at HST
          have HOW := Lib.hid (IsSk.own_adr s h L hp)
          obtain ⟨pa, hpa⟩ : ∃ pa, adr h L (pre L j (rank L k)) = pa := ⟨_, rfl⟩
          rw [hpa] at hzp hcp a1 HST HOW
          obtain ⟨nv, hnv⟩ : ∃ nv, np (nx e.b j) = .pointer nv := np_ptr _
          rw [hnv] at hat HST
          obtain ⟨ov, hov⟩ : ∃ ov, np (delJ nx h L (rank L k) j pa j) = ov := ⟨_, rfl⟩
          rw [hov] at hcp
          have g0 : (0 : Int) ≤ (j : Int) := by omega
          have g8 : (j : Int) < 8 := by omega
          have gl : (j : Int) < (e.hi : Int) := by omega
          clear hm hp hnv hov hpa eb
          go_wp2_with fail
          refine wp_region_still_tail 13 (by kernel_rfl) (by kernel_rfl) ?_
          simp only [List.take_succ_cons, List.take_zero, List.drop_succ_cons, List.drop_zero]
          iterate 13 still_step
          refine wpStill_nil ?_
          change wpList _ _ _ _ _ wr.drew
          go_wp2_with fail
          go_roundw
          case rel =>
            refine ⟨j + 1, by go_num, by rw [HHI.out]; exact hlt, ?_, ?_, ?_⟩
            · exact HST.out
            · exact (Below.heap_setCell _ _ _ P (by exact HPO.out pa HOW.out)).trans HAj.out
            · exact HKj.out.drew.set (p := ⟨pa, 4 + j, none⟩) (.inl HOW.out) _
          case measure => simp [intOf]; omega
        · have hjg : j = e.hi := by omega
          subst hjg
          have hlt' : decide ((e.hi : Int) < (e.hi : Int)) = false := decide_eq_false (by omega)
          have s1 : wr.cell? ⟨s, 1, none⟩ = some (.int .i64 L.length) := by simp [World.cell?, HI.out.sh]
          have zs : wr.frozen? ⟨s, 1, none⟩ = false := by simp [World.frozen?, HI.out.sh]
          clear hlt hj
          go_wp2_with fail
          go_ret
          have hI2 := HI.out
          rw [← HHI.out] at hI2
          have hd := DelI.done hI2 HH5.out.links HH5.out.apart HH5.out.store HH5.out.sne HL.out
          have hcast : ((L.length - 1 : Nat) : Int) = (L.length : Int) - 1 := by have := HL.out; omega
          rw [hcast] at hd
          have hget : getL L k = some e.c := by unfold getL; rw [HE.out]; simp only; rw [if_pos HK.out]
          refine ⟨0, del L (rank L k), x, delJ nx h L (rank L k) (hiAt L (rank L k)), rfl, ?_, ?_, ?_, .inl ⟨by rw [hget]; rfl, rfl, fun q => by rw [del_getL HH5.out.store.sorted HE.out q, HK.out], del_length HL.out⟩⟩
          · exact hd
          · exact KeepS.set (HK5.out.trans HKj.out) (p := ⟨s, 1, none⟩) (.inl (.inl rfl)) _
          · intro i hi
            rcases hi with hi | hi
            · exact .inl (.inl hi)
            · rcases List.mem_cons.1 hi with hi | hi
              · exact .inl (.inr (hi ▸ List.mem_cons_self))
              · exact .inl (.inr (List.mem_cons_of_mem _ (((del_sublist L (rank L k)).map _).subset hi)))
end Go.Proofs.Ytdolmkiiflhehaa.M
end

section
/- begun. -/
set_option linter.unusedVariables false
set_option linter.unusedSimpArgs false
set_option maxRecDepth 100000
namespace Go.Proofs.Ytdolmkiiflhehaa.M
open Go.RowKit Go.Proofs.YtdolmkiiflhehaaW.PrintWords

theorem begun_pure {L : List Nd} (hs : Sorted L) (hl : L.length = 2) (h1 : getL L (0, 1) = some ⟨0, 1, 6, 2⟩) (h2 : getL L (0, 2) = some ⟨0, 2, 5, 1⟩) : inR (cellsL (L.drop (rank L (0, 0)))) (1, 0) = [t4 ⟨0, 1, 6, 2⟩, t4 ⟨0, 2, 5, 1⟩] := by
  obtain ⟨e, he, e1, _⟩ := (getL_iff hs _ _).1 h1
  obtain ⟨f, hf, f1, _⟩ := (getL_iff hs _ _).1 h2
  match L, hl with
  | [a, b], _ =>
    have hab : kLt a.c.key b.c.key = true := (List.pairwise_cons.1 hs).1 b (by simp)
    have hne : e.c ≠ f.c := by rw [e1, f1]; decide
    simp only [List.mem_cons, List.not_mem_nil, or_false] at he hf
    rcases he with rfl | rfl <;> rcases hf with rfl | rfl
    · exact absurd rfl hne
    · have hr : rank [e, f] (0, 0) = 0 := by
        unfold rank
        rw [List.takeWhile_cons, e1]
        rfl
      rw [hr]
      simp only [cellsL, List.drop_zero, List.map_cons, List.map_nil, e1, f1]
      rfl
    · rw [e1, f1] at hab
      exact absurd hab (by decide)
    · exact absurd rfl hne
theorem put_ok {L L' : List Nd} {c : CellD} {E : Int} (h : PutR L c E L') (hc : (decide (0 ≤ c.slot) && decide (c.slot ≤ 1099511627776)) = true) : E = 0 ∧ (∀ k, getL L' k = if k = c.key then some c else getL L k) ∧ L'.length = L.length + (if (getL L c.key).isSome then 0 else 1) := by
  rcases h with ⟨_, h2, h3, h4⟩ | ⟨h1, _⟩
  · exact ⟨h2, h3, h4⟩
  · rw [hc] at h1; cases h1
set_option maxHeartbeats 1000000 in
theorem begun_is (w : World) : Calls Try.prog 10 #[] w fun e w' => e = .returned (.bool true) ∧ Below w.heap.size w w' := by
  go_enter Try.func10, Try.ntmps10
  go_wp2_with fail
  refine (new_is 7 w).mono ?_
  rintro e w1 ⟨rfl, h1, b1⟩
  have H1 := Lib.hid h1; have HB1 := Lib.hid b1
  clear h1 b1
  go_wp2_with fail
  refine (put_is H1.out (by simp) ⟨0, 2, 5, 1⟩).mono ?_
  rintro e w2 ⟨E, L1, x1, nx1, rfl, h2, k2, o2, p2⟩
  obtain ⟨rfl, g2, l2⟩ := put_ok p2 (by decide)
  have hl1 : L1.length = 1 := by rw [l2]; rfl
  have hg1 : getL L1 (0, 2) = some ⟨0, 2, 5, 1⟩ := by rw [g2]; rfl
  have hg1' : getL L1 (0, 1) = none := by rw [g2]; rfl
  have ho1 : ∀ i, IsSk.Own (w.heap.size + 1) w.heap.size L1 i → w.heap.size ≤ i := fun i hi => by
    rcases o2 i hi with h | h
    · rcases h with rfl | h
      · omega
      · simp at h; omega
    · have := HB1.out.size; omega
  have hb2 : Below w.heap.size w w2 := HB1.out.trans (k2.below HB1.out.size (fun i hi => by
    rcases hi with rfl | h
    · omega
    · simp at h; omega))
  have H2 := Lib.hid h2; have HB2 := Lib.hid hb2; have HL1 := Lib.hid hl1; have HG1 := Lib.hid hg1; have HO1 := Lib.hid ho1; have HG1' := Lib.hid hg1'
  clear h2 k2 o2 p2 g2 l2 hl1 hg1 hg1' ho1 hb2
  go_wp2_with fail
  refine (put_is H2.out (by have := HL1.out; omega) ⟨0, 1, 6, 2⟩).mono ?_
  rintro e w3 ⟨E, L2, x2, nx2, rfl, h3, k3, o3, p3⟩
  obtain ⟨rfl, g3, l3⟩ := put_ok p3 (by decide)
  have hl2 : L2.length = 2 := by
    rw [l3, HL1.out]
    have : getL L1 (CellD.key ⟨0, 1, 6, 2⟩) = none := HG1'.out
    rw [this]; rfl
  have hgb : getL L2 (0, 1) = some ⟨0, 1, 6, 2⟩ := by rw [g3]; rfl
  have hga : getL L2 (0, 2) = some ⟨0, 2, 5, 1⟩ := by rw [g3, if_neg (by decide)]; exact HG1.out
  have hb3 : Below w.heap.size w w3 := HB2.out.trans (k3.below HB2.out.size HO1.out)
  have H3 := Lib.hid h3; have HB3 := Lib.hid hb3; have HL2 := Lib.hid hl2; have HGA := Lib.hid hga; have HP := Lib.hid (begun_pure h3.store.sorted hl2 hgb hga)
  clear h3 k3 o3 p3 g3 l3 hl2 hga hgb hb3 HO1 HG1 HG1' HL1 H2 HB2 HB1 H1
  go_wp2_with fail
  refine (get_is H3.out (by have := HL2.out; omega) (0, 2)).mono ?_
  rintro e w4 ⟨rfl, hb⟩
  have HB4 := Lib.hid (HB3.out.trans (hb.mono HB3.out.size))
  have H4 := Lib.hid (H3.out.below hb)
  rw [HGA.out]
  clear hb H3 HB3
  simp only [getV, celV]
  go_wp2_with fail
  have HBX := Lib.hid (heap_alloc_new w4 (.cells #[.int .i32 0, .int .i64 2, .int .i64 5, .int .i64 1] 31))
  have H5 := Lib.hid (H4.out.alloc (.cells #[.int .i32 0, .int .i64 2, .int .i64 5, .int .i64 1] 31))
  have HB5 := Lib.hid (HB4.out.alloc HB4.out.size (.cells #[.int .i32 0, .int .i64 2, .int .i64 5, .int .i64 1] 31))
  obtain ⟨w5, hw5⟩ : ∃ w5, w4.alloc (.cells #[.int .i32 0, .int .i64 2, .int .i64 5, .int .i64 1] 31) = w5 := ⟨_, rfl⟩
  obtain ⟨bc, hbc⟩ : ∃ bc, w4.heap.size = bc := ⟨_, rfl⟩
  rw [hw5] at HBX H5 HB5 ⊢
  rw [hbc] at HBX ⊢
  clear hw5 hbc H4 HB4
  refine (range_is H5.out (by have := HL2.out; omega) (0, 0) (1, 0)).mono ?_
  rintro e w6 ⟨A, cc, rfl, hF, hb⟩
  rw [HP.out] at hF ⊢
  have HB6 := Lib.hid (HB5.out.trans (hb.mono HB5.out.size))
  have H6 := Lib.hid (H5.out.below hb)
  have x0 := (hb.block bc (Array.getElem?_eq_some_iff.1 HBX.out).1).trans HBX.out
  have cv : w6.cell? ⟨bc, 1 + 1, none⟩ = some (.int .i64 5) := by simp [World.cell?, x0]
  have cv' : w6.cell? ⟨bc, 2, none⟩ = some (.int .i64 5) := by simp [World.cell?, x0]
  obtain ⟨ad, rfl, q0, q1, q2, q3⟩ := cell_get (Kd.F_now hF) (k := 0) (x := t4 ⟨0, 1, 6, 2⟩) rfl
  simp only [List.length_cons, List.length_nil, t4] at q2 ⊢
  have HL := Lib.hid (len_is H6.out)
  rw [HL2.out] at HL
  have q2' : w6.cell? ⟨ad.block, ad.off + 2, none⟩ = some (.int .i64 6) := by simpa [Addr.add] using q2
  clear hF hb x0 q0 q1 q3
  go_wp2_with fail
  refine HL.out.mono ?_
  rintro e w' ⟨rfl, rfl⟩
  go_wp2_with fail
  go_ret
  exact ⟨rfl, HB6.out⟩
end Go.Proofs.Ytdolmkiiflhehaa.M
end

section
/- Less. -/
set_option linter.unusedVariables false
set_option linter.unusedSimpArgs false
set_option maxRecDepth 100000
namespace Go.Proofs.Ytdolmkiiflhehaa.M
open Go.RowKit Go.Proofs.YtdolmkiiflhehaaW.PrintWords

theorem less_is (a b : Int × Int) (w : World) : Calls Try.prog 39 #[.agg #[.int .i32 a.1, .int .i64 a.2], .agg #[.int .i32 b.1, .int .i64 b.2]] w fun e w' => e = .returned (.bool (kLt a b)) ∧ Below w.heap.size w w' := by
  obtain ⟨r, hr⟩ : ∃ r, kLt a b = r := ⟨_, rfl⟩
  have HR := Lib.hid hr
  rw [hr]
  clear hr
  have HB := Lib.hid (show Below w.heap.size w ((w.alloc (.cells #[.int .i32 a.1, .int .i64 a.2] 29)).alloc (.cells #[.int .i32 b.1, .int .i64 b.2] 29)) from ((Below.refl _ _).alloc (Nat.le_refl _) _).alloc (by simp) _)
  have c0 := cellUp (w.alloc (.cells #[.int .i32 a.1, .int .i64 a.2] 29)) (.cells #[.int .i32 b.1, .int .i64 b.2] 29) (Joins.cell_alloc_mark_at w #[.int .i32 a.1, .int .i64 a.2] 29 (0, 0) w.heap.size 0 rfl)
  have c1 := cellUp (w.alloc (.cells #[.int .i32 a.1, .int .i64 a.2] 29)) (.cells #[.int .i32 b.1, .int .i64 b.2] 29) (Joins.cell_alloc_mark_at w #[.int .i32 a.1, .int .i64 a.2] 29 (0, 0) w.heap.size 1 rfl)
  have d0 := Joins.cell_alloc_mark_at (w.alloc (.cells #[.int .i32 a.1, .int .i64 a.2] 29)) #[.int .i32 b.1, .int .i64 b.2] 29 (0, 0) (w.heap.size + 1) 0 (by simp)
  have d1 := Joins.cell_alloc_mark_at (w.alloc (.cells #[.int .i32 a.1, .int .i64 a.2] 29)) #[.int .i32 b.1, .int .i64 b.2] 29 (0, 0) (w.heap.size + 1) 1 (by simp)
  by_cases h1 : a.1 < b.1
  · have g1 : decide (a.1 < b.1) = true := decide_eq_true h1
    have HV := Lib.hid (show r = true by rw [← HR.out]; unfold kLt; rw [g1]; rfl)
    rw [HV.out]
    clear h1
    go_enter Try.func39, Try.ntmps39
    go_wp2_with fail
    go_ret
    exact ⟨rfl, HB.out⟩
  · have g1 : decide (a.1 < b.1) = false := decide_eq_false h1
    by_cases h2 : a.1 = b.1
    · have g2 : (a.1 == b.1) = true := by simp [h2]
      have g2' : decide (a.1 = b.1) = true := decide_eq_true h2
      have HV := Lib.hid (show r = decide (a.2 < b.2) by rw [← HR.out]; unfold kLt; rw [g1, g2']; simp)
      rw [HV.out]
      clear h1 h2
      go_enter Try.func39, Try.ntmps39
      go_wp2_with fail
      go_ret
      exact ⟨rfl, HB.out⟩
    · have g2 : (a.1 == b.1) = false := beq_eq_false_iff_ne.2 h2
      have g2' : decide (a.1 = b.1) = false := decide_eq_false h2
      have HV := Lib.hid (show r = false by rw [← HR.out]; unfold kLt; rw [g1, g2']; simp)
      rw [HV.out]
      clear h1 h2
      go_enter Try.func39, Try.ntmps39
      go_wp2_with fail
      go_ret
      exact ⟨rfl, HB.out⟩
end Go.Proofs.Ytdolmkiiflhehaa.M
end

section
/- Maps of the call's own as partial functions: keys of any type, elements as the values they are. -/
set_option linter.unusedVariables false
set_option linter.unusedSimpArgs false
namespace Go.Proofs.Ytdolmkiiflhehaa.M
open Go.RowKit Go.Maps

/-- An element is read as the value it is. -/
def idE (v : Value) : Option (DataW Value × List MemPlace) := some (.held v, [])
/-- Keys of type k: the values mk x of the x that are well. -/
structure KeyT {α : Type} (P : Program) (k : TypeId) (mk : α → Value) (wf : α → Prop) : Prop where
  K : Keyed P k
  toK : ∀ x, wf x → ∃ kl, keyOf P k (mk x) = some kl
  from_ : ∀ v kl, keyOf P k v = some kl → ∃ x, wf x ∧ v = mk x
  inj : ∀ x y, mk x = mk y → x = y
/-- Block b is a map of at most n entries: at x it has M x; sz: how many there are. -/
def IsM {α : Type} (P : Program) (k : TypeId) (mk : α → Value) (w : World) (b n : Nat) (M : α → Option Value) (sz : Nat) : Prop :=
  ∃ D : DataW Value, w.ownsMap P k idE b n D ∧ Maps.size D = sz ∧ ∀ x kl, keyOf P k (mk x) = some kl → (∀ z, D.atKey kl (.held z) = .held ((M x).getD z)) ∧ Maps.has D kl = (M x).isSome
section
variable {α : Type} {P : Program} {k e t : TypeId} {mk : α → Value} {wf : α → Prop} {w w' : World} {b n sz : Nat} {M : α → Option Value}
theorem IsM.lt (h : IsM P k mk w b n M sz) : b < w.heap.size := by obtain ⟨D, h1, _⟩ := h; exact h1.lt
theorem IsM.move (h : IsM P k mk w b n M sz) (hb : w'.heap[b]? = w.heap[b]?) : IsM P k mk w' b n M sz := by
  obtain ⟨D, ⟨es, clock, h1, h2⟩, h3⟩ := h
  exact ⟨D, ⟨es, clock, hb.trans h1, h2⟩, h3⟩
theorem IsM.below (h : IsM P k mk w b n M sz) (hb : Below w.heap.size w w') : IsM P k mk w' b n M sz := h.move (hb.block b h.lt)
theorem IsM.alloc (h : IsM P k mk w b n M sz) (o : Obj) : IsM P k mk (w.alloc o) b n M sz := h.move (Below.heap_alloc w o b h.lt)
theorem IsM.mono (h : IsM P k mk w b n M sz) {n' : Nat} (hn : n ≤ n') : IsM P k mk w b n' M sz := by obtain ⟨D, h1, h2⟩ := h; exact ⟨D, h1.mono hn, h2⟩
theorem IsM.sz_le (h : IsM P k mk w b n M sz) : sz ≤ n := by obtain ⟨D, h1, rfl, _⟩ := h; exact h1.size_le
theorem isM_made (w : World) (P : Program) (k : TypeId) (mk : α → Value) : IsM P k mk (w.alloc (.map #[] 0)) w.heap.size 0 (fun _ => none) 0 :=
  ⟨.map [], World.ownsMap_made w P k idE, rfl, fun x kl _ => ⟨fun z => rfl, rfl⟩⟩
theorem IsM.get (h : IsM P k mk w b n M sz) (hk : KeyT P k mk wf) (ht : P.underlying t = some (.map k e)) {z : Value} (hz : ∀ u : World, (zeroValue e).run P u = .ok z u) {x : α} (hx : wf x) :
    (Instr.lookup t (.map (some b)) (mk x) false).run P w = .ok ((M x).getD z) w := by
  obtain ⟨D, h1, h2, h3⟩ := h
  obtain ⟨kl, hkl⟩ := hk.toK x hx
  obtain ⟨v, ps, hrun, hv⟩ := h1.lookup hk.K ht (hz w) (zd := .held z) (zp := []) rfl hkl
  rw [(h3 x kl hkl).1 z] at hv
  simp only [idE, Option.some.injEq, Prod.mk.injEq, DataW.held.injEq] at hv
  rw [hrun, hv.1]
theorem IsM.get_ok (h : IsM P k mk w b n M sz) (hk : KeyT P k mk wf) (ht : P.underlying t = some (.map k e)) {z : Value} (hz : ∀ u : World, (zeroValue e).run P u = .ok z u) {x : α} (hx : wf x) :
    (Instr.lookup t (.map (some b)) (mk x) true).run P w = .ok (.tuple #[(M x).getD z, .bool (M x).isSome]) w := by
  obtain ⟨D, h1, h2, h3⟩ := h
  obtain ⟨kl, hkl⟩ := hk.toK x hx
  obtain ⟨v, ps, hrun, hv⟩ := h1.look_ok hk.K ht (hz w) (zd := .held z) (zp := []) rfl hkl
  rw [(h3 x kl hkl).1 z] at hv
  simp only [idE, Option.some.injEq, Prod.mk.injEq, DataW.held.injEq] at hv
  rw [hrun, hv.1, (h3 x kl hkl).2]
theorem KeyT.ne (hk : KeyT P k mk wf) {x y : α} {a c : Lit} (ha : keyOf P k (mk x) = some a) (hc : keyOf P k (mk y) = some c) (hne : x ≠ y) : a ≠ c := by
  rintro rfl
  exact hne (hk.inj x y (hk.K.inj ha hc))
theorem IsM.put [DecidableEq α] (h : IsM P k mk w b n M sz) (hk : KeyT P k mk wf) (ht : P.underlying t = some (.map k e)) (hn : n < maxLen) {x : α} (hx : wf x) (v : Value) :
    ∃ w', (Instr.mapUpdate t (.map (some b)) (mk x) v).run P w = .ok () w' ∧ IsM P k mk w' b (n + 1) (fun y => if y = x then some v else M y) (if (M x).isSome then sz else sz + 1) ∧ w.grownBy w' (some b) := by
  obtain ⟨D, h1, h2, h3⟩ := h
  obtain ⟨kl, hkl⟩ := hk.toK x hx
  obtain ⟨w', hrun, h4, h5⟩ := h1.update hk.K ht hn hkl (val := v) (d := .held v) (ps := []) rfl
  refine ⟨w', hrun, ⟨_, h4, ?_, fun y kl' hy => ?_⟩, h5⟩
  · rw [Maps.size_put (h1.tidy hk.K), (h3 x kl hkl).2, h2]
  · by_cases e : y = x
    · subst e
      rw [hkl] at hy
      cases hy
      simp only [if_true]
      exact ⟨fun z => Maps.atKey_put_same h1.isMap (hk.K.key hkl) _ _, Maps.has_put_same h1.isMap (hk.K.key hkl) _⟩
    · simp only [if_neg e]
      have hne := hk.ne hy hkl e
      exact ⟨fun z => by rw [Maps.atKey_put_other hne]; exact (h3 y kl' hy).1 z, by rw [Maps.has_put_other hne]; exact (h3 y kl' hy).2⟩
theorem IsM.del [DecidableEq α] (h : IsM P k mk w b n M sz) (hk : KeyT P k mk wf) (ht : P.underlying t = some (.map k e)) {x : α} (hx : wf x) (ty : TypeId) :
    ∃ w', (Builtin.delete_ #[t, k] ty #[.map (some b), mk x]).run P w = .ok (.tuple #[]) w' ∧ IsM P k mk w' b n (fun y => if y = x then none else M y) (if (M x).isSome then sz - 1 else sz) ∧ w.grownBy w' (some b) := by
  obtain ⟨D, h1, h2, h3⟩ := h
  obtain ⟨kl, hkl⟩ := hk.toK x hx
  obtain ⟨w', hrun, h4, h5⟩ := h1.drop hk.K ht hkl ty
  refine ⟨w', hrun, ⟨_, h4, ?_, fun y kl' hy => ?_⟩, h5.grown⟩
  · have := Maps.size_del (k := kl) (h1.tidy hk.K)
    rw [(h3 x kl hkl).2, h2] at this
    split <;> simp_all <;> omega
  · by_cases e : y = x
    · subst e
      rw [hkl] at hy
      cases hy
      simp only [if_true]
      exact ⟨fun z => Maps.atKey_del_same _, Maps.has_del_same⟩
    · simp only [if_neg e]
      have hne := hk.ne hy hkl e
      exact ⟨fun z => by rw [Maps.atKey_del_other hne]; exact (h3 y kl' hy).1 z, by rw [Maps.has_del_other hne]; exact (h3 y kl' hy).2⟩
theorem IsM.len (h : IsM P k mk w b n M sz) (ht : P.underlying t = some (.map k e)) (ty : TypeId) : (Builtin.len_ #[t] ty #[.map (some b)]).run P w = .ok (.int .i64 sz) w := by
  obtain ⟨D, h1, rfl, h3⟩ := h
  exact h1.len ht ty
end

/-! ### at the operation -/
section
variable {α : Type} {P : Program} {k e : TypeId} {mk : α → Value} {wf : α → Prop} {b n sz : Nat} {M : α → Option Value} (w : World) {ops : Array Oper} {rest : List Oper} {o : Oper} {a : Act} {Q : Exit → Act → World → Prop}
theorem m_get (h : IsM P k mk w b n M sz) (hk : KeyT P k mk wf) (t : TypeId) (ht : P.underlying t = some (.map k e)) {z : Value} (hz : ∀ u : World, (zeroValue e).run P u = .ok z u) (hg : o.guard = none) (m y : Operand) (hop : o.op = Op.lookup t m y false)
    (x : α) (hx : wf x) (hm : a.eval m = .map (some b)) (hy : a.eval y = mk x) (hK : wpList P ops Q rest (a.put o.dst ((M x).getD z)) w) : wpList P ops Q (o :: rest) a w := by
  refine wpList_plain hg fun K' hK' => ?_
  unfold Oper.wp
  simp [execOp, hop, hm, hy, h.get hk ht hz hx, Result.andThen]
  exact hK' _ _ hK
theorem m_get_ok (h : IsM P k mk w b n M sz) (hk : KeyT P k mk wf) (t : TypeId) (ht : P.underlying t = some (.map k e)) {z : Value} (hz : ∀ u : World, (zeroValue e).run P u = .ok z u) (hg : o.guard = none) (m y : Operand) (hop : o.op = Op.lookup t m y true)
    (x : α) (hx : wf x) (hm : a.eval m = .map (some b)) (hy : a.eval y = mk x) (hK : wpList P ops Q rest (a.put o.dst (.tuple #[(M x).getD z, .bool (M x).isSome])) w) : wpList P ops Q (o :: rest) a w := by
  refine wpList_plain hg fun K' hK' => ?_
  unfold Oper.wp
  simp [execOp, hop, hm, hy, h.get_ok hk ht hz hx, Result.andThen]
  exact hK' _ _ hK
theorem m_get_no (h : IsM P k mk w b n M sz) (hk : KeyT P k mk wf) (t : TypeId) (ht : P.underlying t = some (.map k e)) {z : Value} (hz : ∀ u : World, (zeroValue e).run P u = .ok z u) (hg : o.guard = none) (m y : Operand) (hop : o.op = Op.lookup t m y true)
    (x : α) (hx : wf x) (hM : M x = none) (hm : a.eval m = .map (some b)) (hy : a.eval y = mk x) (hK : wpList P ops Q rest (a.put o.dst (.tuple #[z, .bool false])) w) : wpList P ops Q (o :: rest) a w :=
  m_get_ok w h hk t ht hz hg m y hop x hx hm hy (by rw [hM]; exact hK)
theorem m_get_yes (h : IsM P k mk w b n M sz) (hk : KeyT P k mk wf) (t : TypeId) (ht : P.underlying t = some (.map k e)) {z : Value} (hz : ∀ u : World, (zeroValue e).run P u = .ok z u) (hg : o.guard = none) (m y : Operand) (hop : o.op = Op.lookup t m y true)
    (x : α) (hx : wf x) {v : Value} (hM : M x = some v) (hm : a.eval m = .map (some b)) (hy : a.eval y = mk x) (hK : wpList P ops Q rest (a.put o.dst (.tuple #[v, .bool true])) w) : wpList P ops Q (o :: rest) a w :=
  m_get_ok w h hk t ht hz hg m y hop x hx hm hy (by rw [hM]; exact hK)
theorem m_put [DecidableEq α] (h : IsM P k mk w b n M sz) (hk : KeyT P k mk wf) (t : TypeId) (ht : P.underlying t = some (.map k e)) (hn : n < maxLen) (hg : o.guard = none) (m y v : Operand) (hop : o.op = Op.mapUpdate t m y v)
    (x : α) (hx : wf x) (val : Value) (hm : a.eval m = .map (some b)) (hy : a.eval y = mk x) (hv : a.eval v = val)
    (hK : ∀ w', IsM P k mk w' b (n + 1) (fun y => if y = x then some val else M y) (if (M x).isSome then sz else sz + 1) → w.grownBy w' (some b) → wpList P ops Q rest (a.put o.dst undef) w') : wpList P ops Q (o :: rest) a w := by
  refine wpList_plain hg fun K' hK' => ?_
  obtain ⟨w', hrun, h1, h2⟩ := h.put hk ht hn hx val
  unfold Oper.wp
  simp [execOp, hop, hm, hy, hv, hrun, Result.andThen]
  exact hK' _ _ (hK w' h1 h2)
theorem m_del [DecidableEq α] (h : IsM P k mk w b n M sz) (hk : KeyT P k mk wf) (t : TypeId) (ht : P.underlying t = some (.map k e)) (hg : o.guard = none) (m y : Operand) (hop : o.op = Op.call { callee := Callee.builtin Builtin.delete, args := #[m, y], argTypes := #[t, k] })
    (x : α) (hx : wf x) (hm : a.eval m = .map (some b)) (hy : a.eval y = mk x)
    (hK : ∀ w', IsM P k mk w' b n (fun y => if y = x then none else M y) (if (M x).isSome then sz - 1 else sz) → w.grownBy w' (some b) → wpList P ops Q rest (a.put o.dst (.tuple #[])) w') : wpList P ops Q (o :: rest) a w := by
  refine wpList_plain hg fun K' hK' => ?_
  obtain ⟨w', hrun, h1, h2⟩ := h.del hk ht hx o.type
  unfold Oper.wp
  simp [execOp, hop, resolve, invoke, builtin, hm, hy, hrun, Result.andThen]
  exact hK' _ _ (hK w' h1 h2)
end

/-! ### a range over it -/
/-- Block r is a walk over the map b; L x: is x still to come; cnt: how many are. -/
def IsMR {α : Type} (P : Program) (k : TypeId) (mk : α → Value) (w : World) (b r n : Nat) (M : α → Option Value) (sz : Nat) (L : α → Bool) (cnt : Nat) : Prop :=
  ∃ (D : DataW Value) (left : Lit → Bool), w.ranges P k idE b r n D left cnt ∧ Maps.size D = sz ∧ ∀ x kl, keyOf P k (mk x) = some kl → ((∀ z, D.atKey kl (.held z) = .held ((M x).getD z)) ∧ Maps.has D kl = (M x).isSome) ∧ left kl = L x
section
variable {α : Type} {P : Program} {k e : TypeId} {mk : α → Value} {wf : α → Prop} {b r n sz cnt : Nat} {M : α → Option Value} {L : α → Bool} {w w' : World}
theorem IsMR.map (h : IsMR P k mk w b r n M sz L cnt) : IsM P k mk w b n M sz := by
  obtain ⟨D, left, h1, h2, h3⟩ := h
  exact ⟨D, h1.owns, h2, fun x kl hx => (h3 x kl hx).1⟩
theorem IsMR.left_eq (h : IsMR P k mk w b r n M sz L cnt) : w.rangeLeft b r = cnt := by obtain ⟨D, left, h1, _⟩ := h; exact h1.left_eq
theorem IsMR.lt (h : IsMR P k mk w b r n M sz L cnt) : r < w.heap.size := by obtain ⟨D, left, h1, _⟩ := h; exact h1.lt
theorem IsMR.ne (h : IsMR P k mk w b r n M sz L cnt) : r ≠ b := by obtain ⟨D, left, h1, _⟩ := h; exact h1.ne
theorem IsMR.kept (h : IsMR P k mk w b r n M sz L cnt) {row : Option Nat} (hg : w.grownBy w' row) (hb : some b ≠ row) (hr : some r ≠ row) : IsMR P k mk w' b r n M sz L cnt := by
  obtain ⟨D, left, h1, h2⟩ := h
  exact ⟨D, left, h1.kept hg hb hr, h2⟩
theorem IsMR.below (h : IsMR P k mk w b r n M sz L cnt) (hb : Below w.heap.size w w') : IsMR P k mk w' b r n M sz L cnt :=
  h.kept (row := none) ⟨hb.os, hb.tape, hb.output, hb.size, fun i hi _ => hb.block i hi⟩ (by simp) (by simp)
end
section
variable {α : Type} {P : Program} {k e : TypeId} {mk : α → Value} {wf : α → Prop} {b r n sz cnt : Nat} {M : α → Option Value} {L : α → Bool} (w : World) {ops : Array Oper} {rest : List Oper} {o : Oper} {a : Act} {Q : Exit → Act → World → Prop}
theorem m_range (h : IsM P k mk w b n M sz) (hk : KeyT P k mk wf) (t : TypeId) (ht : P.underlying t = some (.map k e)) (hg : o.guard = none) (m : Operand) (hop : o.op = Op.range t m) (hm : a.eval m = .map (some b))
    (hK : ∀ w', IsMR P k mk w' b w.heap.size n M sz (fun x => (M x).isSome) sz → w.grownBy w' none → w'.heap.size = w.heap.size + 1 → wpList P ops Q rest (a.put o.dst (.pointer (some ⟨w.heap.size, 0, none⟩))) w') : wpList P ops Q (o :: rest) a w := by
  obtain ⟨D, h1, h2, h3⟩ := h
  refine wpList_range_own w hg m t hop k e hk.K ht idE b n D hm h1 fun w' h4 h5 h6 => ?_
  rw [h2] at h4
  exact hK w' ⟨D, _, h4, h2, fun x kl hx => ⟨h3 x kl hx, (h3 x kl hx).2⟩⟩ h5 h6
theorem m_next [DecidableEq α] (h : IsMR P k mk w b r n M sz L cnt) (hk : KeyT P k mk wf) (hg : o.guard = none) (it : Operand) (hop : o.op = Op.next it false) (hit : a.eval it = .pointer (some ⟨r, 0, none⟩))
    (hDone : cnt = 0 → (∀ x, wf x → L x = false) → wpList P ops Q rest (a.put o.dst (.tuple #[.bool false])) w)
    (hMore : ∀ (x : α) (v : Value) (w' : World) (cnt' : Nat), wf x → M x = some v → L x = true → IsMR P k mk w' b r n M sz (fun y => L y && !decide (y = x)) cnt' → cnt' < cnt → w.grownBy w' (some r) → w'.heap.size = w.heap.size →
      (Instr.entry (.pointer (some ⟨r, 0, none⟩))).run P w' = .ok (.tuple #[mk x, v]) w' → wpList P ops Q rest (a.put o.dst (.tuple #[.bool true, mk x, v])) w') : wpList P ops Q (o :: rest) a w := by
  obtain ⟨D, left, h1, h2, h3⟩ := h
  refine wpList_next_ranges w hg it hop k hk.K idE mk id (fun v kl hv => by obtain ⟨x, _, e⟩ := hk.from_ v kl hv; exact ⟨x, e⟩) (fun v y hv => ⟨v, rfl⟩) b r n D left cnt hit h1 (fun h0 hl => hDone h0 (fun x hx => ?_)) ?_
  · obtain ⟨kl, hkl⟩ := hk.toK x hx
    rw [← (h3 x kl hkl).2]
    exact hl kl
  · intro x v kl y w' cnt' hkl hlk hv hat hrg hlt hgr hsz hen
    simp only [idE, id, Option.some.injEq] at hv
    subst hv
    have hM : M x = some v := by
      have e1 := (h3 x kl hkl).1.1 (.bool true)
      have e2 := (h3 x kl hkl).1.1 (.bool false)
      rw [hat] at e1 e2
      simp only [DataW.held.injEq] at e1 e2
      cases hm : M x with
      | none =>
        rw [hm] at e1 e2
        simp only [Option.getD_none] at e1 e2
        rw [e1] at e2
        cases e2
      | some u =>
        rw [hm] at e1
        simp only [Option.getD_some] at e1
        rw [e1]
    obtain ⟨x', hx', e⟩ := hk.from_ _ kl hkl
    have := hk.inj _ _ e
    subst this
    refine hMore x v w' cnt' hx' hM (by rw [← (h3 x kl hkl).2]; exact hlk) ⟨D, _, hrg, h2, fun z kz hz => ⟨(h3 z kz hz).1, ?_⟩⟩ hlt hgr hsz hen
    rw [(h3 z kz hz).2]
    congr 1
    congr 1
    by_cases e : z = x
    · subst e
      rw [hkl] at hz
      cases hz
      simp
      cases hq : kl.sameKey kl with
      | true => rfl
      | false =>
        exfalso
        have := hk.K.key hkl
        exact absurd hq (by simpa using (WideAt.sameKey_self this))
    · simp only [e, decide_false]
      exact Maps.sameKey_ne (hk.ne hz hkl e)
end
end Go.Proofs.Ytdolmkiiflhehaa.M
end

section
/- Keys of two numbers: arrays [2]int, structs of two numbers. -/
set_option linter.unusedVariables false
set_option linter.unusedSimpArgs false
namespace Go.Proofs.Ytdolmkiiflhehaa.M
open Go.RowKit Go.Maps

theorem arr_two {α : Type} {cs : Array α} (h : cs.size = 2) : ∃ c0 c1, cs = #[c0, c1] := by
  obtain ⟨l⟩ := cs
  match l, h with
  | [c0, c1], _ => exact ⟨c0, c1, rfl⟩
def mk2 (p q : IntKind) (x : Int × Int) : Value := .agg #[.int p x.1, .int q x.2]
def wf2 (p q : IntKind) (x : Int × Int) : Prop := (Lit.int p x.1).wf = true ∧ (Lit.int q x.2).wf = true
theorem mk2_inj {p q : IntKind} (x y : Int × Int) (h : mk2 p q x = mk2 p q y) : x = y := by
  simp only [mk2, Value.agg.injEq, Array.mk.injEq, List.cons.injEq, Value.int.injEq, true_and, and_true] at h
  exact Prod.ext h.1 h.2
theorem keyT_arr2 {P : Program} {k e : TypeId} {q : IntKind} (hk : P.underlying k = some (.array 2 e)) (he : P.underlying e = some (.int q)) (hck : P.cellsOf k = 2) (hce : P.cellsOf e = 1) (hkt : P.keyType k = true) (hm : ∃ m, P.types.size = m + 1) (K : Keyed P k) :
    KeyT P k (mk2 q q) (wf2 q q) := by
  obtain ⟨m, hm⟩ := hm
  refine ⟨K, fun x hx => ?_, fun v kl h => ?_, mk2_inj⟩
  · obtain ⟨h1, h2⟩ := hx
    simp [keyOf, hk, hkt, mk2, Value.formed, hck, Program.keyLits, hm, he, hce, Value.cells, List.range_succ, h1, h2]
  · unfold keyOf at h
    rw [hk] at h
    simp only [hkt, Bool.true_and] at h
    split at h
    · rename_i hf
      rw [Option.map_eq_some_iff] at h
      obtain ⟨ls, h1, _⟩ := h
      cases v with
      | agg cs =>
        simp [Value.formed, hk, hck] at hf
        obtain ⟨c0, c1, rfl⟩ := arr_two hf
        simp [Program.keyLits, hm, hk, hck, hce, Value.cells, List.range_succ] at h1
        rw [Option.bind_eq_some_iff] at h1
        obtain ⟨l0, h2, h3⟩ := h1
        cases c0 <;> simp [he] at h2
        obtain ⟨⟨rfl, w0⟩, rfl⟩ := h2
        cases c1 <;> simp [he, Option.bind_eq_some_iff] at h3
        obtain ⟨_, ⟨_, ⟨⟨rfl, w1⟩, _⟩, _⟩, _⟩ := h3
        exact ⟨(_, _), ⟨w0, w1⟩, rfl⟩
      | _ => simp [Value.formed, hk] at hf
    · cases h
theorem keyT_struct2 {P : Program} {k : TypeId} {f0 f1 : Field} {p q : IntKind} (hk : P.underlying k = some (.struct #[f0, f1])) (h0 : P.underlying f0.type = some (.int p)) (h1 : P.underlying f1.type = some (.int q)) (ho : f0.offset = 0 ∧ f1.offset = 1) (hnm : (f0.name != "_") = true ∧ (f1.name != "_") = true)
    (hck : P.cellsOf k = 2) (hc0 : P.cellsOf f0.type = 1) (hc1 : P.cellsOf f1.type = 1) (hkt : P.keyType k = true) (hm : ∃ m, P.types.size = m + 1) (K : Keyed P k) :
    KeyT P k (mk2 p q) (wf2 p q) := by
  obtain ⟨m, hm⟩ := hm
  obtain ⟨n0, n1⟩ := hnm
  refine ⟨K, fun x hx => ?_, fun v kl h => ?_, mk2_inj⟩
  · obtain ⟨w0, w1⟩ := hx
    simp only [bne_iff_ne, ne_eq] at n0 n1
    simp [keyOf, hk, hkt, mk2, Value.formed, hck, Program.keyLits, hm, h0, h1, hc0, hc1, ho.1, ho.2, n0, n1, Value.cells, w0, w1]
  · unfold keyOf at h
    rw [hk] at h
    simp only [hkt, Bool.true_and] at h
    split at h
    · rename_i hf
      rw [Option.map_eq_some_iff] at h
      obtain ⟨ls, h1', _⟩ := h
      cases v with
      | agg cs =>
        simp [Value.formed, hk, hck] at hf
        obtain ⟨c0, c1, rfl⟩ := arr_two hf
        simp only [bne_iff_ne, ne_eq] at n0 n1
        simp [Program.keyLits, hm, hk, hck, hc0, hc1, ho.1, ho.2, n0, n1, Value.cells] at h1'
        rw [Option.bind_eq_some_iff] at h1'
        obtain ⟨l0, h2, h3⟩ := h1'
        cases c0 <;> simp [h0] at h2
        obtain ⟨⟨rfl, w0⟩, rfl⟩ := h2
        cases c1 <;> simp [h1, Option.bind_eq_some_iff] at h3
        obtain ⟨_, ⟨_, ⟨⟨rfl, w1⟩, _⟩, _⟩, _⟩ := h3
        exact ⟨(_, _), ⟨w0, w1⟩, rfl⟩
      | _ => simp [Value.formed, hk] at hf
    · cases h
/-- An array's or a struct's type as keys. -/
theorem keyed_deep {P : Program} (hl : laidOutB P = true) {k : TypeId} (hrow : k < P.types.size) (hk : P.keyTypeAt 2 k = true) (hwide : (match P.underlying k with | some (.array _ _) | some (.struct _) => true | _ => false) = true) : Keyed P k :=
  Keyed.of_law (deep_law_laid hl (m := 2) (by omega) hrow hk hwide)
end Go.Proofs.Ytdolmkiiflhehaa.M
end

section
/- The map's keys; its elements' zero. -/
set_option linter.unusedVariables false
set_option linter.unusedSimpArgs false
set_option maxRecDepth 100000
namespace Go.Proofs.Ytdolmkiiflhehaa.M
open Go.RowKit Go.Maps Go.Proofs.YtdolmkiiflhehaaW.PrintWords
theorem keyS : KeyT Try.prog 29 (mk2 .i32 .i64) (wf2 .i32 .i64) :=
  keyT_struct2 Try.underlying29 Try.underlying21 Try.underlying2 ⟨rfl, rfl⟩ ⟨by rfl, by rfl⟩ (by kernel_rfl) (by kernel_rfl) (by kernel_rfl) (by kernel_rfl) ⟨Try.prog.types.size - 1, by have h : 0 < Try.prog.types.size := of_decide_eq_true (by kernel_rfl); omega⟩
    (keyed_deep laidOut (of_decide_eq_true (by kernel_rfl)) (by kernel_rfl) (by rw [Try.underlying29]))
theorem zeroCell (u : World) : (zeroValue 31).run Try.prog u = .ok (celV ⟨0, 0, 0, 0⟩) u := by kernel_rfl
end Go.Proofs.Ytdolmkiiflhehaa.M
end

section
/- rising. -/
set_option linter.unusedVariables false
set_option linter.unusedSimpArgs false
set_option maxRecDepth 100000
namespace Go.Proofs.Ytdolmkiiflhehaa.M
open Go.RowKit Go.Shelf Go.Maps Go.Proofs.YtdolmkiiflhehaaW.PrintWords
attribute [local go_sem] Oper.semAt_some

abbrev S4 := { x : T4 // wf2 .i32 .i64 x.1 }
theorem lift4 : ∀ l : List T4, (∀ x, x ∈ l → wf2 .i32 .i64 x.1) → ∃ xs : List S4, xs.map (·.1) = l
  | [], _ => ⟨[], rfl⟩
  | x :: l, h => by
    obtain ⟨xs, e⟩ := lift4 l (fun y hy => h y (List.mem_cons_of_mem _ hy))
    exact ⟨⟨x, h x List.mem_cons_self⟩ :: xs, by rw [List.map_cons, e]⟩
/-- What a map has of a store. -/
def mapV (L : List Nd) (k : Int × Int) : Option Value := (getL L k).map celV
def Good (L : List Nd) (pre : List S4) : Prop := (∀ x, x ∈ pre → (getL L x.1.1).map t4 = some x.1) ∧ pre.Pairwise (fun x y => kLt x.1.1 y.1.1 = true)
def lastT (pre : List S4) : T4 := match pre.getLast? with | some x => x.1 | none => ((0, 0), (0, 0))
theorem lastT_snoc (pre : List S4) (x : S4) : lastT (pre ++ [x]) = x.1 := by unfold lastT; simp
theorem good_snoc {L : List Nd} {pre : List S4} {x : S4} (h : Good L pre) (hx : (getL L x.1.1).map t4 = some x.1) (hl : pre = [] ∨ kLt (lastT pre).1 x.1.1 = true) : Good L (pre ++ [x]) := by
  refine ⟨fun y hy => ?_, ?_⟩
  · rcases List.mem_append.1 hy with hy | hy
    · exact h.1 y hy
    · rw [List.mem_singleton.1 hy]; exact hx
  · rw [List.pairwise_append]
    refine ⟨h.2, List.pairwise_singleton _ _, fun a ha b hb => ?_⟩
    rw [List.mem_singleton.1 hb]
    rcases hl with rfl | hl
    · cases ha
    · obtain ⟨q, z, rfl⟩ : ∃ q z, pre = q ++ [z] := ⟨_, _, (List.dropLast_concat_getLast (List.ne_nil_of_mem ha)).symm⟩
      rw [lastT_snoc] at hl
      rcases List.mem_append.1 ha with ha | ha
      · exact kLt_trans ((List.pairwise_append.1 h.2).2.2 a ha z (by simp)) hl
      · rw [List.mem_singleton.1 ha]; exact hl
theorem not_good_map {L : List Nd} {pre : List S4} {x : S4} (hx : (getL L x.1.1).map t4 ≠ some x.1) : ¬ Good L (pre ++ [x]) := fun h => hx (h.1 x (by simp))
theorem not_good_lt {L : List Nd} {pre : List S4} {x : S4} (hn : pre ≠ []) (hl : kLt (lastT pre).1 x.1.1 = false) : ¬ Good L (pre ++ [x]) := fun h => by
  obtain ⟨q, z, rfl⟩ : ∃ q z, pre = q ++ [z] := ⟨_, _, (List.dropLast_concat_getLast hn).symm⟩
  rw [lastT_snoc] at hl
  have := (List.pairwise_append.1 h.2).2.2 z (by simp) x (by simp)
  rw [hl] at this
  cases this
theorem rank_lo {L : List Nd} (hw : ∀ e, e ∈ L → wf2 .i32 .i64 e.c.key) : rank L (-2147483648, -9223372036854775808) = 0 := by
  unfold rank
  cases L with
  | nil => rfl
  | cons e l =>
    have h := hw e List.mem_cons_self
    have h1 : -2147483648 ≤ e.c.key.1 := by have h2 := h.1; simp only [Lit.wf, Bool.and_eq_true, decide_eq_true_eq] at h2; exact h2.1
    have h2 : -9223372036854775808 ≤ e.c.key.2 := by have h2 := h.2; simp only [Lit.wf, Bool.and_eq_true, decide_eq_true_eq] at h2; exact h2.1
    rw [List.takeWhile_cons, if_neg]
    · rfl
    · unfold kLt
      simp only [Bool.or_eq_true, Bool.and_eq_true, decide_eq_true_eq]
      omega
theorem good_all {L : List Nd} (hs : Sorted L) {xs : List S4} (hx : xs.map (·.1) = cellsL L) : Good L xs := by
  refine ⟨fun x hm => ?_, ?_⟩
  · have h1 : x.1 ∈ cellsL L := by rw [← hx]; exact List.mem_map.2 ⟨x, hm, rfl⟩
    obtain ⟨e, he, h2⟩ := List.mem_map.1 h1
    have h3 : getL L x.1.1 = some e.c := (getL_iff hs _ _).2 ⟨e, he, rfl, by rw [← h2]; rfl⟩
    rw [h3, ← h2]
    rfl
  · have h1 : (xs.map (·.1)).Pairwise (fun x y => kLt x.1 y.1 = true) := by
      rw [hx]
      exact List.Pairwise.map _ (fun a b h => h) hs
    exact List.pairwise_map.1 h1
theorem good_prefix {L : List Nd} {xs pre : List S4} (h : Good L xs) (hp : pre <+: xs) : Good L pre := by
  obtain ⟨r, rfl⟩ := hp
  exact ⟨fun x hx => h.1 x (List.mem_append_left _ hx), (List.pairwise_append.1 h.2).1⟩
theorem undef_bool (b : Bool) (h : some undef = some (Value.bool b)) : False := by
  have := Option.some.inj h
  cases this
/-- What the loop over a store's cells holds. -/
structure RiI (B mp : Nat) (L : List Nd) (n0 : Nat) (w5 : World) (pre : List S4) (W : World) : Prop where
  mb : W.heap[B]? = some (.cells #[.map (some mp)] 27)
  rb : W.heap[B + 1]? = some (.cells #[.bool false] 4)
  lb : W.heap[B + 2]? = some (.cells #[.int .i32 (lastT pre).1.1, .int .i64 (lastT pre).1.2, .int .i64 (lastT pre).2.1, .int .i64 (lastT pre).2.2] 31)
  nb : W.heap[B + 3]? = some (.cells #[.int .i64 pre.length] 3)
  m : IsM Try.prog 29 (mk2 .i32 .i64) W mp n0 (mapV L) L.length
  good : Good L pre
theorem own_riI (B mp : Nat) (L : List Nd) (n0 : Nat) (w5 : World) (hmp : mp < w5.heap.size) : OwnFrom w5.heap.size (RiI B mp L n0 w5) := fun s A C row hs hg hr => by
  have hr' : ∀ r, row = some r → ∃ o : Obj, A.heap[r]? = some o ∧ o.isCells = false := fun r e => (hr r e).2
  have hb : ∀ {i : Nat} {cs : Array Value} {t : TypeId}, A.heap[i]? = some (.cells cs t) → C.heap[i]? = some (.cells cs t) := fun {i cs t} h1 => by
    refine (hg.block _ (Array.getElem?_eq_some_iff.1 h1).1 (fun e => ?_)).trans h1
    obtain ⟨o, ho, hn⟩ := hr' _ e.symm
    rw [h1] at ho
    cases ho
    cases hn
  exact ⟨hb hs.mb, hb hs.rb, hb hs.lb, hb hs.nb, hs.m.move (hg.block mp hs.m.lt (fun e => by have := (hr mp e.symm).1; omega)), hs.good⟩
theorem RiI.below {B mp n0 : Nat} {L : List Nd} {w5 : World} {pre : List S4} {W W' : World} (h : RiI B mp L n0 w5 pre W) (hb : Below W.heap.size W W') : RiI B mp L n0 w5 pre W' :=
  ⟨(hb.block _ (Array.getElem?_eq_some_iff.1 h.mb).1).trans h.mb, (hb.block _ (Array.getElem?_eq_some_iff.1 h.rb).1).trans h.rb, (hb.block _ (Array.getElem?_eq_some_iff.1 h.lb).1).trans h.lb, (hb.block _ (Array.getElem?_eq_some_iff.1 h.nb).1).trans h.nb, h.m.below hb, h.good⟩
def set5 (W : World) (B : Nat) (x : S4) (v : Int) : World := ((((W.setCell ⟨B + 1 + 1, 0, none⟩ (.int .i32 x.1.1.1)).setCell ⟨B + 1 + 1, 1, none⟩ (.int .i64 x.1.1.2)).setCell ⟨B + 1 + 1, 2, none⟩ (.int .i64 x.1.2.1)).setCell ⟨B + 1 + 1, 3, none⟩ (.int .i64 x.1.2.2)).setCell ⟨B + 1 + 1 + 1, 0, none⟩ (.int .i64 v)
theorem set5_keep (W : World) (B : Nat) (x : S4) (v : Int) : KeepS (fun i => i = B + 2 ∨ i = B + 3) W (set5 W B x v) :=
  (((((KeepS.refl (fun i => i = B + 2 ∨ i = B + 3) W).set (p := ⟨B + 1 + 1, 0, none⟩) (.inl (.inl rfl)) _).set (p := ⟨B + 1 + 1, 1, none⟩) (.inl (.inl rfl)) _).set (p := ⟨B + 1 + 1, 2, none⟩) (.inl (.inl rfl)) _).set (p := ⟨B + 1 + 1, 3, none⟩) (.inl (.inl rfl)) _).set (p := ⟨B + 1 + 1 + 1, 0, none⟩) (.inl (.inr rfl)) _
theorem set5_others (W : World) (B : Nat) (x : S4) (v : Int) : KeepsOthers W (set5 W B x v) :=
  ((((KeepsOthers.setCell _ _ _).trans (KeepsOthers.setCell _ _ _)).trans (KeepsOthers.setCell _ _ _)).trans (KeepsOthers.setCell _ _ _)).trans (KeepsOthers.setCell _ _ _)
theorem RiI.next {B mp n0 : Nat} {L : List Nd} {w5 : World} {pre : List S4} {W : World} (h : RiI B mp L n0 w5 pre W) {x : S4} (hg : Good L (pre ++ [x])) (hm : mp < B) (v : Int) (hv : v = (pre.length + 1 : Nat)) : RiI B mp L n0 w5 (pre ++ [x]) (set5 W B x v) := by
  have hk := set5_keep W B x v
  have hlt : ∀ {i : Nat} {o : Obj}, W.heap[i]? = some o → i < W.heap.size := fun h => (Array.getElem?_eq_some_iff.1 h).1
  refine ⟨(hk.block B (hlt h.mb) (by omega)).trans h.mb, (hk.block (B + 1) (hlt h.rb) (by omega)).trans h.rb, ?_, ?_, h.m.move (hk.block mp h.m.lt (by omega)), hg⟩
  · have h1 := heap_same (a := ⟨B + 1 + 1, 0, none⟩) (v := .int .i32 x.1.1.1) h.lb rfl
    have h2 := heap_same (a := ⟨B + 1 + 1, 1, none⟩) (v := .int .i64 x.1.1.2) h1 rfl
    have h3 := heap_same (a := ⟨B + 1 + 1, 2, none⟩) (v := .int .i64 x.1.2.1) h2 rfl
    have h4 := heap_same (a := ⟨B + 1 + 1, 3, none⟩) (v := .int .i64 x.1.2.2) h3 rfl
    have h5 := (Below.heap_setCell _ ⟨B + 1 + 1 + 1, 0, none⟩ (.int .i64 v) (B + 2) (by show B + 2 ≠ B + 1 + 1 + 1; omega)).trans h4
    rw [lastT_snoc]
    exact h5
  · unfold set5
    have h6 : ((((W.setCell ⟨B + 1 + 1, 0, none⟩ (.int .i32 x.1.1.1)).setCell ⟨B + 1 + 1, 1, none⟩ (.int .i64 x.1.1.2)).setCell ⟨B + 1 + 1, 2, none⟩ (.int .i64 x.1.2.1)).setCell ⟨B + 1 + 1, 3, none⟩ (.int .i64 x.1.2.2)).heap[B + 1 + 1 + 1]? = some (.cells #[.int .i64 pre.length] 3) := by
      rw [Below.heap_setCell _ _ _ _ (by show B + 1 + 1 + 1 ≠ B + 1 + 1; omega), Below.heap_setCell _ _ _ _ (by show B + 1 + 1 + 1 ≠ B + 1 + 1; omega), Below.heap_setCell _ _ _ _ (by show B + 1 + 1 + 1 ≠ B + 1 + 1; omega), Below.heap_setCell _ _ _ _ (by show B + 1 + 1 + 1 ≠ B + 1 + 1; omega)]
      exact h.nb
    have h7 := heap_same (a := ⟨B + 1 + 1 + 1, 0, none⟩) (v := .int .i64 v) h6 rfl
    rw [List.length_append, List.length_singleton, ← hv]
    exact h7
set_option maxHeartbeats 2000000 in
theorem rising_is {w : World} {s h mp n0 : Nat} {L : List Nd} {x : Int} {nx : Nat → Nat → Option Nat} (H : IsSk w s h L x nx) (hL : L.length ≤ 1048576) (hM : IsM Try.prog 29 (mk2 .i32 .i64) w mp n0 (mapV L) L.length) (hw : ∀ e, e ∈ L → wf2 .i32 .i64 e.c.key) :
    Calls Try.prog 15 #[.pointer (some ⟨s, 0, none⟩), .map (some mp)] w fun e w' => e = .returned (.bool true) ∧ Below w.heap.size w w' := by
  obtain ⟨xs, hxs⟩ := lift4 (cellsL L) (fun y hy => by
    obtain ⟨e, he, rfl⟩ := List.mem_map.1 hy
    exact hw e he)
  have hr := rank_lo hw
  have hlen : xs.length = L.length := by have := congrArg List.length hxs; simpa [cellsL] using this
  have hgood := good_all H.store.sorted hxs
  refine (callsIn_wide (n := 4)).1 ?_
  refine callsIn_of_wp_marks Try.func15 rfl trivial ?_ rfl
  simp only [Try.ntmps15, List.size_toArray, List.length_cons, List.length_nil, Nat.reduceAdd, Nat.reduceSub, Array.replicate_succ, Array.replicate_zero, List.push_toArray, List.append_toArray, List.nil_append, List.cons_append]
  gi_wp2_with fail
  have hB4 : Below w.heap.size w ((((w.alloc (.cells #[.map (some mp)] 27)).alloc (.cells #[.bool false] 4)).alloc (.cells #[.int .i32 0, .int .i64 0, .int .i64 0, .int .i64 0] 31)).alloc (.cells #[.int .i64 0] 3)) := ((((Below.refl _ _).alloc (Nat.le_refl _) _).alloc (by simp) _).alloc (by simp; omega) _).alloc (by simp; omega) _
  have hsz : ((((w.alloc (.cells #[.map (some mp)] 27)).alloc (.cells #[.bool false] 4)).alloc (.cells #[.int .i32 0, .int .i64 0, .int .i64 0, .int .i64 0] 31)).alloc (.cells #[.int .i64 0] 3)).heap.size = w.heap.size + 4 := by simp
  have f0 : ((((w.alloc (.cells #[.map (some mp)] 27)).alloc (.cells #[.bool false] 4)).alloc (.cells #[.int .i32 0, .int .i64 0, .int .i64 0, .int .i64 0] 31)).alloc (.cells #[.int .i64 0] 3)).heap[w.heap.size]? = some (.cells #[.map (some mp)] 27) := by
    rw [Below.heap_alloc _ _ _ (by simp; omega), Below.heap_alloc _ _ _ (by simp; omega), Below.heap_alloc _ _ _ (by simp), heap_alloc_new]
  have f1 : ((((w.alloc (.cells #[.map (some mp)] 27)).alloc (.cells #[.bool false] 4)).alloc (.cells #[.int .i32 0, .int .i64 0, .int .i64 0, .int .i64 0] 31)).alloc (.cells #[.int .i64 0] 3)).heap[w.heap.size + 1]? = some (.cells #[.bool false] 4) := by
    rw [Below.heap_alloc _ _ _ (by simp), Below.heap_alloc _ _ _ (by simp)]
    have := heap_alloc_new (w.alloc (.cells #[.map (some mp)] 27)) (.cells #[.bool false] 4)
    rwa [World.size_alloc] at this
  have f2 : ((((w.alloc (.cells #[.map (some mp)] 27)).alloc (.cells #[.bool false] 4)).alloc (.cells #[.int .i32 0, .int .i64 0, .int .i64 0, .int .i64 0] 31)).alloc (.cells #[.int .i64 0] 3)).heap[w.heap.size + 2]? = some (.cells #[.int .i32 0, .int .i64 0, .int .i64 0, .int .i64 0] 31) := by
    rw [Below.heap_alloc _ _ _ (by simp)]
    have := heap_alloc_new ((w.alloc (.cells #[.map (some mp)] 27)).alloc (.cells #[.bool false] 4)) (.cells #[.int .i32 0, .int .i64 0, .int .i64 0, .int .i64 0] 31)
    rwa [World.size_alloc, World.size_alloc] at this
  have f3 : ((((w.alloc (.cells #[.map (some mp)] 27)).alloc (.cells #[.bool false] 4)).alloc (.cells #[.int .i32 0, .int .i64 0, .int .i64 0, .int .i64 0] 31)).alloc (.cells #[.int .i64 0] 3)).heap[w.heap.size + 3]? = some (.cells #[.int .i64 0] 3) := by
    have := heap_alloc_new (((w.alloc (.cells #[.map (some mp)] 27)).alloc (.cells #[.bool false] 4)).alloc (.cells #[.int .i32 0, .int .i64 0, .int .i64 0, .int .i64 0] 31)) (.cells #[.int .i64 0] 3)
    rwa [World.size_alloc, World.size_alloc, World.size_alloc] at this
  have HF0 := from_is (H.below hB4) hL (-2147483648, -9223372036854775808)
  rw [hr, List.drop_zero] at HF0
  have hM4 := hM.below hB4
  obtain ⟨w3, hw3⟩ : ∃ w3, (((w.alloc (.cells #[.map (some mp)] 27)).alloc (.cells #[.bool false] 4)).alloc (.cells #[.int .i32 0, .int .i64 0, .int .i64 0, .int .i64 0] 31)).alloc (.cells #[.int .i64 0] 3) = w3 := ⟨_, rfl⟩
  rw [hw3] at hB4 hsz f0 f1 f2 f3 HF0 hM4 ⊢
  unfold keyV at HF0
  clear hw3
  refine ⟨trivial, (callsIn_wide.2 HF0).mono ?_⟩
  rintro e w4 ⟨rfl, ⟨A, cc, hcl, hF⟩, hb4⟩
  rw [hsz] at hcl hF ⊢
  have HB := Lib.hid (hB4.trans (hb4.mono hB4.size))
  have hI0 : RiI w.heap.size mp L n0 w4 [] w4 := ⟨(hb4.block _ (by omega)).trans f0, (hb4.block _ (by omega)).trans f1, (hb4.block _ (by omega)).trans f2, (hb4.block _ (by omega)).trans f3, hM4.below hb4, ⟨fun _ h => (by cases h), List.Pairwise.nil⟩⟩
  have hF' : Kd.F cellK w4 (fun i => w.heap.size + 4 ≤ i ∧ i < w4.heap.size) A (xs.map (·.1)).length (xs.map (·.1)) := by rw [hxs]; exact hF
  have hcl' : w4.cell? ⟨w.heap.size + 4 + 1, 0, none⟩ = some (.slice A xs.length cc) := by rw [← hxs, List.length_map] at hcl; exact hcl
  have hmp : mp < w.heap.size := hM.lt
  have HXL := Lib.hid (show xs.length ≤ 1048576 by omega)
  have HLN := Lib.hid hlen
  have hs4 : w.heap.size + 4 ≤ w4.heap.size := by have := hb4.size; omega
  clear HF0 f0 f1 f2 f3 hM4 hB4 hb4 hF hcl H hM hw hsz hlen hr
  gi_wp2_with fail
  have hlt4 : w.heap.size + 4 + 1 < w4.heap.size := World.block_lt_of_cell? _ _ hcl'
  refine wpIn_rangeFunc_ownH (w := w4) rfl (by omega) (gf := 44) (lb := #[.pointer (some ⟨w.heap.size + 4 + 1, 0, none⟩)]) rfl trivial (enters_of Try.func44 (by kernel_rfl) rfl)
    (from1_stopsF (fun x : S4 => x.1) Fence.wide (4 - 1) trivial rfl (by omega) (w.heap.size + 4 + 1) (fun i => w.heap.size + 4 ≤ i ∧ i < w4.heap.size) ⟨by omega, hlt4⟩ A cc xs w4 (fun i hi => hi.2) hcl' hF') (fun h k => h.trans k) (keepT_b (fun i hi => hi.2)) (Below.refl _ _) (fun _ => rfl)
    (fun pre W => RiI w.heap.size mp L n0 w4 pre W ∧ KeepS (fun i => i = w.heap.size + 2 ∨ i = w.heap.size + 3) w4 W)
    (fun c pre W => ¬ Good L pre)
    (OwnFrom.and (own_riI _ _ _ _ _ (by omega)) (ownFrom_keepS _ _))
    (fun c _ _ _ _ hs _ _ => hs)
    ⟨hI0, KeepS.refl _ _⟩
    (fun x a' W => ∃ q, w4.heap.size ≤ q ∧ a' = { tmps := #[.pointer (some ⟨s, 0, none⟩), .map (some mp), undef, .pointer (some ⟨w.heap.size, 0, none⟩), .pointer (some ⟨w.heap.size + 1, 0, none⟩), .pointer (some ⟨w.heap.size + 1 + 1, 0, none⟩), .pointer (some ⟨w.heap.size + 1 + 1 + 1, 0, none⟩), .pointer (some ⟨q, 0, none⟩), undef, undef, .pointer (some ⟨s, 0, none⟩), .agg #[.int .i32 (-2147483648), .int .i64 (-9223372036854775808)], .func (.func 44) #[] #[.pointer (some ⟨w.heap.size + 4 + 1, 0, none⟩)], t4V x.1, undef, undef, undef, undef, undef, undef, undef, undef, undef, undef, undef, undef, undef, undef, undef, undef, undef, undef, undef, undef, undef, undef, undef, undef, undef, undef, undef, undef, undef, undef, undef, undef, undef], defers := [] } ∧ W.cell? ⟨q, 0, none⟩ = some (.int .i32 x.1.1.1) ∧ W.cell? ⟨q, 1, none⟩ = some (.int .i64 x.1.1.2) ∧ W.cell? ⟨q, 2, none⟩ = some (.int .i64 x.1.2.1) ∧ W.cell? ⟨q, 3, none⟩ = some (.int .i64 x.1.2.2))
    (fun x a' => Own.from (fun _ A B row hs hg hr => by obtain ⟨q, h0, h1, h2, h3, h4, h5⟩ := hs; exact ⟨q, h0, h1, cell_kept h2 hg hr, cell_kept h3 hg hr, cell_kept h4 hg hr, cell_kept h5 hg hr⟩) _) ?assign ?body ?done ?stop
  case assign =>
    rintro l pre x W K ⟨hi, hk⟩ hK
    dsimp only [encC]
    gi_wp2
    have hbW : Below W.heap.size W (W.alloc (.cells #[.int .i32 x.1.1.1, .int .i64 x.1.1.2, .int .i64 x.1.2.1, .int .i64 x.1.2.2] 31)) := (Below.refl _ W).alloc (Nat.le_refl _) _
    exact hK _ _ (below_from hbW) (KeepT.of_below hbW) ⟨hi.below hbW, hk.alloc _⟩ ⟨W.heap.size, hk.size, rfl, Joins.cell_alloc_mark_at W #[.int .i32 x.1.1.1, .int .i64 x.1.1.2, .int .i64 x.1.2.1, .int .i64 x.1.2.2] 31 (0, 0) W.heap.size 0 rfl, Joins.cell_alloc_mark_at W #[.int .i32 x.1.1.1, .int .i64 x.1.1.2, .int .i64 x.1.2.1, .int .i64 x.1.2.2] 31 (0, 0) W.heap.size 1 rfl, Joins.cell_alloc_mark_at W #[.int .i32 x.1.1.1, .int .i64 x.1.1.2, .int .i64 x.1.2.1, .int .i64 x.1.2.2] 31 (0, 0) W.heap.size 2 rfl, Joins.cell_alloc_mark_at W #[.int .i32 x.1.1.1, .int .i64 x.1.1.2, .int .i64 x.1.2.1, .int .i64 x.1.2.2] 31 (0, 0) W.heap.size 3 rfl⟩
  case body =>
    rintro l pre x W0 W hl ⟨rr, hrr⟩ ⟨hI, hK⟩ ⟨q, hq, rfl, c0, c1, c2, c3⟩ hpl
    have HI := Lib.hid hI; have HK := Lib.hid hK; have HQ := Lib.hid hq
    have m0 : W.cell? ⟨w.heap.size, 0, none⟩ = some (.map (some mp)) := by simp [World.cell?, hI.mb]
    have r0 : W.cell? ⟨w.heap.size + 1, 0, none⟩ = some (.bool false) := by simp [World.cell?, hI.rb]
    have r1 : W.frozen? ⟨w.heap.size + 1, 0, none⟩ = false := by simp [World.frozen?, hI.rb]
    have l0 : W.cell? ⟨w.heap.size + 1 + 1, 0, none⟩ = some (.int .i32 (lastT pre).1.1) := by simp [World.cell?, hI.lb]
    have l1 : W.cell? ⟨w.heap.size + 1 + 1, 1, none⟩ = some (.int .i64 (lastT pre).1.2) := by simp [World.cell?, hI.lb]
    have l2 : W.cell? ⟨w.heap.size + 1 + 1, 2, none⟩ = some (.int .i64 (lastT pre).2.1) := by simp [World.cell?, hI.lb]
    have l3 : W.cell? ⟨w.heap.size + 1 + 1, 3, none⟩ = some (.int .i64 (lastT pre).2.2) := by simp [World.cell?, hI.lb]
    have nn : W.cell? ⟨w.heap.size + 1 + 1 + 1, 0, none⟩ = some (.int .i64 pre.length) := by simp [World.cell?, hI.nb]
    have fl0 : W.frozen? ⟨w.heap.size + 1 + 1, 0, none⟩ = false := by simp [World.frozen?, hI.lb]
    have fl1 : W.frozen? ⟨w.heap.size + 1 + 1, 1, none⟩ = false := by simp [World.frozen?, hI.lb]
    have fl2 : W.frozen? ⟨w.heap.size + 1 + 1, 2, none⟩ = false := by simp [World.frozen?, hI.lb]
    have fl3 : W.frozen? ⟨w.heap.size + 1 + 1, 3, none⟩ = false := by simp [World.frozen?, hI.lb]
    have fnn : W.frozen? ⟨w.heap.size + 1 + 1 + 1, 0, none⟩ = false := by simp [World.frozen?, hI.nb]
    have HLK := hI.m.get_ok keyS Try.underlying27 zeroCell x.2
    simp only [mk2] at HLK
    have HXL2 := Lib.hid hpl
    have hz : w.heap.size + 4 ≤ W.heap.size := Nat.le_trans hs4 HK.out.size
    have z0 : w.heap.size < W.heap.size := by omega
    have z1 : w.heap.size + 1 < W.heap.size := by omega
    have z2 : w.heap.size + 1 + 1 < W.heap.size := by omega
    have z3 : w.heap.size + 1 + 1 + 1 < W.heap.size := by omega
    have zq : q < W.heap.size := World.block_lt_of_cell? _ _ c0
    clear hI hK hq hrr hl hpl
    unfold t4V
    cases hg : getL L x.1.1 with
    | none =>
      have HBAD := Lib.hid (not_good_map (L := L) (pre := pre) (x := x) (by rw [hg]; intro e; cases e))
      rw [show mapV L x.1.1 = none by unfold mapV; rw [hg]; rfl] at HLK
      simp only [Option.getD_none, Option.isSome_none, celV] at HLK
      clear hg
      gi_wp2_with fail
      all_goals (try exact (undef_bool _ (by assumption)).elim)
      all_goals (repeat (refine ⟨trivial, ?_⟩; gi_wp2_with fail; all_goals (try exact (undef_bool _ (by assumption)).elim)))
      all_goals exact ⟨((KeepsOthers.setCell _ _ _).from _).trans (below_from ((Below.refl _ _).alloc (Nat.le_refl _) _)), HBAD.out⟩
    | some c =>
      rw [show mapV L x.1.1 = some (celV c) by unfold mapV; rw [hg]; rfl] at HLK
      simp only [Option.getD_some, Option.isSome_some, celV] at HLK
      by_cases hc : t4 c = x.1
      · have hq : ∀ W : World, (Op.equalIn 10000 31 (.agg #[.int .i32 x.1.1.1, .int .i64 x.1.1.2, .int .i64 x.1.2.1, .int .i64 x.1.2.2]) (.agg #[.int .i32 c.table, .int .i64 c.row, .int .i64 c.value, .int .i64 c.slot])).run Try.prog W = .ok true W := fun W => by
          rw [← hc]; exact eqc_self c W
        have HM := Lib.hid (show (getL L x.1.1).map t4 = some x.1 by rw [hg, ← hc]; rfl)
        clear hc hg
        by_cases h0 : pre = []
        · obtain ⟨zl, hzl⟩ : ∃ zl : Int, (pre.length : Int) = zl := ⟨_, rfl⟩
          have hneg : decide ((0 : Int) < zl) = false := decide_eq_false (by rw [← hzl, h0]; simp)
          have HZL := Lib.hid hzl
          have HGD := Lib.hid (good_snoc HI.out.good HM.out (.inl h0))
          have HL1 := Lib.hid (show IntKind.i64.wrap (zl + 1) = ((pre.length + 1 : Nat) : Int) by rw [← hzl, h0]; rfl)
          rw [hzl] at nn
          clear hzl h0
          gi_wp2_with fail
          all_goals (try exact (undef_bool _ (by assumption)).elim)
          all_goals (repeat (refine ⟨trivial, ?_⟩; gi_wp2_with fail; all_goals (try exact (undef_bool _ (by assumption)).elim)))
          exact ⟨((set5_others _ _ _ _).from _).trans (below_from ((Below.refl _ _).alloc (Nat.le_refl _) _)), fun i hi hl => (Below.heap_alloc _ _ _ (by simpa [set5, World.setCell] using hl)).trans ((set5_keep W w.heap.size x _).block i hl (by omega)), ⟨(HI.out.next HGD.out hmp _ ((wrapE _).symm.trans HL1.out)).below ((Below.refl _ _).alloc (Nat.le_refl _) _), ((HK.out).trans (set5_keep _ _ _ _)).alloc _⟩⟩
        · obtain ⟨zl, hzl⟩ : ∃ zl : Int, (pre.length : Int) = zl := ⟨_, rfl⟩
          have hpos : decide ((0 : Int) < zl) = true := decide_eq_true (by have := List.length_pos_iff.2 h0; omega)
          have HZL := Lib.hid hzl
          have HNE := Lib.hid h0
          rw [hzl] at nn
          clear hzl h0
          gi_wp2_with fail
          all_goals (try exact (undef_bool _ (by assumption)).elim)
          refine ⟨trivial, ((callsIn_wide.2 (less_is (lastT pre).1 x.1.1 _)).inRound l).mono ?_⟩
          rintro e W2 ⟨rfl, hb⟩
          have hB2 : Below W.heap.size W W2 := ((Below.refl _ W).alloc (Nat.le_refl _) _).trans (hb.mono (by simp))
          have HB2 := Lib.hid hB2
          have HI2 := Lib.hid (HI.out.below hB2)
          have HK2 := Lib.hid (HK.out.then_below hB2)
          have e0 := (hB2.cell (p := ⟨q, 0, none⟩) zq).trans c0
          have e1 := (hB2.cell (p := ⟨q, 1, none⟩) zq).trans c1
          have e2 := (hB2.cell (p := ⟨q, 2, none⟩) zq).trans c2
          have e3 := (hB2.cell (p := ⟨q, 3, none⟩) zq).trans c3
          have g0 := (hB2.cell (p := ⟨w.heap.size + 1, 0, none⟩) z1).trans r0
          have g1 := (hB2.frozen (p := ⟨w.heap.size + 1, 0, none⟩) z1).trans r1
          have i0 := (hB2.cell (p := ⟨w.heap.size + 1 + 1, 0, none⟩) z2).trans l0
          have i1 := (hB2.cell (p := ⟨w.heap.size + 1 + 1, 1, none⟩) z2).trans l1
          have i2 := (hB2.cell (p := ⟨w.heap.size + 1 + 1, 2, none⟩) z2).trans l2
          have i3 := (hB2.cell (p := ⟨w.heap.size + 1 + 1, 3, none⟩) z2).trans l3
          have j0 := (hB2.frozen (p := ⟨w.heap.size + 1 + 1, 0, none⟩) z2).trans fl0
          have j1 := (hB2.frozen (p := ⟨w.heap.size + 1 + 1, 1, none⟩) z2).trans fl1
          have j2 := (hB2.frozen (p := ⟨w.heap.size + 1 + 1, 2, none⟩) z2).trans fl2
          have j3 := (hB2.frozen (p := ⟨w.heap.size + 1 + 1, 3, none⟩) z2).trans fl3
          have k0 := (hB2.cell (p := ⟨w.heap.size + 1 + 1 + 1, 0, none⟩) z3).trans nn
          have k1 := (hB2.frozen (p := ⟨w.heap.size + 1 + 1 + 1, 0, none⟩) z3).trans fnn
          clear c0 c1 c2 c3 r0 r1 l0 l1 l2 l3 fl0 fl1 fl2 fl3 nn fnn m0 hb hB2 z0 z1 z2 z3 zq HLK
          obtain ⟨kb, hkb⟩ : ∃ kb, kLt (lastT pre).1 x.1.1 = kb := ⟨_, rfl⟩
          rw [hkb]
          cases kb with
          | true =>
            have HGD := Lib.hid (good_snoc HI2.out.good HM.out (.inr hkb))
            have HL1 := Lib.hid (show IntKind.i64.wrap (zl + 1) = ((pre.length + 1 : Nat) : Int) by rw [← HZL.out, IntKind.wrap_i64]; have := HXL.out; have := HXL2.out; omega)
            clear hkb
            gi_wp2_with fail
            exact ⟨(below_from HB2.out).trans ((set5_others _ _ _ _).from _), fun i hi hl => ((set5_keep W2 w.heap.size x _).block i (Nat.lt_of_lt_of_le hl HB2.out.size) (by omega)).trans (HB2.out.block i hl), ⟨HI2.out.next HGD.out hmp _ ((wrapE _).symm.trans HL1.out), HK2.out.trans (set5_keep _ _ _ _)⟩⟩
          | false =>
            have HBAD := Lib.hid (not_good_lt (L := L) (pre := pre) (x := x) HNE.out hkb)
            clear hkb
            gi_wp2_with fail
            exact ⟨(below_from HB2.out).trans ((KeepsOthers.setCell _ _ _).from _), HBAD.out⟩
      · have hq : ∀ W : World, (Op.equalIn 10000 31 (.agg #[.int .i32 x.1.1.1, .int .i64 x.1.1.2, .int .i64 x.1.2.1, .int .i64 x.1.2.2]) (.agg #[.int .i32 c.table, .int .i64 c.row, .int .i64 c.value, .int .i64 c.slot])).run Try.prog W = .ok false W := fun W =>
          eqc_ne (a := ⟨x.1.1.1, x.1.1.2, x.1.2.1, x.1.2.2⟩) (b := c) (fun e => hc (by rw [← e]; rfl)) W
        have HBAD := Lib.hid (not_good_map (L := L) (pre := pre) (x := x) (by rw [hg]; intro e; exact hc (Option.some.inj e)))
        clear hc hg
        gi_wp2_with fail
        all_goals (try exact (undef_bool _ (by assumption)).elim)
        all_goals (repeat (refine ⟨trivial, ?_⟩; gi_wp2_with fail; all_goals (try exact (undef_bool _ (by assumption)).elim)))
        all_goals exact ⟨((KeepsOthers.setCell _ _ _).from _).trans (below_from ((Below.refl _ _).alloc (Nat.le_refl _) _)), HBAD.out⟩
  case done =>
    rintro D ys W hD hys ⟨hI, hK⟩ hKD
    have HK := Lib.hid hK
    have m0 : W.cell? ⟨w.heap.size, 0, none⟩ = some (.map (some mp)) := by simp [World.cell?, hI.mb]
    have r0 : W.cell? ⟨w.heap.size + 1, 0, none⟩ = some (.bool false) := by simp [World.cell?, hI.rb]
    have r1 : W.frozen? ⟨w.heap.size + 1, 0, none⟩ = false := by simp [World.frozen?, hI.rb]
    have nn : W.cell? ⟨w.heap.size + 1 + 1 + 1, 0, none⟩ = some (.int .i64 L.length) := by
      have h1 : ys.length = L.length := by rw [hys]; exact HLN.out
      rw [← h1]; simp [World.cell?, hI.nb]
    have hlen := hI.m.len Try.underlying27 3
    clear hI hK
    gi_wp2
    have hK' := (KeepsOthers.setCell W ⟨w.heap.size + 1, 0, none⟩ (.bool true)).same D _ hKD rfl
    refine ⟨by simp, .inl ⟨_, _, rfl, run_takeDeferred hK', ?_⟩⟩
    have hc5 := cell_kept (World.cell?_setCell_same' W ⟨w.heap.size + 1, 0, none⟩ (.bool true) (by rw [r0]; rfl)) (grownBy_putObj' _ D (.deferred none)) (fun r e => by cases e; exact ⟨_, hK', rfl⟩)
    refine ⟨.bool true, ?_, rfl, ?_⟩
    · simp [results, Try.f15, go_sem, hc5]
    · have h2 := HB.out.trans (HK.out.below (B := w.heap.size) HB.out.size (by rintro i (rfl | rfl) <;> omega))
      exact (h2.setCell (p := ⟨w.heap.size + 1, 0, none⟩) (by show w.heap.size ≤ w.heap.size + 1; omega) _).trans (belowK_b (w := w) (Nat.le_refl _) _ D _ (.deferred none) (by have := HB.out.size; omega) hK' rfl rfl)
  case stop =>
    rintro D c pre W hD hp hbad hKD
    exact absurd (good_prefix hgood hp) hbad
end Go.Proofs.Ytdolmkiiflhehaa.M
end

section
/- An operation of a script, read. -/
set_option linter.unusedVariables false
set_option linter.unusedSimpArgs false
set_option maxRecDepth 100000
namespace Go.Proofs.Ytdolmkiiflhehaa.M
open Go.RowKit Go.Proofs.YtdolmkiiflhehaaW.PrintWords

structure OpD where
  Do : Int
  c : CellD
  tk : Int × Int
  seed : Int
  stop : Int
def keyK2 : Kd (Int × Int) := Kd.iso (Kd.pair (Kd.int .i32) (Kd.int .i64)) (fun x => x)
def celK2 : Kd CellD := Kd.iso (Kd.pair keyK2 (Kd.pair (Kd.int .i64) (Kd.int .i64))) (fun c => (c.key, c.value, c.slot))
def opT : Kd (Int × CellD × (Int × Int) × Int × Int) := Kd.pair (Kd.int .i64) (Kd.pair celK2 (Kd.pair keyK2 (Kd.pair (Kd.int .u64) (Kd.int .i64))))
def OpD.t (o : OpD) : Int × CellD × (Int × Int) × Int × Int := (o.Do, o.c, o.tk, o.seed, o.stop)
def opK : Kd OpD := Kd.iso opT OpD.t
abbrev I64 (x : Int) : Prop := (Lit.int .i64 x).wf = true
abbrev I32 (x : Int) : Prop := (Lit.int .i32 x).wf = true
abbrev U64 (x : Int) : Prop := (Lit.int .u64 x).wf = true
def okKey (k : Int × Int) : Prop := I32 k.1 ∧ I64 k.2
def okCel (c : CellD) : Prop := okKey c.key ∧ I64 c.value ∧ I64 c.slot
def okOp (o : OpD) : Prop := I64 o.Do ∧ okCel o.c ∧ okKey o.tk ∧ U64 o.seed ∧ I64 o.stop
theorem opens_i64 : Opens Try.prog 3 (Kd.int .i64) I64 (fun _ => 1) := opens_int Try.underlying3 (by kernel_rfl)
theorem opens_j64 : Opens Try.prog 2 (Kd.int .i64) I64 (fun _ => 1) := opens_int Try.underlying2 (by kernel_rfl)
theorem opens_i32 : Opens Try.prog 21 (Kd.int .i32) I32 (fun _ => 1) := opens_int Try.underlying21 (by kernel_rfl)
theorem opens_u64 : Opens Try.prog 22 (Kd.int .u64) U64 (fun _ => 1) := opens_int Try.underlying22 (by kernel_rfl)
theorem opens_key : Opens Try.prog 29 keyK2 okKey (fun _ => 1 + 1 + 1) := by
  have h := opens_struct (d := Kd.pair (Kd.int .i32) (Kd.int .i64)) (fun x => x) (fun x => (x.1, x.2)) (fun _ => rfl) Try.underlying29 (by kernel_rfl) (opensL_cons rfl opens_i32 (opensL_one rfl opens_j64))
  exact h
theorem opens_cel : Opens Try.prog 31 celK2 okCel (fun _ => (1 + 1 + 1) + (1 + 1) + 1) := by
  have h := opens_struct (d := Kd.pair keyK2 (Kd.pair (Kd.int .i64) (Kd.int .i64))) (fun c : CellD => (c.key, c.value, c.slot)) (fun x => ⟨x.1.1, x.1.2, x.2.1, x.2.2⟩) (fun _ => rfl) Try.underlying31 (by kernel_rfl) (opensL_cons rfl opens_key (opensL_cons rfl opens_j64 (opensL_one rfl opens_j64)))
  exact h
theorem opens_op : Opens Try.prog 33 opK okOp (fun _ => 1 + (((1 + 1 + 1) + (1 + 1) + 1) + ((1 + 1 + 1) + (1 + 1))) + 1) := by
  have h := opens_struct (d := opT) OpD.t (fun x => ⟨x.1, x.2.1, x.2.2.1, x.2.2.2.1, x.2.2.2.2⟩) (fun _ => rfl) Try.underlying33 (by kernel_rfl)
    (opensL_cons rfl opens_i64 (opensL_cons rfl opens_cel (opensL_cons rfl opens_key (opensL_cons rfl opens_u64 (opensL_one rfl opens_i64)))))
  exact h
theorem opens_ops : Opens Try.prog 23 (Kd.slice 33 opK) (fun l => l.length ≤ 9223372036854775807 ∧ ∀ x ∈ l, okOp x) (szL (fun _ => 1 + (((1 + 1 + 1) + (1 + 1) + 1) + ((1 + 1 + 1) + (1 + 1))) + 1)) := opens_slice Try.underlying23 (by kernel_rfl) opens_op
def zOp : OpD := ⟨0, ⟨0, 0, 0, 0⟩, (0, 0), 0, 0⟩
theorem op_cells {W : World} {o : OpD} {c : List Value} (h : opK.K W o c) : c = [.int .i64 o.Do, .int .i32 o.c.table, .int .i64 o.c.row, .int .i64 o.c.value, .int .i64 o.c.slot, .int .i32 o.tk.1, .int .i64 o.tk.2, .int .u64 o.seed, .int .i64 o.stop] := by
  obtain ⟨c0, d0, rfl, rfl, c1, d1, rfl, ⟨a0, b0, rfl, ⟨p0, q0, rfl, rfl, rfl⟩, ⟨p1, q1, rfl, rfl, rfl⟩⟩, c2, d2, rfl, ⟨p2, q2, rfl, rfl, rfl⟩, c3, d3, rfl, rfl, rfl⟩ := h
  rfl
theorem key_cells {W : World} {o : Int × Int} {c : List Value} (h : keyK2.K W o c) : c = [.int .i32 o.1, .int .i64 o.2] := by
  obtain ⟨c0, d0, rfl, rfl, rfl⟩ := h
  rfl
/-- The k-th operation of a script. -/
theorem op_get {W : World} {ok : Nat → Prop} {A : Option Addr} {n : Nat} {l : List OpD} (h : Kd.F opK W ok A n l) {k : Nat} {o : OpD} (hk : l[k]? = some o) :
    ∃ ad, A = some ad ∧ W.cell? (ad.add (k * 9)) = some (.int .i64 o.Do) ∧ W.cell? ⟨(ad.add (k * 9)).block, (ad.add (k * 9)).off + 1, none⟩ = some (.int .i32 o.c.table) ∧ W.cell? ⟨(ad.add (k * 9)).block, (ad.add (k * 9)).off + 2, none⟩ = some (.int .i64 o.c.row) ∧ W.cell? ⟨(ad.add (k * 9)).block, (ad.add (k * 9)).off + 3, none⟩ = some (.int .i64 o.c.value) ∧ W.cell? ⟨(ad.add (k * 9)).block, (ad.add (k * 9)).off + 4, none⟩ = some (.int .i64 o.c.slot) ∧ W.cell? ⟨(ad.add (k * 9)).block, (ad.add (k * 9)).off + 5, none⟩ = some (.int .i32 o.tk.1) ∧ W.cell? ⟨(ad.add (k * 9)).block, (ad.add (k * 9)).off + 6, none⟩ = some (.int .i64 o.tk.2) ∧ W.cell? ⟨(ad.add (k * 9)).block, (ad.add (k * 9)).off + 7, none⟩ = some (.int .u64 o.seed) ∧ W.cell? ⟨(ad.add (k * 9)).block, (ad.add (k * 9)).off + 8, none⟩ = some (.int .i64 o.stop) := by
  have hlt : k < n := by
    have := (List.getElem?_eq_some_iff.1 hk).1
    have := Kd.F_len h
    omega
  obtain ⟨ad, c, rfl, hcl, hK, hcc, _⟩ := Kd.F_get h zOp (k : Int) (by omega) (by omega)
  have e : l.getD (k : Int).toNat zOp = o := by rw [Int.toNat_natCast, List.getD_eq_getElem?_getD, hk]; rfl
  rw [e] at hK
  rw [Int.toNat_natCast] at hcc
  obtain rfl := op_cells (Foot.now hK)
  have hs : opK.sz = 9 := rfl
  rw [hs] at hcc
  refine ⟨ad, rfl, by simpa using hcc 0 _ rfl, ?_, ?_, ?_, ?_, ?_, ?_, ?_, ?_⟩
  · rw [← add_field ad (k * 9) 1 (by omega)]; exact hcc 1 _ rfl
  · rw [← add_field ad (k * 9) 2 (by omega)]; exact hcc 2 _ rfl
  · rw [← add_field ad (k * 9) 3 (by omega)]; exact hcc 3 _ rfl
  · rw [← add_field ad (k * 9) 4 (by omega)]; exact hcc 4 _ rfl
  · rw [← add_field ad (k * 9) 5 (by omega)]; exact hcc 5 _ rfl
  · rw [← add_field ad (k * 9) 6 (by omega)]; exact hcc 6 _ rfl
  · rw [← add_field ad (k * 9) 7 (by omega)]; exact hcc 7 _ rfl
  · rw [← add_field ad (k * 9) 8 (by omega)]; exact hcc 8 _ rfl
end Go.Proofs.Ytdolmkiiflhehaa.M
end

section
/- SkipMap: the walk (under way). -/
set_option linter.unusedVariables false
set_option linter.unusedSimpArgs false
set_option maxRecDepth 100000
namespace Go.Proofs.Ytdolmkiiflhehaa.M
open Go.RowKit Go.Maps Go.Proofs.YtdolmkiiflhehaaW.PrintWords Go.Proofs.YtdolmkiiflhehaaW.PrintMore Go.Proofs.YtdolmkiiflhehaaW.PrintLast

/-- A store and a map in memory; M is what the map has, sz how many keys it has. -/
structure MSt (s h mp n : Nat) (w3 wr : World) (L : List Nd) (x : Int) (nx : Nat → Nat → Option Nat) (M : Int × Int → Option Value) (sz : Nat) : Prop where
  sk : IsSk wr s h L x nx
  m : IsM Try.prog 29 (mk2 .i32 .i64) wr mp n M sz
  own : ∀ i, IsSk.Own s h L i → i = s ∨ i = h ∨ w3.heap.size ≤ i
  keep : KeepS (fun i => i = s ∨ i = h ∨ i = mp) w3 wr
  ne : mp ≠ s ∧ mp ≠ h ∧ mp < w3.heap.size
namespace MSt
variable {s h mp n : Nat} {w3 wr w' : World} {L L' : List Nd} {x x' : Int} {nx nx' : Nat → Nat → Option Nat} {M M' : Int × Int → Option Value} {sz sz' : Nat}
theorem notOwn (H : MSt s h mp n w3 wr L x nx M sz) : ¬ IsSk.Own s h L mp := fun ho => by
  rcases H.own mp ho with r | r | r
  · exact H.ne.1 r
  · exact H.ne.2.1 r
  · have := H.ne.2.2; omega
theorem below (H : MSt s h mp n w3 wr L x nx M sz) (hb : Below wr.heap.size wr w') : MSt s h mp n w3 w' L x nx M sz :=
  ⟨H.sk.below hb, H.m.below hb, H.own, H.keep.then_below hb, H.ne⟩
theorem turn (H : MSt s h mp n w3 wr L x nx M sz) (h1 : IsSk w' s h L' x' nx') (h2 : KeepS (IsSk.Own s h L) wr w') (h3 : ∀ i, IsSk.Own s h L' i → IsSk.Own s h L i ∨ wr.heap.size ≤ i) : MSt s h mp n w3 w' L' x' nx' M sz :=
  ⟨h1, H.m.move (h2.block mp H.m.lt H.notOwn), fun i hi => by
    rcases h3 i hi with r | r
    · exact H.own i r
    · have := H.keep.size; exact .inr (.inr (by omega)),
   ⟨h2.os.trans H.keep.os, h2.tape.trans H.keep.tape, h2.output.trans H.keep.output, Nat.le_trans H.keep.size h2.size, fun i hi hn => (h2.block i (Nat.lt_of_lt_of_le hi H.keep.size) (fun ho => by
      rcases H.own i ho with r | r | r
      · exact hn (.inl r)
      · exact hn (.inr (.inl r))
      · omega)).trans (H.keep.block i hi hn)⟩, H.ne⟩
theorem put (H : MSt s h mp n w3 wr L x nx M sz) {n' : Nat} (h1 : IsM Try.prog 29 (mk2 .i32 .i64) w' mp n' M' sz') (h2 : wr.grownBy w' (some mp)) : MSt s h mp n' w3 w' L x nx M' sz' :=
  ⟨H.sk.move fun i hi => h2.block i (H.sk.own_lt hi) (fun e => by cases e; exact H.notOwn hi), h1, H.own, H.keep.trans (KeepS.of_grown h2 (fun i e => by cases e; exact .inr (.inr rfl))), H.ne⟩
end MSt
/-- An operation in a box. -/
def OpBox (W : World) (b : Nat) (o : OpD) : Prop := W.heap[b]? = some (.cells #[.int .i64 o.Do, .int .i32 o.c.table, .int .i64 o.c.row, .int .i64 o.c.value, .int .i64 o.c.slot, .int .i32 o.tk.1, .int .i64 o.tk.2, .int .u64 o.seed, .int .i64 o.stop] 33)
theorem OpBox.cell {W : World} {b : Nat} {o : OpD} (h : OpBox W b o) : W.cell? ⟨b, 0, none⟩ = some (.int .i64 o.Do) ∧ W.cell? ⟨b, 1, none⟩ = some (.int .i32 o.c.table) ∧ W.cell? ⟨b, 2, none⟩ = some (.int .i64 o.c.row) ∧ W.cell? ⟨b, 3, none⟩ = some (.int .i64 o.c.value) ∧ W.cell? ⟨b, 4, none⟩ = some (.int .i64 o.c.slot) ∧ W.cell? ⟨b, 5, none⟩ = some (.int .i32 o.tk.1) ∧ W.cell? ⟨b, 6, none⟩ = some (.int .i64 o.tk.2) ∧ W.cell? ⟨b, 7, none⟩ = some (.int .u64 o.seed) ∧ W.cell? ⟨b, 8, none⟩ = some (.int .i64 o.stop) := by
  unfold OpBox at h
  simp [World.cell?, h]
theorem OpBox.lt {W : World} {b : Nat} {o : OpD} (h : OpBox W b o) : b < W.heap.size := (Array.getElem?_eq_some_iff.1 h).1
theorem OpBox.move {W W' : World} {b : Nat} {o : OpD} (h : OpBox W b o) (hb : W'.heap[b]? = W.heap[b]?) : OpBox W' b o := hb.trans h
theorem OpBox.below {W W' : World} {b : Nat} {o : OpD} (h : OpBox W b o) (hb : Below W.heap.size W W') : OpBox W' b o := h.move (hb.block b h.lt)
/-- Where the main loop stands: j operations are done; s the store, mp the map. -/
def MapL (s h mp n : Nat) (w3 : World) (i : Value) (wr : World) : Prop :=
  ∃ (j : Nat) (L : List Nd) (x : Int) (nx : Nat → Nat → Option Nat), i = .int .i64 j ∧ j ≤ n ∧ L.length ≤ j ∧ MSt s h mp j w3 wr L x nx (mapV L) L.length ∧ (∀ e, e ∈ L → wf2 .i32 .i64 e.c.key)
/-- Behind the put. -/
def MapC (s h mp j : Nat) (w3 : World) (ob : Nat) (o : OpD) (wx : World) : Prop :=
  ∃ (L : List Nd) (x : Int) (nx : Nat → Nat → Option Nat), L.length ≤ j + 1 ∧ MSt s h mp (j + 1) w3 wx L x nx (mapV L) L.length ∧ (∀ e, e ∈ L → wf2 .i32 .i64 e.c.key) ∧ OpBox wx ob o ∧ ¬ IsSk.Own s h L ob ∧ ob ≠ mp
theorem mapV_put {L L' : List Nd} {c : CellD} (h : ∀ k, getL L' k = if k = c.key then some c else getL L k) : mapV L' = fun y => if y = c.key then some (celV c) else mapV L y := by
  funext y
  unfold mapV
  rw [h y]
  split <;> rfl
theorem mapV_del {L L' : List Nd} {k : Int × Int} (h : ∀ q, getL L' q = if q = k then none else getL L q) : mapV L' = fun y => if y = k then none else mapV L y := by
  funext y
  unfold mapV
  rw [h y]
  split <;> rfl
theorem mapV_some (L : List Nd) (k : Int × Int) : (mapV L k).isSome = (getL L k).isSome := by unfold mapV; cases getL L k <;> rfl
theorem wf_put {L L' : List Nd} {c : CellD} (hs : Sorted L) (hs' : Sorted L') (h : ∀ k, getL L' k = if k = c.key then some c else getL L k) (hc : wf2 .i32 .i64 c.key) (hw : ∀ e, e ∈ L → wf2 .i32 .i64 e.c.key) : ∀ e, e ∈ L' → wf2 .i32 .i64 e.c.key := fun e he => by
  have h1 := (getL_iff hs' e.c.key e.c).2 ⟨e, he, rfl, rfl⟩
  rw [h] at h1
  by_cases hk : e.c.key = c.key
  · rw [hk]; exact hc
  · rw [if_neg hk] at h1
    obtain ⟨f, hf, e1, _⟩ := (getL_iff hs _ _).1 h1
    rw [← e1]; exact hw f hf
theorem wf_del {L L' : List Nd} {k : Int × Int} (hs : Sorted L) (hs' : Sorted L') (h : ∀ q, getL L' q = if q = k then none else getL L q) (hw : ∀ e, e ∈ L → wf2 .i32 .i64 e.c.key) : ∀ e, e ∈ L' → wf2 .i32 .i64 e.c.key := fun e he => by
  have h1 := (getL_iff hs' e.c.key e.c).2 ⟨e, he, rfl, rfl⟩
  rw [h] at h1
  by_cases hk : e.c.key = k
  · rw [if_pos hk] at h1; cases h1
  · rw [if_neg hk] at h1
    obtain ⟨f, hf, e1, _⟩ := (getL_iff hs _ _).1 h1
    rw [← e1]; exact hw f hf
theorem mapV_nil : mapV ([] : List Nd) = fun _ => none := by funext k; rfl
theorem eraR_map {L L' : List Nd} {k : Int × Int} {E : Int} (h : EraR L k E L') : mapV L' = (fun y => if y = k then none else mapV L y) ∧ L'.length = (if (mapV L k).isSome then L.length - 1 else L.length) ∧ E = (if (mapV L k).isSome then 0 else 4) ∧ ∀ q, getL L' q = if q = k then none else getL L q := by
  rw [mapV_some]
  rcases h with ⟨h1, h2, h3, h4⟩ | ⟨h1, h2, h3⟩
  · rw [if_pos h1, if_pos h1]
    exact ⟨mapV_del h3, by omega, h2, h3⟩
  · have h5 : ∀ q, getL L' q = if q = k then none else getL L q := fun q => by
      subst h3
      by_cases e : q = k
      · rw [if_pos e, e]; cases hg : getL L' k with
        | none => rfl
        | some c => rw [hg] at h1; cases h1
      · rw [if_neg e]
    rw [h1]
    exact ⟨mapV_del h5, by rw [h3]; simp, by simp [h2], h5⟩
set_option maxHeartbeats 2000000 in
theorem map_walk (w : World) (seed : Int) (A : Option Addr) (c : Nat) (l : List OpD) (hl : Kd.F opK w (fun k => k < w.heap.size) A l.length l) (hlc : l.length ≤ c) (hok : ∀ o ∈ l, okOp o) :
    Calls Try.prog 3 #[.int .u64 seed, .slice A l.length c] w fun e w' => e = .returned (.bool true) ∧ Below w.heap.size w w' := by
  have hmm := @run_makeMap Try.prog
  go_enter Try.func3, Try.ntmps3
  go_wp2_with fail
  refine (new_is seed w).mono ?_
  rintro e w1 ⟨rfl, h1, b1⟩
  have H1 := Lib.hid h1; have HB1 := Lib.hid b1
  clear h1 b1
  go_wp2_with fail
  refine (begun_is w1).mono ?_
  rintro e w2 ⟨rfl, b2⟩
  have H2 := Lib.hid (H1.out.below b2); have HB2 := Lib.hid (HB1.out.trans (b2.mono HB1.out.size)); have HZ2 := Lib.hid b2.size
  clear b2
  have hlm : l.length ≤ 9223372036854775807 := Kd.F_max hl
  obtain ⟨nl, hnl⟩ : ∃ nl, nl = min l.length 300 := ⟨_, rfl⟩
  have HNL := Lib.hid hnl
  have h1 : nl ≤ c := by omega
  go_upto_region 5 with fail
  go_cut [31, 32, 33] (fun a b i wx => wx = w2.alloc (.map #[] 0) ∧ (∃ cc, a = .slice A nl cc) ∧ b = .int .i64 nl ∧ i = .int .i64 0)
  case first =>
    by_cases h300 : l.length ≤ 300
    · have g1 : decide ((300 : Int) < (l.length : Int)) = false := decide_eq_false (by omega)
      have hnn : nl = l.length := by have := HNL.out; omega
      have HNN := Lib.hid hnn
      clear hnn HNL h1
      go_wp2_with fail
      go_meet
      exact ⟨rfl, ⟨c, by rw [HNN.out]⟩, by rw [HNN.out], rfl⟩
    · have hnn : nl = 300 := by have := HNL.out; omega
      have g1 : decide ((300 : Int) < (l.length : Int)) = true := decide_eq_true (by omega)
      have g2 : (300 : Int) ≤ (c : Int) := by omega
      have HNN := Lib.hid hnn
      clear hnn HNL h1
      go_wp2_with fail
      go_meet
      exact ⟨rfl, ⟨c, by rw [HNN.out]⟩, by rw [HNN.out]; rfl, rfl⟩
  case rest =>
    obtain ⟨hwc, ⟨cc, rfl⟩, rfl, rfl⟩ := hcut
    have HWC := Lib.hid hwc
    have H3 : RowKit.Hid (IsSk wc (w.heap.size + 1) w.heap.size [] seed (fun _ _ => none)) := by rw [hwc]; exact Lib.hid (H2.out.alloc _)
    have HM3 : RowKit.Hid (IsM Try.prog 29 (mk2 .i32 .i64) wc w2.heap.size 0 (fun _ => none) 0) := by rw [hwc]; exact Lib.hid (isM_made w2 _ _ _)
    have HB3 : RowKit.Hid (Below w.heap.size w wc) := by rw [hwc]; exact Lib.hid (HB2.out.alloc HB2.out.size _)
    obtain ⟨w3, rfl⟩ : ∃ w3, w3 = wc := ⟨_, rfl⟩
    clear hwc hnl h1
    go_wp2_with fail
    go_loopw [33] (fun i wr => MapL (w.heap.size + 1) w.heap.size w2.heap.size nl w3 i wr) (fun i _ => nl - (intOf i).toNat)
    case atStart =>
      have hz := HB3.out.size
      refine ⟨0, [], seed, _, rfl, Nat.zero_le _, Nat.le_refl _, ⟨H3.out, by rw [mapV_nil]; exact HM3.out, fun i hi => ?_, KeepS.refl _ _, ?_⟩, fun e he => by cases he⟩
      · rcases hi with hi | hi
        · exact .inl hi
        · simp at hi; exact .inr (.inl hi)
      · have h1 := H2.out.slt; have h2 := HM3.out.lt
        exact ⟨by omega, by omega, h2⟩
    case round =>
      obtain ⟨j, L, x, nx, rfl, hj, hLj, hS, hW⟩ := hrel
      have HS := Lib.hid hS; have HW := Lib.hid hW
      clear hS hW
      have HN3 := Lib.hid (show nl ≤ 300 ∧ nl ≤ l.length by have := HNL.out; omega)
      have HL1 := Lib.hid (show L.length ≤ 1048576 by have := HN3.out; omega)
      by_cases hlt : j < nl
      · have hjl : j < l.length := by have := HN3.out; omega
        have ho : l[j]? = some l[j] := List.getElem?_eq_getElem hjl
        obtain ⟨o, hx⟩ : ∃ o, l[j] = o := ⟨_, rfl⟩
        have HOK := Lib.hid (hok l[j] (List.getElem_mem hjl))
        rw [hx] at ho HOK
        clear hx
        have HLr := Lib.hid (HS.out.keep.foot (Kd.F_below hl HB3.out) (fun i (hi : i < w.heap.size) => by
          have := HM3.out.lt; have := HB2.out.size
          rintro (rfl | rfl | rfl) <;> omega))
        obtain ⟨ad, rfl, hc0, hc1, hc2, hc3, hc4, hc5, hc6, hc7, hc8⟩ := op_get HLr.out ho
        clear ho HLr
        go_upto_block 1 with fail
        go_cut [] (fun wx => ∃ (L' : List Nd) (x' : Int) (nx' : Nat → Nat → Option Nat), L'.length ≤ j + 1 ∧ MSt (w.heap.size + 1) w.heap.size w2.heap.size (j + 1) w3 wx L' x' nx' (mapV L') L'.length ∧ (∀ e, e ∈ L' → wf2 .i32 .i64 e.c.key))
        case first =>
          cases hD : (o.Do == 1) with
          | true =>
            have HX := Lib.hid hD
            go_wp2_with fail
            have HSa := Lib.hid (HS.out.below ((Below.refl _ wr).alloc (Nat.le_refl _) (.cells #[.int .i64 o.Do, .int .i32 o.c.table, .int .i64 o.c.row, .int .i64 o.c.value, .int .i64 o.c.slot, .int .i32 o.tk.1, .int .i64 o.tk.2, .int .u64 o.seed, .int .i64 o.stop] 33)))
            have HOX := Lib.hid (show OpBox (wr.alloc (.cells #[.int .i64 o.Do, .int .i32 o.c.table, .int .i64 o.c.row, .int .i64 o.c.value, .int .i64 o.c.slot, .int .i32 o.tk.1, .int .i64 o.tk.2, .int .u64 o.seed, .int .i64 o.stop] 33)) wr.heap.size o from heap_alloc_new wr _)
            have HNO := Lib.hid (show ¬ IsSk.Own (w.heap.size + 1) w.heap.size L wr.heap.size from fun h => by have := HS.out.sk.own_lt h; omega)
            have HNM := Lib.hid (show wr.heap.size ≠ w2.heap.size from fun h => by have := HS.out.m.lt; omega)
            obtain ⟨wa, hwa⟩ : ∃ wa, wr.alloc (.cells #[.int .i64 o.Do, .int .i32 o.c.table, .int .i64 o.c.row, .int .i64 o.c.value, .int .i64 o.c.slot, .int .i32 o.tk.1, .int .i64 o.tk.2, .int .u64 o.seed, .int .i64 o.stop] 33) = wa := ⟨_, rfl⟩
            obtain ⟨ob, hob⟩ : ∃ ob, wr.heap.size = ob := ⟨_, rfl⟩
            rw [hwa] at HSa HOX ⊢
            rw [hob] at HOX HNO HNM ⊢
            clear hwa hob hc0 hc1 hc2 hc3 hc4 hc5 hc6 hc7 hc8 HS
            have HWF := Lib.hid (show wf2 .i32 .i64 o.c.key from HOK.out.2.1.1)
            have HLK := HSa.out.m.get_ok keyS Try.underlying27 zeroCell HWF.out
            simp only [mk2, CellD.key] at HLK
            obtain ⟨r, hr⟩ : ∃ r : CellD, (mapV L o.c.key).getD (celV ⟨0, 0, 0, 0⟩) = celV r := by unfold mapV; cases getL L o.c.key <;> exact ⟨_, rfl⟩
            unfold CellD.key at hr
            rw [hr] at HLK
            unfold celV at HLK
            have HR := Lib.hid hr
            clear hr
            obtain ⟨is, his⟩ : ∃ is, (mapV L o.c.key).isSome = is := ⟨_, rfl⟩
            unfold CellD.key at his
            rw [his] at HLK
            have HIS := Lib.hid his
            clear his
            obtain ⟨hc0, hc1, hc2, hc3, hc4, hc5, hc6, hc7, hc8⟩ := HOX.out.cell
            have zo := HOX.out.lt
            rw [HLK]
            go_simp
            go_wp2_with fail
            have HSb := Lib.hid (HSa.out.below ((Below.refl _ wa).alloc (Nat.le_refl _) (.cells #[.int .i32 r.table, .int .i64 r.row, .int .i64 r.value, .int .i64 r.slot] 31)))
            have HOb := Lib.hid (HOX.out.below ((Below.refl _ wa).alloc (Nat.le_refl _) (.cells #[.int .i32 r.table, .int .i64 r.row, .int .i64 r.value, .int .i64 r.slot] 31)))
            obtain ⟨wb, hwb⟩ : ∃ wb, wa.alloc (.cells #[.int .i32 r.table, .int .i64 r.row, .int .i64 r.value, .int .i64 r.slot] 31) = wb := ⟨_, rfl⟩
            rw [hwb] at HSb HOb ⊢
            clear hwb zo HLK hc0 hc1 hc2 hc3 hc4 hc5 hc6 hc7 hc8
            refine (erase_is HSb.out.sk HL1.out o.c.key).mono ?_
            rintro e w5 ⟨E, L', x', nx', rfl, hI, hK, hO, hR⟩
            have HS5 := Lib.hid (HSb.out.turn hI hK hO)
            have HO5 := Lib.hid (HOb.out.move (hK.block _ HOb.out.lt HNO.out))
            obtain ⟨hm, hl', hE, hg'⟩ := eraR_map hR
            have HW' := Lib.hid (wf_del HSa.out.sk.store.sorted HS5.out.sk.store.sorted hg' HW.out)
            unfold CellD.key at hE
            rw [HIS.out] at hE
            have HMM := Lib.hid hm
            have HLL := Lib.hid hl'
            have hlj : L'.length ≤ L.length := by have := HLL.out; split at this <;> omega
            have HLJ := Lib.hid (show L'.length ≤ j + 1 by omega)
            clear hI hK hO hm hl' hR hlj hg'
            obtain ⟨hc0, hc1, hc2, hc3, hc4, hc5, hc6, hc7, hc8⟩ := HO5.out.cell
            cases is with
            | true =>
              simp only [if_true] at hE
              subst hE
              go_wp2_with (at_delete; refine m_del _ HS5.out.m keyS 27 Try.underlying27 rfl (.tmp 65) (.tmp 68) rfl o.c.key HWF.out rfl rfl ?_; intro w6 hM hG)
              have HS6 := Lib.hid (HS5.out.put (hM.mono (by omega : j ≤ j + 1)) hG)
              clear hM hG
              go_wp2_with fail
              go_meet
              refine ⟨L', x', nx', HLJ.out, ?_, HW'.out⟩
              rw [HMM.out, HLL.out]
              exact HS6.out
            | false =>
              simp only [Bool.false_eq_true, if_false] at hE
              subst hE
              go_wp2_with (at_delete; refine m_del _ HS5.out.m keyS 27 Try.underlying27 rfl (.tmp 65) (.tmp 68) rfl o.c.key HWF.out rfl rfl ?_; intro w6 hM hG)
              have HS6 := Lib.hid (HS5.out.put (hM.mono (by omega : j ≤ j + 1)) hG)
              clear hM hG
              go_wp2_with fail
              go_meet
              refine ⟨L', x', nx', HLJ.out, ?_, HW'.out⟩
              rw [HMM.out, HLL.out]
              exact HS6.out
          | false =>
            have HX := Lib.hid hD
            go_upto_region 14 with fail
            have HSa := Lib.hid (HS.out.below ((Below.refl _ wr).alloc (Nat.le_refl _) (.cells #[.int .i64 o.Do, .int .i32 o.c.table, .int .i64 o.c.row, .int .i64 o.c.value, .int .i64 o.c.slot, .int .i32 o.tk.1, .int .i64 o.tk.2, .int .u64 o.seed, .int .i64 o.stop] 33)))
            have HOX := Lib.hid (show OpBox (wr.alloc (.cells #[.int .i64 o.Do, .int .i32 o.c.table, .int .i64 o.c.row, .int .i64 o.c.value, .int .i64 o.c.slot, .int .i32 o.tk.1, .int .i64 o.tk.2, .int .u64 o.seed, .int .i64 o.stop] 33)) wr.heap.size o from heap_alloc_new wr _)
            have HNO := Lib.hid (show ¬ IsSk.Own (w.heap.size + 1) w.heap.size L wr.heap.size from fun h => by have := HS.out.sk.own_lt h; omega)
            have HNM := Lib.hid (show wr.heap.size ≠ w2.heap.size from fun h => by have := HS.out.m.lt; omega)
            obtain ⟨wa, hwa⟩ : ∃ wa, wr.alloc (.cells #[.int .i64 o.Do, .int .i32 o.c.table, .int .i64 o.c.row, .int .i64 o.c.value, .int .i64 o.c.slot, .int .i32 o.tk.1, .int .i64 o.tk.2, .int .u64 o.seed, .int .i64 o.stop] 33) = wa := ⟨_, rfl⟩
            obtain ⟨ob, hob⟩ : ∃ ob, wr.heap.size = ob := ⟨_, rfl⟩
            rw [hwa] at HSa HOX ⊢
            rw [hob] at HOX HNO HNM ⊢
            clear hwa hob hc0 hc1 hc2 hc3 hc4 hc5 hc6 hc7 hc8 HS
            have HWF := Lib.hid (show wf2 .i32 .i64 o.c.key from HOK.out.2.1.1)
            obtain ⟨okb, hokb⟩ : ∃ okb, (decide (0 ≤ o.c.slot) && decide (o.c.slot ≤ 1099511627776)) = okb := ⟨_, rfl⟩
            have HB := Lib.hid hokb
            clear hokb
            go_cut [12] (fun a wx => wx = wa ∧ a = .bool okb)
            case first =>
              obtain ⟨hc0, hc1, hc2, hc3, hc4, hc5, hc6, hc7, hc8⟩ := HOX.out.cell
              cases h1 : decide (0 ≤ o.c.slot) with
              | false =>
                have HE := Lib.hid (show okb = false by rw [← HB.out, h1]; rfl)
                go_wp2_with fail
                go_meet
                exact ⟨rfl, by rw [HE.out]⟩
              | true =>
                cases h2 : decide (o.c.slot ≤ 1099511627776) with
                | false =>
                  have HE := Lib.hid (show okb = false by rw [← HB.out, h1, h2]; rfl)
                  go_wp2_with fail
                  go_meet
                  exact ⟨rfl, by rw [HE.out]⟩
                | true =>
                  have HE := Lib.hid (show okb = true by rw [← HB.out, h1, h2]; rfl)
                  go_wp2_with fail
                  go_meet
                  exact ⟨rfl, by rw [HE.out]⟩
            case rest =>
              obtain ⟨rfl, rfl⟩ := hcut
              obtain ⟨hc0, hc1, hc2, hc3, hc4, hc5, hc6, hc7, hc8⟩ := HOX.out.cell
              go_wp2_with fail
              clear hc0 hc1 hc2 hc3 hc4 hc5 hc6 hc7 hc8
              refine (put_is HSa.out.sk (by have := HN3.out; omega) o.c).mono ?_
              rintro e w5 ⟨E, L', x', nx', rfl, hI, hK, hO, hR⟩
              have HS5 := Lib.hid (HSa.out.turn hI hK hO)
              have HO5 := Lib.hid (HOX.out.move (hK.block _ HOX.out.lt HNO.out))
              have HNO5 := Lib.hid (show ¬ IsSk.Own (w.heap.size + 1) w.heap.size L' ob from fun h => by
                rcases hO _ h with r | r
                · exact HNO.out r
                · have := HOX.out.lt; omega)
              clear hI hK hO
              obtain ⟨hc0, hc1, hc2, hc3, hc4, hc5, hc6, hc7, hc8⟩ := HO5.out.cell
              cases okb with
              | true =>
                obtain ⟨rfl, hg, hl'⟩ := put_ok hR HB.out
                have HMM := Lib.hid (mapV_put hg)
                have HLL := Lib.hid hl'
                have HG := Lib.hid (show getL L' o.c.key = some o.c by rw [hg, if_pos rfl])
                have HWq := Lib.hid (wf_put HSa.out.sk.store.sorted HS5.out.sk.store.sorted hg HWF.out HW.out)
                have HLq := Lib.hid (show L'.length ≤ j + 1 by have := HLL.out; split at this <;> omega)
                have HLp := Lib.hid (show L'.length ≤ 1048576 by have := HLq.out; have := HN3.out; omega)
                clear hR hg hl'
                go_wp2_with (at_mapUpdate; refine m_put _ HS5.out.m keyS 27 Try.underlying27 (by have := HN3.out; simp only [maxLen]; omega) rfl (.tmp 96) (.tmp 99) (.tmp 101) rfl o.c.key HWF.out (celV o.c) rfl rfl rfl ?_; intro w6 hM hG; have HOp := Lib.hid (HO5.out.move (hG.block ob HO5.out.lt (by simp only [ne_eq, Option.some.injEq]; exact HNM.out))); obtain ⟨hd0, hd1, hd2, hd3, hd4, hd5, hd6, hd7, hd8⟩ := HOp.out.cell)
                have HSp : RowKit.Hid (MSt (w.heap.size + 1) w.heap.size w2.heap.size (j + 1) w3 w6 L' x' nx' (mapV L') L'.length) := by
                  rw [HMM.out, HLL.out, ← mapV_some]
                  have h1 : (if (mapV L o.c.key).isSome then L.length else L.length + 1) = L.length + (if (mapV L o.c.key).isSome then 0 else 1) := by split <;> rfl
                  rw [h1] at hM
                  exact Lib.hid (HS5.out.put hM hG)
                clear hd0 hd1 hd2 hd3 hd4 hd5 hd6 hd7 hd8
                clear hM hG hc0 hc1 hc2 hc3 hc4 hc5 hc6 hc7 hc8
                refine (get_is HSp.out.sk HLp.out o.c.key).mono ?_
                rintro e w7 ⟨rfl, hb⟩
                rw [HG.out]
                unfold getV celV
                have HS7 := Lib.hid (HSp.out.below hb)
                have HO7 := Lib.hid (HOp.out.below hb)
                clear hb
                have HLK := (HS7.out.m.alloc (.cells #[.int .i32 o.c.table, .int .i64 o.c.row, .int .i64 o.c.value, .int .i64 o.c.slot] 31)).get_ok keyS Try.underlying27 zeroCell HWF.out
                rw [show mapV L' o.c.key = some (celV o.c) by unfold mapV; rw [HG.out]; rfl] at HLK
                simp only [mk2, CellD.key, celV, Option.getD_some, Option.getD_none, Option.isSome_some, Option.isSome_none] at HLK
                have hq : ∀ W : World, (Op.equalIn 10000 31 (.agg #[.int .i32 o.c.table, .int .i64 o.c.row, .int .i64 o.c.value, .int .i64 o.c.slot]) (.agg #[.int .i32 o.c.table, .int .i64 o.c.row, .int .i64 o.c.value, .int .i64 o.c.slot])).run Try.prog W = .ok true W := fun W => eqc_self ⟨o.c.table, o.c.row, o.c.value, o.c.slot⟩ W
                obtain ⟨hc0, hc1, hc2, hc3, hc4, hc5, hc6, hc7, hc8⟩ := HO7.out.cell
                have zo := HO7.out.lt
                go_wp2_with fail
                go_meet
                exact ⟨_, _, _, HLq.out, HS7.out.below (((Below.refl _ w7).alloc (Nat.le_refl _) _).alloc (by simp) _), HWq.out⟩
              | false =>
                obtain ⟨rfl, hLL⟩ : E = 1 ∧ L' = L := by
                  rcases hR with ⟨h1, _⟩ | ⟨_, h2, h3⟩
                  · rw [HB.out] at h1; cases h1
                  · exact ⟨h2, h3⟩
                subst hLL
                have HSp := Lib.hid (show MSt (w.heap.size + 1) w.heap.size w2.heap.size (j + 1) w3 w5 L' x' nx' (mapV L') L'.length from ⟨HS5.out.sk, HS5.out.m.mono (by omega), HS5.out.own, HS5.out.keep, HS5.out.ne⟩)
                have HOp := HO5
                have HWq := HW
                have HLp := HL1
                have HLq := Lib.hid (show L'.length ≤ j + 1 by omega)
                clear hR
                cases hgg : getL L' o.c.key with
                | none =>
                  have HG := Lib.hid hgg
                  clear hgg hc0 hc1 hc2 hc3 hc4 hc5 hc6 hc7 hc8
                  obtain ⟨hc0, hc1, hc2, hc3, hc4, hc5, hc6, hc7, hc8⟩ := HOp.out.cell
                  go_wp2_with fail
                  clear hc0 hc1 hc2 hc3 hc4 hc5 hc6 hc7 hc8
                  refine (get_is HSp.out.sk HLp.out o.c.key).mono ?_
                  rintro e w7 ⟨rfl, hb⟩
                  rw [HG.out]
                  unfold getV celV
                  have HS7 := Lib.hid (HSp.out.below hb)
                  have HO7 := Lib.hid (HOp.out.below hb)
                  clear hb
                  have HLK := (HS7.out.m.alloc (.cells #[.int .i32 0, .int .i64 0, .int .i64 0, .int .i64 0] 31)).get_ok keyS Try.underlying27 zeroCell HWF.out
                  rw [show mapV L' o.c.key = none by unfold mapV; rw [HG.out]; rfl] at HLK
                  simp only [mk2, CellD.key, celV, Option.getD_some, Option.getD_none, Option.isSome_some, Option.isSome_none] at HLK
                  have hq : ∀ W : World, (Op.equalIn 10000 31 (.agg #[.int .i32 0, .int .i64 0, .int .i64 0, .int .i64 0]) (.agg #[.int .i32 0, .int .i64 0, .int .i64 0, .int .i64 0])).run Try.prog W = .ok true W := fun W => eqc_self ⟨0, 0, 0, 0⟩ W
                  obtain ⟨hc0, hc1, hc2, hc3, hc4, hc5, hc6, hc7, hc8⟩ := HO7.out.cell
                  have zo := HO7.out.lt
                  go_wp2_with fail
                  go_meet
                  exact ⟨_, _, _, HLq.out, HS7.out.below (((Below.refl _ w7).alloc (Nat.le_refl _) _).alloc (by simp) _), HWq.out⟩
                | some d =>
                  have HG := Lib.hid hgg
                  clear hgg hc0 hc1 hc2 hc3 hc4 hc5 hc6 hc7 hc8
                  obtain ⟨hc0, hc1, hc2, hc3, hc4, hc5, hc6, hc7, hc8⟩ := HOp.out.cell
                  go_wp2_with fail
                  clear hc0 hc1 hc2 hc3 hc4 hc5 hc6 hc7 hc8
                  refine (get_is HSp.out.sk HLp.out o.c.key).mono ?_
                  rintro e w7 ⟨rfl, hb⟩
                  rw [HG.out]
                  unfold getV celV
                  have HS7 := Lib.hid (HSp.out.below hb)
                  have HO7 := Lib.hid (HOp.out.below hb)
                  clear hb
                  have HLK := (HS7.out.m.alloc (.cells #[.int .i32 d.table, .int .i64 d.row, .int .i64 d.value, .int .i64 d.slot] 31)).get_ok keyS Try.underlying27 zeroCell HWF.out
                  rw [show mapV L' o.c.key = some (celV d) by unfold mapV; rw [HG.out]; rfl] at HLK
                  simp only [mk2, CellD.key, celV, Option.getD_some, Option.getD_none, Option.isSome_some, Option.isSome_none] at HLK
                  have hq : ∀ W : World, (Op.equalIn 10000 31 (.agg #[.int .i32 d.table, .int .i64 d.row, .int .i64 d.value, .int .i64 d.slot]) (.agg #[.int .i32 d.table, .int .i64 d.row, .int .i64 d.value, .int .i64 d.slot])).run Try.prog W = .ok true W := fun W => eqc_self ⟨d.table, d.row, d.value, d.slot⟩ W
                  obtain ⟨hc0, hc1, hc2, hc3, hc4, hc5, hc6, hc7, hc8⟩ := HO7.out.cell
                  have zo := HO7.out.lt
                  go_wp2_with fail
                  go_meet
                  exact ⟨_, _, _, HLq.out, HS7.out.below (((Below.refl _ w7).alloc (Nat.le_refl _) _).alloc (by simp) _), HWq.out⟩
        case rest =>
          obtain ⟨L', x', nx', hL', hS', hW'⟩ := hcut
          have HL' := Lib.hid hL'; have HS' := Lib.hid hS'; have HW' := Lib.hid hW'
          clear hL' hS' hW'
          go_wp2_with fail
          go_roundw
          case rel => exact ⟨j + 1, L', x', nx', by go_num, hlt, HL'.out, HS'.out, HW'.out⟩
          case measure => simp [intOf]; omega
      · have hjn : j = nl := by omega
        have hLN := HS.out.m.len Try.underlying27 3
        clear hjn
        go_wp2_with fail
        refine (len_is HS.out.sk).mono ?_
        rintro e w' ⟨rfl, rfl⟩
        go_wp2_with fail
        refine (rising_is HS.out.sk HL1.out HS.out.m HW.out).mono ?_
        rintro e w4 ⟨rfl, hb⟩
        have HB4 := Lib.hid hb
        clear hb
        go_wp2_with fail
        go_ret
        refine ⟨rfl, ?_⟩
        have h1 := HB3.out.trans (HS.out.keep.below (B := w.heap.size) HB3.out.size (by
          have := HM3.out.lt; have := HB2.out.size
          rintro i (rfl | rfl | rfl) <;> omega))
        exact h1.trans (HB4.out.mono h1.size)
end Go.Proofs.Ytdolmkiiflhehaa.M
end

section
/- SkipNone's walk. -/
set_option linter.unusedVariables false
set_option linter.unusedSimpArgs false
set_option maxRecDepth 100000
namespace Go.Proofs.Ytdolmkiiflhehaa.M
open Go.RowKit Go.Shelf Go.Proofs.YtdolmkiiflhehaaW.PrintWords

theorem from_none {w : World} {q : Option Addr} (h : IsN w (.pointer q)) (k : Int × Int) : Calls Try.prog 22 #[.pointer q, keyV k] w fun e w' => e = .returned (.func (.func 44) #[] #[.pointer (some ⟨w.heap.size + 1, 0, none⟩)]) ∧ IsSeqC w' w.heap.size (w.heap.size + 1) [] ∧ Below w.heap.size w w' := by
  have hmf : ∀ (fn : Fn) (first cap : Array Value) (w : World), (Instr.makeFunc fn first cap).run Try.prog w = .ok (.func fn first cap) w := fun _ _ _ _ => rfl
  have HB := Lib.hid (show Below w.heap.size w ((w.alloc (.cells #[.int .i32 k.1, .int .i64 k.2] 29)).alloc (.cells #[.slice none 0 0] 59)) from ((Below.refl _ _).alloc (Nat.le_refl _) _).alloc (by simp) _)
  have HN := Lib.hid (h _ HB.out)
  clear h
  unfold keyV
  go_enter Try.func22, Try.ntmps22
  go_wp2_with (go_at_call 35; refine HN.out.mono ?_; rintro e w' ⟨rfl, rfl⟩)
  go_ret
  refine ⟨by simp, ⟨none, 0, ?_, Kd.F_nil _ _ _⟩, HB.out⟩
  exact Joins.cell_alloc_mark_at (w.alloc (.cells #[.int .i32 k.1, .int .i64 k.2] 29)) #[.slice none 0 0] 59 (0, 0) (w.heap.size + 1) 0 (by simp)
theorem range_none {w : World} {q : Option Addr} (h : IsN w (.pointer q)) (k t : Int × Int) : Calls Try.prog 23 #[.pointer q, keyV k, keyV t] w fun e w' => e = .returned (.slice none 0 0) ∧ Below w.heap.size w w' := by
  have HB := Lib.hid (show Below w.heap.size w ((w.alloc (.cells #[.int .i32 k.1, .int .i64 k.2] 29)).alloc (.cells #[.int .i32 t.1, .int .i64 t.2] 29)) from ((Below.refl _ _).alloc (Nat.le_refl _) _).alloc (by simp) _)
  have HN := Lib.hid (h _ HB.out)
  clear h
  unfold keyV
  go_enter Try.func23, Try.ntmps23
  go_wp2_with (go_at_call 35; refine HN.out.mono ?_; rintro e w' ⟨rfl, rfl⟩)
  go_ret
  exact ⟨rfl, HB.out⟩
theorem below_then' {a b c : World} (h : Below a.heap.size a b) (k : Below b.heap.size b c) : Below a.heap.size a c := h.trans (k.mono h.size)
set_option maxHeartbeats 8000000 in
theorem none_walk (w : World) (o : OpD) :
    Calls Try.prog 5 #[.agg #[.int .i64 o.Do, .int .i32 o.c.table, .int .i64 o.c.row, .int .i64 o.c.value, .int .i64 o.c.slot, .int .i32 o.tk.1, .int .i64 o.tk.2, .int .u64 o.seed, .int .i64 o.stop]] w fun e w' => e = .returned (.bool true) ∧ Below w.heap.size w w' := by
  go_enter Try.func5, Try.ntmps5
  go_wp2_with fail
  refine (begun_is _).mono ?_
  rintro e w2 ⟨rfl, hb⟩
  have hO : OpBox w2 w.heap.size o := (hb.block w.heap.size (by simp)).trans (heap_alloc_new w _)
  have hB2 : Below w.heap.size w w2 := ((Below.refl _ w).alloc (Nat.le_refl _) _).trans (hb.mono (by simp))
  have hZ : IsZ (w2.alloc (.cells #[.pointer none, .int .i64 0, .int .u64 0] 52)) w2.heap.size := heap_alloc_new w2 _
  have HO := Lib.hid hO; have HB2 := Lib.hid hB2; have HZ := Lib.hid hZ
  clear hb hO hB2 hZ
  go_wp2_with fail
  obtain ⟨w3, hw3⟩ : ∃ w3, (w2.alloc (.cells #[.pointer none, .int .i64 0, .int .u64 0] 52)).alloc (.cells #[.pointer none, .pointer (some ⟨w2.heap.size, 0, none⟩)] 24) = w3 := ⟨_, rfl⟩
  have hB3 : Below w2.heap.size w2 w3 := by rw [← hw3]; exact ((Below.refl _ w2).alloc (Nat.le_refl _) _).alloc (by simp) _
  have hZ3 : IsZ w3 w2.heap.size := by rw [← hw3]; unfold IsZ; rw [Below.heap_alloc _ _ _ (by simp)]; exact HZ.out
  have hS3 : w3.heap[w2.heap.size + 1]? = some (.cells #[.pointer none, .pointer (some ⟨w2.heap.size, 0, none⟩)] 24) := by
    rw [← hw3]
    have := heap_alloc_new (w2.alloc (.cells #[.pointer none, .int .i64 0, .int .u64 0] 52)) (.cells #[.pointer none, .pointer (some ⟨w2.heap.size, 0, none⟩)] 24)
    rw [World.size_alloc] at this
    exact this
  rw [hw3]
  have HB3 := Lib.hid hB3; have HZ3 := Lib.hid hZ3; have HS3 := Lib.hid hS3; have HO3 := Lib.hid (HO.out.below hB3)
  clear hw3 hB3 hZ3 hS3 HZ HO
  have hq : ∀ W : World, (Op.equalIn 10000 31 (.agg #[.int .i32 0, .int .i64 0, .int .i64 0, .int .i64 0]) (.agg #[.int .i32 0, .int .i64 0, .int .i64 0, .int .i64 0])).run Try.prog W = .ok true W := fun W => eqc_self ⟨0, 0, 0, 0⟩ W
  go_loopw [13] (fun i wr => ∃ k : Nat, i = .int .i64 k ∧ k ≤ 2 ∧ Aside0 (Below w3.heap.size w3 wr)) (fun i _ => 2 - (intOf i).toNat)
  case atStart => exact ⟨0, rfl, by omega, ⟨Below.refl _ _⟩⟩
  case round =>
    obtain ⟨k, rfl, hk, HBr⟩ := hrel
    by_cases hlt : k < 2
    · have hq : ∃ q : Option Addr, wr.cell? ⟨w2.heap.size + 1, k, none⟩ = some (.pointer q) ∧ IsN wr (.pointer q) := by
        have h1 : wr.heap[w2.heap.size + 1]? = some (.cells #[.pointer none, .pointer (some ⟨w2.heap.size, 0, none⟩)] 24) := (HBr.out.block _ (Array.getElem?_eq_some_iff.1 HS3.out).1).trans HS3.out
        rcases Nat.lt_or_ge k 1 with h | h
        · obtain rfl : k = 0 := by omega
          exact ⟨none, by simp [World.cell?, h1], isN_nil wr⟩
        · obtain rfl : k = 1 := by omega
          exact ⟨some ⟨w2.heap.size, 0, none⟩, by simp [World.cell?, h1], isN_zero (by unfold IsZ; rw [HBr.out.block _ (Array.getElem?_eq_some_iff.1 HZ3.out).1]; exact HZ3.out)⟩
      obtain ⟨q, hqc, hqn⟩ := hq
      have HOX := Lib.hid (HO3.out.below HBr.out)
      obtain ⟨hc0, hc1, hc2, hc3, hc4, hc5, hc6, hc7, hc8⟩ := HOX.out.cell
      have HB0 := Lib.hid (Below.refl wr.heap.size wr)
      have HN0 := Lib.hid hqn
      clear hqn
      go_wp2_with fail
      refine (get_none HN0.out o.c.key).mono ?_
      rintro e w101 ⟨rfl, hb⟩
      unfold getV celV
      have hb9 := hb
      replace hb := hb.trans ((((Below.refl _ w101).alloc (Nat.le_refl _) (.cells #[.int .i32 0, .int .i64 0, .int .i64 0, .int .i64 0] 31))).mono hb.size)
      have HB1 := Lib.hid (below_then' HB0.out hb); have HN1 := Lib.hid (HN0.out.below hb)
      clear hb hc0 hc1 hc2 hc3 hc4 hc5 hc6 hc7 hc8
      obtain ⟨hc0, hc1, hc2, hc3, hc4, hc5, hc6, hc7, hc8⟩ := (HOX.out.below (below_then' HB0.out hb9)).cell
      have zo := (HOX.out.below (below_then' HB0.out hb9)).lt
      clear hb9
      go_wp2_with fail
      refine (put_none HN1.out o.c).mono ?_
      rintro e w102 ⟨rfl, hb⟩
      have HB2 := Lib.hid (below_then' HB1.out hb); have HN2 := Lib.hid (HN1.out.below hb)
      clear hb hc0 hc1 hc2 hc3 hc4 hc5 hc6 hc7 hc8
      obtain ⟨hc0, hc1, hc2, hc3, hc4, hc5, hc6, hc7, hc8⟩ := (HOX.out.below HB2.out).cell
      go_wp2_with fail
      refine (erase_none HN2.out o.c.key).mono ?_
      rintro e w103 ⟨rfl, hb⟩
      have HB3 := Lib.hid (below_then' HB2.out hb); have HN3 := Lib.hid (HN2.out.below hb)
      clear hb hc0 hc1 hc2 hc3 hc4 hc5 hc6 hc7 hc8
      obtain ⟨hc0, hc1, hc2, hc3, hc4, hc5, hc6, hc7, hc8⟩ := (HOX.out.below HB3.out).cell
      go_wp2_with fail
      refine (len_none HN3.out).mono ?_
      rintro e w' ⟨rfl, rfl⟩
      go_wp2_with fail
      refine (level_none HN3.out 0).mono ?_
      rintro e w104 ⟨B1, rfl, ⟨hBl, A1, k1, hB1, hF1⟩, hb⟩
      have HSEQ1 := Lib.hid hB1; have HSEQ2 := Lib.hid (Kd.F_mono hF1 (fun i hi => hi.2)); clear hB1 hF1
      have HB4 := Lib.hid (below_then' HB3.out hb); have HN4 := Lib.hid (HN3.out.below hb)
      clear hb hc0 hc1 hc2 hc3 hc4 hc5 hc6 hc7 hc8
      obtain ⟨hc0, hc1, hc2, hc3, hc4, hc5, hc6, hc7, hc8⟩ := (HOX.out.below HB4.out).cell
      go_wp2_with fail
      refine (keys_same HSEQ1.out HSEQ2.out (by simp) none 0 (Kd.F_nil _ _ _)).mono ?_
      rintro e w105 ⟨rfl, hb⟩
      have HB5 := Lib.hid (below_then' HB4.out hb); have HN5 := Lib.hid (HN4.out.below hb)
      clear hb hc0 hc1 hc2 hc3 hc4 hc5 hc6 hc7 hc8
      obtain ⟨hc0, hc1, hc2, hc3, hc4, hc5, hc6, hc7, hc8⟩ := (HOX.out.below HB5.out).cell
      go_wp2_with fail
      refine (from_none HN5.out o.tk).mono ?_
      rintro e w106 ⟨rfl, ⟨A1, k1, hB1, hF1⟩, hb⟩
      have HSEQ1 := Lib.hid hB1; have HSEQ2 := Lib.hid (Kd.F_mono hF1 (fun i hi => hi.2)); clear hB1 hF1
      have HB6 := Lib.hid (below_then' HB5.out hb); have HN6 := Lib.hid (HN5.out.below hb)
      clear hb hc0 hc1 hc2 hc3 hc4 hc5 hc6 hc7 hc8
      obtain ⟨hc0, hc1, hc2, hc3, hc4, hc5, hc6, hc7, hc8⟩ := (HOX.out.below HB6.out).cell
      go_wp2_with fail
      refine (told_same HSEQ1.out HSEQ2.out (by simp) none 0 (Kd.F_nil _ _ _) 0).mono ?_
      rintro e w107 ⟨rfl, hb⟩
      have HB7 := Lib.hid (below_then' HB6.out hb); have HN7 := Lib.hid (HN6.out.below hb)
      clear hb hc0 hc1 hc2 hc3 hc4 hc5 hc6 hc7 hc8
      obtain ⟨hc0, hc1, hc2, hc3, hc4, hc5, hc6, hc7, hc8⟩ := (HOX.out.below HB7.out).cell
      go_wp2_with fail
      refine (range_none HN7.out o.c.key o.tk).mono ?_
      rintro e w108 ⟨rfl, hb⟩
      have HB8 := Lib.hid (below_then' HB7.out hb); have HN8 := Lib.hid (HN7.out.below hb)
      clear hb hc0 hc1 hc2 hc3 hc4 hc5 hc6 hc7 hc8
      obtain ⟨hc0, hc1, hc2, hc3, hc4, hc5, hc6, hc7, hc8⟩ := (HOX.out.below HB8.out).cell
      go_wp2_with fail
      refine (steps_none HN8.out o.tk).mono ?_
      rintro e w109 ⟨rfl, hb⟩
      have HB9 := Lib.hid (below_then' HB8.out hb); have HN9 := Lib.hid (HN8.out.below hb)
      clear hb hc0 hc1 hc2 hc3 hc4 hc5 hc6 hc7 hc8
      obtain ⟨hc0, hc1, hc2, hc3, hc4, hc5, hc6, hc7, hc8⟩ := (HOX.out.below HB9.out).cell
      go_wp2_with fail
      refine (bytes_none HN9.out).mono ?_
      rintro e w' ⟨rfl, rfl⟩
      go_wp2_with fail
      refine (clone_none HN9.out).mono ?_
      rintro e w' ⟨rfl, rfl⟩
      go_wp2_with fail
      refine (same_none HN9.out).mono ?_
      rintro e w' ⟨rfl, rfl⟩
      go_wp2_with fail
      go_roundw
      case rel => exact ⟨k + 1, by go_num, by omega, ⟨below_then' HBr.out HB9.out⟩⟩
      case measure => simp [intOf]; omega
    · go_wp2_with fail
      go_ret
      exact ⟨rfl, below_then' HB2.out (below_then' HB3.out HBr.out)⟩
end Go.Proofs.Ytdolmkiiflhehaa.M
end
