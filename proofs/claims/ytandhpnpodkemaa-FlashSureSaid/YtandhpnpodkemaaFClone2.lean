/- Contracts of slices.Clone of blocks and of a flash's Clone. -/
import Derived.Test.YtandhpnpodkemaaFNone
set_option linter.unusedVariables false
set_option linter.unusedSimpArgs false
set_option maxRecDepth 100000
namespace Go.Proofs.Ytandhpnpodkemaa.M
open Go.RowKit Go.Proofs.YtandhpnpodkemaaW.PrintWords

/-- The row g of a flash's blocks. -/
def IsG (w : World) (g n cap : Nat) (c : Nat → Int) : Prop := ∃ cur : Array Value, w.heap[g]? = some (.cells cur 79) ∧ cur.size = cap * 4113 ∧ ∀ i, i < n * 4113 → cur[i]? = some (.int (kdAt i) (c i))
theorem sclone_is {w : World} {f g : Nat} {fl : Fl} (h : IsF w f g fl) : Calls Try.prog 46 #[.slice (some ⟨g, 0, none⟩) fl.n fl.cap] w fun e w' => ∃ g' cap', e = .returned (.slice (some ⟨g', 0, none⟩) fl.n cap') ∧ (fl.n ≤ cap' ∧ w.heap.size ≤ g') ∧ IsG w' g' fl.n cap' fl.c ∧ Below w.heap.size w w' := by
  have qT : ∀ (w : World) (a : Option Addr) (n c n' c' : Nat), (binOp .eql 45 (.slice a n c) (.slice none n' c')).run Try.prog w = .ok (.bool a.isNone) w := fun w a n c n' c' => Lib.run_eql_slice_nil w _ _ a n c n' c' Try.underlying45
  obtain ⟨cur, hg, hs, hc⟩ := h.gh
  obtain ⟨i0, z, hi, hz, hsz, hby, hzc⟩ := zeroB
  have hz4 : z.cells.size = 4113 := by rw [← Array.length_toList, hzc]; simp
  have hnc := h.nc
  have hn2 := h.n2
  have hglt := h.glt
  have hn1 := h.n1
  have hlen : (cur.toList.take (fl.n * 4113)).length = fl.n * 4113 := by
    rw [List.length_take, Array.length_toList, hs]
    exact Nat.min_eq_left (Nat.mul_le_mul_right _ hnc)
  have HNW := Lib.hid (show ∀ j u, (cur.toList.take (fl.n * 4113))[j]? = some u → (w.alloc (.cells #[] 79)).cell? ((⟨g, 0, none⟩ : Addr).add j) = some u from fun j u hj => by
    have hj2 : j < fl.n * 4113 := by
      rcases Nat.lt_or_ge j (fl.n * 4113) with h1 | h1
      · exact h1
      · rw [List.getElem?_eq_none (by rw [hlen]; exact h1)] at hj; cases hj
    rw [List.getElem?_take_of_lt hj2, Array.getElem?_toList] at hj
    rw [add_plain]
    have : (w.alloc (.cells #[] 79)).heap[g]? = some (.cells cur 79) := (Below.heap_alloc w _ g hglt).trans hg
    simp [World.cell?, this, hj])
  have HON := Lib.hid (show ∀ u ∈ cur.toList.take (fl.n * 4113), u.oneCell' = true from fun u hu => by
    obtain ⟨j, hj, e⟩ := List.getElem_of_mem hu
    rw [hlen] at hj
    have := hc j hj
    rw [List.getElem_take, Array.getElem_toList] at e
    rw [Array.getElem?_eq_getElem (by rw [hs]; exact Nat.lt_of_lt_of_le hj (Nat.mul_le_mul_right _ hnc)), e] at this
    injection this with this
    rw [this]
    rfl)
  obtain ⟨news, hnews⟩ : ∃ news, cur.toList.take (fl.n * 4113) = news := ⟨_, rfl⟩
  have HC := Lib.hid (show ∀ i, i < fl.n * 4113 → news[i]? = some (.int (kdAt i) (fl.c i)) from fun i hi' => by
    rw [← hnews, List.getElem?_take_of_lt hi', Array.getElem?_toList]; exact hc i hi')
  rw [hnews] at HNW HON hlen
  have HLEN := Lib.hid hlen
  have HW : (w.alloc (.cells #[] 79)).ownsRow w.heap.size 79 4113 (.slice (some ⟨w.heap.size, 0, none⟩) 0 0) 0 [] :=
    World.ownsRow_made w #[] 0 (Nat.le_refl _) (by decide) rfl
  have HOW := Lib.hid HW
  obtain ⟨n, hn⟩ : ∃ n, fl.n = n := ⟨_, rfl⟩
  obtain ⟨cap, hcap⟩ : ∃ cap, fl.cap = cap := ⟨_, rfl⟩
  have HI := Lib.hid hi; have HZ := Lib.hid hz; have HSZ := Lib.hid hsz; have HBY := Lib.hid hby; have HZ4 := Lib.hid hz4
  rw [hn] at HLEN HC hn1 hn2 ⊢
  rw [hcap]
  clear h hg hs hc hi hz hsz hby hzc hz4 hnc hlen hnews HW hn hcap hglt
  go_enter Try.func46, Try.ntmps46
  go_wp2_with ((with_reducible refine gate_builtin (b := .append) (xs := #[.tmp 5, .tmp 6]) rfl ?_); at_builtin; refine wpList_append_own _ rfl (.tmp 5) (.tmp 6) 45 rfl w.heap.size 79 i0 z 4113 4232 Try.underlying45 HI.out HZ.out HSZ.out HBY.out HZ4.out (by decide) _ 0 [] rfl HOW.out ⟨g, 0, none⟩ n cap news rfl HLEN.out HNW.out HON.out (by simp only [maxLen]; omega) (by omega) (by simp) ?_; intro v1 w1 hown hgr hnil; have HOWN := Lib.hid hown; have HGR := Lib.hid hgr; have HNIL := Lib.hid hnil; clear hown hgr hnil)
  go_ret
  obtain ⟨h1, h2⟩ := HOWN.out
  rcases h2 with ⟨rfl, h2⟩ | ⟨g', cap', cur', rfl, h3, h4, h5, h6, h7, h8⟩
  · exact absurd h2 (by omega)
  · refine ⟨g', cap', by rw [Nat.zero_add]; rfl, ⟨by omega, h3⟩, ⟨cur', h4, h7, fun i hi' => ?_⟩, ?_⟩
    · have h9 := HC.out i hi'
      rw [List.nil_append, Nat.zero_add] at h8
      rw [← h8, List.getElem?_take_of_lt hi', Array.getElem?_toList] at h9
      exact h9
    · exact ((Below.refl _ _).alloc (Nat.le_refl _) _).grown HGR.out (by simp) (fun k hk => by cases hk; exact Nat.le_refl _)
def cloneF (fl : Fl) (cap : Nat) : Fl := { fl with cap := cap }
theorem clone_is {w : World} {f g : Nat} {fl : Fl} (h : IsF w f g fl) : Calls Try.prog 18 #[.pointer (some ⟨f, 0, none⟩)] w fun e w' => ∃ f' g' cap, e = .returned (.pointer (some ⟨f', 0, none⟩)) ∧ (w.heap.size ≤ f' ∧ w.heap.size ≤ g') ∧ IsF w' f' g' (cloneF fl cap) ∧ Below w.heap.size w w' := by
  have HN := Lib.hid (none_is h)
  have h0 := h.c0
  have h1 := h.c1
  have h2 := h.c2
  have h3 := h.c3
  have HI := Lib.hid h
  have HS := Lib.hid (sclone_is (h.alloc (.cells #[.slice (some ⟨g, 0, none⟩) fl.n fl.cap, .int .i64 fl.fuse, .int .i64 fl.keep, .bool fl.down] 47)))
  have h0' := (h.alloc (.cells #[.slice (some ⟨g, 0, none⟩) fl.n fl.cap, .int .i64 fl.fuse, .int .i64 fl.keep, .bool fl.down] 47)).c0
  have hfl := h.flt
  clear h
  go_enter Try.func18, Try.ntmps18
  go_wp2_with (go_at_call 41; refine HN.out.mono ?_; rintro e w' ⟨rfl, rfl⟩)
  refine HS.out.mono ?_
  rintro e w2 ⟨g', cap', rfl, ⟨hcn, hg'⟩, hG, hb⟩
  have HG := Lib.hid hG; have HB := Lib.hid hb
  have hz : w.heap.size < w2.heap.size := by have := hb.size; simp at this; omega
  have hblk : w2.heap[w.heap.size]? = some (.cells #[.slice (some ⟨g, 0, none⟩) fl.n fl.cap, .int .i64 fl.fuse, .int .i64 fl.keep, .bool fl.down] 47) := (hb.block w.heap.size (by simp)).trans (heap_alloc_new w _)
  have HBLK := Lib.hid hblk
  have hy0 : w2.cell? ⟨w.heap.size, 0, none⟩ = some (.slice (some ⟨g, 0, none⟩) fl.n fl.cap) := by simp [World.cell?, hblk]
  have hy1 : w2.frozen? ⟨w.heap.size, 0, none⟩ = false := by simp [World.frozen?, hblk]
  clear hG hb hblk
  go_wp2_with fail
  go_ret
  refine ⟨w.heap.size, g', cap', rfl, ⟨Nat.le_refl _, by simp at hg'; omega⟩, ⟨?_, ?_, by simp at hg'; omega, HI.out.n1, HI.out.n2, hcn⟩, ?_⟩
  · have := IsF.heap_same (a := ⟨w.heap.size, 0, none⟩) (v := .slice (some ⟨g', 0, none⟩) fl.n cap') HBLK.out rfl
    exact this
  · obtain ⟨cur, e1, e2⟩ := HG.out
    exact ⟨cur, (Below.heap_setCell w2 ⟨w.heap.size, 0, none⟩ _ g' (by simp at hg' ⊢; omega)).trans e1, e2⟩
  · exact ((Below.refl _ _).alloc (Nat.le_refl _) _ |>.trans (HB.out.mono (by simp))).setCell (by simp) _
end Go.Proofs.Ytandhpnpodkemaa.M
