/- RecordPuts: the row: for every input the law returns true, and what was handed in reads as it did. -/
import Derived.Test.YtgiefblcckikeaaPart5
import Derived.Test.YtgiefblcckikeaaRows
set_option linter.unusedVariables false
namespace Go.Proofs.Ytgiefblcckikeaa.recordPuts
open Go.ChangeShapes Go.WideShapes Go.ChangeAt Go.RowKit Go.Proofs.Ytgiefblcckikeaa.M
open Go.ChangeMaps (open_string shut_string)
open Go.Proofs.YtgiefblcckikeaaW
open Go.Proofs.YtgiefblcckikeaaW.PrintWords
set_option maxRecDepth 100000 in
theorem lifted (os : Os) (started : os.Started) (H : Type) (enc : TypeId × Value → H) :
    ReturnsInHanded {} Try.checked os 5 .any (Rows.recordPutsSpec.pre6 enc Try.prog Try.f5 Rows.recordPutsRow.domain false) (Rows.recordPutsSpec.post enc Try.prog Try.f5 false true false false) := by
  refine returnsInHanded_of_change_sized (C := Try.checked) own started (by kernel_rfl) Try.func5
    (ChangeSpec.witness6 (enc := enc) (C := Try.checked) false ⟨#[], #[.agg #[.int .i64 0, .int .i64 0, .slice none 0 0, .slice none 0 0, .slice none 0 0, .slice none 0 0], .slice none 0 0, .slice none 0 0], []⟩ 8 (by kernel_rfl) (by kernel_rfl) (by kernel_rfl) (by kernel_rfl)) ?_
  intro W base args ds gs before hval0 hW hcnd hsz0 _
  have hsz : (DataW.weightsEach Try.prog (Try.f5.params.toList ++ Rows.recordPutsSpec.plain.varTypes Try.prog) (ds ++ gs)).all (· ≤ reachBytes) = true := hsz0
  have hval : ∀ (j : Nat) t v, Try.f5.params[j]? = some t → args[j]? = some v → Value.okWide Try.prog W .any base t v := hval0
  have hW' := hW
  obtain ⟨p, q, hA0, hV, rfl, hfz, hnd⟩ := hW
  have hA : DataW.TrodAll enc Try.prog W 0 (fun _ => true) true Try.f5.params.toList args.toList ds p := hA0
  rw [Try.params5] at hA hval hsz
  obtain ⟨v0, vs0, d0, ds0, p0, q0, hargs, rfl, rfl, h0, r0⟩ := trodAll_cons hA
  obtain ⟨v1, vs1, d1, ds1, p1, q1, rfl, rfl, rfl, h1, r1⟩ := trodAll_cons r0
  obtain ⟨v2, vs2, d2, ds2, p2, q2, rfl, rfl, rfl, h2, r2⟩ := trodAll_cons r1
  obtain ⟨rfl, rfl, rfl⟩ := trodAll_nil r2
  obtain rfl : args = #[v0, v1, v2] := by cases args; simp_all
  obtain ⟨rfl, rfl⟩ := trodVars_none hV
  have k0 := h0
  have lt0 : ∀ x ∈ p0, x.block < W.heap.size := by obtain ⟨m, hm⟩ := k0; exact DataW.trod_lt m _ _ _ hm
  have k1 := h1
  have lt1 : ∀ x ∈ p1, x.block < W.heap.size := by obtain ⟨m, hm⟩ := k1; exact DataW.trod_lt m _ _ _ hm
  have k2 := h2
  have lt2 : ∀ x ∈ p2, x.block < W.heap.size := by obtain ⟨m, hm⟩ := k2; exact DataW.trod_lt m _ _ _ hm
  obtain ⟨cs0, t0t, rfl, hK0, ok0, _⟩ := arg_struct opens_txn Try.underlying36 (hval 0 36 v0 rfl rfl) h0
  obtain ⟨A02, c02, A03, c03, A04, c04, A05, c05, hcs0, hl02, hC02, hl03, hC03, hl04, hC04, hl05, hC05⟩ := G.k36_open (Foot.now hK0)
  obtain rfl := Array.toList_inj.1 (show cs0.toList = (#[.int .i64 t0t.f0, .int .i64 t0t.f1, .slice A02 t0t.f2.length c02, .slice A03 t0t.f3.length c03, .slice A04 t0t.f4.length c04, .slice A05 t0t.f5.length c05] : Array Value).toList from hcs0)
  obtain ⟨A1, c1, l1, rfl, hc1, hF1, ok1, _⟩ := arg_slice opens_bytes (Kd.heap_int .u8) Try.underlying26 (hval 1 26 v1 rfl rfl) h1
  have y1 : l1.length * 1 ≤ 140737488351232 := PrintWords.sized_ints hsz (j := 1) (t := 26) rfl rfl Try.underlying26 Try.underlying5 (by kernel_rfl) (by kernel_rfl) h1
  obtain ⟨A2, c2, l2, rfl, hc2, hF2, ok2, _⟩ := arg_slice opens_bytes (Kd.heap_int .u8) Try.underlying26 (hval 2 26 v2 rfl rfl) h2
  have y2 : l2.length * 1 ≤ 140737488351232 := PrintWords.sized_ints hsz (j := 2) (t := 26) rfl rfl Try.underlying26 Try.underlying5 (by kernel_rfl) (by kernel_rfl) h2
  clear hA0 hval0 hsz0
  refine (puts_walk W t0t ⟨hl02, hC02, hl03, hC03, hl04, hC04, hl05, hC05⟩ ok0 A1 c1 l1 (Foot.now hF1) hc1 (by omega) A2 c2 l2 (Foot.now hF2) hc2 (by omega) (okB_of_wf ok2)).mono fun e W' ⟨he, bel⟩ => ?_
  subst he
  exact ⟨_, rfl, _, _, _, [], _, [], hW', trodAll_mk1 (shut_bool Try.underlying4 _), (trodAll_cons_mk (Below.trod laidOut (by kernel_rfl) (of_decide_eq_true (by kernel_rfl)) k0 bel lt0) (trodAll_cons_mk (Below.trod laidOut (by kernel_rfl) (of_decide_eq_true (by kernel_rfl)) k1 bel lt1) (trodAll_cons_mk (Below.trod laidOut (by kernel_rfl) (of_decide_eq_true (by kernel_rfl)) k2 bel lt2) trodAll_mk0))), rfl, bel.frame _, fun h => by cases h⟩
theorem over : Rows.recordPutsRow.holds Try.pinned (OpenSpec.ofChange Rows.recordPutsSpec) :=
  OpenClaim.holds_of_wide 5 Try.f5 rfl rfl rfl rfl rfl rfl rfl ⟨rfl, rfl, rfl, rfl, rfl⟩ rfl rfl rfl rfl rfl (by kernel_rfl) Try.func5 (by kernel_rfl)
    (of_decide_eq_true (by kernel_rfl)) (by unfold Func.isWrapper; first | (rw [if_pos (by decide +kernel)]; kernel_rfl) | (rw [if_neg (by decide +kernel)]; exact ⟨rfl, rfl⟩))
    (fun os started H enc _ => lifted os started H enc)
theorem proved : Rows.RecordPutsSaid := over
#print axioms proved
end Go.Proofs.Ytgiefblcckikeaa.recordPuts
