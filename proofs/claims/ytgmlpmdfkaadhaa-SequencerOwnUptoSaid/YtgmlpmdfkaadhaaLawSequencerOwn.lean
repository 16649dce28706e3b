/- SequencerOwn (where what it reads is of bulk at most 1048576): the row: for every input the law returns true, and what was handed in reads as it did. -/
import Derived.Test.YtgmlpmdfkaadhaaPart4
import Derived.Test.YtgmlpmdfkaadhaaRows
set_option linter.unusedVariables false
namespace Go.Proofs.Ytgmlpmdfkaadhaa.sequencerOwnUpto
open Go.ChangeShapes Go.WideShapes Go.ChangeAt Go.RowKit Go.Proofs.Ytgmlpmdfkaadhaa.M
open Go.ChangeMaps (open_string shut_string)
open Go.Proofs.YtgmlpmdfkaadhaaW.PrintWords
set_option maxRecDepth 100000 in
theorem lifted (os : Os) (started : os.Started) (H : Type) (enc : TypeId × Value → H) (F : Stop.Interp) :
    ReturnsInHanded {} Try.checked os 5 .any ((Rows.OpenSpec.upto Rows.sequencerOwnSpec).pre6 enc Try.prog Try.f5 Rows.sequencerOwnUptoRow.domain false) (((Rows.OpenSpec.upto Rows.sequencerOwnSpec).at F).post enc Try.prog Try.f5 false true false false) := by
  refine returnsInHanded_of_cond_sized (C := Try.checked) (s := Rows.OpenSpec.upto Rows.sequencerOwnSpec) (k := Rows.uptoSmall) rfl own started (by kernel_rfl) Try.func5
    (OpenSpec.witness (enc := enc) (C := Try.checked) (s := Rows.OpenSpec.upto Rows.sequencerOwnSpec) (k := Rows.uptoSmall) rfl false ⟨#[], #[.agg #[.int .i64 0, .int .i64 0, .slice none 0 0, .slice none 0 0, .slice none 0 0, .slice none 0 0]], []⟩ 8 (by kernel_rfl) (by kernel_rfl) (by kernel_rfl) (x := ([.agg [.lit (.int .i64 0), .lit (.int .i64 0), .nil, .nil, .nil, .nil]], [], [])) (by kernel_rfl) rfl (by kernel_rfl)) ?_
  intro W base args ds gs before hval0 hW hcnd hk hsz0 _
  have hval : ∀ (j : Nat) t v, Try.f5.params[j]? = some t → args[j]? = some v → Value.okWide Try.prog W .any base t v := hval0
  have hW' := hW
  obtain ⟨p, q, hA0, hV, rfl, hfz, hnd⟩ := hW
  have hA : DataW.TrodAll enc Try.prog W 0 (fun _ => true) true Try.f5.params.toList args.toList ds p := hA0
  rw [Try.params5] at hA hval
  obtain ⟨v0, vs0, d0, ds0, p0, q0, hargs, rfl, rfl, h0, r0⟩ := trodAll_cons hA
  obtain ⟨rfl, rfl, rfl⟩ := trodAll_nil r0
  obtain rfl : args = #[v0] := by cases args; simp_all
  obtain ⟨rfl, rfl⟩ := trodVars_none hV
  have k0 := h0
  have lt0 : ∀ x ∈ p0, x.block < W.heap.size := by obtain ⟨m, hm⟩ := k0; exact DataW.trod_lt m _ _ _ hm
  have hbulk : Rows.uptoBulkAll _ ≤ 1048576 := of_decide_eq_true hk
  simp only [List.append_nil, Rows.uptoBulkAll] at hbulk
  obtain ⟨cs0, t0t, rfl, hK0, ok0, sz0⟩ := arg_struct opens_txn Try.underlying32 (hval 0 32 v0 rfl rfl) h0
  obtain ⟨A02, c02, A03, c03, A04, c04, A05, c05, hcs0, hl02, hC02, hl03, hC03, hl04, hC04, hl05, hC05⟩ := G.k32_open (Foot.now hK0)
  obtain rfl := Array.toList_inj.1 (show cs0.toList = (#[.int .i64 t0t.f0, .int .i64 t0t.f1, .slice A02 t0t.f2.length c02, .slice A03 t0t.f3.length c03, .slice A04 t0t.f4.length c04, .slice A05 t0t.f5.length c05] : Array Value).toList from hcs0)
  clear hA0 hval0 hsz0
  refine (own_walk W t0t hK0 (okT_wf ok0) (smT_bulk (by omega))).mono fun e W' ⟨he, bel⟩ => ?_
  subst he
  exact ⟨_, rfl, _, _, _, [], _, [], hW', trodAll_mk1 (shut_bool Try.underlying4 _), (trodAll_cons_mk (Below.trod laidOut (by kernel_rfl) (of_decide_eq_true (by kernel_rfl)) k0 bel lt0) trodAll_mk0), rfl, bel.frame _, fun h => by cases h⟩
theorem over : Rows.sequencerOwnUptoRow.holds Try.pinned (Rows.OpenSpec.upto Rows.sequencerOwnSpec) :=
  OpenClaim.holds_of_cond 5 Try.f5 rfl rfl rfl rfl rfl rfl rfl ⟨rfl, rfl, rfl, rfl, rfl⟩ rfl rfl rfl rfl rfl (by kernel_rfl) Try.func5 (by kernel_rfl)
    (of_decide_eq_true (by kernel_rfl)) (by unfold Func.isWrapper; first | (rw [if_pos (by decide +kernel)]; kernel_rfl) | (rw [if_neg (by decide +kernel)]; exact ⟨rfl, rfl⟩))
    (fun os started H enc _ F => lifted os started H enc F)
theorem proved : Rows.SequencerOwnUptoSaid := over
#print axioms proved
end Go.Proofs.Ytgmlpmdfkaadhaa.sequencerOwnUpto
