/- SequencerNone: the row: for every input the law returns true, and what was handed in reads as it did. -/
import Derived.Test.YtgmlpmdfkaadhaaPart2
import Derived.Test.YtgmlpmdfkaadhaaRows
set_option linter.unusedVariables false
namespace Go.Proofs.Ytgmlpmdfkaadhaa.sequencerNone
open Go.ChangeShapes Go.WideShapes Go.ChangeAt Go.RowKit Go.Proofs.Ytgmlpmdfkaadhaa.M
open Go.ChangeMaps (open_string shut_string)
open Go.Proofs.YtgmlpmdfkaadhaaW.PrintWords
set_option maxRecDepth 100000 in
theorem lifted (os : Os) (started : os.Started) (H : Type) (enc : TypeId × Value → H) :
    ReturnsInHanded {} Try.checked os 7 .any (Rows.sequencerNoneSpec.pre6 enc Try.prog Try.f7 Rows.sequencerNoneRow.domain false) (Rows.sequencerNoneSpec.post enc Try.prog Try.f7 false true false false) := by
  refine returnsInHanded_of_change_sized (C := Try.checked) own started (by kernel_rfl) Try.func7
    (ChangeSpec.witness6 (enc := enc) (C := Try.checked) false ⟨#[], #[.agg #[.int .i64 0, .int .i64 0, .int .i64 0, .slice none 0 0, .slice none 0 0, .slice none 0 0, .slice none 0 0]], []⟩ 8 (by kernel_rfl) (by kernel_rfl) (by kernel_rfl) (by kernel_rfl)) ?_
  intro W base args ds gs before hval0 hW hcnd hsz0 _
  have hval : ∀ (j : Nat) t v, Try.f7.params[j]? = some t → args[j]? = some v → Value.okWide Try.prog W .any base t v := hval0
  have hW' := hW
  obtain ⟨p, q, hA0, hV, rfl, hfz, hnd⟩ := hW
  have hA : DataW.TrodAll enc Try.prog W 0 (fun _ => true) true Try.f7.params.toList args.toList ds p := hA0
  rw [Try.params7] at hA hval
  obtain ⟨v0, vs0, d0, ds0, p0, q0, hargs, rfl, rfl, h0, r0⟩ := trodAll_cons hA
  obtain ⟨rfl, rfl, rfl⟩ := trodAll_nil r0
  obtain rfl : args = #[v0] := by cases args; simp_all
  obtain ⟨rfl, rfl⟩ := trodVars_none hV
  have k0 := h0
  have lt0 : ∀ x ∈ p0, x.block < W.heap.size := by obtain ⟨m, hm⟩ := k0; exact DataW.trod_lt m _ _ _ hm
  obtain ⟨cs0, o0o, rfl, hK0, ok0, _⟩ := arg_struct opens_op Try.underlying59 (hval 0 59 v0 rfl rfl) h0
  obtain ⟨A2, c2, A3, c3, A4, c4, A5, c5, he, hF0⟩ := op_cells hK0
  obtain rfl := Array.toList_inj.1 (show cs0.toList = (#[.int .i64 o0o.k, .int .i64 o0o.t.f0, .int .i64 o0o.t.f1, .slice A2 o0o.t.f2.length c2, .slice A3 o0o.t.f3.length c3, .slice A4 o0o.t.f4.length c4, .slice A5 o0o.t.f5.length c5] : Array Value).toList from he)
  clear hA0 hval0 hsz0
  refine (none_walk W o0o.k o0o.t A2 A3 A4 A5 c2 c3 c4 c5).mono fun e W' ⟨he, bel⟩ => ?_
  subst he
  exact ⟨_, rfl, _, _, _, [], _, [], hW', trodAll_mk1 (shut_bool Try.underlying4 _), (trodAll_cons_mk (Below.trod laidOut (by kernel_rfl) (of_decide_eq_true (by kernel_rfl)) k0 bel lt0) trodAll_mk0), rfl, bel.frame _, fun h => by cases h⟩
theorem over : Rows.sequencerNoneRow.holds Try.pinned (OpenSpec.ofChange Rows.sequencerNoneSpec) :=
  OpenClaim.holds_of_wide 7 Try.f7 rfl rfl rfl rfl rfl rfl rfl ⟨rfl, rfl, rfl, rfl, rfl⟩ rfl rfl rfl rfl rfl (by kernel_rfl) Try.func7 (by kernel_rfl)
    (of_decide_eq_true (by kernel_rfl)) (by unfold Func.isWrapper; first | (rw [if_pos (by decide +kernel)]; kernel_rfl) | (rw [if_neg (by decide +kernel)]; exact ⟨rfl, rfl⟩))
    (fun os started H enc _ => lifted os started H enc)
theorem proved : Rows.SequencerNoneSaid := over
#print axioms proved
end Go.Proofs.Ytgmlpmdfkaadhaa.sequencerNone
