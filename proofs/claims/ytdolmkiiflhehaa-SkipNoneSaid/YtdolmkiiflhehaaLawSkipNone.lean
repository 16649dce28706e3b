/- SkipNone: the row: for every input the law returns true, and what was handed in reads as it did. -/
import Derived.Test.YtdolmkiiflhehaaPart1
import Derived.Test.YtdolmkiiflhehaaRows
set_option linter.unusedVariables false
namespace Go.Proofs.Ytdolmkiiflhehaa.skipNone
open Go.ChangeShapes Go.WideShapes Go.ChangeAt Go.RowKit Go.Proofs.Ytdolmkiiflhehaa.M
open Go.ChangeMaps (open_string shut_string)
open Go.Proofs.YtdolmkiiflhehaaW.PrintWords
set_option maxRecDepth 100000 in
theorem lifted (os : Os) (started : os.Started) (H : Type) (enc : TypeId × Value → H) :
    ReturnsInHanded {} Try.checked os 5 .any (Rows.skipNoneSpec.pre6 enc Try.prog Try.f5 Rows.skipNoneRow.domain false) (Rows.skipNoneSpec.post enc Try.prog Try.f5 false true false false) := by
  refine returnsInHanded_of_change_sized (C := Try.checked) own started (by kernel_rfl) Try.func5
    (ChangeSpec.witness6 (enc := enc) (C := Try.checked) false ⟨#[], #[.agg #[.int .i64 0, .int .i32 0, .int .i64 0, .int .i64 0, .int .i64 0, .int .i32 0, .int .i64 0, .int .u64 0, .int .i64 0]], []⟩ 8 (by kernel_rfl) (by kernel_rfl) (by kernel_rfl) (by kernel_rfl)) ?_
  intro W base args ds gs before hval0 hW hcnd hsz0 _
  have hval : ∀ (j : Nat) t v, Try.f5.params[j]? = some t → args[j]? = some v → Value.okWide Try.prog W .any base t v := hval0
  have hW' := hW
  obtain ⟨p, q, hA0, hV, rfl, hfz, hnd⟩ := hW
  have hA : DataW.TrodAll enc Try.prog W 0 (fun _ => true) true Try.f5.params.toList args.toList ds p := hA0
  rw [Try.params5] at hA hval
  obtain ⟨v0, vs0, d0, ds0, p0, q0, hargs, rfl, rfl, h0, r0⟩ := trodAll_cons hA
  obtain ⟨rfl, rfl, rfl⟩ := trodAll_nil r0
  obtain rfl : args = #[v0] := by cases args; simp_all
  obtain ⟨rfl, rfl⟩ := trodVars_none hV
  have k0 := h0
  have lt0 : ∀ x ∈ p0, x.block < W.heap.size := by obtain ⟨m, hm⟩ := k0; exact DataW.trod_lt m _ _ _ hm
  obtain ⟨cs0, o0o, rfl, hK0, ok0, _⟩ := arg_struct opens_op Try.underlying33 (hval 0 33 v0 rfl rfl) h0
  obtain rfl := Array.toList_inj.1 (show cs0.toList = (#[.int .i64 o0o.Do, .int .i32 o0o.c.table, .int .i64 o0o.c.row, .int .i64 o0o.c.value, .int .i64 o0o.c.slot, .int .i32 o0o.tk.1, .int .i64 o0o.tk.2, .int .u64 o0o.seed, .int .i64 o0o.stop] : Array Value).toList from op_cells (Foot.now hK0))
  clear hA0 hval0 hsz0
  refine (none_walk W o0o).mono fun e W' ⟨he, bel⟩ => ?_
  subst he
  exact ⟨_, rfl, _, _, _, [], _, [], hW', trodAll_mk1 (shut_bool Try.underlying4 _), (trodAll_cons_mk (Below.trod laidOut (by kernel_rfl) (of_decide_eq_true (by kernel_rfl)) k0 bel lt0) trodAll_mk0), rfl, bel.frame _, fun h => by cases h⟩
theorem over : Rows.skipNoneRow.holds Try.pinned (OpenSpec.ofChange Rows.skipNoneSpec) :=
  OpenClaim.holds_of_wide 5 Try.f5 rfl rfl rfl rfl rfl rfl rfl ⟨rfl, rfl, rfl, rfl, rfl⟩ rfl rfl rfl rfl rfl (by kernel_rfl) Try.func5 (by kernel_rfl)
    (of_decide_eq_true (by kernel_rfl)) (by unfold Func.isWrapper; first | (rw [if_pos (by decide +kernel)]; kernel_rfl) | (rw [if_neg (by decide +kernel)]; exact ⟨rfl, rfl⟩))
    (fun os started H enc _ => lifted os started H enc)
theorem proved : Rows.SkipNoneSaid := over
#print axioms proved
end Go.Proofs.Ytdolmkiiflhehaa.skipNone
