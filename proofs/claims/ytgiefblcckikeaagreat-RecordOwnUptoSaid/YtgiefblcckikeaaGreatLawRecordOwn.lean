/- RecordOwn (where what it reads is of bulk at most 1048576): the row: for every input the law returns true, and what was handed in reads as it did. -/
import Derived.Test.YtgiefblcckikeaaGreatPart6
import Derived.Test.YtgiefblcckikeaaGreatRows
set_option linter.unusedVariables false
namespace Go.Proofs.YtgiefblcckikeaaGreat.recordOwnUpto
open Go.ChangeShapes Go.WideShapes Go.ChangeAt Go.RowKit Go.Proofs.YtgiefblcckikeaaGreat.M
open Go.ChangeMaps (open_string shut_string)
open Go.Proofs.YtgiefblcckikeaaGreatW.PrintWords
set_option maxRecDepth 100000 in
theorem lifted (os : Os) (started : os.Started) (H : Type) (enc : TypeId × Value → H) (F : Stop.Interp) :
    ReturnsInHanded {} Tryz.checked os 8 .any ((Rows.OpenSpec.upto Rows.recordOwnSpec).pre6 enc Tryz.prog Tryz.f8 Rows.recordOwnUptoRow.domain false) (((Rows.OpenSpec.upto Rows.recordOwnSpec).at F).post enc Tryz.prog Tryz.f8 false true false false) := by
  refine returnsInHanded_of_cond_sized (C := Tryz.checked) (s := Rows.OpenSpec.upto Rows.recordOwnSpec) (k := Rows.uptoSmall) rfl own started (by kernel_rfl) Tryz.func8
    (OpenSpec.witness (enc := enc) (C := Tryz.checked) (s := Rows.OpenSpec.upto Rows.recordOwnSpec) (k := Rows.uptoSmall) rfl false ⟨#[], #[.agg #[.int .i64 0, .int .i64 0, .int .i64 0, .slice none 0 0], .agg #[.int .i64 0, .int .i64 0, .int .i64 0, .int .i64 0, .int .i64 0, .int .i64 0, .int .i64 0, .bool false, .slice none 0 0, .int .i64 0, .int .i64 0, .int .i64 0, .slice none 0 0, .int .i64 0, .int .i64 0, .int .i64 0, .slice none 0 0]], []⟩ 8 (by kernel_rfl) (by kernel_rfl) (by kernel_rfl) (x := ([.agg [.lit (.int .i64 0), .lit (.int .i64 0), .lit (.int .i64 0), .nil], .agg [.lit (.int .i64 0), .lit (.int .i64 0), .lit (.int .i64 0), .lit (.int .i64 0), .lit (.int .i64 0), .lit (.int .i64 0), .lit (.int .i64 0), .lit (.bool false), .nil, .agg [.lit (.int .i64 0), .lit (.int .i64 0), .lit (.int .i64 0), .nil], .agg [.lit (.int .i64 0), .lit (.int .i64 0), .lit (.int .i64 0), .nil]]], [], [])) (by kernel_rfl) rfl (by kernel_rfl)) ?_
  intro W base args ds gs before hval0 hW hcnd hk hsz0 _
  have hval : ∀ (j : Nat) t v, Tryz.f8.params[j]? = some t → args[j]? = some v → Value.okWide Tryz.prog W .any base t v := hval0
  have hW' := hW
  obtain ⟨p, q, hA0, hV, rfl, hfz, hnd⟩ := hW
  have hA : DataW.TrodAll enc Tryz.prog W 0 (fun _ => true) true Tryz.f8.params.toList args.toList ds p := hA0
  rw [Tryz.params8] at hA hval
  obtain ⟨v0, vs0, d0, ds0, p0, q0, hargs, rfl, rfl, h0, r0⟩ := trodAll_cons hA
  obtain ⟨v1, vs1, d1, ds1, p1, q1, rfl, rfl, rfl, h1, r1⟩ := trodAll_cons r0
  obtain ⟨rfl, rfl, rfl⟩ := trodAll_nil r1
  obtain rfl : args = #[v0, v1] := by cases args; simp_all
  obtain ⟨rfl, rfl⟩ := trodVars_none hV
  have k0 := h0
  have lt0 : ∀ x ∈ p0, x.block < W.heap.size := by obtain ⟨m, hm⟩ := k0; exact DataW.trod_lt m _ _ _ hm
  have k1 := h1
  have lt1 : ∀ x ∈ p1, x.block < W.heap.size := by obtain ⟨m, hm⟩ := k1; exact DataW.trod_lt m _ _ _ hm
  have hbulk : Rows.uptoBulkAll _ ≤ 1048576 := of_decide_eq_true hk
  simp only [List.append_nil, Rows.uptoBulkAll] at hbulk
  obtain ⟨cs0, e0e, rfl, hK0, ok0, sz0⟩ := arg_struct opens_ent Tryz.underlying29 (hval 0 29 v0 rfl rfl) h0
  obtain ⟨A0, c0, hcs0, hl0, hC0⟩ := G.k29_open (Foot.now hK0)
  obtain rfl := Array.toList_inj.1 (show cs0.toList = (#[.int .i64 e0e.f0, .int .i64 e0e.f1, .int .i64 e0e.f2, .slice A0 e0e.f3.length c0] : Array Value).toList from hcs0)
  obtain ⟨cs1, m1m, rfl, hK1, ok1, sz1⟩ := arg_struct opens_msg Tryz.underlying34 (hval 1 34 v1 rfl rfl) h1
  obtain ⟨A18, c18, A112, c112, A116, c116, hcs1, hC1⟩ := kM_open (Foot.now hK1)
  obtain rfl := Array.toList_inj.1 (show cs1.toList = (msgCells m1m A18 c18 A112 c112 A116 c116).toList from hcs1)
  clear hA0 hval0 hsz0
  refine (own_walk W e0e m1m hC0 hl0 (smE_of (by omega)) hC1 (smM_of (by omega)) (okM_of ok1) (okB_of_wf ok1.2.2.2.2.2.2.2.2.2.2.2.2.2.2)).mono fun e W' ⟨he, bel⟩ => ?_
  subst he
  exact ⟨_, rfl, _, _, _, [], _, [], hW', trodAll_mk1 (shut_bool Tryz.underlying4 _), (trodAll_cons_mk (Below.trod laidOut (by kernel_rfl) (of_decide_eq_true (by kernel_rfl)) k0 bel lt0) (trodAll_cons_mk (Below.trod laidOut (by kernel_rfl) (of_decide_eq_true (by kernel_rfl)) k1 bel lt1) trodAll_mk0)), rfl, bel.frame _, fun h => by cases h⟩
theorem over : Rows.recordOwnUptoRow.holds Tryz.pinned (Rows.OpenSpec.upto Rows.recordOwnSpec) :=
  OpenClaim.holds_of_cond 8 Tryz.f8 rfl rfl rfl rfl rfl rfl rfl ⟨rfl, rfl, rfl, rfl, rfl⟩ rfl rfl rfl rfl rfl (by kernel_rfl) Tryz.func8 (by kernel_rfl)
    (of_decide_eq_true (by kernel_rfl)) (by unfold Func.isWrapper; first | (rw [if_pos (by decide +kernel)]; kernel_rfl) | (rw [if_neg (by decide +kernel)]; exact ⟨rfl, rfl⟩))
    (fun os started H enc _ F => lifted os started H enc F)
theorem proved : Rows.RecordOwnUptoSaid := over
#print axioms proved
end Go.Proofs.YtgiefblcckikeaaGreat.recordOwnUpto
