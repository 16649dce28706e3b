/- RecordSames (where what it reads is of bulk at most 1048576): the row: for every input the law returns true, and what was handed in reads as it did. -/
import Derived.Test.YtgiefblcckikeaaPart6
import Derived.Test.YtgiefblcckikeaaRows
set_option linter.unusedVariables false
namespace Go.Proofs.Ytgiefblcckikeaa.recordSamesUpto
open Go.ChangeShapes Go.WideShapes Go.ChangeAt Go.RowKit Go.Proofs.Ytgiefblcckikeaa.M
open Go.ChangeMaps (open_string shut_string)
open Go.Proofs.YtgiefblcckikeaaW
open Go.Proofs.YtgiefblcckikeaaW.PrintWords
set_option maxRecDepth 100000 in
theorem lifted (os : Os) (started : os.Started) (H : Type) (enc : TypeId × Value → H) (F : Stop.Interp) :
    ReturnsInHanded {} Try.checked os 6 .any ((Rows.OpenSpec.upto Rows.recordSamesSpec).pre6 enc Try.prog Try.f6 Rows.recordSamesUptoRow.domain false) (((Rows.OpenSpec.upto Rows.recordSamesSpec).at F).post enc Try.prog Try.f6 false true false false) := by
  refine returnsInHanded_of_cond_sized (C := Try.checked) (s := Rows.OpenSpec.upto Rows.recordSamesSpec) (k := Rows.uptoSmall) rfl own started (by kernel_rfl) Try.func6
    (OpenSpec.witness (enc := enc) (C := Try.checked) (s := Rows.OpenSpec.upto Rows.recordSamesSpec) (k := Rows.uptoSmall) rfl false ⟨#[], #[.agg #[.int .i64 0, .int .i64 0, .int .i64 0, .slice none 0 0], .agg #[.int .i64 0, .int .i64 0, .int .i64 0, .slice none 0 0], .agg #[.int .i64 0, .int .i64 0, .int .i64 0, .int .i64 0, .int .i64 0, .int .i64 0, .int .i64 0, .bool false, .slice none 0 0, .int .i64 0, .int .i64 0, .int .i64 0, .slice none 0 0, .int .i64 0, .int .i64 0, .int .i64 0, .slice none 0 0], .agg #[.int .i64 0, .int .i64 0, .int .i64 0, .int .i64 0, .int .i64 0, .int .i64 0, .int .i64 0, .bool false, .slice none 0 0, .int .i64 0, .int .i64 0, .int .i64 0, .slice none 0 0, .int .i64 0, .int .i64 0, .int .i64 0, .slice none 0 0]], []⟩ 8 (by kernel_rfl) (by kernel_rfl) (by kernel_rfl) (x := ([.agg [.lit (.int .i64 0), .lit (.int .i64 0), .lit (.int .i64 0), .nil], .agg [.lit (.int .i64 0), .lit (.int .i64 0), .lit (.int .i64 0), .nil], .agg [.lit (.int .i64 0), .lit (.int .i64 0), .lit (.int .i64 0), .lit (.int .i64 0), .lit (.int .i64 0), .lit (.int .i64 0), .lit (.int .i64 0), .lit (.bool false), .nil, .agg [.lit (.int .i64 0), .lit (.int .i64 0), .lit (.int .i64 0), .nil], .agg [.lit (.int .i64 0), .lit (.int .i64 0), .lit (.int .i64 0), .nil]], .agg [.lit (.int .i64 0), .lit (.int .i64 0), .lit (.int .i64 0), .lit (.int .i64 0), .lit (.int .i64 0), .lit (.int .i64 0), .lit (.int .i64 0), .lit (.bool false), .nil, .agg [.lit (.int .i64 0), .lit (.int .i64 0), .lit (.int .i64 0), .nil], .agg [.lit (.int .i64 0), .lit (.int .i64 0), .lit (.int .i64 0), .nil]]], [], [])) (by kernel_rfl) rfl (by kernel_rfl)) ?_
  intro W base args ds gs before hval0 hW hcnd hk hsz0 _
  have hval : ∀ (j : Nat) t v, Try.f6.params[j]? = some t → args[j]? = some v → Value.okWide Try.prog W .any base t v := hval0
  have hW' := hW
  obtain ⟨p, q, hA0, hV, rfl, hfz, hnd⟩ := hW
  have hA : DataW.TrodAll enc Try.prog W 0 (fun _ => true) true Try.f6.params.toList args.toList ds p := hA0
  rw [Try.params6] at hA hval
  obtain ⟨v0, vs0, d0, ds0, p0, q0, hargs, rfl, rfl, h0, r0⟩ := trodAll_cons hA
  obtain ⟨v1, vs1, d1, ds1, p1, q1, rfl, rfl, rfl, h1, r1⟩ := trodAll_cons r0
  obtain ⟨v2, vs2, d2, ds2, p2, q2, rfl, rfl, rfl, h2, r2⟩ := trodAll_cons r1
  obtain ⟨v3, vs3, d3, ds3, p3, q3, rfl, rfl, rfl, h3, r3⟩ := trodAll_cons r2
  obtain ⟨rfl, rfl, rfl⟩ := trodAll_nil r3
  obtain rfl : args = #[v0, v1, v2, v3] := by cases args; simp_all
  obtain ⟨rfl, rfl⟩ := trodVars_none hV
  have k0 := h0
  have lt0 : ∀ x ∈ p0, x.block < W.heap.size := by obtain ⟨m, hm⟩ := k0; exact DataW.trod_lt m _ _ _ hm
  have k1 := h1
  have lt1 : ∀ x ∈ p1, x.block < W.heap.size := by obtain ⟨m, hm⟩ := k1; exact DataW.trod_lt m _ _ _ hm
  have k2 := h2
  have lt2 : ∀ x ∈ p2, x.block < W.heap.size := by obtain ⟨m, hm⟩ := k2; exact DataW.trod_lt m _ _ _ hm
  have k3 := h3
  have lt3 : ∀ x ∈ p3, x.block < W.heap.size := by obtain ⟨m, hm⟩ := k3; exact DataW.trod_lt m _ _ _ hm
  have hbulk : Rows.uptoBulkAll _ ≤ 1048576 := of_decide_eq_true hk
  simp only [List.append_nil, Rows.uptoBulkAll] at hbulk
  obtain ⟨cs0, e0e, rfl, hK0, ok0, sz0⟩ := arg_struct opens_ent Try.underlying24 (hval 0 24 v0 rfl rfl) h0
  obtain ⟨A0, c0, hcs0, hl0, hC0⟩ := G.k24_open (Foot.now hK0)
  obtain rfl := Array.toList_inj.1 (show cs0.toList = (#[.int .i64 e0e.f0, .int .i64 e0e.f1, .int .i64 e0e.f2, .slice A0 e0e.f3.length c0] : Array Value).toList from hcs0)
  obtain ⟨cs1, e1e, rfl, hK1, ok1, sz1⟩ := arg_struct opens_ent Try.underlying24 (hval 1 24 v1 rfl rfl) h1
  obtain ⟨A1, c1, hcs1, hl1, hC1⟩ := G.k24_open (Foot.now hK1)
  obtain rfl := Array.toList_inj.1 (show cs1.toList = (#[.int .i64 e1e.f0, .int .i64 e1e.f1, .int .i64 e1e.f2, .slice A1 e1e.f3.length c1] : Array Value).toList from hcs1)
  obtain ⟨cs2, m2m, rfl, hK2, ok2, sz2⟩ := arg_struct opens_msg Try.underlying57 (hval 2 57 v2 rfl rfl) h2
  obtain ⟨A28, c28, A212, c212, A216, c216, hcs2, hC2⟩ := kM_open (Foot.now hK2)
  obtain rfl := Array.toList_inj.1 (show cs2.toList = (msgCells m2m A28 c28 A212 c212 A216 c216).toList from hcs2)
  obtain ⟨cs3, m3m, rfl, hK3, ok3, sz3⟩ := arg_struct opens_msg Try.underlying57 (hval 3 57 v3 rfl rfl) h3
  obtain ⟨A38, c38, A312, c312, A316, c316, hcs3, hC3⟩ := kM_open (Foot.now hK3)
  obtain rfl := Array.toList_inj.1 (show cs3.toList = (msgCells m3m A38 c38 A312 c312 A316 c316).toList from hcs3)
  clear hA0 hval0 hsz0
  refine (sames_walk W e0e e1e m2m m3m hl0 hC0 hl1 hC1 hC2 hC3 (smE_of (by omega)) (smE_of (by omega)) (smM_of (by omega))).mono fun e W' ⟨he, bel⟩ => ?_
  subst he
  exact ⟨_, rfl, _, _, _, [], _, [], hW', trodAll_mk1 (shut_bool Try.underlying4 _), (trodAll_cons_mk (Below.trod laidOut (by kernel_rfl) (of_decide_eq_true (by kernel_rfl)) k0 bel lt0) (trodAll_cons_mk (Below.trod laidOut (by kernel_rfl) (of_decide_eq_true (by kernel_rfl)) k1 bel lt1) (trodAll_cons_mk (Below.trod laidOut (by kernel_rfl) (of_decide_eq_true (by kernel_rfl)) k2 bel lt2) (trodAll_cons_mk (Below.trod laidOut (by kernel_rfl) (of_decide_eq_true (by kernel_rfl)) k3 bel lt3) trodAll_mk0)))), rfl, bel.frame _, fun h => by cases h⟩
theorem over : Rows.recordSamesUptoRow.holds Try.pinned (Rows.OpenSpec.upto Rows.recordSamesSpec) :=
  OpenClaim.holds_of_cond 6 Try.f6 rfl rfl rfl rfl rfl rfl rfl ⟨rfl, rfl, rfl, rfl, rfl⟩ rfl rfl rfl rfl rfl (by kernel_rfl) Try.func6 (by kernel_rfl)
    (of_decide_eq_true (by kernel_rfl)) (by unfold Func.isWrapper; first | (rw [if_pos (by decide +kernel)]; kernel_rfl) | (rw [if_neg (by decide +kernel)]; exact ⟨rfl, rfl⟩))
    (fun os started H enc _ F => lifted os started H enc F)
theorem proved : Rows.RecordSamesUptoSaid := over
#print axioms proved
end Go.Proofs.Ytgiefblcckikeaa.recordSamesUpto
