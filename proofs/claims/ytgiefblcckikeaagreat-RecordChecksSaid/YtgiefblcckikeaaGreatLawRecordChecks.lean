/- RecordChecks: the row: for every input the law returns true, and what was handed in reads as it did. -/
import Derived.Test.YtgiefblcckikeaaGreatPart7
import Derived.Test.YtgiefblcckikeaaGreatRows
set_option linter.unusedVariables false
namespace Go.Proofs.YtgiefblcckikeaaGreat.recordChecks
open Go.ChangeShapes Go.WideShapes Go.ChangeAt Go.RowKit Go.Proofs.YtgiefblcckikeaaGreat.M
open Go.ChangeMaps (open_string shut_string)
open Go.Proofs.YtgiefblcckikeaaGreatW.PrintWords
set_option maxRecDepth 100000 in
theorem lifted (os : Os) (started : os.Started) (H : Type) (enc : TypeId × Value → H) :
    ReturnsInHanded {} Tryz.checked os 3 .any (Rows.recordChecksSpec.pre6 enc Tryz.prog Tryz.f3 Rows.recordChecksRow.domain false) (Rows.recordChecksSpec.post enc Tryz.prog Tryz.f3 false true false false) := by
  refine returnsInHanded_of_change_sized (C := Tryz.checked) own started (by kernel_rfl) Tryz.func3
    (ChangeSpec.witness6 (enc := enc) (C := Tryz.checked) false ⟨#[], #[.slice none 0 0, .agg #[.int .i64 0, .int .i64 0, .slice none 0 0, .slice none 0 0, .slice none 0 0, .slice none 0 0], .agg #[.int .i64 0, .int .i64 0, .int .i64 0, .slice none 0 0], .agg #[.int .i64 0, .int .i64 0, .int .i64 0, .int .i64 0, .int .i64 0, .int .i64 0, .int .i64 0, .bool false, .slice none 0 0, .int .i64 0, .int .i64 0, .int .i64 0, .slice none 0 0, .int .i64 0, .int .i64 0, .int .i64 0, .slice none 0 0]], []⟩ 8 (by kernel_rfl) (by kernel_rfl) (by kernel_rfl) (by kernel_rfl)) ?_
  intro W base args ds gs before hval0 hW hcnd hsz0 _
  have hval : ∀ (j : Nat) t v, Tryz.f3.params[j]? = some t → args[j]? = some v → Value.okWide Tryz.prog W .any base t v := hval0
  have hW' := hW
  obtain ⟨p, q, hA0, hV, rfl, hfz, hnd⟩ := hW
  have hA : DataW.TrodAll enc Tryz.prog W 0 (fun _ => true) true Tryz.f3.params.toList args.toList ds p := hA0
  rw [Tryz.params3] at hA hval
  obtain ⟨v0, vs0, d0, ds0, p0, q0, hargs, rfl, rfl, h0, r0⟩ := trodAll_cons hA
  obtain ⟨v1, vs1, d1, ds1, p1, q1, rfl, rfl, rfl, h1, r1⟩ := trodAll_cons r0
  obtain ⟨v2, vs2, d2, ds2, p2, q2, rfl, rfl, rfl, h2, r2⟩ := trodAll_cons r1
  obtain ⟨v3, vs3, d3, ds3, p3, q3, rfl, rfl, rfl, h3, r3⟩ := trodAll_cons r2
  obtain ⟨rfl, rfl, rfl⟩ := trodAll_nil r3
  obtain rfl : args = #[v0, v1, v2, v3] := by cases args; simp_all
  obtain ⟨rfl, rfl⟩ := trodVars_none hV
  have k0 := h0
  have lt0 : ∀ x ∈ p0, x.block < W.heap.size := by obtain ⟨m, hm⟩ := k0; exact DataW.trod_lt m _ _ _ hm
  have k1 := h1
  have lt1 : ∀ x ∈ p1, x.block < W.heap.size := by obtain ⟨m, hm⟩ := k1; exact DataW.trod_lt m _ _ _ hm
  have k2 := h2
  have lt2 : ∀ x ∈ p2, x.block < W.heap.size := by obtain ⟨m, hm⟩ := k2; exact DataW.trod_lt m _ _ _ hm
  have k3 := h3
  have lt3 : ∀ x ∈ p3, x.block < W.heap.size := by obtain ⟨m, hm⟩ := k3; exact DataW.trod_lt m _ _ _ hm
  obtain ⟨A0, c0, l0, rfl, hc0, hF0, ok0, _⟩ := arg_slice opens_keys opens_key.heap Tryz.underlying22 (hval 0 22 v0 rfl rfl) h0
  obtain ⟨cs1, t1t, rfl, hK1, ok1, _⟩ := arg_struct opens_txn Tryz.underlying26 (hval 1 26 v1 rfl rfl) h1
  obtain ⟨A12, c12, A13, c13, A14, c14, A15, c15, hcs1, hl12, hC12, hl13, hC13, hl14, hC14, hl15, hC15⟩ := G.k26_open (Foot.now hK1)
  obtain rfl := Array.toList_inj.1 (show cs1.toList = (#[.int .i64 t1t.f0, .int .i64 t1t.f1, .slice A12 t1t.f2.length c12, .slice A13 t1t.f3.length c13, .slice A14 t1t.f4.length c14, .slice A15 t1t.f5.length c15] : Array Value).toList from hcs1)
  obtain ⟨cs2, e2e, rfl, hK2, ok2, _⟩ := arg_struct opens_ent Tryz.underlying29 (hval 2 29 v2 rfl rfl) h2
  obtain ⟨A2, c2, hcs2, hl2, hC2⟩ := G.k29_open (Foot.now hK2)
  obtain rfl := Array.toList_inj.1 (show cs2.toList = (#[.int .i64 e2e.f0, .int .i64 e2e.f1, .int .i64 e2e.f2, .slice A2 e2e.f3.length c2] : Array Value).toList from hcs2)
  obtain ⟨cs3, m3m, rfl, hK3, ok3, _⟩ := arg_struct opens_msg Tryz.underlying34 (hval 3 34 v3 rfl rfl) h3
  obtain ⟨A38, c38, A312, c312, A316, c316, hcs3, hC3⟩ := kM_open (Foot.now hK3)
  obtain rfl := Array.toList_inj.1 (show cs3.toList = (msgCells m3m A38 c38 A312 c312 A316 c316).toList from hcs3)
  clear hA0 hval0 hsz0
  refine (checks_walk W l0 t1t e2e m3m (Foot.now hF0) hc0 ⟨hl12, hC12, hl13, hC13, hl14, hC14, hl15, hC15⟩ hC2 hl2 hC3 (i64_of ok3.2.2.2.2.2.2.2.2.2.2.2.2.1)).mono fun e W' ⟨he, bel⟩ => ?_
  subst he
  exact ⟨_, rfl, _, _, _, [], _, [], hW', trodAll_mk1 (shut_bool Tryz.underlying4 _), (trodAll_cons_mk (Below.trod laidOut (by kernel_rfl) (of_decide_eq_true (by kernel_rfl)) k0 bel lt0) (trodAll_cons_mk (Below.trod laidOut (by kernel_rfl) (of_decide_eq_true (by kernel_rfl)) k1 bel lt1) (trodAll_cons_mk (Below.trod laidOut (by kernel_rfl) (of_decide_eq_true (by kernel_rfl)) k2 bel lt2) (trodAll_cons_mk (Below.trod laidOut (by kernel_rfl) (of_decide_eq_true (by kernel_rfl)) k3 bel lt3) trodAll_mk0)))), rfl, bel.frame _, fun h => by cases h⟩
theorem over : Rows.recordChecksRow.holds Tryz.pinned (OpenSpec.ofChange Rows.recordChecksSpec) :=
  OpenClaim.holds_of_wide 3 Tryz.f3 rfl rfl rfl rfl rfl rfl rfl ⟨rfl, rfl, rfl, rfl, rfl⟩ rfl rfl rfl rfl rfl (by kernel_rfl) Tryz.func3 (by kernel_rfl)
    (of_decide_eq_true (by kernel_rfl)) (by unfold Func.isWrapper; first | (rw [if_pos (by decide +kernel)]; kernel_rfl) | (rw [if_neg (by decide +kernel)]; exact ⟨rfl, rfl⟩))
    (fun os started H enc _ => lifted os started H enc)
theorem proved : Rows.RecordChecksSaid := over
#print axioms proved
end Go.Proofs.YtgiefblcckikeaaGreat.recordChecks
