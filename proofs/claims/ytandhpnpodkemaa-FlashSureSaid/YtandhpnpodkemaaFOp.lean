/- An operation of a script, read. -/
import Derived.Test.YtandhpnpodkemaaMOpen
import Derived.Test.YtandhpnpodkemaaWN
import Derived.Test.YtandhpnpodkemaaFClone
set_option linter.unusedVariables false
set_option linter.unusedSimpArgs false
set_option maxRecDepth 100000
namespace Go.Proofs.Ytandhpnpodkemaa.M
open Go.RowKit Go.Proofs.YtandhpnpodkemaaW.PrintWords

structure OpD where
  Do : Int
  Block : Int
  Page : Int
  At : Int
  Keep : Int
  B : List Int
def OpD.t (o : OpD) : Int × Int × Int × Int × Int × List Int := (o.Do, o.Block, o.Page, o.At, o.Keep, o.B)
def opT : Kd (Int × Int × Int × Int × Int × List Int) := Kd.pair (Kd.int .i64) (Kd.pair (Kd.int .i64) (Kd.pair (Kd.int .i64) (Kd.pair (Kd.int .i64) (Kd.pair (Kd.int .i64) (Kd.slice 5 (Kd.int .u8))))))
def opK : Kd OpD := Kd.iso opT OpD.t
abbrev I64 (x : Int) : Prop := (Lit.int .i64 x).wf = true
def okL (l : List Int) : Prop := l.length ≤ 9223372036854775807 ∧ ∀ x ∈ l, (Lit.int .u8 x).wf = true
def okOp (o : OpD) : Prop := I64 o.Do ∧ I64 o.Block ∧ I64 o.Page ∧ I64 o.At ∧ I64 o.Keep ∧ okL o.B
theorem opens_i64 : Opens Try.prog 3 (Kd.int .i64) I64 (fun _ => 1) := opens_int Try.underlying3 (by kernel_rfl)
theorem opens_u8 : Opens Try.prog 5 (Kd.int .u8) (fun x => (Lit.int .u8 x).wf = true) (fun _ => 1) := opens_int Try.underlying5 (by kernel_rfl)
theorem opens_bytes : Opens Try.prog 29 (Kd.slice 5 (Kd.int .u8)) okL (szL (fun _ => 1)) := opens_slice Try.underlying29 (by kernel_rfl) opens_u8
theorem opens_op : Opens Try.prog 31 opK okOp (fun o => 1 + (1 + (1 + (1 + (1 + szL (fun _ => 1) o.B)))) + 1) :=
  opens_struct (d := opT) OpD.t (fun x => ⟨x.1, x.2.1, x.2.2.1, x.2.2.2.1, x.2.2.2.2.1, x.2.2.2.2.2⟩) (fun _ => rfl) Try.underlying31 (by kernel_rfl)
    (opensL_cons rfl opens_i64 (opensL_cons rfl opens_i64 (opensL_cons rfl opens_i64 (opensL_cons rfl opens_i64 (opensL_cons rfl opens_i64 (opensL_one rfl opens_bytes))))))
theorem opens_ops : Opens Try.prog 22 (Kd.slice 31 opK) (fun l => l.length ≤ 9223372036854775807 ∧ ∀ x ∈ l, okOp x) (szL (fun o => 1 + (1 + (1 + (1 + (1 + szL (fun _ => 1) o.B)))) + 1)) := opens_slice Try.underlying22 (by kernel_rfl) opens_op
def zOp : OpD := ⟨0, 0, 0, 0, 0, []⟩
/-- What an operation's cells say. -/
theorem op_cells {W : World} {ok : Nat → Prop} {o : OpD} {c : List Value} (h : Kd.FK opK W ok o c) : ∃ B cb, c = [.int .i64 o.Do, .int .i64 o.Block, .int .i64 o.Page, .int .i64 o.At, .int .i64 o.Keep, .slice B o.B.length cb] ∧ Kd.F (Kd.int .u8) W ok B o.B.length o.B ∧ o.B.length ≤ cb := by
  have cell : ∀ {W' : World}, opK.K W' o c → ∃ B cb, c = [.int .i64 o.Do, .int .i64 o.Block, .int .i64 o.Page, .int .i64 o.At, .int .i64 o.Keep, .slice B o.B.length cb] ∧ (Kd.int .u8).C W' B o.B.length o.B ∧ o.B.length ≤ cb := by
    rintro W' ⟨c0, d0, rfl, rfl, c1, d1, rfl, rfl, c2, d2, rfl, rfl, c3, d3, rfl, rfl, c4, d4, rfl, rfl, B, cb, rfl, hl, hc⟩
    exact ⟨B, cb, rfl, hc, hl⟩
  obtain ⟨B, cb, rfl, h1, h2⟩ := cell (Foot.now h)
  refine ⟨B, cb, rfl, fun W' hW => ?_, h2⟩
  obtain ⟨B', cb', he, h3, h4⟩ := cell (h W' hW)
  simp only [List.cons.injEq, Value.slice.injEq, and_true, true_and] at he
  obtain ⟨rfl, rfl⟩ := he
  exact h3
/-- The k-th operation of a script. -/
theorem op_get {W : World} {ok : Nat → Prop} {A : Option Addr} {n : Nat} {l : List OpD} (h : Kd.F opK W ok A n l) {k : Nat} {o : OpD} (hk : l[k]? = some o) :
    ∃ ad B cb, A = some ad ∧ (W.cell? (ad.add (k * 6)) = some (.int .i64 o.Do) ∧ W.cell? ⟨(ad.add (k * 6)).block, (ad.add (k * 6)).off + 1, none⟩ = some (.int .i64 o.Block) ∧ W.cell? ⟨(ad.add (k * 6)).block, (ad.add (k * 6)).off + 2, none⟩ = some (.int .i64 o.Page) ∧
      W.cell? ⟨(ad.add (k * 6)).block, (ad.add (k * 6)).off + 3, none⟩ = some (.int .i64 o.At) ∧ W.cell? ⟨(ad.add (k * 6)).block, (ad.add (k * 6)).off + 4, none⟩ = some (.int .i64 o.Keep) ∧ W.cell? ⟨(ad.add (k * 6)).block, (ad.add (k * 6)).off + 5, none⟩ = some (.slice B o.B.length cb)) ∧
      Kd.F (Kd.int .u8) W ok B o.B.length o.B ∧ o.B.length ≤ cb := by
  have hlt : k < n := by
    have := (List.getElem?_eq_some_iff.1 hk).1
    have := Kd.F_len h
    omega
  obtain ⟨ad, c, rfl, hcl, hK, hcc, _⟩ := Kd.F_get h zOp (k : Int) (by omega) (by omega)
  have e : l.getD (k : Int).toNat zOp = o := by rw [Int.toNat_natCast, List.getD_eq_getElem?_getD, hk]; rfl
  rw [e] at hK
  rw [Int.toNat_natCast] at hcc
  obtain ⟨B, cb, rfl, h1, h2⟩ := op_cells hK
  have hs : opK.sz = 6 := rfl
  rw [hs] at hcc
  refine ⟨ad, B, cb, rfl, ⟨by simpa using hcc 0 _ rfl, ?_, ?_, ?_, ?_, ?_⟩, h1, h2⟩
  · rw [← add_field ad (k * 6) 1 (by omega)]; exact hcc 1 _ rfl
  · rw [← add_field ad (k * 6) 2 (by omega)]; exact hcc 2 _ rfl
  · rw [← add_field ad (k * 6) 3 (by omega)]; exact hcc 3 _ rfl
  · rw [← add_field ad (k * 6) 4 (by omega)]; exact hcc 4 _ rfl
  · rw [← add_field ad (k * 6) 5 (by omega)]; exact hcc 5 _ rfl
end Go.Proofs.Ytandhpnpodkemaa.M
