/- RecordWritesSaid: contracts of the functions that the law goes through, put together in build order (part 4 of 7). -/
import Derived.Test.YtgiefblcckikeaaGreatPart2
import Derived.Test.YtgiefblcckikeaaGreatRows
import Derived.WalkKit
import Derived.ProofKit
import Derived.OpenShut
import Derived.ShutString
import Derived.ChangeOld
import Derived.Below
import Derived.SizedLaws
import Derived.Deep.CondSized
import Derived.Laws.Rows
import Derived.BigRegion
import Derived.Laws.Tables
set_option linter.unusedVariables false
set_option linter.unusedSimpArgs false
set_option maxRecDepth 100000
section
/- What a law is handed: any type of numbers, bools, slices and structs, opened as Lean data (its kind 'Kd'), with its bounds; the row's frame. -/
namespace Go.Proofs.YtgiefblcckikeaaGreat.M
open Go.RowKit Go.ChangeShapes Go.WideShapes Go.ChangeAt Go.Proofs.YtgiefblcckikeaaGreatW.PrintWords
structure Opens {α : Type} (P : Program) (T : TypeId) (d : Kd α) (ok : α → Prop) (sz : α → Nat) : Prop where
 cells : P.cellsOf T = d.sz
 heap : Kd.Heap d
 open_ : ∀ {H : Type} {enc : TypeId × Value → H} {W : World} {base : Nat} {spare : Nat → Bool} {held : Bool} {fuel : Nat} {cs : List Value} {x : DataW H × List MemPlace},
  DataW.trod enc P W base spare held fuel T cs = some x → ∃ y, d.K W y cs ∧ ok y ∧ sz y ≤ Rows.uptoBulk x.1
theorem opens_int {P : Program} {T : TypeId} {k : IntKind} (ht : P.underlying T = some (.int k)) (hc : P.cellsOf T = 1) : Opens P T (Kd.int k) (fun x => (Lit.int k x).wf = true) (fun _ => 1) :=
 ⟨hc, Kd.heap_int k, fun h => by
  obtain ⟨n, rfl, rfl, hw⟩ := DataW.trod_int ht h
  exact ⟨n, rfl, hw, Nat.le_refl _⟩⟩
theorem opens_bool {P : Program} {T : TypeId} (ht : P.underlying T = some .bool) (hc : P.cellsOf T = 1) : Opens P T Kd.bool (fun _ => True) (fun _ => 1) :=
 ⟨hc, Kd.heap_bool, fun h => by
  obtain ⟨n, rfl, rfl⟩ := DataW.trod_bool ht h
  exact ⟨n, rfl, trivial, Nat.le_refl _⟩⟩
theorem exists_list {α : Type} (p : Nat → α → Prop) : ∀ n, (∀ i, i < n → ∃ y, p i y) → ∃ l : List α, l.length = n ∧ ∀ i y, l[i]? = some y → p i y
 | 0, _ => ⟨[], rfl, fun i y h => by simp at h⟩
 | n + 1, h => by
  obtain ⟨l, hl, hp⟩ := exists_list p n (fun i hi => h i (by omega))
  obtain ⟨y, hy⟩ := h n (by omega)
  refine ⟨l ++ [y], by simp [hl], fun i z hz => ?_⟩
  rcases Nat.lt_or_ge i l.length with hi | hi
  ·rw [List.getElem?_append_left hi] at hz; exact hp i z hz
  ·have : i = l.length := by have := (List.getElem?_eq_some_iff.1 hz).1; simp at this; omega
   subst this
   simp at hz
   subst hz
   rw [hl]; exact hy
def szL {α : Type} (sz : α → Nat) (l : List α) : Nat := (l.map sz).sum + 1
theorem sum_le {α H : Type} (sz : α → Nat) : ∀ (l : List α) (ds : List (DataW H)), l.length = ds.length → (∀ (i : Nat) y d, l[i]? = some y → ds[i]? = some d → sz y ≤ Rows.uptoBulk d) → (l.map sz).sum ≤ Rows.uptoBulkAll ds
 | [], _, _, _ => by simp
 | y :: l, [], h, _ => by simp at h
 | y :: l, d :: ds, h, hp => by
  have h1 := hp 0 y d rfl rfl
  have h2 := sum_le sz l ds (by simpa using h) (fun i y' d' h3 h4 => hp (i + 1) y' d' (by simpa using h3) (by simpa using h4))
  simp only [List.map_cons, List.sum_cons, Rows.uptoBulkAll]
  omega
theorem opens_slice {α : Type} {P : Program} {T e : TypeId} {d : Kd α} {ok : α → Prop} {sz : α → Nat} (ht : P.underlying T = some (.slice e)) (hc : P.cellsOf T = 1) (he : Opens P e d ok sz) :
  Opens P T (Kd.slice e d) (fun l => l.length ≤ 9223372036854775807 ∧ ∀ x ∈ l, ok x) (szL sz) :=
 ⟨hc, Kd.heap_slice e he.heap, fun {H enc W base spare held fuel cs x} h => by
  rcases DataW.trod_slice ht h with ⟨rfl, rfl⟩ | ⟨a, len, cap, elems, rest, n, rfl, rfl, rfl, hb, hl, hm, hlen, hel, hsp, hns⟩
  ·exact ⟨[], ⟨none, 0, rfl, Nat.le_refl _, Kd.C_nil d W⟩, ⟨by simp, by simp⟩, by simp [szL, Rows.uptoBulk]⟩
  ·have each : ∀ i, i < len → ∃ y, (∃ c, c.length = d.sz ∧ d.K W y c ∧ ∀ j u, c[j]? = some u → W.cell? (a.add (i * d.sz + j)) = some u) ∧ ok y ∧ ∀ z, elems[i]? = some z → sz y ≤ Rows.uptoBulk z.1 := by
    intro i hi
    have h1 := hel i hi
    have h2 : elems[i]? = some (elems[i]'(by omega)) := List.getElem?_eq_getElem _
    rw [h2, Option.bind_eq_some_iff] at h1
    obtain ⟨c, h3, h4⟩ := h1
    obtain ⟨_, h5, h6⟩ := World.cells?_some h3
    obtain ⟨y, h7, h8, h9⟩ := he.open_ h4
    refine ⟨y, ⟨c, by rw [h5, he.cells], h7, fun j u hj => ?_⟩, h8, fun z hz => by rw [h2] at hz; cases hz; exact h9⟩
    have hjl : j < c.length := (List.getElem?_eq_some_iff.1 hj).1
    have := h6 j (by omega)
    rw [add_add, he.cells] at this
    rw [this, hj]
   obtain ⟨l, h1, h2⟩ := exists_list _ len each
   have hm2 : len ≤ 9223372036854775807 := by simp only [maxLen] at hm; omega
   refine ⟨l, ⟨some a, cap, by rw [h1], by omega, h1 ▸ ⟨h1, by omega, fun _ => ⟨a, rfl, fun j p hj => (h2 j p hj).1⟩⟩⟩, ⟨by omega, fun y hy => ?_⟩, ?_⟩
   ·obtain ⟨i, hi⟩ := List.getElem?_of_mem hy
    exact (h2 i y hi).2.1
   ·have h3 := sum_le sz l (elems.map (·.1)) (by simp; omega) (fun i y z hy hz => by
     rw [List.getElem?_map, Option.map_eq_some_iff] at hz
     obtain ⟨q, hq, rfl⟩ := hz
     exact (h2 i y hy).2.2 q hq)
    simp only [szL, Rows.uptoBulk]
    omega⟩
structure OpensL {α : Type} (P : Program) (fs : List Field) (off : Nat) (d : Kd α) (ok : α → Prop) (sz : α → Nat) : Prop where
 heap : Kd.Heap d
 open_ : ∀ {H : Type} {enc : TypeId × Value → H} {W : World} {base : Nat} {spare : Nat → Bool} {held : Bool} {fuel : Nat} {cs : List Value} {xs : List (DataW H × List MemPlace)},
  cs.length = off + d.sz → xs.length = fs.length → (∀ (i : Nat) (f : Field), fs[i]? = some f → DataW.trod enc P W base spare held fuel f.type ((cs.drop f.offset).take (P.cellsOf f.type)) = xs[i]?) →
  ∃ y, d.K W y (cs.drop off) ∧ ok y ∧ sz y ≤ Rows.uptoBulkAll (xs.map (·.1))
theorem opensL_one {α : Type} {P : Program} {f : Field} {off : Nat} {d : Kd α} {ok : α → Prop} {sz : α → Nat} (hf : f.offset = off) (he : Opens P f.type d ok sz) : OpensL P [f] off d ok sz :=
 ⟨he.heap, fun {H enc W base spare held fuel cs xs} hcs hxs h => by
  match xs, hxs with
  | [x], _ =>
   have h1 := h 0 f rfl
   rw [he.cells, hf, List.take_of_length_le (by simp; omega)] at h1
   obtain ⟨y, h2, h3, h4⟩ := he.open_ h1
   exact ⟨y, h2, h3, by simp [Rows.uptoBulkAll]; exact h4⟩⟩
theorem opensL_cons {α β : Type} {P : Program} {f : Field} {fs : List Field} {off : Nat} {a : Kd α} {b : Kd β} {oka : α → Prop} {okb : β → Prop} {sza : α → Nat} {szb : β → Nat} (hf : f.offset = off) (he : Opens P f.type a oka sza) (hl : OpensL P fs (off + a.sz) b okb szb) :
  OpensL P (f :: fs) off (Kd.pair a b) (fun x => oka x.1 ∧ okb x.2) (fun x => sza x.1 + szb x.2) :=
 ⟨Kd.heap_pair he.heap hl.heap, fun {H enc W base spare held fuel cs xs} hcs hxs h => by
  have hcs' : cs.length = off + (a.sz + b.sz) := hcs
  match xs, hxs with
  | x :: xs, hxs =>
   have h1 := h 0 f rfl
   rw [he.cells, hf] at h1
   obtain ⟨y, h2, h3, h4⟩ := he.open_ h1
   obtain ⟨z, h5, h6, h7⟩ := hl.open_ (cs := cs) (xs := xs) (by omega) (by simpa using hxs) (fun i f hi => h (i + 1) f (by simpa using hi))
   refine ⟨(y, z), ⟨_, _, ?_, h2, h5⟩, ⟨h3, h6⟩, ?_⟩
   ·rw [← List.drop_drop, List.take_append_drop]
   ·simp only [List.map_cons, Rows.uptoBulkAll]
    omega⟩
theorem opens_struct {α β : Type} {P : Program} {T : TypeId} {fs : Array Field} {d : Kd α} {ok : α → Prop} {sz : α → Nat} (f : β → α) (g : α → β) (hfg : ∀ a, f (g a) = a) (ht : P.underlying T = some (.struct fs)) (hc : P.cellsOf T = d.sz) (hl : OpensL P fs.toList 0 d ok sz) :
  Opens P T (Kd.iso d f) (fun y => ok (f y)) (fun y => sz (f y) + 1) :=
 ⟨hc, Kd.heap_iso f hl.heap, fun {H enc W base spare held fuel cs x} h => by
  obtain ⟨xs, n, rfl, rfl, h1, h2, h3⟩ := DataW.trod_struct ht h
  obtain ⟨y, h4, h5, h6⟩ := hl.open_ (cs := cs) (xs := xs) (by omega) (by simpa using h2) (fun i f hi => h3 i f (by simpa using hi))
  rw [List.drop_zero] at h4
  exact ⟨g y, by show d.K W (f (g y)) cs; rw [hfg]; exact h4, by rw [hfg]; exact h5, by rw [hfg]; simp only [Rows.uptoBulk]; omega⟩⟩
theorem FK_of_K {α : Type} {d : Kd α} (hd : Kd.Heap d) {W : World} {x : α} {cs : List Value} (h : d.K W x cs) : Kd.FK d W (fun k => k < W.heap.size) x cs :=
 fun W' hW => hd.K (fun k hk => hW k hk hk) h
section
variable {H : Type} {enc : TypeId × Value → H} {P : Program} {W : World} {base b0 : Nat} {spare : Nat → Bool} {held : Bool} {r : Reach} {t : TypeId} {v : Value} {x : DataW H} {ps : List MemPlace}
theorem arg_struct {α : Type} {fs : Array Field} {d : Kd α} {ok : α → Prop} {sz : α → Nat} (he : Opens P t d ok sz) (ht : P.underlying t = some (.struct fs)) (hv : Value.okWide P W r b0 t v) (h : DataW.Trod enc P W base spare held t v x ps) :
  ∃ (cs : Array Value) (y : α), v = .agg cs ∧ Kd.FK d W (fun k => k < W.heap.size) y cs.toList ∧ ok y ∧ sz y ≤ Rows.uptoBulk x := by
 obtain ⟨cs, rfl, hsz⟩ := okWide_struct ht hv
 obtain ⟨fuel, hf⟩ := h
 obtain ⟨y, h3, h4, h5⟩ := he.open_ hf
 exact ⟨cs, y, rfl, FK_of_K he.heap (by simpa [Value.cells] using h3), h4, h5⟩
end
theorem own : ownKnob Tryz.prog.godebug = none := by kernel_rfl
theorem laidOut : laidOutB Tryz.prog = true := by kernel_rfl
end Go.Proofs.YtgiefblcckikeaaGreat.M
end

section
/- The arguments of law04's statements, opened. -/
namespace Go.Proofs.YtgiefblcckikeaaGreat.M
open Go.RowKit Go.Proofs.YtgiefblcckikeaaGreatW.PrintWords Go.Proofs.YtgiefblcckikeaaGreatW.PrintLast Go.Proofs.YtgiefblcckikeaaGreatW.PrintMore Go.Proofs.YtgiefblcckikeaaGreat.G
abbrev I64 (x : Int) : Prop := (Lit.int .i64 x).wf = true
abbrev I32 (x : Int) : Prop := (Lit.int .i32 x).wf = true
abbrev U8 (x : Int) : Prop := (Lit.int .u8 x).wf = true
abbrev LenP {α : Type} (ok : α → Prop) (l : List α) : Prop := l.length ≤ 9223372036854775807 ∧ ∀ x ∈ l, ok x
def okKd (k : KeyD) : Prop := I32 k.f0 ∧ I64 k.f1
def okTd (t : TxD) : Prop := I64 t.f0 ∧ I64 t.f1 ∧ LenP U8 t.f2 ∧ LenP I64 t.f3 ∧ LenP okKd t.f4 ∧ LenP okKd t.f5
def okEd (e : S29) : Prop := I64 e.f0 ∧ I64 e.f1 ∧ I64 e.f2 ∧ LenP okTd e.f3
theorem i64_of {x : Int} (h : I64 x) : isI64 x := by
 have this : (Lit.int .i64 x).wf = true := h
 simp only [Lit.wf, Bool.and_eq_true, decide_eq_true_eq] at this
 have e1 : IntKind.i64.min = -9223372036854775808 := rfl
 have e2 : IntKind.i64.max = 9223372036854775807 := rfl
 unfold isI64
 omega
theorem i32_of {x : Int} (h : I32 x) : -2147483648 ≤ x ∧ x ≤ 2147483647 := by
 have this : (Lit.int .i32 x).wf = true := h
 simp only [Lit.wf, Bool.and_eq_true, decide_eq_true_eq] at this
 have e1 : IntKind.i32.min = -2147483648 := rfl
 have e2 : IntKind.i32.max = 2147483647 := rfl
 omega
abbrev szN (l : List Int) : Nat := szL (fun _ : Int => 1) l
abbrev szK (k : KeyD) : Nat := 1 + 1 + 1
abbrev szT (t : TxD) : Nat := 1 + (1 + (szN t.f2 + (szN t.f3 + (szL szK t.f4 + szL szK t.f5)))) + 1
abbrev szE (e : S29) : Nat := 1 + (1 + (1 + szL szT e.f3)) + 1
theorem opens_i64 : Opens Tryz.prog 3 (Kd.int .i64) I64 (fun _ => 1) := opens_int Tryz.underlying3 (by kernel_rfl)
theorem opens_j64 : Opens Tryz.prog 2 (Kd.int .i64) I64 (fun _ => 1) := opens_int Tryz.underlying2 (by kernel_rfl)
theorem opens_i32 : Opens Tryz.prog 21 (Kd.int .i32) I32 (fun _ => 1) := opens_int Tryz.underlying21 (by kernel_rfl)
theorem opens_u8 : Opens Tryz.prog 5 (Kd.int .u8) U8 (fun _ => 1) := opens_int Tryz.underlying5 (by kernel_rfl)
theorem opens_bytes : Opens Tryz.prog 23 (Kd.slice 5 (Kd.int .u8)) (LenP U8) szN := opens_slice Tryz.underlying23 (by kernel_rfl) opens_u8
theorem opens_nums : Opens Tryz.prog 24 (Kd.slice 2 (Kd.int .i64)) (LenP I64) szN := opens_slice Tryz.underlying24 (by kernel_rfl) opens_j64
theorem opens_key : Opens Tryz.prog 101 G.k101 okKd szK := opens_struct (d := Kd.pair (Kd.int .i32) (Kd.int .i64)) (fun x : KeyD => (x.f0, x.f1)) (fun x => ⟨x.1, x.2⟩) (fun _ => rfl) Tryz.underlying101 (by kernel_rfl) (opensL_cons rfl opens_i32 (opensL_one rfl opens_j64))
theorem opens_keys : Opens Tryz.prog 22 (Kd.slice 101 G.k101) (LenP okKd) (szL szK) := opens_slice Tryz.underlying22 (by kernel_rfl) opens_key
theorem opens_txn : Opens Tryz.prog 26 G.k26 okTd szT := opens_struct (fun x : TxD => (x.f0, x.f1, x.f2, x.f3, x.f4, x.f5)) (fun x => ⟨x.1, x.2.1, x.2.2.1, x.2.2.2.1, x.2.2.2.2.1, x.2.2.2.2.2⟩) (fun _ => rfl) Tryz.underlying26 (by kernel_rfl)
 (opensL_cons rfl opens_j64 (opensL_cons rfl opens_j64 (opensL_cons rfl opens_bytes (opensL_cons rfl opens_nums (opensL_cons rfl opens_keys (opensL_one rfl opens_keys))))))
theorem opens_txns : Opens Tryz.prog 27 (Kd.slice 26 G.k26) (LenP okTd) (szL szT) := opens_slice Tryz.underlying27 (by kernel_rfl) opens_txn
theorem opens_ent : Opens Tryz.prog 29 G.k29 okEd szE := opens_struct (fun x : S29 => (x.f0, x.f1, x.f2, x.f3)) (fun x => ⟨x.1, x.2.1, x.2.2.1, x.2.2.2⟩) (fun _ => rfl) Tryz.underlying29 (by kernel_rfl)
 (opensL_cons rfl opens_i64 (opensL_cons rfl opens_i64 (opensL_cons rfl opens_j64 (opensL_one rfl opens_txns))))
theorem okT_of {t : TxD} (h : okTd t) : okT t = true ∧ TxLs t := by
 obtain ⟨h0, h1, h2, h3, h4, h5⟩ := h
 have k4 : ∀ x : KeyD, okKd x → okK x = true := fun x hx => by
  obtain ⟨a, b⟩ := hx
  have a := i32_of a
  unfold okK
  exact decide_eq_true ⟨a.1, a.2, i64_of b⟩
 have i0 : isI64 t.f0 := i64_of h0
 have i1 : isI64 t.f1 := i64_of h1
 refine ⟨?_, h2.1, h3.1, h4.1, h5.1⟩
 unfold okT
 rw [decide_eq_true i0, decide_eq_true i1, okI_of_wf h3.2, List.all_eq_true.2 (fun x hx => k4 x (h4.2 x hx)), List.all_eq_true.2 (fun x hx => k4 x (h5.2 x hx))]
 rw [okB_of_wf h2.2]
 rfl
theorem okE_of {e : S29} (h : okEd e) : okE e.f0 e.f1 e.f2 e.f3 = true ∧ e.f3.length ≤ 9223372036854775807 ∧ ∀ t ∈ e.f3, TxLs t := by
 obtain ⟨h0, h1, h2, h3⟩ := h
 have i0 : isI64 e.f0 := i64_of h0
 have i1 : isI64 e.f1 := i64_of h1
 have i2 : isI64 e.f2 := i64_of h2
 refine ⟨?_, h3.1, fun t ht => (okT_of (h3.2 t ht)).2⟩
 unfold okE
 rw [decide_eq_true i0, decide_eq_true i1, decide_eq_true i2, List.all_eq_true.2 (fun t ht => (okT_of (h3.2 t ht)).1)]
 rfl
end Go.Proofs.YtgiefblcckikeaaGreat.M
end

section
/- Messages as Lean data. -/
namespace Go.Proofs.YtgiefblcckikeaaGreat.M
open Go.RowKit Go.Proofs.YtgiefblcckikeaaGreatW.PrintWords Go.Proofs.YtgiefblcckikeaaGreatW.PrintLast Go.Proofs.YtgiefblcckikeaaGreatW.PrintMore Go.Proofs.YtgiefblcckikeaaGreat.G
abbrev EntD := G.S29
abbrev TrD := G.S63
structure PartD where
 f0 : Int
 f1 : Int
 f2 : Int
 f3 : List Int
structure MsgD where
 f0 : Int
 f1 : Int
 f2 : Int
 f3 : Int
 f4 : Int
 f5 : Int
 f6 : Int
 f7 : Bool
 f8 : List TrD
 f9 : EntD
 f10 : PartD
def eqTr (a b : TrD) : Bool := a.f0 == b.f0 && eqEn a.f1.f0 a.f1.f1 a.f1.f2 a.f1.f3 b.f1.f0 b.f1.f1 b.f1.f2 b.f1.f3
def eqTrs : List TrD → List TrD → Bool
 | [], [] => true
 | a :: l, b :: m => eqTr a b && eqTrs l m
 | _, _ => false
theorem eqTrs_len : ∀ {a b : List TrD}, a.length ≠ b.length → eqTrs a b = false
 | [], [], h => absurd rfl h
 | [], _ :: _, _ => rfl
 | _ :: _, [], _ => rfl
 | _ :: _, _ :: _, h => by
  unfold eqTrs
  rw [eqTrs_len (by simpa using h), Bool.and_false]
theorem eqTrs_take {a b : List TrD} {i : Nat} {x y : TrD} (hx : a[i]? = some x) (hy : b[i]? = some y) : eqTrs (a.drop i) (b.drop i) = (eqTr x y && eqTrs (a.drop (i + 1)) (b.drop (i + 1))) := by
 rw [drop_cons hx, drop_cons hy]; rfl
def eqPt (a b : PartD) : Bool := a.f0 == b.f0 && (a.f1 == b.f1 && (a.f2 == b.f2 && eqS a.f3 b.f3))
def eqMs (m n : MsgD) : Bool := m.f0 == n.f0 && (m.f1 == n.f1 && (m.f2 == n.f2 && (m.f3 == n.f3 && (m.f4 == n.f4 && (m.f5 == n.f5 && (m.f6 == n.f6 && (m.f7 == n.f7 && (eqTrs m.f8 n.f8 && (eqEn m.f9.f0 m.f9.f1 m.f9.f2 m.f9.f3 n.f9.f0 n.f9.f1 n.f9.f2 n.f9.f3 && eqPt m.f10 n.f10)))))))))
abbrev msgCells (m : MsgD) (A8 : Option Addr) (c8 : Nat) (A12 : Option Addr) (c12 : Nat) (A16 : Option Addr) (c16 : Nat) : Array Value := #[.int .i64 m.f0, .int .i64 m.f1, .int .i64 m.f2, .int .i64 m.f3, .int .i64 m.f4, .int .i64 m.f5, .int .i64 m.f6, .bool m.f7, .slice A8 m.f8.length c8, .int .i64 m.f9.f0, .int .i64 m.f9.f1, .int .i64 m.f9.f2, .slice A12 m.f9.f3.length c12, .int .i64 m.f10.f0, .int .i64 m.f10.f1, .int .i64 m.f10.f2, .slice A16 m.f10.f3.length c16]
structure MsgC (w : World) (m : MsgD) (A8 : Option Addr) (c8 : Nat) (A12 : Option Addr) (c12 : Nat) (A16 : Option Addr) (c16 : Nat) : Prop where
 l8 : m.f8.length ≤ c8
 g8 : G.k63.C w A8 m.f8.length m.f8
 l12 : m.f9.f3.length ≤ c12
 g12 : G.k26.C w A12 m.f9.f3.length m.f9.f3
 l16 : m.f10.f3.length ≤ c16
 g16 : (Kd.int .u8).C w A16 m.f10.f3.length m.f10.f3
section
variable {w w' : World} {m : MsgD} {A8 A12 A16 : Option Addr} {c8 c12 c16 : Nat}
theorem MsgC.below (h : MsgC w m A8 c8 A12 c12 A16 c16) (hb : Below w.heap.size w w') : MsgC w' m A8 c8 A12 c12 A16 c16 :=
 ⟨h.l8, Kd.C_below h.g8 hb, h.l12, Kd.C_below h.g12 hb, h.l16, Kd.C_below h.g16 hb⟩
end
def MsBox (W : World) (b : Nat) (m : MsgD) (A8 : Option Addr) (c8 : Nat) (A12 : Option Addr) (c12 : Nat) (A16 : Option Addr) (c16 : Nat) : Prop := W.heap[b]? = some (.cells (msgCells m A8 c8 A12 c12 A16 c16) 34)
def kP : Kd PartD := Kd.iso (Kd.pair (Kd.int .i64) (Kd.pair (Kd.int .i64) (Kd.pair (Kd.int .i64) (Kd.slice 5 (Kd.int .u8))))) (fun x : PartD => (x.f0, x.f1, x.f2, x.f3))
def kM : Kd MsgD := Kd.iso (Kd.pair (Kd.int .i64) (Kd.pair (Kd.int .i64) (Kd.pair (Kd.int .i64) (Kd.pair (Kd.int .i64) (Kd.pair (Kd.int .i64) (Kd.pair (Kd.int .i64) (Kd.pair (Kd.int .i64) (Kd.pair Kd.bool (Kd.pair (Kd.slice 63 G.k63) (Kd.pair G.k29 kP)))))))))) (fun x : MsgD => (x.f0, x.f1, x.f2, x.f3, x.f4, x.f5, x.f6, x.f7, x.f8, x.f9, x.f10))
theorem kM_open {w : World} {m : MsgD} {cs : List Value} (h : kM.K w m cs) : ∃ A8 c8 A12 c12 A16 c16, cs = (msgCells m A8 c8 A12 c12 A16 c16).toList ∧ MsgC w m A8 c8 A12 c12 A16 c16 := by
 obtain ⟨_, _, rfl, rfl, ⟨_, _, rfl, rfl, ⟨_, _, rfl, rfl, ⟨_, _, rfl, rfl, ⟨_, _, rfl, rfl, ⟨_, _, rfl, rfl, ⟨_, _, rfl, rfl, ⟨_, _, rfl, rfl, ⟨_, _, rfl, ⟨A8, c8, rfl, l8, g8⟩, ⟨_, _, rfl, s9, s10⟩⟩⟩⟩⟩⟩⟩⟩⟩⟩ := h
 obtain ⟨A12, c12, rfl, l12, g12⟩ := G.k29_open s9
 obtain ⟨_, _, rfl, rfl, ⟨_, _, rfl, rfl, ⟨_, _, rfl, rfl, ⟨A16, c16, rfl, l16, g16⟩⟩⟩⟩ := s10
 exact ⟨A8, c8, A12, c12, A16, c16, rfl, l8, g8, l12, g12, l16, g16⟩
def okTrd (x : TrD) : Prop := I64 x.f0 ∧ okEd x.f1
def okPd (p : PartD) : Prop := I64 p.f0 ∧ I64 p.f1 ∧ I64 p.f2 ∧ LenP U8 p.f3
def okMd (m : MsgD) : Prop := I64 m.f0 ∧ I64 m.f1 ∧ I64 m.f2 ∧ I64 m.f3 ∧ I64 m.f4 ∧ I64 m.f5 ∧ I64 m.f6 ∧ True ∧ LenP okTrd m.f8 ∧ okEd m.f9 ∧ okPd m.f10
theorem opens_bo : Opens Tryz.prog 4 Kd.bool (fun _ => True) (fun _ => 1) := opens_bool Tryz.underlying4 (by kernel_rfl)
theorem opens_tr : Opens Tryz.prog 63 G.k63 okTrd (fun x => 1 + szE x.f1 + 1) := opens_struct (d := Kd.pair (Kd.int .i64) G.k29) (fun x : TrD => (x.f0, x.f1)) (fun x => ⟨x.1, x.2⟩) (fun _ => rfl) Tryz.underlying63 (by kernel_rfl) (opensL_cons rfl opens_j64 (opensL_one rfl opens_ent))
theorem opens_trs : Opens Tryz.prog 30 (Kd.slice 63 G.k63) (LenP okTrd) (szL (fun x => 1 + szE x.f1 + 1)) := opens_slice Tryz.underlying30 (by kernel_rfl) opens_tr
def szP (p : PartD) : Nat := 1 + (1 + (1 + szN p.f3)) + 1
theorem opens_part : Opens Tryz.prog 32 kP okPd szP := opens_struct (fun x : PartD => (x.f0, x.f1, x.f2, x.f3)) (fun x => ⟨x.1, x.2.1, x.2.2.1, x.2.2.2⟩) (fun _ => rfl) Tryz.underlying32 (by kernel_rfl) (opensL_cons rfl opens_j64 (opensL_cons rfl opens_i64 (opensL_cons rfl opens_i64 (opensL_one rfl opens_bytes))))
def szM (m : MsgD) : Nat := 1 + (1 + (1 + (1 + (1 + (1 + (1 + (1 + (szL (fun x => 1 + szE x.f1 + 1) m.f8 + (szE m.f9 + szP m.f10))))))))) + 1
theorem opens_msg : Opens Tryz.prog 34 kM okMd szM := opens_struct (fun x : MsgD => (x.f0, x.f1, x.f2, x.f3, x.f4, x.f5, x.f6, x.f7, x.f8, x.f9, x.f10)) (fun x => ⟨x.1, x.2.1, x.2.2.1, x.2.2.2.1, x.2.2.2.2.1, x.2.2.2.2.2.1, x.2.2.2.2.2.2.1, x.2.2.2.2.2.2.2.1, x.2.2.2.2.2.2.2.2.1, x.2.2.2.2.2.2.2.2.2.1, x.2.2.2.2.2.2.2.2.2.2⟩) (fun _ => rfl) Tryz.underlying34 (by kernel_rfl)
 (opensL_cons rfl opens_i64 (opensL_cons rfl opens_i64 (opensL_cons rfl opens_i64 (opensL_cons rfl opens_j64 (opensL_cons rfl opens_j64 (opensL_cons rfl opens_j64 (opensL_cons rfl opens_j64 (opensL_cons rfl opens_bo (opensL_cons rfl opens_trs (opensL_cons rfl opens_ent (opensL_one rfl opens_part)))))))))))
end Go.Proofs.YtgiefblcckikeaaGreat.M
end

section
-- Written by a program of this session's (wip/gprint.py over the kit's printer).
namespace Go.Proofs.YtgiefblcckikeaaGreat.G
open Go.RowKit Go.Proofs.YtgiefblcckikeaaGreatW.PrintWords Go.Proofs.YtgiefblcckikeaaGreatW.PrintLast Go.Proofs.YtgiefblcckikeaaGreatW.PrintMore
attribute [local go_sem] max2_int min2_int max_two min_two max_three min_three max_four min_four   -- for this text's walks alone
def IsS81 (w0 W : World) (g : Nat) (f0 : List Int) (f1 : Int) (f2 : Bool) : Prop := ∃ A0 c0, W.heap[g]? = some (.cells #[.slice A0 f0.length c0, .int .i64 f1, .bool f2] 81 (0, 0)) ∧ w0.heap.size ≤ g ∧ Kd.C (Kd.int .u8) w0 A0 f0.length f0
theorem IsS81.grown {w0 W : World} {g : Nat} {f0 : List Int} {f1 : Int} {f2 : Bool} {W1 : World} {row : Option Nat} (h : IsS81 w0 W g f0 f1 f2) (hw : W.grownBy W1 row) (hne : some g ≠ row) : IsS81 w0 W1 g f0 f1 f2 := by
 obtain ⟨A0, c0, hb, hg, hr0⟩ := h
 exact ⟨A0, c0, blk_grown hb hw hne, hg, hr0⟩
theorem IsS81.own_neN {w0 W : World} {g : Nat} {f0 : List Int} {f1 : Int} {f2 : Bool} {α : Type} {d : Kd α} {e : Nat} {base : Nat} {ok : Nat → Prop} {v : Value} {xs : List α} (h : IsS81 w0 W g f0 f1 f2) (ho : Kd.N d e W base ok v xs) (ht : e ≠ 81) : some g ≠ v.ownBlock := by
 obtain ⟨A0, c0, hb, hg, hr0⟩ := h
 exact Kd.N_ne ho hb ht
theorem IsS81.fresh {w0 W : World} {g : Nat} {f0 : List Int} {f1 : Int} {f2 : Bool} (h : IsS81 w0 W g f0 f1 f2) : ∀ k, W.heap.size ≤ k → k ≠ g := by
 obtain ⟨A0, c0, hb, hg, hr0⟩ := h
 exact Kd.freshB hb
theorem IsS81.kept {w0 W : World} {g : Nat} {f0 : List Int} {f1 : Int} {f2 : Bool} {W1 : World} {S : Nat → Prop} (h : IsS81 w0 W g f0 f1 f2) (hk : Kept W W1 S) (hne : ¬ S g) : IsS81 w0 W1 g f0 f1 f2 := by
 obtain ⟨A0, c0, hb, hg, hr0⟩ := h
 exact ⟨A0, c0, blk_kept hb hk hne, hg, hr0⟩
theorem IsS81.below {w0 W : World} {g : Nat} {f0 : List Int} {f1 : Int} {f2 : Bool} {W1 : World} (h : IsS81 w0 W g f0 f1 f2) (hw : Below W.heap.size W W1) : IsS81 w0 W1 g f0 f1 f2 := h.grown (grown_of_below hw none) (by simp)
theorem IsS81.alloc {w0 W : World} {g : Nat} {f0 : List Int} {f1 : Int} {f2 : Bool} (h : IsS81 w0 W g f0 f1 f2) (o : Obj) : IsS81 w0 (W.alloc o) g f0 f1 f2 := h.below (below_alloc (Below.refl _ _) o)
theorem IsS81.drewN {w0 W : World} {g : Nat} {f0 : List Int} {f1 : Int} {f2 : Bool} (h : IsS81 w0 W g f0 f1 f2) (m : Nat) : IsS81 w0 (W.drewN m) g f0 f1 f2 := h
theorem IsS81.drew {w0 W : World} {g : Nat} {f0 : List Int} {f1 : Int} {f2 : Bool} (h : IsS81 w0 W g f0 f1 f2) : IsS81 w0 W.drew g f0 f1 f2 := h
theorem IsS81.at_ {w0 W : World} {g : Nat} {f0 : List Int} {f1 : Int} {f2 : Bool} {w' : World} {m : Nat} (hq : W.drewN m = w') (h : IsS81 w0 W g f0 f1 f2) : IsS81 w0 w' g f0 f1 f2 := by subst hq; exact IsS81.drewN h m
theorem IsS81.apart {w0 W : World} {g : Nat} {f0 : List Int} {f1 : Int} {f2 : Bool} {α : Type} {d : Kd α} {e : Nat} {base : Nat} {ok : Nat → Prop} {v : Value} {xs : List α} (h : IsS81 w0 W g f0 f1 f2) (ho : d.R e W base ok v xs) (ht : ∀ q, q ∈ e :: d.E → q ≠ 81) : d.R e W base (fun k => ok k ∧ k ≠ g) v xs := by
 obtain ⟨A0, c0, hb, hg, hr0⟩ := h
 exact Kd.R_types ho hb ht
theorem IsS81.own_ne {w0 W : World} {g : Nat} {f0 : List Int} {f1 : Int} {f2 : Bool} {α : Type} {d : Kd α} {e : Nat} {base : Nat} {ok : Nat → Prop} {v : Value} {xs : List α} (h : IsS81 w0 W g f0 f1 f2) (ho : d.R e W base ok v xs) (ht : e ≠ 81) : some g ≠ v.ownBlock := by
 obtain ⟨A0, c0, hb, hg, hr0⟩ := h
 exact Kd.R_ne ho hb ht
theorem IsS81.apartQ {w0 W : World} {g : Nat} {f0 : List Int} {f1 : Int} {f2 : Bool} {α : Type} {d : Kd α} {e : Nat} {base : Nat} {ok : Nat → Prop} {v : Value} {xs : List α} (h : IsS81 w0 W g f0 f1 f2) (ho : d.Q e W base ok v xs) (ht : ∀ q, q ∈ e :: d.E → q ≠ 81) : d.Q e W base (fun k => ok k ∧ k ≠ g) v xs := by
 obtain ⟨A0, c0, hb, hg, hr0⟩ := h
 exact Kd.Q_types ho hb ht
theorem IsS81.own_neQ {w0 W : World} {g : Nat} {f0 : List Int} {f1 : Int} {f2 : Bool} {α : Type} {d : Kd α} {e : Nat} {base : Nat} {ok : Nat → Prop} {v : Value} {xs : List α} (h : IsS81 w0 W g f0 f1 f2) (ho : d.Q e W base ok v xs) (ht : e ≠ 81) : some g ≠ v.ownBlock := by
 obtain ⟨A0, c0, hb, hg, hr0⟩ := h
 exact Kd.Q_ne ho hb ht
theorem IsS81.apartS {w0 W : World} {g : Nat} {f0 : List Int} {f1 : Int} {f2 : Bool} {α : Type} {d : Kd α} {e : Nat} {base : Nat} {ok : Nat → Prop} {v : Value} {xs : List α} (h : IsS81 w0 W g f0 f1 f2) (ho : d.S e W base ok v xs) (ht : ∀ q, q ∈ e :: d.E → q ≠ 81) : d.S e W base (fun k => ok k ∧ k ≠ g) v xs := by
 obtain ⟨A0, c0, hb, hg, hr0⟩ := h
 exact Kd.S_types ho hb ht
theorem IsS81.own_neS {w0 W : World} {g : Nat} {f0 : List Int} {f1 : Int} {f2 : Bool} {α : Type} {d : Kd α} {e : Nat} {base : Nat} {ok : Nat → Prop} {v : Value} {xs : List α} (h : IsS81 w0 W g f0 f1 f2) (ho : d.S e W base ok v xs) (ht : e ≠ 81) : some g ≠ v.ownBlock := by
 obtain ⟨A0, c0, hb, hg, hr0⟩ := h
 exact Kd.S_ne ho hb ht
theorem IsS81.lt {w0 W : World} {g : Nat} {f0 : List Int} {f1 : Int} {f2 : Bool} (h : IsS81 w0 W g f0 f1 f2) : g < W.heap.size := by
 obtain ⟨A0, c0, hb, hg, hr0⟩ := h
 exact blk_lt hb
theorem IsS81.ge {w0 W : World} {g : Nat} {f0 : List Int} {f1 : Int} {f2 : Bool} (h : IsS81 w0 W g f0 f1 f2) : w0.heap.size ≤ g := by
 obtain ⟨A0, c0, hb, hg, hr0⟩ := h
 exact hg
theorem IsS81.ne_blk {w0 W : World} {g : Nat} {f0 : List Int} {f1 : Int} {f2 : Bool} {a : Nat} {cs : Array Value} {t : TypeId} {fr : Nat × Nat} (h : IsS81 w0 W g f0 f1 f2) (hb2 : W.heap[a]? = some (.cells cs t fr)) (ht : t ≠ 81) : g ≠ a := by
 obtain ⟨A0, c0, hb, hg, hr0⟩ := h
 rintro rfl
 rw [hb] at hb2
 injection hb2 with hb2
 injection hb2 with _ ht2
 exact ht ht2.symm
theorem IsS81.far {w0 W : World} {g : Nat} {f0 : List Int} {f1 : Int} {f2 : Bool} {p : Addr} (h : IsS81 w0 W g f0 f1 f2) (hne : g ≠ p.block) (u : Value) : IsS81 w0 (W.setCell p u) g f0 f1 f2 := by
 obtain ⟨A0, c0, hb, hg, hr0⟩ := h
 exact ⟨A0, c0, blk_far hb hne u, hg, hr0⟩
theorem cellS81_0 {W : World} {g : Nat} {A0 : Option Addr} {c0 : Nat} {f0 : List Int} {f1 : Int} {f2 : Bool} (h : W.heap[g]? = some (.cells #[.slice A0 f0.length c0, .int .i64 f1, .bool f2] 81 (0, 0))) : W.cell? ⟨g, 0, none⟩ = some (.slice A0 f0.length c0) := (blk_cell h 0).trans rfl
theorem cellS81_1 {W : World} {g : Nat} {A0 : Option Addr} {c0 : Nat} {f0 : List Int} {f1 : Int} {f2 : Bool} (h : W.heap[g]? = some (.cells #[.slice A0 f0.length c0, .int .i64 f1, .bool f2] 81 (0, 0))) : W.cell? ⟨g, 1, none⟩ = some (.int .i64 f1) := (blk_cell h 1).trans rfl
theorem IsS81.set_1 {w0 W : World} {g : Nat} {f0 : List Int} {f1 : Int} {f2 : Bool} (h : IsS81 w0 W g f0 f1 f2) (x : Int) : IsS81 w0 (W.setCell ⟨g, 1, none⟩ (.int .i64 x)) g f0 x f2 := by
 obtain ⟨A0, c0, hb, hg, hr0⟩ := h
 exact ⟨A0, c0, by simpa using blk_set hb 1 (.int .i64 x), hg, hr0⟩
theorem cellS81_2 {W : World} {g : Nat} {A0 : Option Addr} {c0 : Nat} {f0 : List Int} {f1 : Int} {f2 : Bool} (h : W.heap[g]? = some (.cells #[.slice A0 f0.length c0, .int .i64 f1, .bool f2] 81 (0, 0))) : W.cell? ⟨g, 2, none⟩ = some (.bool f2) := (blk_cell h 2).trans rfl
theorem IsS81.set_2 {w0 W : World} {g : Nat} {f0 : List Int} {f1 : Int} {f2 : Bool} (h : IsS81 w0 W g f0 f1 f2) (x : Bool) : IsS81 w0 (W.setCell ⟨g, 2, none⟩ (.bool x)) g f0 f1 x := by
 obtain ⟨A0, c0, hb, hg, hr0⟩ := h
 exact ⟨A0, c0, by simpa using blk_set hb 2 (.bool x), hg, hr0⟩
theorem IsS81.new (w0 W : World) (A0 : Option Addr) (c0 : Nat) (f0 : List Int) (f1 : Int) (f2 : Bool) (hB : Below w0.heap.size w0 W) (hr0 : Kd.C (Kd.int .u8) w0 A0 f0.length f0) : IsS81 w0 (W.alloc (.cells #[.slice A0 f0.length c0, .int .i64 f1, .bool f2] 81)) W.heap.size f0 f1 f2 := ⟨A0, c0, by simpa using heap_alloc_new W _, hB.size, hr0⟩
end Go.Proofs.YtgiefblcckikeaaGreat.G
end

section
/- Contract of trivet/shape.take. -/
namespace Go.Proofs.YtgiefblcckikeaaGreat.M
open Go.RowKit Go.Proofs.YtgiefblcckikeaaGreatW.PrintWords Go.Proofs.YtgiefblcckikeaaGreatW.PrintLast Go.Proofs.YtgiefblcckikeaaGreatW.PrintMore Go.Proofs.YtgiefblcckikeaaGreat.G
def takeEnd (l : List Int) : Ending := if tkE l = 0 then .returned (.tuple #[.int .i64 (tkN l), .int .i64 (tkS l)]) else .panicked [{ v := wrongV (tkE l), recovered := false }]
theorem takeEnd_bad {l : List Int} {e : Int} (h : tkE l = e) (he : ¬ e = 0) : takeEnd l = .panicked [{ v := wrongV e, recovered := false }] := by
 unfold takeEnd
 rw [h, if_neg he]
theorem takeEnd_good {l : List Int} (h : tkE l = 0) : takeEnd l = .returned (.tuple #[.int .i64 (tkN l), .int .i64 (tkS l)]) := by
 unfold takeEnd
 rw [if_pos h]
set_option maxHeartbeats 1000000 in
theorem take_any (A : Option Addr) (c : Nat) (l : List Int) (w : World) (hr : Kd.C (Kd.int .u8) w A l.length l) (hc : l.length ≤ c) (hb : okB l = true) :
  Calls Tryz.prog 160 #[.slice A l.length c] w fun e w' => e = takeEnd l ∧ w' = w := by
 have HR := Aside0.mk hr
 have HC := Aside0.mk hc
 have HB := Aside0.mk hb
 clear hr hc hb
 obtain ⟨E, hE⟩ : ∃ E, takeEnd l = E := ⟨_, rfl⟩
 rw [hE]
 have HE := Aside0.mk hE
 clear hE
 by_cases h1 : l = []
 ·have he : tkE l = 10 := by unfold tkE; rw [if_pos h1]
  have HF := Aside0.mk (HE.out.symm.trans (takeEnd_bad he (by decide)))
  subst h1
  clear he
  go_enter Tryz.func160, Tryz.ntmps160
  go_wp2_with (go_at_call 123; first | ((with_reducible refine (give_no _ _).mono ?_); rintro e w' ⟨rfl, rfl⟩) | ((with_reducible refine (give_yes _ _).mono ?_); rintro e w' ⟨rfl, rfl⟩))
  exact ⟨rfl, HF.out.symm, rfl⟩
 have hl : 0 < l.length := List.length_pos_iff.2 h1
 have hlz : ((l.length : Int) == 0) = false := beq_eq_false_iff_ne.2 (by omega)
 have hb0 := okB_rd HB.out 0
 obtain ⟨ad, hA, hx0⟩ := Kd.at_int HR.out 0 (by omega) (by omega)
 rw [show ((0 : Int)).toNat = 0 from rfl, Addr.add_zero'] at hx0
 subst hA
 by_cases h2 : 17 < rd l 0 ∨ rd l 0 = 1
 ·have he : tkE l = 11 := by unfold tkE; rw [if_neg h1, if_pos h2]
  have HF := Aside0.mk (HE.out.symm.trans (takeEnd_bad he (by decide)))
  have h3 : decide (17 < rd l 0) = true ∨ (decide (17 < rd l 0) = false ∧ (rd l 0 == 1) = true) := by
   rcases h2 with h | h
   ·exact .inl (decide_eq_true h)
   ·exact .inr ⟨decide_eq_false (by omega), by rw [h]; rfl⟩
  clear h2 he h1
  rcases h3 with h3 | ⟨h3, h4⟩
  all_goals
   go_enter Tryz.func160, Tryz.ntmps160
   go_wp2_with (go_at_call 123; first | ((with_reducible refine (give_no _ _).mono ?_); rintro e w' ⟨rfl, rfl⟩) | ((with_reducible refine (give_yes _ _).mono ?_); rintro e w' ⟨rfl, rfl⟩))
   exact ⟨rfl, HF.out.symm, rfl⟩
 have h3 : decide (17 < rd l 0) = false := decide_eq_false (by omega)
 have h4 : (rd l 0 == 1) = false := beq_eq_false_iff_ne.2 (by omega)
 obtain ⟨k, hk⟩ : ∃ k, tkK l = k := ⟨_, rfl⟩
 have hk8 : k ≤ 8 := by unfold tkK at hk; omega
 have hq : rd l 0 / 2 = (k : Int) := by unfold tkK at hk; omega
 by_cases h5 : l.length ≤ k
 ·have he : tkE l = 10 := by unfold tkE; rw [if_neg h1, if_neg h2, hk, if_pos h5]
  have HF := Aside0.mk (HE.out.symm.trans (takeEnd_bad he (by decide)))
  have h6 : decide (l.length ≤ k) = true := decide_eq_true h5
  clear h2 he h1
  have HK := Lib.hid hk
  clear hk
  go_enter Tryz.func160, Tryz.ntmps160
  go_wp2_with (go_at_call 123; first | ((with_reducible refine (give_no _ _).mono ?_); rintro e w' ⟨rfl, rfl⟩) | ((with_reducible refine (give_yes _ _).mono ?_); rintro e w' ⟨rfl, rfl⟩))
  exact ⟨rfl, HF.out.symm, rfl⟩
 have h6 : decide (l.length ≤ k) = false := decide_eq_false h5
 have hrk : ∀ i : Nat, i ≤ k → w.cell? (ad.add i) = some (.int .u8 (rd l (i : Int))) := by
  intro i hi
  obtain ⟨ad', hA, hx⟩ := Kd.at_int HR.out (i : Int) (by omega) (by omega)
  obtain rfl : ad = ad' := by injection hA
  simpa using hx
 by_cases h7 : 0 < k ∧ rd l k = 0
 ·have he : tkE l = 11 := by unfold tkE; rw [if_neg h1, if_neg h2, hk, if_neg h5, if_pos h7]
  have HF := Aside0.mk (HE.out.symm.trans (takeEnd_bad he (by decide)))
  have hxk := hrk k (Nat.le_refl _)
  obtain ⟨h8, h9⟩ := h7
  rw [h9] at hxk
  have h10 : decide (0 < (k : Int)) = true := decide_eq_true (by omega)
  have h11 : (k : Int) < (l.length : Int) := by omega
  clear h2 he h1 hrk h9
  have HK := Lib.hid hk
  clear hk
  go_enter Tryz.func160, Tryz.ntmps160
  go_wp2_with (go_at_call 123; first | ((with_reducible refine (give_no _ _).mono ?_); rintro e w' ⟨rfl, rfl⟩) | ((with_reducible refine (give_yes _ _).mono ?_); rintro e w' ⟨rfl, rfl⟩))
  exact ⟨rfl, HF.out.symm, rfl⟩
 have h8 : (decide (0 < (k : Int)) = false ∧ k = 0) ∨ (0 < k ∧ (rd l k == 0) = false) := by
  rcases Nat.eq_zero_or_pos k with h | h
  ·exact .inl ⟨decide_eq_false (by omega), h⟩
  ·exact .inr ⟨h, beq_eq_false_iff_ne.2 (fun h' => h7 ⟨h, h'⟩)⟩
 have hxk := hrk k (Nat.le_refl _)
 have h11 : (k : Int) < (l.length : Int) := by omega
 have HP := Aside0.mk (show (if l = [] then (10:Int) else if 17 < rd l 0 ∨ rd l 0 = 1 then 11 else if l.length ≤ tkK l then 10 else if 0 < tkK l ∧ rd l (tkK l) = 0 then 11 else if big63 < tkU l ∨ (tkU l = big63 ∧ rd l 0 % 2 = 0) then 11 else 0) = if big63 < tkU l ∨ (tkU l = big63 ∧ rd l 0 % 2 = 0) then 11 else 0 by rw [if_neg h1, if_neg h2, hk, if_neg h5, if_neg h7])
 have HK := Lib.hid hk
 have HRK := Aside0.mk hrk
 clear hk hrk h2 h5 h7
 go_enter Tryz.func160, Tryz.ntmps160
 rcases h8 with ⟨h8, h9⟩ | ⟨h8, h9⟩
 all_goals
  (try (subst h9; clear h6))
  go_wp2_with (go_at_call 123; first | ((with_reducible refine (give_no _ _).mono ?_); rintro e w' ⟨rfl, rfl⟩) | ((with_reducible refine (give_yes _ _).mono ?_); rintro e w' ⟨rfl, rfl⟩))
  go_loop [5, 6] (fun u i => ∃ (j : Nat) (U : Int), j ≤ tkK l ∧ i = .int .i64 (j : Int) ∧ u = .int .u64 U ∧ Aside0 (U = upFrom l j (tkK l))) (fun _ i => (intOf i).toNat)
  case atStart => exact ⟨tkK l, 0, Nat.le_refl _, by first | (rw [HK.out]; done) | (rw [HK.out]; rfl), rfl, ⟨(upFrom_end _ _).symm⟩⟩
  case round =>
   obtain ⟨j, U, hj, rfl, rfl, HU⟩ := hrel
   have hk8' : tkK l ≤ 8 := by rw [HK.out]; exact hk8
   have hkl : tkK l < l.length := by rw [HK.out]; omega
   by_cases hlt : 0 < j
   ·have hxj := HRK.out j (by rw [← HK.out]; exact hj)
    have hj0 : (0 : Int) ≤ (j : Int) := by omega
    have hj1 : (j : Int) < (l.length : Int) := by omega
    have hbj := okB_rd HB.out (j : Int)
    have HV := Aside0.mk (show bits BinOp.or IntKind.u64 (U * 256) (rd l j) = upFrom l (j - 1) (tkK l) by
     rw [HU.out, or_byte _ _ (upFrom_nonneg HB.out _ _) (upFrom_lt HB.out hlt hk8') hbj.1 hbj.2, upFrom_step hlt hj hkl])
    have hU0 : 0 ≤ U := by rw [HU.out]; exact upFrom_nonneg HB.out _ _
    have hU1 : U < 72057594037927936 := by rw [HU.out]; exact upFrom_lt HB.out hlt hk8'
    go_wp2
    go_round
    case rel =>
     refine ⟨j - 1, _, by omega, by go_num, rfl, ⟨?_⟩⟩
     exact HV.out
    case measure => simp [intOf]; omega
   ·obtain rfl : j = 0 := by omega
    have hU : U = tkU l := by rw [HU.out, upFrom_zero]
    have hu0 : 0 ≤ U := by rw [HU.out]; exact upFrom_nonneg HB.out 0 _
    have hu1 : U < 18446744073709551616 := by rw [HU.out]; exact upFrom_lt8 HB.out (j := 0) hk8'
    have hT : tkE l = if big63 < U ∨ (U = big63 ∧ rd l 0 % 2 = 0) then 11 else 0 := by rw [hU]; exact HP.out
    have hS : tkS l = (tkK l : Int) + 1 := rfl
    rw [HK.out] at hS
    unfold big63 at hT
    have hm : rd l 0 % 2 = 0 ∨ rd l 0 % 2 = 1 := by omega
    rcases hm with hm | hm
    ·by_cases hg : U < 9223372036854775808
     ·have hN : tkN l = U := by unfold tkN; rw [if_neg (by omega), hU]
      have HF := Aside0.mk (HE.out.symm.trans (takeEnd_good (by rw [hT, if_neg (by omega)])))
      rw [hN, hS] at HF
      clear hU HU hN hS hT
      have hg1 : decide (9223372036854775808 < U) = false := decide_eq_false (by omega)
      have hg2 : (U == 9223372036854775808) = false := beq_eq_false_iff_ne.2 (by omega)
      have hw : wrap64 U = U := by unfold wrap64; omega
      go_wp2_with (go_at_call 123; first | ((with_reducible refine (give_no _ _).mono ?_); rintro e w' ⟨rfl, rfl⟩) | ((with_reducible refine (give_yes _ _).mono ?_); rintro e w' ⟨rfl, rfl⟩))
      go_ret2
      exact ⟨HF.out.symm, rfl⟩
     ·have HF := Aside0.mk (HE.out.symm.trans (takeEnd_bad (e := 11) (by rw [hT, if_pos (by omega)]) (by decide)))
      clear hU HU hS hT
      have hg3 : (decide (9223372036854775808 < U) = true) ∨ (decide (9223372036854775808 < U) = false ∧ (U == 9223372036854775808) = true) := by
       by_cases h : 9223372036854775808 < U
       ·exact .inl (decide_eq_true h)
       ·exact .inr ⟨decide_eq_false h, beq_iff_eq.2 (by omega)⟩
      rcases hg3 with hg1 | ⟨hg1, hg2⟩
      all_goals
       go_wp2_with (go_at_call 123; first | ((with_reducible refine (give_no _ _).mono ?_); rintro e w' ⟨rfl, rfl⟩) | ((with_reducible refine (give_yes _ _).mono ?_); rintro e w' ⟨rfl, rfl⟩))
       exact ⟨rfl, HF.out.symm, rfl⟩
    ·by_cases hg : 9223372036854775808 < U
     ·have HF := Aside0.mk (HE.out.symm.trans (takeEnd_bad (e := 11) (by rw [hT, if_pos (by omega)]) (by decide)))
      clear hU HU hS hT
      have hg1 : decide (9223372036854775808 < U) = true := decide_eq_true hg
      go_wp2_with (go_at_call 123; first | ((with_reducible refine (give_no _ _).mono ?_); rintro e w' ⟨rfl, rfl⟩) | ((with_reducible refine (give_yes _ _).mono ?_); rintro e w' ⟨rfl, rfl⟩))
      exact ⟨rfl, HF.out.symm, rfl⟩
     ·have hN : tkN l = wrap64 (IntKind.u64.wrap (-U)) := by
       unfold tkN; rw [if_pos hm, hU, IntKind.wrap_u64]; unfold wrap64; omega
      have HF := Aside0.mk (HE.out.symm.trans (takeEnd_good (by rw [hT, if_neg (by omega)])))
      rw [hN, hS] at HF
      clear hU HU hN hS hT
      have hg1 : decide (9223372036854775808 < U) = false := decide_eq_false (by omega)
      go_wp2_with (go_at_call 123; first | ((with_reducible refine (give_no _ _).mono ?_); rintro e w' ⟨rfl, rfl⟩) | ((with_reducible refine (give_yes _ _).mono ?_); rintro e w' ⟨rfl, rfl⟩))
      ·have h : U = 9223372036854775808 := by assumption
       rw [h] at HF
       go_ret2
       exact ⟨HF.out.symm, rfl⟩
      ·go_ret2
       exact ⟨HF.out.symm, rfl⟩
end Go.Proofs.YtgiefblcckikeaaGreat.M
end

section
/- Contract of trivet/shape.TakeNum. -/
namespace Go.Proofs.YtgiefblcckikeaaGreat.M
open Go.RowKit Go.Proofs.YtgiefblcckikeaaGreatW.PrintWords
def takeNum (l : List Int) : Int × Int × Int := if tkE l = 0 then (tkN l, tkS l, 0) else (0, 0, tkE l)
structure Boxes (b : Nat) (A : Option Addr) (c n : Nat) (z1 z2 : Value) (w : World) : Prop where
 b0 : w.cell? ⟨b, 0, none⟩ = some (.slice A n c)
 n0 : w.cell? ⟨b + 1, 0, none⟩ = some z1
 n1 : w.frozen? ⟨b + 1, 0, none⟩ = false
 s0 : w.cell? ⟨b + 2, 0, none⟩ = some z2
 s1 : w.frozen? ⟨b + 2, 0, none⟩ = false
theorem takenum1 (A : Option Addr) (c : Nat) (l : List Int) (w : World) (hr : Kd.C (Kd.int .u8) w A l.length l) (hc : l.length ≤ c) (hb : okB l = true) (b : Nat) (hx : Boxes b A c l.length (.int .i64 0) (.int .i64 0) w) :
  Calls Tryz.prog 168 #[.pointer (some ⟨b, 0, none⟩), .pointer (some ⟨b + 1, 0, none⟩), .pointer (some ⟨b + 2, 0, none⟩)] w fun e W => Keep2 b w W ∧
   (W.cell? ⟨b + 1, 0, none⟩ = some (.int .i64 (takeNum l).1) ∧ W.cell? ⟨b + 2, 0, none⟩ = some (.int .i64 (takeNum l).2.1) ∧ W.frozen? ⟨b + 1, 0, none⟩ = false ∧ W.frozen? ⟨b + 2, 0, none⟩ = false) ∧
   ((e = .returned (.tuple #[]) ∧ tkE l = 0) ∨ e = .panicked [{ v := wrongV (tkE l), recovered := false }]) := by
 have HT := Lib.hid (take_any A c l w hr hc hb)
 obtain ⟨hb0, hn0, hn1, hs0, hs1⟩ := hx
 by_cases he : tkE l = 0
 ·have HE := Aside0.mk (takeEnd_good he)
  have HZ := Aside0.mk he
  have HN := Aside0.mk (show takeNum l = (tkN l, tkS l, 0) by unfold takeNum; rw [if_pos he])
  clear he
  go_enter Tryz.func168, Tryz.ntmps168
  go_wp2_with (go_at_call 160; refine HT.out.mono ?_; rintro e w' ⟨rfl, rfl⟩; rw [HE.out])
  go_end0
  rw [HN.out]
  exact ⟨((Keep2.refl _ _).set1 _).set2 _, ⟨by simp [go_sem, hn0], by simp [go_sem, hs0], by simp [go_sem, hn1], by simp [go_sem, hs1]⟩, .inl ⟨rfl, HZ.out⟩⟩
 ·have HE := Aside0.mk (takeEnd_bad rfl he)
  have HN := Aside0.mk (show takeNum l = (0, 0, tkE l) by unfold takeNum; rw [if_neg he])
  clear he
  go_enter Tryz.func168, Tryz.ntmps168
  go_wp2_with (go_at_call 160; refine HT.out.mono ?_; rintro e w' ⟨rfl, rfl⟩; rw [HE.out])
  rw [HN.out]
  exact ⟨rfl, Keep2.refl _ _, ⟨hn0, hs0, hn1, hs1⟩, .inr rfl⟩
theorem takeNum_calls (A : Option Addr) (c : Nat) (l : List Int) (w : World) (hr : Kd.C (Kd.int .u8) w A l.length l) (hc : l.length ≤ c) (hb : okB l = true) :
  Calls Tryz.prog 153 #[.slice A l.length c] w fun e w' => e = .returned (.tuple #[.int .i64 (takeNum l).1, .int .i64 (takeNum l).2.1, .int .i64 (takeNum l).2.2]) ∧ Below w.heap.size w w' := by
 have HR := Aside0.mk hr
 have HC := Aside0.mk hc
 have HB := Aside0.mk hb
 clear hr hc hb
 have hmf : ∀ (fn : Fn) (first cap : Array Value) (w : World), (Instr.makeFunc fn first cap).run Tryz.prog w = .ok (.func fn first cap) w := fun _ _ _ _ => rfl
 go_enter Tryz.func153, Tryz.ntmps153
 go_wp2_with fail
 have HX : Boxes w.heap.size A c l.length (.int .i64 0) (.int .i64 0) ((((w.alloc (.cells #[.slice A l.length c] 23)).alloc (.cells #[.int .i64 0] 2)).alloc (.cells #[.int .i64 0] 3)).alloc (.cells #[.int .i64 0] 36)) := by
  constructor <;> simp [go_sem]
 refine (try_calls 168 _ w.heap.size _ _ (tkE l) (by simp) (enter_any _ _ _ Tryz.func168 rfl (by kernel_rfl))
  (takenum1 A c l _ (Kd.C_alloc (Kd.C_alloc (Kd.C_alloc (Kd.C_alloc HR.out _) _) _) _) HC.out HB.out w.heap.size HX)).mono ?_
 rintro e w1 ⟨W, ⟨hn, hs, hnf, hsf⟩, rfl, hk, hz, hbl, _⟩
 have hn1 : w1.cell? ⟨w.heap.size + 1, 0, none⟩ = some (.int .i64 (takeNum l).1) := (hbl.cell (by simp)).trans hn
 have hs1 : w1.cell? ⟨w.heap.size + 1 + 1, 0, none⟩ = some (.int .i64 (takeNum l).2.1) := (hbl.cell (by simp)).trans hs
 have hnf1 : w1.frozen? ⟨w.heap.size + 1, 0, none⟩ = false := (hbl.frozen (by simp)).trans hnf
 have hsf1 : w1.frozen? ⟨w.heap.size + 1 + 1, 0, none⟩ = false := (hbl.frozen (by simp)).trans hsf
 have HBL := Aside0.mk (show Below w.heap.size w w1 from
  (((((Below.refl w.heap.size w).alloc (Nat.le_refl _) _).alloc (by simp) _).alloc (by simp; omega) _).trans (hk.below (by omega) (by simp; omega))).trans (hbl.mono (by simp; omega)))
 have HT := Aside0.mk (show tkE l = (takeNum l).2.2 by unfold takeNum; split <;> simp [*])
 clear hn hs hnf hsf hk hz hbl HX
 go_wp2
 go_region
 all_goals
  go_wp2
  refine bodyPost_ret (v := .tuple #[.int .i64 (takeNum l).1, .int .i64 (takeNum l).2.1, .int .i64 (tkE l)]) (by simp [results, Tryz.results153, go_sem, hn1, hs1]) rfl ⟨by rw [HT.out], ?_⟩
  repeat first | exact HBL.out | exact (by assumption) | apply Below.drew | refine Below.setCell ?_ (by first | (simp; done) | (simp; omega)) _
end Go.Proofs.YtgiefblcckikeaaGreat.M
namespace Go.Proofs.YtgiefblcckikeaaGreat.G
open Go.RowKit Go.Proofs.YtgiefblcckikeaaGreatW.PrintWords Go.Proofs.YtgiefblcckikeaaGreat.M
def shape_TakeNum.f (l0 : List Int) : Option (Int × Int × Int) := if okB l0 = true then some (takeNum l0) else none
theorem shape_TakeNum.calls (A0 : Option Addr) (c0 : Nat) (l0 : List Int) (r1 : Int) (r2 : Int) (r3 : Int) (w : World) (hr0 : Kd.C (Kd.int .u8) w A0 l0.length l0) (hc0 : l0.length ≤ c0) (h : shape_TakeNum.f l0 = some (r1, r2, r3)) :
  Calls Tryz.prog 153 #[.slice A0 l0.length c0] w fun e w' => e = .returned (.tuple #[.int .i64 r1, .int .i64 r2, .int .i64 r3]) ∧ Below w.heap.size w w' := by
 unfold shape_TakeNum.f at h
 split at h
 ·rename_i hb
  have h := Option.some.inj h
  have h1 : r1 = (takeNum l0).1 := by rw [h]
  have h2 : r2 = (takeNum l0).2.1 := by rw [h]
  have h3 : r3 = (takeNum l0).2.2 := by rw [h]
  rw [h1, h2, h3]
  exact takeNum_calls A0 c0 l0 w hr0 hc0 hb
 ·cases h
end Go.Proofs.YtgiefblcckikeaaGreat.G
end

section
/- Contracts of trivet/shape.blob and trivet/shape.TakeBlob. -/
namespace Go.Proofs.YtgiefblcckikeaaGreat.M
open Go.RowKit Go.Proofs.YtgiefblcckikeaaGreatW.PrintWords
theorem tkN_bound {l : List Int} (hb : okB l = true) (h : tkE l = 0) : -9223372036854775808 ≤ tkN l ∧ tkN l ≤ 9223372036854775807 := by
 have h0 : 0 ≤ tkU l := by rw [← upFrom_zero]; exact upFrom_nonneg hb _ _
 unfold tkE at h
 split at h
 ·omega
 ·split at h
  ·omega
  ·split at h
   ·omega
   ·split at h
    ·omega
    ·split at h
     ·omega
     ·rename_i hh
      unfold big63 at hh
      unfold tkN
      have hr := okB_rd hb 0
      split
      ·unfold wrap64; omega
      ·omega
def blobV (A : Option Addr) (c : Nat) (l : List Int) : Value := .slice (if c = (blLo l).toNat then A else A.map (·.add ((blLo l).toNat * 1))) ((blHi l).toNat - (blLo l).toNat) (c - (blLo l).toNat)
set_option maxHeartbeats 1000000 in
theorem blob_any (A : Option Addr) (c : Nat) (l : List Int) (most more : Int) (w : World) (hr : Kd.C (Kd.int .u8) w A l.length l) (hc : l.length ≤ c) (hb : okB l = true) (hm0 : 0 ≤ more) (hm1 : more ≤ 8) (hlen : l.length < 140737488355328) :
  Calls Tryz.prog 122 #[.slice A l.length c, .int .i64 most, .int .i64 more] w fun e w' => w = w' ∧
   ((blE l most more = 0 ∧ e = .returned (.tuple #[blobV A c l, .int .i64 (blHi l)])) ∨ (¬ blE l most more = 0 ∧ e = .panicked [{ v := wrongV (blE l most more), recovered := false }])) := by
 have HT := Lib.hid (take_any A c l w hr hc hb)
 have HR := Aside0.mk hr
 have HBD := Aside0.mk (fun h => tkN_bound hb h)
 have HSZ := Aside0.mk (fun h => tkE_size (l := l) h)
 clear hr hb
 by_cases he : tkE l = 0
 ·have HE := Aside0.mk (takeEnd_good he)
  have hn := HBD.out he
  have hs := HSZ.out he
  have hs1 := tkS_pos l
  obtain ⟨n, HN⟩ : ∃ n, Aside0 (tkN l = n) := ⟨_, ⟨rfl⟩⟩
  obtain ⟨s, HS⟩ : ∃ s, Aside0 (tkS l = s) := ⟨_, ⟨rfl⟩⟩
  rw [HN.out, HS.out] at HE
  rw [HN.out] at hn
  rw [HS.out] at hs hs1
  have HBE := Aside0.mk (show blE l most more = if n < 0 then 11 else if most < n then 3 else if (l.length : Int) - s - more < n then 10 else 0 by unfold blE; rw [if_neg (by omega), HN.out, HS.out])
  clear he HBD HSZ
  by_cases h1 : n < 0
  ·have HZ := Aside0.mk (HBE.out.trans (if_pos h1))
   go_enter Tryz.func122, Tryz.ntmps122
   go_wp2_with (first | (go_at_call 160; refine HT.out.mono ?_; rintro e w' ⟨rfl, rfl⟩; rw [HE.out]) | (go_at_call 123; first | ((with_reducible refine (give_no _ _).mono ?_); rintro e w' ⟨rfl, rfl⟩) | ((with_reducible refine (give_yes _ _).mono ?_); rintro e w' ⟨rfl, rfl⟩)))
   exact ⟨rfl, rfl, .inr ⟨by rw [HZ.out]; decide, by rw [HZ.out]⟩⟩
  have g1 : decide (n < 0) = false := decide_eq_false h1
  by_cases h2 : most < n
  ·have HZ := Aside0.mk (HBE.out.trans ((if_neg h1).trans (if_pos h2)))
   go_enter Tryz.func122, Tryz.ntmps122
   go_wp2_with (first | (go_at_call 160; refine HT.out.mono ?_; rintro e w' ⟨rfl, rfl⟩; rw [HE.out]) | (go_at_call 123; first | ((with_reducible refine (give_no _ _).mono ?_); rintro e w' ⟨rfl, rfl⟩) | ((with_reducible refine (give_yes _ _).mono ?_); rintro e w' ⟨rfl, rfl⟩)))
   exact ⟨rfl, rfl, .inr ⟨by rw [HZ.out]; decide, by rw [HZ.out]⟩⟩
  have g2 : decide (most < n) = false := decide_eq_false h2
  by_cases h3 : (l.length : Int) - s - more < n
  ·have HZ := Aside0.mk (HBE.out.trans ((if_neg h1).trans ((if_neg h2).trans (if_pos h3))))
   go_enter Tryz.func122, Tryz.ntmps122
   go_wp2_with (first | (go_at_call 160; refine HT.out.mono ?_; rintro e w' ⟨rfl, rfl⟩; rw [HE.out]) | (go_at_call 123; first | ((with_reducible refine (give_no _ _).mono ?_); rintro e w' ⟨rfl, rfl⟩) | ((with_reducible refine (give_yes _ _).mono ?_); rintro e w' ⟨rfl, rfl⟩)))
   exact ⟨rfl, rfl, .inr ⟨by rw [HZ.out]; decide, by rw [HZ.out]⟩⟩
  have HZ := Aside0.mk (HBE.out.trans ((if_neg h1).trans ((if_neg h2).trans (if_neg h3))))
  have g3 : decide ((l.length : Int) - s - more < n) = false := decide_eq_false h3
  obtain ⟨i0, hi, hz0, hz1, hz2⟩ := info_parts infoU8
  have hcut := cut_mid (P := Tryz.prog) 23 5 .i64 .i64 Tryz.underlying23 hi 1 hz1 A l.length c s (s + n) (by omega) (by omega) (by omega) hc
  have hV0 : blobV A c l = .slice (if c = s.toNat then A else A.map (·.add (s.toNat * 1))) ((s + n).toNat - s.toNat) (c - s.toNat) := by unfold blobV blHi blLo; rw [HS.out, HN.out]
  rw [← hV0] at hcut
  clear hV0
  have HH := Aside0.mk (show blHi l = s + n by unfold blHi; rw [HS.out, HN.out])
  clear hi hz0 hz1 hz2
  go_enter Tryz.func122, Tryz.ntmps122
  go_wp2_with (first | (go_at_call 160; refine HT.out.mono ?_; rintro e w' ⟨rfl, rfl⟩; rw [HE.out]) | (go_at_call 123; first | ((with_reducible refine (give_no _ _).mono ?_); rintro e w' ⟨rfl, rfl⟩) | ((with_reducible refine (give_yes _ _).mono ?_); rintro e w' ⟨rfl, rfl⟩)))
  go_ret2
  exact ⟨rfl, .inl ⟨HZ.out, by rw [HH.out]; rfl⟩⟩
 ·have HE := Aside0.mk (takeEnd_bad rfl he)
  have HZ := Aside0.mk (show blE l most more = tkE l by unfold blE; rw [if_pos he])
  have HZ2 := Aside0.mk he
  clear he HBD HSZ
  go_enter Tryz.func122, Tryz.ntmps122
  go_wp2_with (go_at_call 160; refine HT.out.mono ?_; rintro e w' ⟨rfl, rfl⟩; rw [HE.out])
  exact ⟨rfl, rfl, .inr ⟨by rw [HZ.out]; exact HZ2.out, by rw [HZ.out]⟩⟩
theorem blD_length {l : List Int} (h : 1 ≤ blLo l ∧ blLo l ≤ blHi l ∧ blHi l ≤ (l.length : Int)) : (blD l).length = (blHi l).toNat - (blLo l).toNat := by
 unfold blD
 rw [List.length_drop, List.length_take]
 omega
theorem blobV_form {A : Option Addr} {c : Nat} {l : List Int} {w : World} (hr : Kd.C (Kd.int .u8) w A l.length l) (hc : l.length ≤ c) (h : 1 ≤ blLo l ∧ blLo l ≤ blHi l ∧ blHi l ≤ (l.length : Int)) :
  ∃ A' c', blobV A c l = .slice A' (blD l).length c' ∧ (blD l).length ≤ c' ∧ Kd.C (Kd.int .u8) w A' (blD l).length (blD l) := by
 refine ⟨_, c - (blLo l).toNat, ?_, ?_, Kd.C_mid (c := c) hr (by omega : (blLo l).toNat ≤ (blHi l).toNat) (by omega) hc⟩
 ·unfold blobV
  rw [blD_length h]
  rfl
 ·rw [blD_length h]; omega
theorem Own.set {W : World} {base : Nat} {v : Value} {l : List Int} (h : Own W base v l) {p : Addr} (hp : p.block < base) (u : Value) : Own (W.setCell p u) base v l :=
 Kd.R_mono (Kd.R_far (Kd.R_bound h) (p := p) (fun k hk e => by have := hk.2.1; omega) u) (fun _ _ => trivial)
theorem Own.below {W W' : World} {base : Nat} {v : Value} {l : List Int} (h : Own W base v l) (hb : Below W.heap.size W W') : Own W' base v l := Kd.R_below h hb
theorem Own.lower {W : World} {base base' : Nat} {v : Value} {l : List Int} (h : Own W base v l) (hb : base' ≤ base) : Own W base' v l := Kd.R_lower h hb
theorem Own.drew {W : World} {base : Nat} {v : Value} {l : List Int} (h : Own W base v l) : Own W.drew base v l := Kd.R_drew h
theorem Own.nil (W : World) (base : Nat) : Own W base (.slice none 0 0) [] := Kd.R_nil _ _ _ _ _
theorem Own.form {W : World} {base : Nat} {v : Value} {l : List Int} (h : Own W base v l) : ∃ A c, v = .slice A l.length c := Kd.R_slice h
theorem C_cells_imp {w W : World} {k : IntKind} {A : Option Addr} {n : Nat} {l : List Int} (h : Kd.C (Kd.int k) w A n l) (hk : ∀ (p : Addr) (x : Int), w.cell? p = some (.int k x) → W.cell? p = some (.int k x)) : Kd.C (Kd.int k) W A n l := by
 obtain ⟨h1, h2, h3⟩ := Kd.reads_of_C (d := (0 : Int)) h
 refine Kd.C_of_reads (d := (0 : Int)) (h1 := fun _ => rfl) ⟨h1, h2, fun hp => ?_⟩
 obtain ⟨ad, e, hc⟩ := h3 hp
 exact ⟨ad, e, fun j hj => hk _ _ (hc j hj)⟩
theorem C_over1 {w : World} {k : IntKind} {A : Option Addr} {n : Nat} {l : List Int} (h : Kd.C (Kd.int k) w A n l) {q : Addr} {z u : Value} (h1 : w.cell? q = some z) (hz : ∀ x, z ≠ .int k x) : Kd.C (Kd.int k) (w.setCell q u) A n l :=
 C_cells_imp h fun p x hp => (World.cell?_setCell_other _ _ _ _ (fun e => by subst e; rw [h1] at hp; exact hz x (Option.some.inj hp))).trans hp
def big62 : Int := 9223372036854775807
def takeBlob (l : List Int) : List Int × Int × Int := if blE l big62 0 = 0 then (blD l, blHi l, 0) else ([], 0, blE l big62 0)
set_option maxHeartbeats 1000000 in
theorem takeblob1 (A : Option Addr) (c : Nat) (l : List Int) (w : World) (hr : Kd.C (Kd.int .u8) w A l.length l) (hc : l.length ≤ c) (hb : okB l = true) (hlen : l.length < 140737488355328) (b : Nat) (hx : Boxes b A c l.length (.slice none 0 0) (.int .i64 0) w) (hbs : b + 3 ≤ w.heap.size) :
  Calls Tryz.prog 170 #[.pointer (some ⟨b, 0, none⟩), .pointer (some ⟨b + 1, 0, none⟩), .pointer (some ⟨b + 2, 0, none⟩)] w fun e W => Keep2 b w W ∧
   (∃ v, W.cell? ⟨b + 1, 0, none⟩ = some v ∧ W.cell? ⟨b + 2, 0, none⟩ = some (.int .i64 (takeBlob l).2.1) ∧ W.frozen? ⟨b + 1, 0, none⟩ = false ∧ W.frozen? ⟨b + 2, 0, none⟩ = false ∧ Own W w.heap.size v (takeBlob l).1) ∧
   ((e = .returned (.tuple #[]) ∧ blE l big62 0 = 0) ∨ e = .panicked [{ v := wrongV (blE l big62 0), recovered := false }]) := by
 have hT := blob_any A c l big62 0 w hr hc hb (by decide) (by decide) hlen
 obtain ⟨hb0, hn0, hn1, hs0, hs1⟩ := hx
 by_cases he : blE l big62 0 = 0
 ·obtain ⟨g1, g2, g3, g4, g5, g6⟩ := blE_good he
  obtain ⟨A', c', hV, hc', hr'⟩ := blobV_form hr hc ⟨g6, g5, by omega⟩
  have hl' : (blD l).length < 140737488355328 := by rw [blD_length ⟨g6, g5, by omega⟩]; omega
  have HN := Aside0.mk (show takeBlob l = (blD l, blHi l, 0) by unfold takeBlob; rw [if_pos he])
  have HZ := Aside0.mk he
  have HT := Lib.hid (hT.mono (R' := fun e w' => w = w' ∧ e = .returned (.tuple #[.slice A' (blD l).length c', .int .i64 (blHi l)])) (by
   rintro e w' ⟨rfl, ⟨_, rfl⟩ | ⟨h, _⟩⟩
   ·exact ⟨rfl, by rw [hV]⟩
   ·exact absurd he h))
  have HR := Aside0.mk hr'
  clear he hV hr' g1 g2 g3 g4 g5 g6 hr hT
  unfold big62 at HT
  go_enter Tryz.func170, Tryz.ntmps170
  go_wp2_with (go_at_call 122; refine HT.out.mono ?_; rintro e w' ⟨rfl, rfl⟩)
  refine (clone_calls A' c' (blD l) _ (C_over1 (C_over1 HR.out hn0 (by simp)) (z := .int .i64 0) (by rw [World.cell?_setCell_other _ _ _ _ (by simp)]; exact hs0) (by simp)) hc' hl').mono ?_
  rintro e w1 ⟨v, rfl, ho, hbl⟩
  obtain ⟨Av, cv, rfl⟩ := ho.form
  have HO := Aside0.mk ho
  have HBL := Aside0.mk hbl
  have k1 : w1.cell? ⟨b + 1, 0, none⟩ = some (.slice A' (blD l).length c') := by
   rw [hbl.cell (by simp [World.setCell]; omega), World.cell?_setCell_other _ _ _ _ (by simp)]; exact World.cell?_setCell_same' _ _ _ (by rw [hn0]; rfl)
  have k2 : w1.cell? ⟨b + 2, 0, none⟩ = some (.int .i64 (blHi l)) := by
   rw [hbl.cell (by simp [World.setCell]; omega)]; exact World.cell?_setCell_same' _ _ _ (by rw [World.cell?_setCell_other _ _ _ _ (by simp), hs0]; rfl)
  have k3 : w1.frozen? ⟨b + 1, 0, none⟩ = false := by
   rw [hbl.frozen (by simp [World.setCell]; omega)]; simp [hn1]
  have k4 : w1.frozen? ⟨b + 2, 0, none⟩ = false := by
   rw [hbl.frozen (by simp [World.setCell]; omega)]; simp [hs1]
  clear ho hbl
  go_wp2
  go_end0
  rw [HN.out]
  refine ⟨(((Keep2.refl b w).set1 _).set2 _ |>.trans (Keep2.of_below HBL.out)).set1 _, ⟨_, World.cell?_setCell_same' _ _ _ (by rw [k1]; rfl), ?_, ?_, ?_, ?_⟩, .inl ⟨rfl, HZ.out⟩⟩
  ·rw [World.cell?_setCell_other _ _ _ _ (by simp)]; exact k2
  ·simp [k3]
  ·simp [k4]
  ·exact (HO.out.lower (by simp [World.setCell])).set (p := ⟨b + 1, 0, none⟩) (by show b + 1 < _; omega) _
 ·have HN := Aside0.mk (show takeBlob l = ([], 0, blE l big62 0) by unfold takeBlob; rw [if_neg he])
  have HT := Lib.hid (hT.mono (R' := fun e w' => w = w' ∧ e = .panicked [{ v := wrongV (blE l big62 0), recovered := false }]) (by
   rintro e w' ⟨rfl, ⟨h, _⟩ | ⟨_, rfl⟩⟩
   ·exact absurd h he
   ·exact ⟨rfl, rfl⟩))
  clear he hr hT
  obtain ⟨er, HER⟩ : ∃ er, Aside0 (blE l big62 0 = er) := ⟨_, ⟨rfl⟩⟩
  rw [HER.out] at HT HN ⊢
  unfold big62 at HT
  go_enter Tryz.func170, Tryz.ntmps170
  go_wp2_with (go_at_call 122; refine HT.out.mono ?_; rintro e w' ⟨rfl, rfl⟩)
  rw [HN.out]
  exact ⟨rfl, Keep2.refl _ _, ⟨_, hn0, hs0, hn1, hs1, Own.nil _ _⟩, .inr rfl⟩
end Go.Proofs.YtgiefblcckikeaaGreat.M
namespace Go.Proofs.YtgiefblcckikeaaGreat.M
open Go.RowKit Go.Proofs.YtgiefblcckikeaaGreatW.PrintWords
theorem takeBlob_calls (A : Option Addr) (c : Nat) (l : List Int) (w : World) (hr : Kd.C (Kd.int .u8) w A l.length l) (hc : l.length ≤ c) (hb : okB l = true) (hlen : l.length < 140737488355328) :
  Calls Tryz.prog 161 #[.slice A l.length c] w fun e w' => ∃ v0_ : Value, e = .returned (.tuple #[v0_, .int .i64 (takeBlob l).2.1, .int .i64 (takeBlob l).2.2]) ∧ Own w' w.heap.size v0_ (takeBlob l).1 ∧ Below w.heap.size w w' := by
 have HR := Aside0.mk hr
 have HC := Aside0.mk hc
 have HB := Aside0.mk hb
 have HL := Aside0.mk hlen
 clear hr hc hb hlen
 have hmf : ∀ (fn : Fn) (first cap : Array Value) (w : World), (Instr.makeFunc fn first cap).run Tryz.prog w = .ok (.func fn first cap) w := fun _ _ _ _ => rfl
 go_enter Tryz.func161, Tryz.ntmps161
 go_wp2_with fail
 have HX : Boxes w.heap.size A c l.length (.slice none 0 0) (.int .i64 0) ((((w.alloc (.cells #[.slice A l.length c] 23)).alloc (.cells #[.slice none 0 0] 23)).alloc (.cells #[.int .i64 0] 3)).alloc (.cells #[.int .i64 0] 36)) := by
  constructor <;> simp [go_sem]
 refine (try_calls 170 _ w.heap.size _ _ (blE l big62 0) (by simp) (enter_any _ _ _ Tryz.func170 rfl (by kernel_rfl))
  (takeblob1 A c l _ (Kd.C_alloc (Kd.C_alloc (Kd.C_alloc (Kd.C_alloc HR.out _) _) _) _) HC.out HB.out HL.out w.heap.size HX (by simp))).mono ?_
 rintro e w1 ⟨W, ⟨v, hn, hs, hnf, hsf, ho⟩, rfl, hk, hz, hbl, hg⟩
 simp only [World.size_alloc] at hz hbl hg ho
 obtain ⟨Av, cv, rfl⟩ := ho.form
 have hn1 : w1.cell? ⟨w.heap.size + 1, 0, none⟩ = some (.slice Av (takeBlob l).1.length cv) := (hbl.cell (by simp)).trans hn
 have hs1 : w1.cell? ⟨w.heap.size + 1 + 1, 0, none⟩ = some (.int .i64 (takeBlob l).2.1) := (hbl.cell (by simp)).trans hs
 have hnf1 : w1.frozen? ⟨w.heap.size + 1, 0, none⟩ = false := (hbl.frozen (by simp)).trans hnf
 have hsf1 : w1.frozen? ⟨w.heap.size + 1 + 1, 0, none⟩ = false := (hbl.frozen (by simp)).trans hsf
 have HO1 := Aside0.mk (show Own w1 (w.heap.size + 1 + 1 + 1 + 1) (.slice Av (takeBlob l).1.length cv) (takeBlob l).1 from
  Kd.R_mono (Kd.R_grown (Kd.R_bound ho) hg (fun k hk e => by have := hk.2.1; have := Option.some.inj e; omega)) (fun _ _ => trivial))
 have HBL := Aside0.mk (show Below w.heap.size w w1 from
  (((((Below.refl w.heap.size w).alloc (Nat.le_refl _) _).alloc (by simp) _).alloc (by simp; omega) _).trans (hk.below (by omega) (by simp; omega))).trans (hbl.mono (by omega)))
 have HT := Aside0.mk (show blE l big62 0 = (takeBlob l).2.2 by unfold takeBlob; split <;> simp [*])
 obtain ⟨er, her⟩ : ∃ er, blE l big62 0 = er := ⟨_, rfl⟩
 rw [her] at HT ⊢
 clear hn hs hnf hsf hk hz hbl HX hg ho her
 go_wp2
 go_region
 all_goals
  go_wp2
  refine bodyPost_ret (v := .tuple #[.slice Av (takeBlob l).1.length cv, .int .i64 (takeBlob l).2.1, .int .i64 er]) (by simp [results, Tryz.results161, go_sem, hn1, hs1]) rfl ⟨_, by rw [HT.out], ?_, ?_⟩
  ·refine Own.lower (base := w.heap.size + 1 + 1 + 1 + 1) ?_ (by omega)
   repeat first | exact HO1.out | apply Own.drew | refine Own.set ?_ (by first | (simp; done) | (simp; omega)) _
  ·repeat first | exact HBL.out | exact (by assumption) | apply Below.drew | refine Below.setCell ?_ (by first | (simp; done) | (simp; omega)) _
end Go.Proofs.YtgiefblcckikeaaGreat.M
namespace Go.Proofs.YtgiefblcckikeaaGreat.G
open Go.RowKit Go.Proofs.YtgiefblcckikeaaGreatW.PrintWords Go.Proofs.YtgiefblcckikeaaGreat.M
def shape_TakeBlob.f (l0 : List Int) : Option (List Int × Int × Int) := if okB l0 = true ∧ l0.length < 140737488355328 then some (takeBlob l0) else none
theorem shape_TakeBlob.calls (A0 : Option Addr) (c0 : Nat) (l0 : List Int) (r1 : List Int) (r2 : Int) (r3 : Int) (w : World) (hr0 : Kd.C (Kd.int .u8) w A0 l0.length l0) (hc0 : l0.length ≤ c0) (h : shape_TakeBlob.f l0 = some (r1, r2, r3)) :
  Calls Tryz.prog 161 #[.slice A0 l0.length c0] w fun e w' => ∃ v0_ : Value, e = .returned (.tuple #[v0_, .int .i64 r2, .int .i64 r3]) ∧ Kd.R (Kd.int .u8) 5 w' w.heap.size (fun _ => True) v0_ r1 ∧ Below w.heap.size w w' := by
 unfold shape_TakeBlob.f at h
 split at h
 ·rename_i hb
  have h := Option.some.inj h
  have h1 : r1 = (takeBlob l0).1 := by rw [h]
  have h2 : r2 = (takeBlob l0).2.1 := by rw [h]
  have h3 : r3 = (takeBlob l0).2.2 := by rw [h]
  rw [h1, h2, h3]
  exact takeBlob_calls A0 c0 l0 w hr0 hc0 hb.1 hb.2
 ·cases h
end Go.Proofs.YtgiefblcckikeaaGreat.G
end

section
/- The eye: numbers and bytes read off bytes. -/
attribute [local irreducible] Go.wpStill
namespace Go.Proofs.YtgiefblcckikeaaGreat.M
open Go.RowKit Go.Proofs.YtgiefblcckikeaaGreatW.PrintWords Go.Proofs.YtgiefblcckikeaaGreatW.PrintLast Go.Proofs.YtgiefblcckikeaaGreatW.PrintMore Go.Proofs.YtgiefblcckikeaaGreat.G
structure EyeS where
 l : List Int
 e : Int
 o : Bool
def eNum (s : EyeS) : Int × EyeS := if s.e = 0 then ((takeNum s.l).1, ⟨s.l.drop (takeNum s.l).2.1.toNat, (takeNum s.l).2.2, s.o⟩) else (0, s)
def eSmall (s : EyeS) : Int × EyeS := if IntKind.i32.wrap (eNum s).1 = (eNum s).1 then eNum s else (0, { (eNum s).2 with o := true })
def eData (s : EyeS) : List Int × EyeS := if s.e = 0 then ((takeBlob s.l).1, ⟨s.l.drop (takeBlob s.l).2.1.toNat, (takeBlob s.l).2.2, s.o⟩) else ([], s)
def eWrong (b : Bool) (s : EyeS) : EyeS := if s.e = 0 ∧ b = true then { s with e := 40 } else s
def okS (s : EyeS) : Prop := okB s.l = true ∧ s.l.length < 140737488355328
theorem okS_num {s : EyeS} (h : okS s) : okS (eNum s).2 := by
 unfold eNum
 split
 ·exact ⟨okB_drop h.1 _, by have := h.2; simp only [List.length_drop]; omega⟩
 ·exact h
theorem okS_small {s : EyeS} (h : okS s) : okS (eSmall s).2 := by
 unfold eSmall
 split
 ·exact okS_num h
 ·exact okS_num h
theorem okS_data {s : EyeS} (h : okS s) : okS (eData s).2 := by
 unfold eData
 split
 ·exact ⟨okB_drop h.1 _, by have := h.2; simp only [List.length_drop]; omega⟩
 ·exact h
theorem okS_wrong {s : EyeS} (b : Bool) (h : okS s) : okS (eWrong b s) := by
 unfold eWrong
 split <;> exact h
def IsEye (w0 W : World) (x : Nat) (s : EyeS) : Prop := ∃ (A : Option Addr) (c : Nat), W.heap[x]? = some (.cells #[.slice A s.l.length c, .int .i64 s.e, .bool s.o] 81) ∧ w0.heap.size ≤ x ∧ s.l.length ≤ c ∧ Kd.C (Kd.int .u8) w0 A s.l.length s.l
theorem IsEye.lt {w0 W : World} {x : Nat} {s : EyeS} (h : IsEye w0 W x s) : x < W.heap.size := by
 obtain ⟨A, c, h1, _⟩ := h
 exact (Array.getElem?_eq_some_iff.1 h1).1
theorem IsEye.below {w0 W W' : World} {x : Nat} {s : EyeS} (h : IsEye w0 W x s) (hb : Below W.heap.size W W') : IsEye w0 W' x s := by
 have hl := h.lt
 obtain ⟨A, c, h1, h2⟩ := h
 exact ⟨A, c, (hb.block x hl).trans h1, h2⟩
theorem IsEye.ge {w0 W : World} {x : Nat} {s : EyeS} (h : IsEye w0 W x s) : w0.heap.size ≤ x := by
 obtain ⟨A, c, h1, h2, _⟩ := h
 exact h2
def EyP (w0 w : World) (x : Nat) (r : Value) (s' : EyeS) (e : Ending) (w' : World) : Prop := e = .returned r ∧ IsEye w0 w' x s' ∧ Below w0.heap.size w0 w' ∧ KeepS (fun i => i = x) w w'
theorem cutE {A : Option Addr} {c : Nat} {l : List Int} (j : Nat) (hj : j ≤ l.length) (hc : l.length ≤ c) :
  ∃ A' : Option Addr, (∀ W : World, (Instr.slice 23 (.slice A l.length c) (some (.int .i64 (j : Int))) none none).run Tryz.prog W = .ok (.slice A' (l.drop j).length (c - j)) W) ∧ (∀ w : World, Kd.C (Kd.int .u8) w A l.length l → Kd.C (Kd.int .u8) w A' (l.drop j).length (l.drop j)) ∧ (l.drop j).length ≤ c - j := by
 obtain ⟨i0, hi, hzz⟩ := Option.map_eq_some_iff.1 infoU8
 simp only [Prod.mk.injEq] at hzz
 obtain ⟨hz0, hz1, hz2⟩ := hzz
 refine ⟨if c = j then A else A.map (·.add (j * 1)), fun W => ?_, fun w h => ?_, ?_⟩
 ·have := cut_from (P := Tryz.prog) 23 5 .i64 Tryz.underlying23 hi 1 hz1 A l.length c (j : Int) (by omega) (by omega) W
  rw [Int.toNat_natCast] at this
  rw [List.length_drop]
  exact this
 ·have := Kd.C_drop h hj hc
  exact this
 ·rw [List.length_drop]; omega
theorem takeNum_size (l : List Int) : 0 ≤ (takeNum l).2.1 ∧ (takeNum l).2.1 ≤ l.length := by
 unfold takeNum
 by_cases h : tkE l = 0
 ·rw [if_pos h]
  simp only
  unfold tkE at h
  unfold tkS
  split at h
  ·omega
  ·split at h
   ·omega
   ·split at h
    ·omega
    ·omega
 ·rw [if_neg h]
  simp
set_option maxHeartbeats 1000000 in
theorem eNum_is {w0 w : World} {x : Nat} {s : EyeS} (hI : IsEye w0 w x s) (hB : Below w0.heap.size w0 w) (hok : okS s) :
  Calls Tryz.prog 110 #[.pointer (some ⟨x, 0, none⟩)] w fun e w' => EyP w0 w x (.int .i64 (eNum s).1) (eNum s).2 e w' := by
 have HI := Lib.hid hI; have HB := Lib.hid hB
 obtain ⟨A, c, h1, h2, h3, h4⟩ := hI
 have c0 : w.cell? ⟨x, 0, none⟩ = some (.slice A s.l.length c) := by simp [World.cell?, h1]
 have c1 : w.cell? ⟨x, 1, none⟩ = some (.int .i64 s.e) := by simp [World.cell?, h1]
 have HGE := Lib.hid h2
 by_cases he : s.e = 0
 ·have hb : (s.e != 0) = false := by rw [he]; rfl
  have HN := Lib.hid (takeNum_calls A c s.l w (Kd.C_below h4 hB) h3 hok.1)
  have HF := Lib.hid (show eNum s = ((takeNum s.l).1, ⟨s.l.drop (takeNum s.l).2.1.toNat, (takeNum s.l).2.2, s.o⟩) by unfold eNum; rw [if_pos he])
  obtain ⟨z0, z1⟩ := takeNum_size s.l
  obtain ⟨j, hj⟩ : ∃ j : Nat, (takeNum s.l).2.1 = (j : Int) := ⟨(takeNum s.l).2.1.toNat, by omega⟩
  obtain ⟨A', hcut, hC, hc'⟩ := cutE (A := A) (c := c) (l := s.l) j (by omega) h3
  obtain ⟨n, hn⟩ : ∃ n, (takeNum s.l).1 = n := ⟨_, rfl⟩
  obtain ⟨er, her⟩ : ∃ er, (takeNum s.l).2.2 = er := ⟨_, rfl⟩
  rw [hn, hj, her] at HN HF
  rw [Int.toNat_natCast] at HF
  have HC := Lib.hid (hC w0 h4)
  have HCC := Lib.hid hc'
  have HHE := Lib.hid h1
  obtain ⟨l2, hl2⟩ : ∃ l2, s.l.drop j = l2 := ⟨_, rfl⟩
  rw [hl2] at hcut HC HF HCC
  clear hB hok h1 h2 h3 h4 he z0 z1 hj hC hc' hn her hl2
  go_enter Tryz.func110, Tryz.ntmps110
  go_wp2_with fail
  refine HN.out.mono ?_
  rintro e w1 ⟨rfl, hb⟩
  have HB1 := Lib.hid (HB.out.trans (hb.mono HB.out.size))
  have HH1 := Lib.hid ((hb.block x HI.out.lt).trans HHE.out)
  have HK1 := Lib.hid (KeepS.of_below (fun i => i = x) hb)
  have d0 : w1.cell? ⟨x, 0, none⟩ = some (.slice A s.l.length c) := by simp [World.cell?, HH1.out]
  have d1 : w1.cell? ⟨x, 1, none⟩ = some (.int .i64 s.e) := by simp [World.cell?, HH1.out]
  have z0 : w1.frozen? ⟨x, 0, none⟩ = false := by simp [World.frozen?, HH1.out]
  have z1 : w1.frozen? ⟨x, 1, none⟩ = false := by simp [World.frozen?, HH1.out]
  clear hb c0 c1
  go_wp2_with fail
  go_ret
  refine ⟨by rw [HF.out]; rfl, ⟨A', c - j, ?_, HGE.out, ?_, ?_⟩, (HB1.out.setCell (by exact HGE.out) _).setCell (by exact HGE.out) _, (HK1.out.set (p := ⟨x, 1, none⟩) (.inl rfl) _).set (p := ⟨x, 0, none⟩) (.inl rfl) _⟩
  ·rw [HF.out]
   have e1 := heap_same w1 ⟨x, 1, none⟩ (.int .i64 er) HH1.out rfl
   have e2 := heap_same _ ⟨x, 0, none⟩ (.slice A' l2.length (c - j)) e1 rfl
   simpa using e2
  ·rw [HF.out]; exact HCC.out
  ·rw [HF.out]; exact HC.out
 ·have hb : (s.e != 0) = true := bne_iff_ne.2 he
  have HF := Lib.hid (show eNum s = (0, s) by unfold eNum; rw [if_neg he])
  clear hB hok h1 h2 h3 h4 he
  go_enter Tryz.func110, Tryz.ntmps110
  go_wp2_with fail
  go_ret
  exact ⟨by rw [HF.out]; rfl, by rw [HF.out]; exact HI.out, HB.out, KeepS.refl _ _⟩
theorem takeBlob_size {l : List Int} (h : okB l = true) (hl : l.length < 140737488355328) : 0 ≤ (takeBlob l).2.1 ∧ (takeBlob l).2.1 ≤ l.length := by
 unfold takeBlob
 by_cases h0 : blE l big62 0 = 0
 ·rw [if_pos h0]
  obtain ⟨h1, h2, h3, h4, h5, h6⟩ := blE_good h0
  show 0 ≤ blHi l ∧ blHi l ≤ l.length
  omega
 ·rw [if_neg h0]
  show (0 : Int) ≤ 0 ∧ (0 : Int) ≤ l.length
  omega
def DaP (w0 w : World) (x : Nat) (l : List Int) (s' : EyeS) (e : Ending) (w' : World) : Prop := ∃ v : Value, e = .returned v ∧ Kd.R (Kd.int .u8) 5 w' w.heap.size (fun k => k ≠ x) v l ∧ IsEye w0 w' x s' ∧ Below w0.heap.size w0 w' ∧ KeepS (fun i => i = x) w w'
set_option maxHeartbeats 1000000 in
theorem eData_is {w0 w : World} {x : Nat} {s : EyeS} (hI : IsEye w0 w x s) (hB : Below w0.heap.size w0 w) (hok : okS s) :
  Calls Tryz.prog 128 #[.pointer (some ⟨x, 0, none⟩)] w fun e w' => DaP w0 w x (eData s).1 (eData s).2 e w' := by
 have HI := Lib.hid hI; have HB := Lib.hid hB
 obtain ⟨A, c, h1, h2, h3, h4⟩ := hI
 have c0 : w.cell? ⟨x, 0, none⟩ = some (.slice A s.l.length c) := by simp [World.cell?, h1]
 have c1 : w.cell? ⟨x, 1, none⟩ = some (.int .i64 s.e) := by simp [World.cell?, h1]
 have HGE := Lib.hid h2
 by_cases he : s.e = 0
 ·have hb : (s.e != 0) = false := by rw [he]; rfl
  have HN := Lib.hid (takeBlob_calls A c s.l w (Kd.C_below h4 hB) h3 hok.1 hok.2)
  have HF := Lib.hid (show eData s = ((takeBlob s.l).1, ⟨s.l.drop (takeBlob s.l).2.1.toNat, (takeBlob s.l).2.2, s.o⟩) by unfold eData; rw [if_pos he])
  obtain ⟨z0, z1⟩ := takeBlob_size hok.1 hok.2
  obtain ⟨j, hj⟩ : ∃ j : Nat, (takeBlob s.l).2.1 = (j : Int) := ⟨(takeBlob s.l).2.1.toNat, by omega⟩
  obtain ⟨A', hcut, hC, hc'⟩ := cutE (A := A) (c := c) (l := s.l) j (by omega) h3
  obtain ⟨n, hn⟩ : ∃ n, (takeBlob s.l).1 = n := ⟨_, rfl⟩
  obtain ⟨er, her⟩ : ∃ er, (takeBlob s.l).2.2 = er := ⟨_, rfl⟩
  rw [hn, hj, her] at HN HF
  rw [Int.toNat_natCast] at HF
  have HC := Lib.hid (hC w0 h4)
  have HCC := Lib.hid hc'
  have HHE := Lib.hid h1
  obtain ⟨l2, hl2⟩ : ∃ l2, s.l.drop j = l2 := ⟨_, rfl⟩
  rw [hl2] at hcut HC HF HCC
  clear hB hok h1 h2 h3 h4 he z0 z1 hj hC hc' hn her hl2
  go_enter Tryz.func128, Tryz.ntmps128
  go_wp2_with fail
  refine HN.out.mono ?_
  rintro e w1 ⟨v, rfl, hv, hb⟩
  have HB1 := Lib.hid (HB.out.trans (hb.mono HB.out.size))
  have HH1 := Lib.hid ((hb.block x HI.out.lt).trans HHE.out)
  have HK1 := Lib.hid (KeepS.of_below (fun i => i = x) hb)
  have d0 : w1.cell? ⟨x, 0, none⟩ = some (.slice A s.l.length c) := by simp [World.cell?, HH1.out]
  have d1 : w1.cell? ⟨x, 1, none⟩ = some (.int .i64 s.e) := by simp [World.cell?, HH1.out]
  have z0 : w1.frozen? ⟨x, 0, none⟩ = false := by simp [World.frozen?, HH1.out]
  have z1 : w1.frozen? ⟨x, 1, none⟩ = false := by simp [World.frozen?, HH1.out]
  have HV := Lib.hid (show Kd.R (Kd.int .u8) 5 w1 w.heap.size (fun k => k ≠ x) v n from Kd.R_mono (Kd.R_bound hv) (fun k hk => by have := hk.2.1; have := HI.out.lt; omega))
  clear hb hv c0 c1
  go_wp2_with fail
  go_ret
  refine ⟨v, rfl, ?_, ⟨A', c - j, ?_, HGE.out, ?_, ?_⟩, (HB1.out.setCell (by exact HGE.out) _).setCell (by exact HGE.out) _, (HK1.out.set (p := ⟨x, 1, none⟩) (.inl rfl) _).set (p := ⟨x, 0, none⟩) (.inl rfl) _⟩
  ·rw [HF.out]
   exact Kd.R_step HV.out (fun k hk hl => (Below.heap_setCell _ ⟨x, 0, none⟩ _ k hk).trans (Below.heap_setCell w1 ⟨x, 1, none⟩ _ k hk))
  ·rw [HF.out]
   have e1 := heap_same w1 ⟨x, 1, none⟩ (.int .i64 er) HH1.out rfl
   have e2 := heap_same _ ⟨x, 0, none⟩ (.slice A' l2.length (c - j)) e1 rfl
   simpa using e2
  ·rw [HF.out]; exact HCC.out
  ·rw [HF.out]; exact HC.out
 ·have hb : (s.e != 0) = true := bne_iff_ne.2 he
  have HF := Lib.hid (show eData s = ([], s) by unfold eData; rw [if_neg he])
  clear hB hok h1 h2 h3 h4 he
  go_enter Tryz.func128, Tryz.ntmps128
  go_wp2_with fail
  go_ret
  exact ⟨.slice none 0 0, rfl, by rw [HF.out]; exact Kd.R_nil _ _ _ _ _, by rw [HF.out]; exact HI.out, HB.out, KeepS.refl _ _⟩
theorem eSmall_is {w0 w : World} {x : Nat} {s : EyeS} (hI : IsEye w0 w x s) (hB : Below w0.heap.size w0 w) (hok : okS s) :
  Calls Tryz.prog 112 #[.pointer (some ⟨x, 0, none⟩)] w fun e w' => EyP w0 w x (.int .i64 (eSmall s).1) (eSmall s).2 e w' := by
 have HN := Lib.hid (eNum_is hI hB hok)
 obtain ⟨n, hn⟩ : ∃ n, (eNum s).1 = n := ⟨_, rfl⟩
 obtain ⟨s2, hs2⟩ : ∃ s2, (eNum s).2 = s2 := ⟨_, rfl⟩
 rw [hn, hs2] at HN
 clear hI hB hok
 by_cases h : IntKind.i32.wrap n = n
 ·have HF := Lib.hid (show eSmall s = (n, s2) by unfold eSmall; rw [hn, if_pos h, ← hn, ← hs2])
  have hb : (n != wrap64 (wrap32 n)) = false := by
   rw [bne_eq_false_iff_eq]
   rw [IntKind.wrap_i32] at h
   unfold wrap64 wrap32
   omega
  clear hn hs2 h
  go_enter Tryz.func112, Tryz.ntmps112
  go_wp2_with fail
  refine HN.out.mono ?_
  rintro e w1 ⟨rfl, h1, h2, h3⟩
  have H1 := Lib.hid h1; have H2 := Lib.hid h2; have H3 := Lib.hid h3
  clear h1 h2 h3
  go_wp2_with fail
  go_ret
  exact ⟨by rw [HF.out]; rfl, by rw [HF.out]; exact H1.out, H2.out, H3.out⟩
 ·have HF := Lib.hid (show eSmall s = (0, { s2 with o := true }) by unfold eSmall; rw [hn, if_neg h, ← hs2])
  have hb : (n != wrap64 (wrap32 n)) = true := by
   rw [bne_iff_ne]
   rw [IntKind.wrap_i32] at h
   unfold wrap64 wrap32
   omega
  clear hn hs2 h
  go_enter Tryz.func112, Tryz.ntmps112
  go_wp2_with fail
  refine HN.out.mono ?_
  rintro e w1 ⟨rfl, h1, h2, h3⟩
  have H2 := Lib.hid h2; have H3 := Lib.hid h3
  obtain ⟨A, c, g1, g2, g3, g4⟩ := h1
  have HG := Lib.hid g1; have HGE := Lib.hid g2; have H34 := Lib.hid (And.intro g3 g4)
  have d2 : w1.cell? ⟨x, 2, none⟩ = some (.bool s2.o) := by simp [World.cell?, g1]
  have z2 : w1.frozen? ⟨x, 2, none⟩ = false := by simp [World.frozen?, g1]
  clear h2 h3 g1 g2 g3 g4
  go_wp2_with fail
  go_ret
  refine ⟨by rw [HF.out]; rfl, ?_, H2.out.setCell (by exact HGE.out) _, H3.out.set (p := ⟨x, 2, none⟩) (.inl rfl) _⟩
  rw [HF.out]
  refine ⟨A, c, ?_, HGE.out, H34.out.1, H34.out.2⟩
  have e1 := heap_same w1 ⟨x, 2, none⟩ (.bool true) HG.out rfl
  simpa using e1
theorem eWrong_is {w0 w : World} {x : Nat} {s : EyeS} (hI : IsEye w0 w x s) (hB : Below w0.heap.size w0 w) (b : Bool) :
  Calls Tryz.prog 111 #[.pointer (some ⟨x, 0, none⟩), .bool b] w fun e w' => EyP w0 w x (.tuple #[]) (eWrong b s) e w' := by
 have HI := Lib.hid hI; have HB := Lib.hid hB
 obtain ⟨A, c, h1, h2, h3, h4⟩ := hI
 have HGE := Lib.hid h2; have HH := Lib.hid h1; have H34 := Lib.hid (And.intro h3 h4)
 have c1 : w.cell? ⟨x, 1, none⟩ = some (.int .i64 s.e) := by simp [World.cell?, h1]
 have z1 : w.frozen? ⟨x, 1, none⟩ = false := by simp [World.frozen?, h1]
 clear h1 h2 h3 h4 hB
 by_cases he : s.e = 0
 ·have hb : (s.e == 0) = true := by rw [he]; rfl
  cases b with
  | true =>
   have HF := Lib.hid (show eWrong true s = { s with e := 40 } by unfold eWrong; rw [if_pos ⟨he, rfl⟩])
   clear he
   go_enter Tryz.func111, Tryz.ntmps111
   go_wp2_with fail
   go_end0
   refine ⟨rfl, ?_, HB.out.setCell (by exact HGE.out) _, (KeepS.refl (fun i => i = x) w).set (p := ⟨x, 1, none⟩) (.inl rfl) _⟩
   rw [HF.out]
   refine ⟨A, c, ?_, HGE.out, H34.out.1, H34.out.2⟩
   have e1 := heap_same w ⟨x, 1, none⟩ (.int .i64 40) HH.out rfl
   simpa using e1
  | false =>
   have HF := Lib.hid (show eWrong false s = s by unfold eWrong; rw [if_neg (fun h => by cases h.2)])
   clear he
   go_enter Tryz.func111, Tryz.ntmps111
   go_wp2_with fail
   go_end0
   exact ⟨rfl, by rw [HF.out]; exact HI.out, HB.out, KeepS.refl _ _⟩
 ·have hb : (s.e == 0) = false := beq_eq_false_iff_ne.2 he
  have HF := Lib.hid (show eWrong b s = s by unfold eWrong; rw [if_neg (fun h => he h.1)])
  clear he
  go_enter Tryz.func111, Tryz.ntmps111
  go_wp2_with fail
  go_end0
  exact ⟨rfl, by rw [HF.out]; exact HI.out, HB.out, KeepS.refl _ _⟩
end Go.Proofs.YtgiefblcckikeaaGreat.M
end

section
/- The eye's lists: numbers and keys (printed by geneye04.py). -/
attribute [local irreducible] Go.wpStill
namespace Go.Proofs.YtgiefblcckikeaaGreat.M
open Go.RowKit Go.Proofs.YtgiefblcckikeaaGreatW.PrintWords Go.Proofs.YtgiefblcckikeaaGreatW.PrintLast Go.Proofs.YtgiefblcckikeaaGreatW.PrintMore Go.Proofs.YtgiefblcckikeaaGreat.G
theorem IsEye.at {w0 W W' : World} {x : Nat} {s : EyeS} (h : IsEye w0 W x s) (e : W'.heap[x]? = W.heap[x]?) : IsEye w0 W' x s := by
 obtain ⟨A, c, h1, h2⟩ := h
 exact ⟨A, c, e.trans h1, h2⟩
theorem S_keep' {α : Type} {d : Kd α} {el base : Nat} {w w' : World} {v : Value} {l : List α} {x : Nat} (hx : x < base) (h : Kd.S d el w base (fun _ => True) v l) (hk : KeepS (fun i => i = x) w w') : Kd.S d el w' base (fun _ => True) v l :=
 Kd.S_mono (Kd.S_step (Kd.S_bound h) (fun k hk2 hlt => hk.block k hlt (fun e => by have := hk2.2.1; omega))) (fun _ _ => trivial)
def eMany {α : Type} (g : EyeS → α × EyeS) : Nat → EyeS → List α × EyeS
 | 0, s => ([], s)
 | n + 1, s => if s.e = 0 then ((g s).1 :: (eMany g n (g s).2).1, (eMany g n (g s).2).2) else ([], s)
theorem eMany_stop {α : Type} {g : EyeS → α × EyeS} {n : Nat} {s : EyeS} (h : ¬ s.e = 0) : eMany g n s = ([], s) := by
 cases n with
 | zero => rfl
 | succ n => simp only [eMany, if_neg h]
def eCount (s : EyeS) : EyeS := eWrong (decide ((eNum s).1 < 0) || decide (4096 < (eNum s).1)) (eNum s).2
def eList {α : Type} (g : EyeS → α × EyeS) (s : EyeS) : List α × EyeS := eMany g (eNum s).1.toNat (eCount s)
def LiP {α : Type} (d : Kd α) (el : Nat) (w0 w : World) (x : Nat) (l : List α) (s' : EyeS) (e : Ending) (w' : World) : Prop := ∃ v : Value, e = .returned v ∧ Kd.S d el w' w.heap.size (fun _ => True) v l ∧ IsEye w0 w' x s' ∧ Below w0.heap.size w0 w' ∧ KeepS (fun i => i = x) w w'
theorem okS_many {α : Type} {g : EyeS → α × EyeS} (hg : ∀ s, okS s → okS (g s).2) (n : Nat) : ∀ s, okS s → okS (eMany g n s).2 := by
 induction n with
 | zero => exact fun s h => h
 | succ n ih =>
  intro s h
  simp only [eMany]
  split
  ·exact ih _ (hg s h)
  ·exact h
theorem okS_list {α : Type} {g : EyeS → α × EyeS} (hg : ∀ s, okS s → okS (g s).2) {s : EyeS} (h : okS s) : okS (eList g s).2 := okS_many hg _ _ (okS_wrong _ (okS_num h))
def eKey (s : EyeS) : KeyD × EyeS := (⟨(eSmall s).1, (eNum (eSmall s).2).1⟩, (eNum (eSmall s).2).2)
theorem okS_key {s : EyeS} (h : okS s) : okS (eKey s).2 := okS_num (okS_small h)
theorem eSmall_i32 (s : EyeS) : wrap32 (eSmall s).1 = (eSmall s).1 := by
 unfold eSmall
 split
 ·next h => rw [IntKind.wrap_i32] at h; unfold wrap32; exact h
 ·show wrap32 0 = 0; unfold wrap32; omega
set_option maxHeartbeats 1000000 in
theorem eKey_is {w0 w : World} {x : Nat} {s : EyeS} (hI : IsEye w0 w x s) (hB : Below w0.heap.size w0 w) (hok : okS s) :
  Calls Tryz.prog 156 #[.pointer (some ⟨x, 0, none⟩)] w fun e w' => EyP w0 w x (.agg #[.int .i32 (eKey s).1.f0, .int .i64 (eKey s).1.f1]) (eKey s).2 e w' := by
 have hbx := heap_alloc_new w (.cells #[.int .i32 0, .int .i64 0] 101)
 have hb1 := (Below.refl _ w).alloc (Nat.le_refl _) (.cells #[.int .i32 0, .int .i64 0] 101)
 have HLT := Lib.hid (show x < w.heap.size from hI.lt); have HGEW := Lib.hid (show w0.heap.size ≤ w.heap.size from hB.size)
 have HN := Lib.hid (eSmall_is (hI.below hb1) (hB.alloc hB.size _) hok)
 have HK1 := Lib.hid (KeepS.of_below (fun i => i = x) hb1)
 have HOK := Lib.hid (okS_small hok)
 have h32 := eSmall_i32 s
 have HK := Lib.hid (show eKey s = (⟨(eSmall s).1, (eNum (eSmall s).2).1⟩, (eNum (eSmall s).2).2) from rfl)
 obtain ⟨n, hn⟩ : ∃ n, (eSmall s).1 = n := ⟨_, rfl⟩
 obtain ⟨s2, hs2⟩ : ∃ s2, (eSmall s).2 = s2 := ⟨_, rfl⟩
 rw [hn, hs2] at HN HK
 rw [hs2] at HOK
 rw [hn] at h32
 have HBX := Lib.hid hbx
 have HZ := Lib.hid (show w.heap.size < (w.alloc (.cells #[.int .i32 0, .int .i64 0] 101)).heap.size by simp)
 clear hn hs2 hI hB hok hbx hb1
 go_enter Tryz.func156, Tryz.ntmps156
 go_wp2_with fail
 refine HN.out.mono ?_
 rintro e w1 ⟨rfl, h1, h2, h3⟩
 have HN2 := Lib.hid (eNum_is h1 h2 HOK.out)
 have HZ2 := Lib.hid (Nat.lt_of_lt_of_le HZ.out h3.size)
 have HB1 := Lib.hid ((h3.block w.heap.size HZ.out (by have := HLT.out; omega)).trans HBX.out)
 have HK2 := Lib.hid (HK1.out.trans h3)
 obtain ⟨m, hm⟩ : ∃ m, (eNum s2).1 = m := ⟨_, rfl⟩
 obtain ⟨s3, hs3⟩ : ∃ s3, (eNum s2).2 = s3 := ⟨_, rfl⟩
 rw [hm, hs3] at HN2 HK
 clear h1 h2 h3 hm hs3
 go_wp2_with fail
 refine HN2.out.mono ?_
 rintro e w2 ⟨rfl, h1, h2, h3⟩
 have H1 := Lib.hid h1; have H2 := Lib.hid h2
 have HB2 := Lib.hid ((h3.block w.heap.size HZ2.out (by have := HLT.out; omega)).trans HB1.out)
 have HK3 := Lib.hid (HK2.out.trans h3)
 have d0 : w2.cell? ⟨w.heap.size, 0, none⟩ = some (.int .i32 0) := by simp [World.cell?, HB2.out]
 have d1 : w2.cell? ⟨w.heap.size, 1, none⟩ = some (.int .i64 0) := by simp [World.cell?, HB2.out]
 have z0 : w2.frozen? ⟨w.heap.size, 0, none⟩ = false := by simp [World.frozen?, HB2.out]
 have z1 : w2.frozen? ⟨w.heap.size, 1, none⟩ = false := by simp [World.frozen?, HB2.out]
 clear h1 h2 h3
 go_wp2_with fail
 refine bodyPost_ret (results_cell_row rfl _ _ w.heap.size 101 #[.int .i32 n, .int .i64 m] (0, 0) _ rfl ?_ Tryz.underlying101 rfl (by kernel_rfl)) rfl ?_
 ·refine blk_put (cs := #[.int .i32 n, .int .i64 0]) ?_ 1 _ rfl
  exact blk_put (cs := #[.int .i32 0, .int .i64 0]) HB2.out 0 _ rfl
 ·rw [HK.out]
  have e1 : x ≠ w.heap.size := by have := HLT.out; omega
  exact ⟨rfl, H1.out.at ((Below.heap_setCell _ ⟨w.heap.size, 1, none⟩ _ x e1).trans (Below.heap_setCell _ ⟨w.heap.size, 0, none⟩ _ x e1)), (H2.out.setCell (by exact HGEW.out) _).setCell (by exact HGEW.out) _, (HK3.out.set (p := ⟨w.heap.size, 0, none⟩) (.inr (Nat.le_refl _)) _).set (p := ⟨w.heap.size, 1, none⟩) (.inr (Nat.le_refl _)) _⟩
def LiI_nums (g : EyeS → Int × EyeS) (n : Int) (s0 : EyeS) (w0 w : World) (x : Nat) (v i : Value) (W : World) : Prop := ∃ (U : List Int) (s : EyeS), i = .int .i64 (U.length : Int) ∧ U.length ≤ 4096 ∧ U.length ≤ n.toNat ∧ (s.e = 0 → n ≤ 4096) ∧ Kd.S (Kd.int .i64) 2 W w.heap.size (fun _ => True) v U ∧ IsEye w0 W x s ∧ Below w0.heap.size w0 W ∧ KeepS (fun i => i = x) w W ∧ okS s ∧ eList g s0 = (U ++ (eMany g (n.toNat - U.length) s).1, (eMany g (n.toNat - U.length) s).2)
set_option maxHeartbeats 2000000 in
theorem eList_nums {w0 w : World} {x : Nat} {s : EyeS} (hI : IsEye w0 w x s) (hB : Below w0.heap.size w0 w) (hok : okS s) :
  Calls Tryz.prog 154 #[.pointer (some ⟨x, 0, none⟩), .func (.func 110) #[.pointer (some ⟨x, 0, none⟩)] #[]] w fun e w' => LiP (Kd.int .i64) 2 w0 w x (eList eNum s).1 (eList eNum s).2 e w' := by
 have HN := Lib.hid (eNum_is hI hB hok)
 have HOK := Lib.hid (okS_num hok)
 have HLT := Lib.hid hI.lt
 have HGEW := Lib.hid (show w0.heap.size ≤ w.heap.size from hB.size)
 obtain ⟨n, hn⟩ : ∃ n, (eNum s).1 = n := ⟨_, rfl⟩
 obtain ⟨s1, hs1⟩ : ∃ s1, (eNum s).2 = s1 := ⟨_, rfl⟩
 have HCT := Lib.hid (show eCount s = eWrong (decide (n < 0) || decide (4096 < n)) s1 by unfold eCount; rw [hn, hs1])
 have Hint64 := Lib.hid (show eList eNum s = eMany eNum n.toNat (eCount s) by unfold eList; rw [hn])
 rw [hn, hs1] at HN
 rw [hs1] at HOK
 clear hI hB hok hn hs1
 go_enter Tryz.func154, Tryz.ntmps154
 go_wp2_with fail
 refine HN.out.mono ?_
 rintro e w1 ⟨rfl, h1, h2, h3⟩
 have H1 := Lib.hid h1; have H2 := Lib.hid h2; have H3 := Lib.hid h3
 clear h1 h2 h3 HN
 go_upto_region 2 with fail
 go_cut [] (fun wx => IsEye w0 wx x (eCount s) ∧ Below w0.heap.size w0 wx ∧ KeepS (fun i => i = x) w wx)
 case first =>
  by_cases ha : n < 0
  ·have hq : decide (n < 0) = true := decide_eq_true ha
   have HW := Lib.hid (eWrong_is H1.out H2.out true)
   have HC2 := Lib.hid (show eCount s = eWrong true s1 by rw [HCT.out, hq, Bool.true_or])
   clear ha
   go_wp2_with fail
   refine HW.out.mono ?_
   rintro e w2 ⟨rfl, h1, h2, h3⟩
   have G1 := Lib.hid h1; have G2 := Lib.hid h2; have G3 := Lib.hid (H3.out.trans h3)
   clear h1 h2 h3
   go_wp2_with fail
   go_meet
   exact ⟨by rw [HC2.out]; exact G1.out, G2.out, G3.out⟩
  ·have hq : decide (n < 0) = false := decide_eq_false ha
   obtain ⟨b, hb⟩ : ∃ b, decide ((4096 : Int) < n) = b := ⟨_, rfl⟩
   have HW := Lib.hid (eWrong_is H1.out H2.out b)
   have HC2 := Lib.hid (show eCount s = eWrong b s1 by rw [HCT.out, hq, hb, Bool.false_or])
   clear ha
   go_wp2_with fail
   refine HW.out.mono ?_
   rintro e w2 ⟨rfl, h1, h2, h3⟩
   have G1 := Lib.hid h1; have G2 := Lib.hid h2; have G3 := Lib.hid (H3.out.trans h3)
   clear h1 h2 h3
   go_wp2_with fail
   go_meet
   exact ⟨by rw [HC2.out]; exact G1.out, G2.out, G3.out⟩
 case rest =>
  obtain ⟨h1, h2, h3⟩ := hcut
  have G1 := Lib.hid h1; have G2 := Lib.hid h2; have G3 := Lib.hid h3
  have HE0 := Lib.hid (show (eCount s).e = 0 → n ≤ 4096 by
   intro h
   rw [HCT.out] at h
   by_cases h5 : (4096 : Int) < n
   ·rw [decide_eq_true h5, Bool.or_true] at h
    unfold eWrong at h
    split at h
    ·cases h
    ·next h6 => exact absurd ⟨h, rfl⟩ h6
   ·omega)
  have HOC := Lib.hid (show okS (eCount s) by rw [HCT.out]; exact okS_wrong _ HOK.out)
  clear h1 h2 h3
  go_wp2_with fail
  go_loopw [6, 7] (fun v i wr => LiI_nums eNum n s w0 w x v i wr) (fun _ i _ => n.toNat - (intOf i).toNat)
  case atStart => exact ⟨[], eCount s, rfl, by simp, by simp, HE0.out, Kd.S_nil _ _ _ _ _, G1.out, G2.out, G3.out, HOC.out, by simpa using Hint64.out⟩
  case round =>
   obtain ⟨U, s2, rfl, hU, hUn, hE, hS, hI, hB, hK, hO, hF⟩ := hrel
   have HI := Lib.hid hI; have HB := Lib.hid hB; have HK := Lib.hid hK; have HO := Lib.hid hO; have HF := Lib.hid hF; have HS := Lib.hid hS; have HUN := Lib.hid hUn; have HE := Lib.hid hE
   obtain ⟨Av, cv, rfl⟩ := Kd.S_slice hS
   obtain ⟨A, c, g1, g2, g3, g4⟩ := hI
   have c1 : wr.cell? ⟨x, 1, none⟩ = some (.int .i64 s2.e) := by simp [World.cell?, g1]
   clear hB hK hO hF hS hUn hE g1 g2 g3 g4
   by_cases hlt : (U.length : Int) < n
   ·by_cases he : s2.e = 0
    ·have hq1 : decide ((U.length : Int) < n) = true := decide_eq_true hlt
     have hq2 : (s2.e == 0) = true := by rw [he]; rfl
     have HN4 := Lib.hid (HE.out he)
     have HG := Lib.hid (eNum_is HI.out HB.out HO.out)
     have HGO := Lib.hid (okS_num HO.out)
     obtain ⟨y, hy⟩ : ∃ y, (eNum s2).1 = y := ⟨_, rfl⟩
     obtain ⟨s3, hs3⟩ : ∃ s3, (eNum s2).2 = s3 := ⟨_, rfl⟩
     have HF2 := Lib.hid (show eList eNum s = ((U ++ [y]) ++ (eMany eNum (n.toNat - (U ++ [y]).length) s3).1, (eMany eNum (n.toNat - (U ++ [y]).length) s3).2) by
      rw [HF.out]
      have e1 : n.toNat - U.length = (n.toNat - (U ++ [y]).length) + 1 := by simp; omega
      rw [e1]
      simp only [eMany, he, if_true, hy, hs3, List.append_assoc, List.singleton_append])
     have HLT2 := Lib.hid hlt
     rw [hy, hs3] at HG
     rw [hs3] at HGO
     clear hlt he hy hs3
     go_wp2_with fail
     refine HG.out.mono ?_
     rintro e w3 ⟨rfl, h1, h2, h3⟩
     have HS3 := Lib.hid (show Kd.S (Kd.int .i64) 2 w3 w.heap.size (fun _ => True) (.slice Av U.length cv) U from S_keep' HLT.out HS.out h3)
     have HZ3 := Lib.hid (Nat.le_trans HK.out.size h3.size)
     have K1 := Lib.hid h1; have K2 := Lib.hid h2; have K3 := Lib.hid (HK.out.trans h3)
     clear h1 h2 h3
     go_wp2_with ((with_reducible refine gate_builtin (b := .append) (xs := #[.tmp 30, .tmp 33]) rfl ?_); at_builtin; refine Kd.S_append (Kd.int .i64) (w0 := w3) w.heap.size rfl (.tmp 30) (.tmp 33) 24 2 (.int .i64 0) 8 rfl Tryz.underlying24 infoI64 rfl (by decide) (by omega) _ U y [.int .i64 y] (fun _ => True) (fun _ => False) rfl rfl rfl (fun _ hk => hk.elim) (fun _ _ => trivial) (Kd.S_mono HS3.out (fun _ h => ⟨h, fun q => q⟩)) (Below.refl _ _) HZ3.out (by omega) ?_; intro v1 w5 ho hb5 hg5 hat; obtain ⟨A5, c5, rfl⟩ := Kd.S_slice ho; have HS5 := Lib.hid ho; have HK5 := Lib.hid (K3.out.then_base hb5); have HI5 := Lib.hid (K1.out.at (hb5.block x HLT.out)); have HB5 := Lib.hid (K2.out.trans (hb5.mono HGEW.out)); clear ho hb5 hg5 hat)
     go_roundw
     case rel =>
      refine ⟨U ++ [y], s3, by rw [List.length_append]; go_num, ?_, ?_, fun _ => HN4.out, (by have h9 := HS5.out; rw [List.length_append] at h9; exact h9), HI5.out, HB5.out, HK5.out, HGO.out, HF2.out⟩
      ·have h1 := HN4.out; have h2 := HLT2.out
       rw [List.length_append, List.length_singleton]
       omega
      ·have h2 := HLT2.out
       rw [List.length_append, List.length_singleton]
       omega
     case measure => simp [intOf]; have h2 := HLT2.out; omega
    ·have hq1 : decide ((U.length : Int) < n) = true := decide_eq_true hlt
     have hq2 : (s2.e == 0) = false := beq_eq_false_iff_ne.2 he
     have HF2 := Lib.hid (show eList eNum s = (U, s2) by rw [HF.out, eMany_stop he, List.append_nil])
     clear hlt he
     go_wp2_with fail
     go_ret
     exact ⟨_, rfl, by rw [HF2.out]; exact HS.out, by rw [HF2.out]; exact HI.out, HB.out, HK.out⟩
   ·have hq1 : decide ((U.length : Int) < n) = false := decide_eq_false hlt
    have HF2 := Lib.hid (show eList eNum s = (U, s2) by
     have e1 : n.toNat - U.length = 0 := by omega
     rw [HF.out, e1]
     simp only [eMany, List.append_nil])
    clear hlt
    go_wp2_with fail
    go_ret
    exact ⟨_, rfl, by rw [HF2.out]; exact HS.out, by rw [HF2.out]; exact HI.out, HB.out, HK.out⟩
def LiI_keys (g : EyeS → KeyD × EyeS) (n : Int) (s0 : EyeS) (w0 w : World) (x : Nat) (v i : Value) (W : World) : Prop := ∃ (U : List KeyD) (s : EyeS), i = .int .i64 (U.length : Int) ∧ U.length ≤ 4096 ∧ U.length ≤ n.toNat ∧ (s.e = 0 → n ≤ 4096) ∧ Kd.S G.k101 101 W w.heap.size (fun _ => True) v U ∧ IsEye w0 W x s ∧ Below w0.heap.size w0 W ∧ KeepS (fun i => i = x) w W ∧ okS s ∧ eList g s0 = (U ++ (eMany g (n.toNat - U.length) s).1, (eMany g (n.toNat - U.length) s).2)
set_option maxHeartbeats 2000000 in
theorem eList_keys {w0 w : World} {x : Nat} {s : EyeS} (hI : IsEye w0 w x s) (hB : Below w0.heap.size w0 w) (hok : okS s) :
  Calls Tryz.prog 155 #[.pointer (some ⟨x, 0, none⟩), .func (.func 156) #[.pointer (some ⟨x, 0, none⟩)] #[]] w fun e w' => LiP G.k101 101 w0 w x (eList eKey s).1 (eList eKey s).2 e w' := by
 have HN := Lib.hid (eNum_is hI hB hok)
 have HOK := Lib.hid (okS_num hok)
 have HLT := Lib.hid hI.lt
 have HGEW := Lib.hid (show w0.heap.size ≤ w.heap.size from hB.size)
 obtain ⟨n, hn⟩ : ∃ n, (eNum s).1 = n := ⟨_, rfl⟩
 obtain ⟨s1, hs1⟩ : ∃ s1, (eNum s).2 = s1 := ⟨_, rfl⟩
 have HCT := Lib.hid (show eCount s = eWrong (decide (n < 0) || decide (4096 < n)) s1 by unfold eCount; rw [hn, hs1])
 have Hapi.Key := Lib.hid (show eList eKey s = eMany eKey n.toNat (eCount s) by unfold eList; rw [hn])
 rw [hn, hs1] at HN
 rw [hs1] at HOK
 clear hI hB hok hn hs1
 go_enter Tryz.func155, Tryz.ntmps155
 go_wp2_with fail
 refine HN.out.mono ?_
 rintro e w1 ⟨rfl, h1, h2, h3⟩
 have H1 := Lib.hid h1; have H2 := Lib.hid h2; have H3 := Lib.hid h3
 clear h1 h2 h3 HN
 go_upto_region 2 with fail
 go_cut [] (fun wx => IsEye w0 wx x (eCount s) ∧ Below w0.heap.size w0 wx ∧ KeepS (fun i => i = x) w wx)
 case first =>
  by_cases ha : n < 0
  ·have hq : decide (n < 0) = true := decide_eq_true ha
   have HW := Lib.hid (eWrong_is H1.out H2.out true)
   have HC2 := Lib.hid (show eCount s = eWrong true s1 by rw [HCT.out, hq, Bool.true_or])
   clear ha
   go_wp2_with fail
   refine HW.out.mono ?_
   rintro e w2 ⟨rfl, h1, h2, h3⟩
   have G1 := Lib.hid h1; have G2 := Lib.hid h2; have G3 := Lib.hid (H3.out.trans h3)
   clear h1 h2 h3
   go_wp2_with fail
   go_meet
   exact ⟨by rw [HC2.out]; exact G1.out, G2.out, G3.out⟩
  ·have hq : decide (n < 0) = false := decide_eq_false ha
   obtain ⟨b, hb⟩ : ∃ b, decide ((4096 : Int) < n) = b := ⟨_, rfl⟩
   have HW := Lib.hid (eWrong_is H1.out H2.out b)
   have HC2 := Lib.hid (show eCount s = eWrong b s1 by rw [HCT.out, hq, hb, Bool.false_or])
   clear ha
   go_wp2_with fail
   refine HW.out.mono ?_
   rintro e w2 ⟨rfl, h1, h2, h3⟩
   have G1 := Lib.hid h1; have G2 := Lib.hid h2; have G3 := Lib.hid (H3.out.trans h3)
   clear h1 h2 h3
   go_wp2_with fail
   go_meet
   exact ⟨by rw [HC2.out]; exact G1.out, G2.out, G3.out⟩
 case rest =>
  obtain ⟨h1, h2, h3⟩ := hcut
  have G1 := Lib.hid h1; have G2 := Lib.hid h2; have G3 := Lib.hid h3
  have HE0 := Lib.hid (show (eCount s).e = 0 → n ≤ 4096 by
   intro h
   rw [HCT.out] at h
   by_cases h5 : (4096 : Int) < n
   ·rw [decide_eq_true h5, Bool.or_true] at h
    unfold eWrong at h
    split at h
    ·cases h
    ·next h6 => exact absurd ⟨h, rfl⟩ h6
   ·omega)
  have HOC := Lib.hid (show okS (eCount s) by rw [HCT.out]; exact okS_wrong _ HOK.out)
  clear h1 h2 h3
  go_wp2_with fail
  go_loopw [6, 7] (fun v i wr => LiI_keys eKey n s w0 w x v i wr) (fun _ i _ => n.toNat - (intOf i).toNat)
  case atStart => exact ⟨[], eCount s, rfl, by simp, by simp, HE0.out, Kd.S_nil _ _ _ _ _, G1.out, G2.out, G3.out, HOC.out, by simpa using Hapi.Key.out⟩
  case round =>
   obtain ⟨U, s2, rfl, hU, hUn, hE, hS, hI, hB, hK, hO, hF⟩ := hrel
   have HI := Lib.hid hI; have HB := Lib.hid hB; have HK := Lib.hid hK; have HO := Lib.hid hO; have HF := Lib.hid hF; have HS := Lib.hid hS; have HUN := Lib.hid hUn; have HE := Lib.hid hE
   obtain ⟨Av, cv, rfl⟩ := Kd.S_slice hS
   obtain ⟨A, c, g1, g2, g3, g4⟩ := hI
   have c1 : wr.cell? ⟨x, 1, none⟩ = some (.int .i64 s2.e) := by simp [World.cell?, g1]
   clear hB hK hO hF hS hUn hE g1 g2 g3 g4
   by_cases hlt : (U.length : Int) < n
   ·by_cases he : s2.e = 0
    ·have hq1 : decide ((U.length : Int) < n) = true := decide_eq_true hlt
     have hq2 : (s2.e == 0) = true := by rw [he]; rfl
     have HN4 := Lib.hid (HE.out he)
     have HG := Lib.hid (eKey_is HI.out HB.out HO.out)
     have HGO := Lib.hid (okS_key HO.out)
     obtain ⟨y, hy⟩ : ∃ y, (eKey s2).1 = y := ⟨_, rfl⟩
     obtain ⟨s3, hs3⟩ : ∃ s3, (eKey s2).2 = s3 := ⟨_, rfl⟩
     have HF2 := Lib.hid (show eList eKey s = ((U ++ [y]) ++ (eMany eKey (n.toNat - (U ++ [y]).length) s3).1, (eMany eKey (n.toNat - (U ++ [y]).length) s3).2) by
      rw [HF.out]
      have e1 : n.toNat - U.length = (n.toNat - (U ++ [y]).length) + 1 := by simp; omega
      rw [e1]
      simp only [eMany, he, if_true, hy, hs3, List.append_assoc, List.singleton_append])
     have HLT2 := Lib.hid hlt
     rw [hy, hs3] at HG
     rw [hs3] at HGO
     clear hlt he hy hs3
     go_wp2_with fail
     refine HG.out.mono ?_
     rintro e w3 ⟨rfl, h1, h2, h3⟩
     have HS3 := Lib.hid (show Kd.S G.k101 101 w3 w.heap.size (fun _ => True) (.slice Av U.length cv) U from S_keep' HLT.out HS.out h3)
     have HZ3 := Lib.hid (Nat.le_trans HK.out.size h3.size)
     have K1 := Lib.hid h1; have K2 := Lib.hid h2; have K3 := Lib.hid (HK.out.trans h3)
     clear h1 h2 h3
     go_wp2_with ((with_reducible refine gate_builtin (b := .append) (xs := #[.tmp 30, .tmp 33]) rfl ?_); at_builtin; refine Kd.S_append G.k101 (w0 := w3) w.heap.size rfl (.tmp 30) (.tmp 33) 22 101 (.agg #[.int .i32 0, .int .i64 0]) 16 rfl Tryz.underlying22 infoKey rfl (by decide) (by omega) _ U y [.int .i32 y.f0, .int .i64 y.f1] (fun _ => True) (fun _ => False) rfl rfl (G.k101_mkM _ _ _ _) (fun _ hk => hk.elim) (fun _ _ => trivial) (Kd.S_mono HS3.out (fun _ h => ⟨h, fun q => q⟩)) (Below.refl _ _) HZ3.out (by omega) ?_; intro v1 w5 ho hb5 hg5 hat; obtain ⟨A5, c5, rfl⟩ := Kd.S_slice ho; have HS5 := Lib.hid ho; have HK5 := Lib.hid (K3.out.then_base hb5); have HI5 := Lib.hid (K1.out.at (hb5.block x HLT.out)); have HB5 := Lib.hid (K2.out.trans (hb5.mono HGEW.out)); clear ho hb5 hg5 hat)
     go_roundw
     case rel =>
      refine ⟨U ++ [y], s3, by rw [List.length_append]; go_num, ?_, ?_, fun _ => HN4.out, (by have h9 := HS5.out; rw [List.length_append] at h9; exact h9), HI5.out, HB5.out, HK5.out, HGO.out, HF2.out⟩
      ·have h1 := HN4.out; have h2 := HLT2.out
       rw [List.length_append, List.length_singleton]
       omega
      ·have h2 := HLT2.out
       rw [List.length_append, List.length_singleton]
       omega
     case measure => simp [intOf]; have h2 := HLT2.out; omega
    ·have hq1 : decide ((U.length : Int) < n) = true := decide_eq_true hlt
     have hq2 : (s2.e == 0) = false := beq_eq_false_iff_ne.2 he
     have HF2 := Lib.hid (show eList eKey s = (U, s2) by rw [HF.out, eMany_stop he, List.append_nil])
     clear hlt he
     go_wp2_with fail
     go_ret
     exact ⟨_, rfl, by rw [HF2.out]; exact HS.out, by rw [HF2.out]; exact HI.out, HB.out, HK.out⟩
   ·have hq1 : decide ((U.length : Int) < n) = false := decide_eq_false hlt
    have HF2 := Lib.hid (show eList eKey s = (U, s2) by
     have e1 : n.toNat - U.length = 0 := by omega
     rw [HF.out, e1]
     simp only [eMany, List.append_nil])
    clear hlt
    go_wp2_with fail
    go_ret
    exact ⟨_, rfl, by rw [HF2.out]; exact HS.out, by rw [HF2.out]; exact HI.out, HB.out, HK.out⟩
end Go.Proofs.YtgiefblcckikeaaGreat.M
end

section
/- The eye: a transaction. -/
attribute [local irreducible] Go.wpStill
namespace Go.Proofs.YtgiefblcckikeaaGreat.M
open Go.RowKit Go.Proofs.YtgiefblcckikeaaGreatW.PrintWords Go.Proofs.YtgiefblcckikeaaGreatW.PrintLast Go.Proofs.YtgiefblcckikeaaGreatW.PrintMore Go.Proofs.YtgiefblcckikeaaGreat.G
def eTxn (s : EyeS) : TxD × EyeS :=
 (⟨(eNum s).1, (eNum (eNum s).2).1, (eData (eNum (eNum s).2).2).1, (eList eNum (eData (eNum (eNum s).2).2).2).1, (eList eKey (eList eNum (eData (eNum (eNum s).2).2).2).2).1, (eList eKey (eList eKey (eList eNum (eData (eNum (eNum s).2).2).2).2).2).1⟩,
  (eList eKey (eList eKey (eList eNum (eData (eNum (eNum s).2).2).2).2).2).2)
theorem okS_txn {s : EyeS} (h : okS s) : okS (eTxn s).2 := okS_list (fun _ => okS_key) (okS_list (fun _ => okS_key) (okS_list (fun _ => okS_num) (okS_data (okS_num (okS_num h)))))
def TxP (w0 w : World) (x : Nat) (y : TxD) (s' : EyeS) (e : Ending) (w' : World) : Prop := ∃ v2 v3 v4 v5 : Value, e = .returned (.agg #[.int .i64 y.f0, .int .i64 y.f1, v2, v3, v4, v5]) ∧ Kd.R (Kd.int .u8) 5 w' w.heap.size (fun _ => True) v2 y.f2 ∧ Kd.R (Kd.int .i64) 2 w' w.heap.size (fun _ => True) v3 y.f3 ∧ Kd.R G.k101 101 w' w.heap.size (fun k => some k ≠ v5.ownBlock) v4 y.f4 ∧ Kd.R G.k101 101 w' w.heap.size (fun k => some k ≠ v4.ownBlock) v5 y.f5 ∧ IsEye w0 w' x s' ∧ Below w0.heap.size w0 w' ∧ KeepS (fun i => i = x) w w'
theorem R_keepO {α : Type} {d : Kd α} {el base : Nat} {w w' : World} {v : Value} {l : List α} {ok S : Nat → Prop} (ho : ∀ i, ok i → ¬ S i) (h : Kd.R d el w base ok v l) (hk : KeepS S w w') : Kd.R d el w' base ok v l :=
 Kd.R_step h (fun k hk2 hlt => hk.block k hlt (ho k hk2))
abbrev zTxn : Obj := .cells #[.int .i64 0, .int .i64 0, .slice none 0 0, .slice none 0 0, .slice none 0 0, .slice none 0 0] 26
set_option maxHeartbeats 4000000 in
theorem eTxn_is {w0 w : World} {x : Nat} {s : EyeS} (hI : IsEye w0 w x s) (hB : Below w0.heap.size w0 w) (hok : okS s) :
  Calls Tryz.prog 114 #[.pointer (some ⟨x, 0, none⟩)] w fun e w' => TxP w0 w x (eTxn s).1 (eTxn s).2 e w' := by
 have hbx := heap_alloc_new w zTxn
 have hb1 := (Below.refl _ w).alloc (Nat.le_refl _) zTxn
 have HLT := Lib.hid (show x < w.heap.size from hI.lt); have HGEW := Lib.hid (show w0.heap.size ≤ w.heap.size from hB.size)
 have HN := Lib.hid (eNum_is (hI.below hb1) (hB.alloc hB.size _) hok)
 have HK1 := Lib.hid (KeepS.of_below (fun i => i = x) hb1)
 obtain ⟨r, HF0⟩ : ∃ r, eTxn s = r := ⟨_, rfl⟩
 have HF := HF0
 unfold eTxn at HF
 obtain ⟨a, ha⟩ : ∃ a, (eNum s).1 = a := ⟨_, rfl⟩
 obtain ⟨s1, hs1⟩ : ∃ s1, (eNum s).2 = s1 := ⟨_, rfl⟩
 have ho1 := okS_num hok
 rw [ha, hs1] at HN HF
 rw [hs1] at ho1
 obtain ⟨b, hb⟩ : ∃ b, (eNum s1).1 = b := ⟨_, rfl⟩
 obtain ⟨s2, hs2⟩ : ∃ s2, (eNum s1).2 = s2 := ⟨_, rfl⟩
 have ho2 := okS_num ho1
 rw [hb, hs2] at HF
 rw [hs2] at ho2
 obtain ⟨l2, hl2⟩ : ∃ l2, (eData s2).1 = l2 := ⟨_, rfl⟩
 obtain ⟨s3, hs3⟩ : ∃ s3, (eData s2).2 = s3 := ⟨_, rfl⟩
 have ho3 := okS_data ho2
 rw [hl2, hs3] at HF
 rw [hs3] at ho3
 obtain ⟨l3, hl3⟩ : ∃ l3, (eList eNum s3).1 = l3 := ⟨_, rfl⟩
 obtain ⟨s4, hs4⟩ : ∃ s4, (eList eNum s3).2 = s4 := ⟨_, rfl⟩
 have ho4 := okS_list (g := eNum) (fun _ => okS_num) ho3
 rw [hl3, hs4] at HF
 rw [hs4] at ho4
 obtain ⟨l4, hl4⟩ : ∃ l4, (eList eKey s4).1 = l4 := ⟨_, rfl⟩
 obtain ⟨s5, hs5⟩ : ∃ s5, (eList eKey s4).2 = s5 := ⟨_, rfl⟩
 have ho5 := okS_list (g := eKey) (fun _ => okS_key) ho4
 rw [hl4, hs5] at HF
 rw [hs5] at ho5
 obtain ⟨l5, hl5⟩ : ∃ l5, (eList eKey s5).1 = l5 := ⟨_, rfl⟩
 obtain ⟨s6, hs6⟩ : ∃ s6, (eList eKey s5).2 = s6 := ⟨_, rfl⟩
 rw [hl5, hs6] at HF
 have HF := Lib.hid (HF0.trans HF.symm)
 have HO1 := Lib.hid ho1; have HO2 := Lib.hid ho2; have HO3 := Lib.hid ho3; have HO4 := Lib.hid ho4; have HO5 := Lib.hid ho5
 have HE2 := Lib.hid (And.intro hb hs2); have HE3 := Lib.hid (And.intro hl2 hs3); have HE4 := Lib.hid (And.intro hl3 hs4); have HE5 := Lib.hid (And.intro hl4 hs5); have HE6 := Lib.hid (And.intro hl5 hs6)
 have HBX := Lib.hid hbx
 have HZ := Lib.hid (show w.heap.size < (w.alloc zTxn).heap.size by simp)
 clear ha hs1 hb hs2 hl2 hs3 hl3 hs4 hl4 hs5 hl5 hs6 ho1 ho2 ho3 ho4 ho5 hI hB hok hbx hb1
 go_enter Tryz.func114, Tryz.ntmps114
 go_wp2_with fail
 refine HN.out.mono ?_
 rintro e w1 ⟨rfl, h1, h2, h3⟩
 have h4 := eNum_is h1 h2 HO1.out
 rw [HE2.out.1, HE2.out.2] at h4
 have HN2 := Lib.hid h4
 have HZ1 := Lib.hid (Nat.lt_of_lt_of_le HZ.out h3.size)
 have HB1 := Lib.hid ((h3.block w.heap.size HZ.out (by have := HLT.out; omega)).trans HBX.out)
 have HK2 := Lib.hid (HK1.out.trans h3)
 clear h1 h2 h3 h4
 go_wp2_with fail
 refine HN2.out.mono ?_
 rintro e w2 ⟨rfl, h1, h2, h3⟩
 have h4 := eData_is h1 h2 HO2.out
 rw [HE3.out.1, HE3.out.2] at h4
 have HN3 := Lib.hid h4
 have HZ2 := Lib.hid (Nat.lt_of_lt_of_le HZ1.out h3.size)
 have HB2 := Lib.hid ((h3.block w.heap.size HZ1.out (by have := HLT.out; omega)).trans HB1.out)
 have HK3 := Lib.hid (HK2.out.trans h3)
 clear h1 h2 h3 h4
 go_wp2_with fail
 refine HN3.out.mono ?_
 rintro e w3 ⟨v2, rfl, hv, h1, h2, h3⟩
 obtain ⟨A2, c2, rfl⟩ := Kd.R_slice hv
 have HV2 := Lib.hid (show Kd.R (Kd.int .u8) 5 w3 w.heap.size (fun k => k ≠ x ∧ k ≠ w.heap.size ∧ k ≠ w3.heap.size) _ l2 from Kd.R_mono (Kd.R_lower (Kd.R_bound hv) (Nat.le_of_lt HZ2.out)) (fun k hk => by
  have h7 := hk.2.1; have h8 := hk.2.2.1; have := HZ2.out; exact ⟨hk.1, by omega, by omega⟩))
 have HZ3 := Lib.hid (Nat.lt_of_lt_of_le HZ2.out h3.size)
 have HB3 := Lib.hid ((h3.block w.heap.size HZ2.out (by have := HLT.out; omega)).trans HB2.out)
 have HK4 := Lib.hid (HK3.out.trans h3)
 have H1 := Lib.hid h1; have H2 := Lib.hid h2
 clear h1 h2 h3 hv
 go_wp2_with fail
 have hby := heap_alloc_new w3 (.cells #[.int .i64 a, .int .i64 b, .slice A2 l2.length c2, .slice none 0 0, .slice none 0 0, .slice none 0 0] 26)
 have hay := (Below.refl _ w3).alloc (Nat.le_refl _) (.cells #[.int .i64 a, .int .i64 b, .slice A2 l2.length c2, .slice none 0 0, .slice none 0 0, .slice none 0 0] 26)
 have hzy : (w3.alloc (.cells #[.int .i64 a, .int .i64 b, .slice A2 l2.length c2, .slice none 0 0, .slice none 0 0, .slice none 0 0] 26)).heap.size = w3.heap.size + 1 := by simp
 have HVA := Lib.hid (Kd.R_alloc HV2.out (.cells #[.int .i64 a, .int .i64 b, .slice A2 l2.length c2, .slice none 0 0, .slice none 0 0, .slice none 0 0] 26))
 obtain ⟨w4, hw4⟩ : ∃ w4, w3.alloc (.cells #[.int .i64 a, .int .i64 b, .slice A2 l2.length c2, .slice none 0 0, .slice none 0 0, .slice none 0 0] 26) = w4 := ⟨_, rfl⟩
 rw [hw4] at hby hay hzy HVA ⊢
 obtain ⟨g, hg⟩ : ∃ g, w3.heap.size = g := ⟨_, rfl⟩
 have HI4 := Lib.hid (H1.out.below hay)
 have HD4 := Lib.hid (H2.out.trans (hay.mono H2.out.size))
 have HG4 := Lib.hid ((hay.block w.heap.size HZ3.out).trans HB3.out)
 have HQ4 := Lib.hid (HK4.out.then_below hay)
 rw [hg] at hby hzy HVA HZ3 ⊢
 have HY4 := Lib.hid hby
 have HGZ := Lib.hid (show w.heap.size < g ∧ x < w.heap.size from ⟨HZ3.out, HLT.out⟩)
 have HZZ4 := Lib.hid (show g < w4.heap.size by omega)
 clear hw4 hg hby hay hzy H1 H2 HB3 HK4 HV2
 have HV2 := HVA
 clear HVA
 have h4 := eList_nums HI4.out HD4.out HO3.out
 rw [HE4.out.1, HE4.out.2] at h4
 have HNN3 := Lib.hid h4
 clear h4
 refine HNN3.out.mono ?_
 rintro e w5 ⟨v3, rfl, hv, h1, h2, h3⟩
 have hvr := Kd.S_R hv
 obtain ⟨A3, c3, rfl⟩ := Kd.R_slice hvr
 have HV3 := Lib.hid (show Kd.R (Kd.int .i64) 2 w5 w.heap.size (fun k => k ≠ x ∧ k ≠ w.heap.size ∧ k ≠ g) _ l3 from Kd.R_mono (Kd.R_lower (Kd.R_bound hvr) HQ4.out.size) (fun k hk => by
  have h7 := hk.2.1; have h9 := HGZ.out; have h8 := HZZ4.out; refine ⟨?_, ?_, ?_⟩ <;> omega))
 have HW2 := Lib.hid (R_keepO (S := fun i => i = x) (fun i hi => hi.1) HV2.out h3)
 clear HV2
 have HV2 := HW2
 clear HW2
 have HG5 := Lib.hid ((h3.block w.heap.size (by have := HGZ.out; have := HZZ4.out; omega) (by have := HGZ.out; omega)).trans HG4.out)
 have HY5 := Lib.hid ((h3.block g HZZ4.out (by have := HGZ.out; omega)).trans HY4.out)
 have HQ5 := Lib.hid (HQ4.out.trans h3)
 have HZZ5 := Lib.hid (Nat.lt_of_lt_of_le HZZ4.out h3.size)
 have HI5 := Lib.hid h1
 have HD5 := Lib.hid h2
 have d3 : w5.cell? ⟨g, 3, none⟩ = some (.slice none 0 0) := by simp [World.cell?, HY5.out]
 have z3 : w5.frozen? ⟨g, 3, none⟩ = false := by simp [World.frozen?, HY5.out]
 clear hv hvr h1 h2 h3 HNN3
 go_wp2_with fail
 have HY6 := Lib.hid (blk_put (cs := #[.int .i64 a, .int .i64 b, .slice A2 l2.length c2, .slice none 0 0, .slice none 0 0, .slice none 0 0]) HY5.out 3 (.slice A3 l3.length c3) rfl)
 have HG6 := Lib.hid ((Below.heap_setCell w5 ⟨g, 3, none⟩ (.slice A3 l3.length c3) w.heap.size (by have := HGZ.out; simp; omega)).trans HG5.out)
 have HI6 := Lib.hid (HI5.out.at (Below.heap_setCell w5 ⟨g, 3, none⟩ (.slice A3 l3.length c3) x (by have := HGZ.out; simp; omega)))
 have HD6 := Lib.hid (HD5.out.setCell (p := ⟨g, 3, none⟩) (by have := HGZ.out; have := HGEW.out; simp; omega) (.slice A3 l3.length c3))
 have HQ6 := Lib.hid (HQ5.out.set (p := ⟨g, 3, none⟩) (.inr (by have := HGZ.out; simp; omega)) (.slice A3 l3.length c3))
 have HZZ6 := Lib.hid (show g < (w5.setCell ⟨g, 3, none⟩ (.slice A3 l3.length c3)).heap.size by rw [World.size_setCell]; exact HZZ5.out)
 have HW2 := Lib.hid (Kd.R_far (p := ⟨g, 3, none⟩) HV2.out (fun k hk => hk.2.2) (.slice A3 l3.length c3))
 have HW3 := Lib.hid (Kd.R_far (p := ⟨g, 3, none⟩) HV3.out (fun k hk => hk.2.2) (.slice A3 l3.length c3))
 obtain ⟨w6, hw6⟩ : ∃ w6, w5.setCell ⟨g, 3, none⟩ (.slice A3 l3.length c3) = w6 := ⟨_, rfl⟩
 rw [hw6] at HY6 HG6 HI6 HD6 HQ6 HZZ6 HW2 HW3 ⊢
 clear hw6 HY5 HG5 HI5 HD5 HQ5 HZZ5 HV2 HV3 d3 z3
 have HV2 := HW2
 clear HW2
 have HV3 := HW3
 clear HW3
 have h4 := eList_keys HI6.out HD6.out HO4.out
 rw [HE5.out.1, HE5.out.2] at h4
 have HNN4 := Lib.hid h4
 clear h4
 refine HNN4.out.mono ?_
 rintro e w7 ⟨v4, rfl, hv, h1, h2, h3⟩
 have hvr := Kd.S_R hv
 obtain ⟨A4, c4, rfl⟩ := Kd.R_slice hvr
 have HV4 := Lib.hid (show Kd.R G.k101 101 w7 w.heap.size (fun k => k ≠ x ∧ k ≠ w.heap.size ∧ k ≠ g) _ l4 from Kd.R_mono (Kd.R_lower (Kd.R_bound hvr) HQ6.out.size) (fun k hk => by
  have h7 := hk.2.1; have h9 := HGZ.out; have h8 := HZZ6.out; refine ⟨?_, ?_, ?_⟩ <;> omega))
 have HW2 := Lib.hid (R_keepO (S := fun i => i = x) (fun i hi => hi.1) HV2.out h3)
 clear HV2
 have HV2 := HW2
 clear HW2
 have HW3 := Lib.hid (R_keepO (S := fun i => i = x) (fun i hi => hi.1) HV3.out h3)
 clear HV3
 have HV3 := HW3
 clear HW3
 have HG7 := Lib.hid ((h3.block w.heap.size (by have := HGZ.out; have := HZZ6.out; omega) (by have := HGZ.out; omega)).trans HG6.out)
 have HY7 := Lib.hid ((h3.block g HZZ6.out (by have := HGZ.out; omega)).trans HY6.out)
 have HQ7 := Lib.hid (HQ6.out.trans h3)
 have HZZ7 := Lib.hid (Nat.lt_of_lt_of_le HZZ6.out h3.size)
 have HI7 := Lib.hid h1
 have HD7 := Lib.hid h2
 have d4 : w7.cell? ⟨g, 4, none⟩ = some (.slice none 0 0) := by simp [World.cell?, HY7.out]
 have z4 : w7.frozen? ⟨g, 4, none⟩ = false := by simp [World.frozen?, HY7.out]
 clear hv hvr h1 h2 h3 HNN4
 go_wp2_with fail
 have HY8 := Lib.hid (blk_put (cs := #[.int .i64 a, .int .i64 b, .slice A2 l2.length c2, .slice A3 l3.length c3, .slice none 0 0, .slice none 0 0]) HY7.out 4 (.slice A4 l4.length c4) rfl)
 have HG8 := Lib.hid ((Below.heap_setCell w7 ⟨g, 4, none⟩ (.slice A4 l4.length c4) w.heap.size (by have := HGZ.out; simp; omega)).trans HG7.out)
 have HI8 := Lib.hid (HI7.out.at (Below.heap_setCell w7 ⟨g, 4, none⟩ (.slice A4 l4.length c4) x (by have := HGZ.out; simp; omega)))
 have HD8 := Lib.hid (HD7.out.setCell (p := ⟨g, 4, none⟩) (by have := HGZ.out; have := HGEW.out; simp; omega) (.slice A4 l4.length c4))
 have HQ8 := Lib.hid (HQ7.out.set (p := ⟨g, 4, none⟩) (.inr (by have := HGZ.out; simp; omega)) (.slice A4 l4.length c4))
 have HZZ8 := Lib.hid (show g < (w7.setCell ⟨g, 4, none⟩ (.slice A4 l4.length c4)).heap.size by rw [World.size_setCell]; exact HZZ7.out)
 have HW2 := Lib.hid (Kd.R_far (p := ⟨g, 4, none⟩) HV2.out (fun k hk => hk.2.2) (.slice A4 l4.length c4))
 have HW3 := Lib.hid (Kd.R_far (p := ⟨g, 4, none⟩) HV3.out (fun k hk => hk.2.2) (.slice A4 l4.length c4))
 have HW4 := Lib.hid (Kd.R_far (p := ⟨g, 4, none⟩) HV4.out (fun k hk => hk.2.2) (.slice A4 l4.length c4))
 obtain ⟨w8, hw8⟩ : ∃ w8, w7.setCell ⟨g, 4, none⟩ (.slice A4 l4.length c4) = w8 := ⟨_, rfl⟩
 rw [hw8] at HY8 HG8 HI8 HD8 HQ8 HZZ8 HW2 HW3 HW4 ⊢
 clear hw8 HY7 HG7 HI7 HD7 HQ7 HZZ7 HV2 HV3 HV4 d4 z4
 have HV2 := HW2
 clear HW2
 have HV3 := HW3
 clear HW3
 have HV4 := HW4
 clear HW4
 have h4 := eList_keys HI8.out HD8.out HO5.out
 rw [HE6.out.1, HE6.out.2] at h4
 have HNN5 := Lib.hid h4
 clear h4
 refine HNN5.out.mono ?_
 rintro e w9 ⟨v5, rfl, hv, h1, h2, h3⟩
 have hvr := Kd.S_R hv
 obtain ⟨A5, c5, rfl⟩ := Kd.R_slice hvr
 have HV5 := Lib.hid (show Kd.R G.k101 101 w9 w.heap.size (fun k => k ≠ x ∧ k ≠ w.heap.size ∧ k ≠ g ∧ w8.heap.size ≤ k) _ l5 from Kd.R_mono (Kd.R_lower (Kd.R_bound hvr) HQ8.out.size) (fun k hk => by
  have h7 := hk.2.1; have h9 := HGZ.out; have h8 := HZZ8.out; refine ⟨?_, ?_, ?_, ?_⟩ <;> omega))
 have HW2 := Lib.hid (R_keepO (S := fun i => i = x) (fun i hi => hi.1) HV2.out h3)
 clear HV2
 have HV2 := HW2
 clear HW2
 have HW3 := Lib.hid (R_keepO (S := fun i => i = x) (fun i hi => hi.1) HV3.out h3)
 clear HV3
 have HV3 := HW3
 clear HW3
 have HW4 := Lib.hid (R_keepO (S := fun i => i = x) (fun i hi => hi.1.1) (show Kd.R G.k101 101 w8 w.heap.size (fun k => (k ≠ x ∧ k ≠ w.heap.size ∧ k ≠ g) ∧ k < w8.heap.size) _ l4 from Kd.R_mono (Kd.R_bound HV4.out) (fun k hk => ⟨hk.1, hk.2.2.1⟩)) h3)
 clear HV4
 have HV4 := HW4
 clear HW4
 have HG9 := Lib.hid ((h3.block w.heap.size (by have := HGZ.out; have := HZZ8.out; omega) (by have := HGZ.out; omega)).trans HG8.out)
 have HY9 := Lib.hid ((h3.block g HZZ8.out (by have := HGZ.out; omega)).trans HY8.out)
 have HQ9 := Lib.hid (HQ8.out.trans h3)
 have HZZ9 := Lib.hid (Nat.lt_of_lt_of_le HZZ8.out h3.size)
 have HI9 := Lib.hid h1
 have HD9 := Lib.hid h2
 have d5 : w9.cell? ⟨g, 5, none⟩ = some (.slice none 0 0) := by simp [World.cell?, HY9.out]
 have z5 : w9.frozen? ⟨g, 5, none⟩ = false := by simp [World.frozen?, HY9.out]
 clear hv hvr h1 h2 h3 HNN5
 have d0 : w9.cell? ⟨g, 0, none⟩ = some (.int .i64 a) := by simp [World.cell?, HY9.out]
 have d1 : w9.cell? ⟨g, 1, none⟩ = some (.int .i64 b) := by simp [World.cell?, HY9.out]
 have d2 : w9.cell? ⟨g, 2, none⟩ = some (.slice A2 l2.length c2) := by simp [World.cell?, HY9.out]
 have d3 : w9.cell? ⟨g, 3, none⟩ = some (.slice A3 l3.length c3) := by simp [World.cell?, HY9.out]
 have d4 : w9.cell? ⟨g, 4, none⟩ = some (.slice A4 l4.length c4) := by simp [World.cell?, HY9.out]
 have e0 : w9.cell? ⟨w.heap.size, 0, none⟩ = some (.int .i64 0) := by simp [World.cell?, HG9.out]
 have y0 : w9.frozen? ⟨w.heap.size, 0, none⟩ = false := by simp [World.frozen?, HG9.out]
 have e1 : w9.cell? ⟨w.heap.size, 1, none⟩ = some (.int .i64 0) := by simp [World.cell?, HG9.out]
 have y1 : w9.frozen? ⟨w.heap.size, 1, none⟩ = false := by simp [World.frozen?, HG9.out]
 have e2 : w9.cell? ⟨w.heap.size, 2, none⟩ = some (.slice none 0 0) := by simp [World.cell?, HG9.out]
 have y2 : w9.frozen? ⟨w.heap.size, 2, none⟩ = false := by simp [World.frozen?, HG9.out]
 have e3 : w9.cell? ⟨w.heap.size, 3, none⟩ = some (.slice none 0 0) := by simp [World.cell?, HG9.out]
 have y3 : w9.frozen? ⟨w.heap.size, 3, none⟩ = false := by simp [World.frozen?, HG9.out]
 have e4 : w9.cell? ⟨w.heap.size, 4, none⟩ = some (.slice none 0 0) := by simp [World.cell?, HG9.out]
 have y4 : w9.frozen? ⟨w.heap.size, 4, none⟩ = false := by simp [World.frozen?, HG9.out]
 have e5 : w9.cell? ⟨w.heap.size, 5, none⟩ = some (.slice none 0 0) := by simp [World.cell?, HG9.out]
 have y5 : w9.frozen? ⟨w.heap.size, 5, none⟩ = false := by simp [World.frozen?, HG9.out]
 have HGN : w.heap.size ≠ g := by have := HGZ.out; omega
 go_wp2_with fail
 have HEB := Lib.hid (blk_put (cs := #[.int .i64 a, .int .i64 b, .slice A2 l2.length c2, .slice A3 l3.length c3, .slice A4 l4.length c4, .slice none 0 0]) (blk_put (cs := #[.int .i64 a, .int .i64 b, .slice A2 l2.length c2, .slice A3 l3.length c3, .slice none 0 0, .slice none 0 0]) (blk_put (cs := #[.int .i64 a, .int .i64 b, .slice A2 l2.length c2, .slice none 0 0, .slice none 0 0, .slice none 0 0]) (blk_put (cs := #[.int .i64 a, .int .i64 b, .slice none 0 0, .slice none 0 0, .slice none 0 0, .slice none 0 0]) (blk_put (cs := #[.int .i64 a, .int .i64 0, .slice none 0 0, .slice none 0 0, .slice none 0 0, .slice none 0 0]) (blk_put (cs := #[.int .i64 0, .int .i64 0, .slice none 0 0, .slice none 0 0, .slice none 0 0, .slice none 0 0]) ((Below.heap_setCell w9 ⟨g, 5, none⟩ (.slice A5 l5.length c5) w.heap.size HGN).trans HG9.out) 0 (.int .i64 a) rfl) 1 (.int .i64 b) rfl) 2 (.slice A2 l2.length c2) rfl) 3 (.slice A3 l3.length c3) rfl) 4 (.slice A4 l4.length c4) rfl) 5 (.slice A5 l5.length c5) rfl)
 have HKS := Lib.hid ((((((((KeepS.refl (fun i => i = g ∨ i = w.heap.size) w9).set (p := ⟨g, 5, none⟩) (.inl (.inl rfl)) (.slice A5 l5.length c5)).set (p := ⟨w.heap.size, 0, none⟩) (.inl (.inr rfl)) (.int .i64 a)).set (p := ⟨w.heap.size, 1, none⟩) (.inl (.inr rfl)) (.int .i64 b)).set (p := ⟨w.heap.size, 2, none⟩) (.inl (.inr rfl)) (.slice A2 l2.length c2)).set (p := ⟨w.heap.size, 3, none⟩) (.inl (.inr rfl)) (.slice A3 l3.length c3)).set (p := ⟨w.heap.size, 4, none⟩) (.inl (.inr rfl)) (.slice A4 l4.length c4)).set (p := ⟨w.heap.size, 5, none⟩) (.inl (.inr rfl)) (.slice A5 l5.length c5))
 obtain ⟨W, hW⟩ : ∃ W, ((((((w9.setCell ⟨g, 5, none⟩ (.slice A5 l5.length c5)).setCell ⟨w.heap.size, 0, none⟩ (.int .i64 a)).setCell ⟨w.heap.size, 1, none⟩ (.int .i64 b)).setCell ⟨w.heap.size, 2, none⟩ (.slice A2 l2.length c2)).setCell ⟨w.heap.size, 3, none⟩ (.slice A3 l3.length c3)).setCell ⟨w.heap.size, 4, none⟩ (.slice A4 l4.length c4)).setCell ⟨w.heap.size, 5, none⟩ (.slice A5 l5.length c5) = W := ⟨_, rfl⟩
 rw [hW] at HEB HKS ⊢
 clear hW
 refine bodyPost_ret (results_cell_row rfl _ _ w.heap.size 26 #[.int .i64 a, .int .i64 b, .slice A2 l2.length c2, .slice A3 l3.length c3, .slice A4 l4.length c4, .slice A5 l5.length c5] (0, 0) _ rfl HEB.out Tryz.underlying26 rfl (by kernel_rfl)) rfl ?_
 rw [HF.out]
 have hq := HQ9.out.size
 have hgz := HGZ.out
 refine ⟨_, _, _, _, rfl, Kd.R_mono (R_keepO (fun i hi => ?_) HV2.out HKS.out) (fun _ _ => trivial), Kd.R_mono (R_keepO (fun i hi => ?_) HV3.out HKS.out) (fun _ _ => trivial), Kd.R_mono (R_keepO (fun i hi => ?_) HV4.out HKS.out) (fun k hk e => ?_), Kd.R_mono (R_keepO (fun i hi => ?_) HV5.out HKS.out) (fun k hk e => ?_), HI9.out.at (HKS.out.block x (by omega) ?_), HD9.out.trans (HKS.out.below (B := w0.heap.size) HD9.out.size ?_), HQ9.out.then_base (HKS.out.below (B := w.heap.size) hq ?_)⟩
 ·rintro (h | h); exact hi.2.2 h; exact hi.2.1 h
 ·rintro (h | h); exact hi.2.2 h; exact hi.2.1 h
 ·rintro (h | h); exact hi.1.2.2 h; exact hi.1.2.1 h
 ·have h5 := HV5.out.1 k e.symm
  have := hk.2
  have := h5.2.2.2
  omega
 ·rintro (h | h); exact hi.2.2.1 h; exact hi.2.1 h
 ·have h5 := HV4.out.1 k e.symm
  have := hk.2.2.2
  have := h5.2
  omega
 ·rintro (h | h) <;> omega
 ·have := HGEW.out
  rintro i (h | h) <;> omega
 ·rintro i (h | h) <;> omega
end Go.Proofs.YtgiefblcckikeaaGreat.M
end

section
/- A function that reads with a state at x into a struct variable g, its result's box being the first new one; what it has read stays. -/
namespace Go.Proofs.YtgiefblcckikeaaGreat.M
open Go.RowKit Go.Proofs.YtgiefblcckikeaaGreatW.PrintWords Go.Proofs.YtgiefblcckikeaaGreatW.PrintLast Go.Proofs.YtgiefblcckikeaaGreatW.PrintMore Go.Proofs.YtgiefblcckikeaaGreat.G
def Held (S : Nat → Prop) (W : World) (P : World → Prop) : Prop := ∀ W' : World, W.heap.size ≤ W'.heap.size → (∀ k, k < W.heap.size → ¬ S k → W'.heap[k]? = W.heap[k]?) → P W'
theorem Held.now {S : Nat → Prop} {W : World} {P : World → Prop} (h : Held S W P) : P W := h W (Nat.le_refl _) (fun _ _ _ => rfl)
theorem Held.step {S : Nat → Prop} {W W' : World} {P : World → Prop} (h : Held S W P) (hz : W.heap.size ≤ W'.heap.size) (hm : ∀ k, k < W.heap.size → ¬ S k → W'.heap[k]? = W.heap[k]?) : Held S W' P :=
 fun V hV hk => h V (Nat.le_trans hz hV) (fun k h1 h2 => (hk k (Nat.lt_of_lt_of_le h1 hz) h2).trans (hm k h1 h2))
theorem Held.keep {S S' : Nat → Prop} {W W' : World} {P : World → Prop} (h : Held S W P) (k : KeepS S' W W') (hs : ∀ i, S' i → S i) : Held S W' P := h.step k.size (fun i h1 h2 => k.block i h1 (fun e => h2 (hs i e)))
theorem Held.set {S : Nat → Prop} {W : World} {P : World → Prop} (h : Held S W P) (p : Addr) (hp : S p.block) (v : Value) : Held S (W.setCell p v) P :=
 h.step (by rw [World.size_setCell]; exact Nat.le_refl _) (fun k _ h2 => Below.heap_setCell W p v k (fun e => h2 (e ▸ hp)))
theorem Held.and {S : Nat → Prop} {W : World} {P Q : World → Prop} (h : Held S W P) (k : Held S W Q) : Held S W (fun V => P V ∧ Q V) := fun V h1 h2 => ⟨h V h1 h2, k V h1 h2⟩
theorem Held.true (S : Nat → Prop) (W : World) : Held S W (fun _ => True) := fun _ _ _ => trivial
abbrev Iv {α : Type} (d : Kd α) (e : Nat) (w : World) (lo hi : Nat) (v : Value) (l : List α) (W : World) : Prop := Kd.R d e W w.heap.size (fun k => lo ≤ k ∧ k < hi) v l
theorem Iv.of {α : Type} {d : Kd α} {e : Nat} {w W : World} {base : Nat} {ok : Nat → Prop} {v : Value} {l : List α} (h : Kd.R d e W base ok v l) (hb : w.heap.size ≤ base) : Iv d e w base W.heap.size v l W :=
 Kd.R_mono (Kd.R_lower (Kd.R_bound h) hb) (fun k hk => ⟨hk.2.1, hk.2.2.1⟩)
theorem Iv.held {α : Type} {d : Kd α} {e : Nat} {w W : World} {lo hi : Nat} {v : Value} {l : List α} {S : Nat → Prop} (h : Iv d e w lo hi v l W) (hS : ∀ k, S k → k < lo ∨ hi ≤ k) : Held S W (Iv d e w lo hi v l) :=
 fun V _ hk => Kd.R_step h (fun k h1 h2 => hk k h2 (fun e => by have := hS k e; omega))
abbrev Sv {α : Type} (d : Kd α) (e : Nat) (w : World) (lo hi : Nat) (v : Value) (l : List α) (W : World) : Prop := Kd.S d e W w.heap.size (fun k => lo ≤ k ∧ k < hi) v l
theorem Sv.of {α : Type} {d : Kd α} {e : Nat} {w W : World} {base : Nat} {ok : Nat → Prop} {v : Value} {l : List α} (h : Kd.S d e W base ok v l) (hb : w.heap.size ≤ base) : Sv d e w base W.heap.size v l W :=
 Kd.S_mono (Kd.S_lower (Kd.S_bound h) hb) (fun k hk => ⟨hk.2.1, hk.2.2.1⟩)
theorem Sv.held {α : Type} {d : Kd α} {e : Nat} {w W : World} {lo hi : Nat} {v : Value} {l : List α} {S : Nat → Prop} (h : Sv d e w lo hi v l W) (hS : ∀ k, S k → k < lo ∨ hi ≤ k) : Held S W (Sv d e w lo hi v l) :=
 fun V _ hk => Kd.S_step h (fun k h1 h2 => hk k h2 (fun e => by have := hS k e; omega))
structure Fr (I : World → EyeS → Prop) (w0 w : World) (x g T : Nat) (zs cs : Array Value) (s : EyeS) (P : World → Prop) (W : World) : Prop where
 g0 : W.heap[w.heap.size]? = some (.cells zs T)
 y : W.heap[g]? = some (.cells cs T)
 i : I W s
 d : Below w0.heap.size w0 W
 q : KeepS (fun i => i = x) w W
 hg : w.heap.size < g
 hz : g < W.heap.size
 hx : x < w.heap.size
 hw : w0.heap.size ≤ x
 h : Held (fun k => k = x ∨ k = w.heap.size ∨ k = g) W P
 at_ : ∀ (W W' : World) (s : EyeS), W'.heap[x]? = W.heap[x]? → I W s → I W' s
section
variable {I : World → EyeS → Prop} {w0 w W W' : World} {x g T : Nat} {zs cs : Array Value} {s s' : EyeS} {P Q : World → Prop}
theorem Fr.lt (h : Fr I w0 w x g T zs cs s P W) : w.heap.size < W.heap.size := Nat.lt_trans h.hg h.hz
theorem Fr.hxg (h : Fr I w0 w x g T zs cs s P W) : x < g := Nat.lt_trans h.hx h.hg
theorem Fr.call (h : Fr I w0 w x g T zs cs s P W) (i : I W' s') (d : Below w0.heap.size w0 W') (k : KeepS (fun i => i = x) W W') : Fr I w0 w x g T zs cs s' P W' :=
 ⟨(k.block _ h.lt (by have := h.hx; omega)).trans h.g0, (k.block _ h.hz (by have := h.hxg; omega)).trans h.y, i, d, h.q.trans k, h.hg, Nat.lt_of_lt_of_le h.hz k.size, h.hx, h.hw, h.h.keep k (fun _ e => .inl e), h.at_⟩
theorem Fr.and (h : Fr I w0 w x g T zs cs s P W) (k : Held (fun k => k = x ∨ k = w.heap.size ∨ k = g) W Q) : Fr I w0 w x g T zs cs s (fun V => P V ∧ Q V) W := ⟨h.g0, h.y, h.i, h.d, h.q, h.hg, h.hz, h.hx, h.hw, h.h.and k, h.at_⟩
theorem Fr.callR {α : Type} {d : Kd α} {e : Nat} {ok : Nat → Prop} {v : Value} {l : List α} (h : Fr I w0 w x g T zs cs s P W) (i : I W' s') (b : Below w0.heap.size w0 W') (k : KeepS (fun i => i = x) W W') (hv : Kd.R d e W' W.heap.size ok v l) :
  Fr I w0 w x g T zs cs s' (fun V => P V ∧ Iv d e w W.heap.size W'.heap.size v l V) W' :=
 (h.call i b k).and ((Iv.of hv (Nat.le_of_lt h.lt)).held (fun k hk => by have h1 := h.hx; have h2 := h.hg; have h3 := h.hz; rcases hk with rfl | rfl | rfl <;> omega))
theorem Fr.callS {α : Type} {d : Kd α} {e : Nat} {ok : Nat → Prop} {v : Value} {l : List α} (h : Fr I w0 w x g T zs cs s P W) (i : I W' s') (b : Below w0.heap.size w0 W') (k : KeepS (fun i => i = x) W W') (hv : Kd.S d e W' W.heap.size ok v l) :
  Fr I w0 w x g T zs cs s' (fun V => P V ∧ Sv d e w W.heap.size W'.heap.size v l V) W' :=
 (h.call i b k).and ((Sv.of hv (Nat.le_of_lt h.lt)).held (fun k hk => by have h1 := h.hx; have h2 := h.hg; have h3 := h.hz; rcases hk with rfl | rfl | rfl <;> omega))
theorem Fr.set (h : Fr I w0 w x g T zs cs s P W) (j : Nat) (v : Value) (cs' : Array Value) (hy : (W.setCell ⟨g, j, none⟩ v).heap[g]? = some (.cells cs' T)) : Fr I w0 w x g T zs cs' s P (W.setCell ⟨g, j, none⟩ v) := by
 have h1 := h.hg; have h2 := h.hx; have h3 := h.hw
 exact ⟨(Below.heap_setCell W ⟨g, j, none⟩ v w.heap.size (by show w.heap.size ≠ g; omega)).trans h.g0, hy, h.at_ _ _ _ (Below.heap_setCell W ⟨g, j, none⟩ v x (by show x ≠ g; omega)) h.i, h.d.setCell (p := ⟨g, j, none⟩) (by show w0.heap.size ≤ g; omega) v, h.q.set (p := ⟨g, j, none⟩) (.inr (by show w.heap.size ≤ g; omega)) v, h1, by rw [World.size_setCell]; exact h.hz, h2, h3, h.h.set ⟨g, j, none⟩ (.inr (.inr rfl)) v, h.at_⟩
theorem Fr.put (h : Fr I w0 w x g T zs cs s P W) (j : Nat) (v : Value) : Fr I w0 w x g T zs (cs.setIfInBounds j v) s P (W.setCell ⟨g, j, none⟩ v) := h.set j v _ (blk_put h.y j v rfl)
theorem Fr.drew (h : Fr I w0 w x g T zs cs s P W) : Fr I w0 w x g T zs cs s P W.drew := ⟨h.g0, h.y, h.at_ W W.drew s rfl h.i, h.d.drew, h.q.drew, h.hg, h.hz, h.hx, h.hw, h.h.step (Nat.le_refl _) (fun _ _ _ => rfl), h.at_⟩
theorem Fr.done (h : Fr I w0 w x g T zs cs s P W) (hk : KeepS (fun k => k = w.heap.size ∨ k = g) W W') : P W' ∧ I W' s ∧ Below w0.heap.size w0 W' ∧ KeepS (fun i => i = x) w W' := by
 have h1 := h.hg; have h2 := h.hx; have h3 := h.hw; have h4 := h.hz
 refine ⟨(h.h.keep hk (fun i e => by rcases e with e | e; exact .inr (.inl e); exact .inr (.inr e))).now, h.at_ _ _ _ (hk.block x (by omega) (by omega)) h.i, h.d.trans (hk.below (B := w0.heap.size) h.d.size (fun i e => by omega)), h.q.then_base (hk.below (B := w.heap.size) h.q.size (fun i e => by omega))⟩
theorem Iv.apart {α β : Type} {d : Kd α} {d' : Kd β} {e e' : Nat} {w W : World} {lo hi lo' hi' : Nat} {v v' : Value} {l : List α} {l' : List β} (h : Iv d e w lo hi v l W) (h' : Iv d' e' w lo' hi' v' l' W) (hh : hi ≤ lo' ∨ hi' ≤ lo) : Kd.R d e W w.heap.size (fun k => some k ≠ v'.ownBlock) v l :=
 Kd.R_mono h (fun k hk e => by have := h'.1 k e.symm; omega)
theorem Fr.grow {W1 : World} (h : Fr I w0 w x g T zs cs s P W) (h1 : Held (fun k => k = x ∨ k = w.heap.size ∨ k = g) W1 P) (hk : KeepS (fun k => k = x ∨ k = g) W1 W) (hg : g < W1.heap.size) (hb : Below W1.heap.size W W') : Fr I w0 w x g T zs cs s P W' := by
 have h2 := h.hg; have h3 := h.hx; have h4 := h.hw
 refine ⟨(hb.block _ (by omega)).trans h.g0, (hb.block _ hg).trans h.y, h.at_ _ _ _ (hb.block x (by omega)) h.i, h.d.trans (hb.mono (by omega)), h.q.then_base (hb.mono (by omega)), h2, Nat.lt_of_lt_of_le h.hz hb.size, h3, h4, ?_, h.at_⟩
 exact h1.step (Nat.le_trans hk.size hb.size) (fun k h5 h6 => (hb.block k h5).trans (hk.block k h5 (fun e => h6 (by rcases e with e | e; exact .inl e; exact .inr (.inr e)))))
end
end Go.Proofs.YtgiefblcckikeaaGreat.M
end

section
/- A function that turns its parameter's box g and answers it out of the result's box r; what it has made stays. -/
namespace Go.Proofs.YtgiefblcckikeaaGreat.M
open Go.RowKit Go.Proofs.YtgiefblcckikeaaGreatW.PrintWords Go.Proofs.YtgiefblcckikeaaGreatW.PrintLast Go.Proofs.YtgiefblcckikeaaGreatW.PrintMore Go.Proofs.YtgiefblcckikeaaGreat.G
structure Bx (w : World) (g r T : Nat) (zs cs : Array Value) (P : World → Prop) (W : World) : Prop where
 g0 : W.heap[r]? = some (.cells zs T)
 y : W.heap[g]? = some (.cells cs T)
 d : Below w.heap.size w W
 hr : w.heap.size ≤ r
 hg : w.heap.size ≤ g
 ne : r ≠ g
 hz : g < W.heap.size
 hz2 : r < W.heap.size
 h : Held (fun k => k = r ∨ k = g) W P
section
variable {w W W' : World} {g r T : Nat} {zs cs : Array Value} {P Q : World → Prop}
theorem Bx.below (h : Bx w g r T zs cs P W) (hb : Below W.heap.size W W') : Bx w g r T zs cs P W' :=
 ⟨(hb.block r h.hz2).trans h.g0, (hb.block g h.hz).trans h.y, h.d.trans (hb.mono h.d.size), h.hr, h.hg, h.ne, Nat.lt_of_lt_of_le h.hz hb.size, Nat.lt_of_lt_of_le h.hz2 hb.size, h.h.step hb.size (fun k h1 _ => hb.block k h1)⟩
theorem Bx.drew (h : Bx w g r T zs cs P W) : Bx w g r T zs cs P W.drew := ⟨h.g0, h.y, h.d.drew, h.hr, h.hg, h.ne, h.hz, h.hz2, h.h.step (Nat.le_refl _) (fun _ _ _ => rfl)⟩
theorem Bx.and (h : Bx w g r T zs cs P W) (k : Held (fun k => k = r ∨ k = g) W Q) : Bx w g r T zs cs (fun V => P V ∧ Q V) W := ⟨h.g0, h.y, h.d, h.hr, h.hg, h.ne, h.hz, h.hz2, h.h.and k⟩
theorem Bx.lt (h : Bx w g r T zs cs P W) : w.heap.size ≤ W.heap.size := h.d.size
theorem Bx.callR {α : Type} {d : Kd α} {e : Nat} {ok : Nat → Prop} {v : Value} {l : List α} (h : Bx w g r T zs cs P W) (b : Below W.heap.size W W') (hv : Kd.R d e W' W.heap.size ok v l) :
  Bx w g r T zs cs (fun V => P V ∧ Iv d e w W.heap.size W'.heap.size v l V) W' :=
 (h.below b).and ((Iv.of hv h.lt).held (fun k hk => by have h1 := h.hz; have h2 := h.hz2; rcases hk with rfl | rfl <;> omega))
theorem Bx.callS {α : Type} {d : Kd α} {e : Nat} {ok : Nat → Prop} {v : Value} {l : List α} (h : Bx w g r T zs cs P W) (b : Below W.heap.size W W') (hv : Kd.S d e W' W.heap.size ok v l) :
  Bx w g r T zs cs (fun V => P V ∧ Sv d e w W.heap.size W'.heap.size v l V) W' :=
 (h.below b).and ((Sv.of hv h.lt).held (fun k hk => by have h1 := h.hz; have h2 := h.hz2; rcases hk with rfl | rfl <;> omega))
theorem Bx.set (h : Bx w g r T zs cs P W) (j : Nat) (v : Value) (cs' : Array Value) (hy : (W.setCell ⟨g, j, none⟩ v).heap[g]? = some (.cells cs' T)) : Bx w g r T zs cs' P (W.setCell ⟨g, j, none⟩ v) :=
 ⟨(Below.heap_setCell W ⟨g, j, none⟩ v r h.ne).trans h.g0, hy, h.d.setCell (p := ⟨g, j, none⟩) h.hg v, h.hr, h.hg, h.ne, by rw [World.size_setCell]; exact h.hz, by rw [World.size_setCell]; exact h.hz2, h.h.set ⟨g, j, none⟩ (.inr rfl) v⟩
theorem Bx.put (h : Bx w g r T zs cs P W) (j : Nat) (v : Value) : Bx w g r T zs (cs.setIfInBounds j v) P (W.setCell ⟨g, j, none⟩ v) := h.set j v _ (blk_put h.y j v rfl)
theorem Bx.done (h : Bx w g r T zs cs P W) (hk : KeepS (fun k => k = r ∨ k = g) W W') : P W' ∧ Below w.heap.size w W' := by
 have h1 := h.hg; have h2 := h.hr; have h3 := h.lt
 exact ⟨(h.h.keep hk (fun _ e => e)).now, h.d.trans (hk.below (B := w.heap.size) h3 (fun i e => by omega))⟩
end
end Go.Proofs.YtgiefblcckikeaaGreat.M
end

section
/- The reference's functions over transactions, as this session's words say them. -/
namespace Go.Proofs.YtgiefblcckikeaaGreat.M
open Go.RowKit Go.Proofs.YtgiefblcckikeaaGreatW.PrintWords Go.Proofs.YtgiefblcckikeaaGreatW.PrintLast Go.Proofs.YtgiefblcckikeaaGreatW.PrintMore Go.Proofs.YtgiefblcckikeaaGreat.G
theorem TxC.ls {w : World} {t : TxD} {A2 A3 A4 A5 : Option Addr} {c2 c3 c4 c5 : Nat} (h : TxC w t A2 c2 A3 c3 A4 c4 A5 c5) : TxLs t := ⟨Kd.C_max h.g2, Kd.C_max h.g3, Kd.C_max h.g4, Kd.C_max h.g5⟩
theorem bEqual_is {w : World} (A : Option Addr) (c : Nat) (a : List Int) (B : Option Addr) (d : Nat) (b : List Int) (ha : Kd.C (Kd.int .u8) w A a.length a) (hc : a.length ≤ c) (hb : Kd.C (Kd.int .u8) w B b.length b) (hd : b.length ≤ d) :
  Calls Tryz.prog 22 #[.slice A a.length c, .slice B b.length d] w fun e w' => e = .returned (.bool (eqS a b)) ∧ Below w.heap.size w w' :=
 (G.bytes_Equal.calls A c a B d b (eqS a b) w ha hc hb hd rfl).mono (fun e w' ⟨h1, n, h2⟩ => ⟨h1, by subst h2; exact pw_below_drewN (Below.refl _ _) n⟩)
theorem eqS_refl (a : List Int) : eqS a a = true := by unfold eqS; simp
end Go.Proofs.YtgiefblcckikeaaGreat.M
end

section
/- Which messages are the same: record.SameMsg, the reference's SameMsg (printed by gensame04.py). -/
attribute [local irreducible] Go.wpStill
namespace Go.Proofs.YtgiefblcckikeaaGreat.M
open Go.RowKit Go.Proofs.YtgiefblcckikeaaGreatW.PrintWords Go.Proofs.YtgiefblcckikeaaGreatW.PrintLast Go.Proofs.YtgiefblcckikeaaGreatW.PrintMore Go.Proofs.YtgiefblcckikeaaGreat.G
theorem tr_get {w : World} {A : Option Addr} {n : Nat} {l : List TrD} (h : Kd.C G.k63 w A n l) {k : Nat} {x : TrD} (hk : l[k]? = some x) :
  ∃ ad A4 c4, A = some ad ∧ w.cell? (ad.add (k * 5)) = some (.int .i64 x.f0) ∧ w.cell? ⟨(ad.add (k * 5)).block, (ad.add (k * 5)).off + 1, none⟩ = some (.int .i64 x.f1.f0) ∧ w.cell? ⟨(ad.add (k * 5)).block, (ad.add (k * 5)).off + 2, none⟩ = some (.int .i64 x.f1.f1) ∧ w.cell? ⟨(ad.add (k * 5)).block, (ad.add (k * 5)).off + 3, none⟩ = some (.int .i64 x.f1.f2) ∧ w.cell? ⟨(ad.add (k * 5)).block, (ad.add (k * 5)).off + 4, none⟩ = some (.slice A4 x.f1.f3.length c4) ∧ x.f1.f3.length ≤ c4 ∧ G.k26.C w A4 x.f1.f3.length x.f1.f3 := by
 have hlt : k < n := by
  have := (List.getElem?_eq_some_iff.1 hk).1
  have := h.1
  omega
 obtain ⟨ad, A4, c4, rfl, h0, h1, h2, h3, h4, l4, g4⟩ := G.at_T63 h (k : Int) (by omega) (by omega)
 have e : G.rd_T63 l (k : Int) = x := by unfold G.rd_T63; rw [Int.toNat_natCast, List.getD_eq_getElem?_getD, hk]; rfl
 rw [e] at h0 h1 h2 h3 h4 l4 g4
 rw [Int.toNat_natCast] at h0 h1 h2 h3 h4
 exact ⟨ad, A4, c4, rfl, h0, h1, h2, h3, h4, l4, g4⟩
theorem refSameEn_is (k f n : Int) (A : Option Addr) (c : Nat) (l : List TxD) (k' f' n' : Int) (A' : Option Addr) (c' : Nat) (l' : List TxD) (w : World) (ha : Kd.C G.k26 w A l.length l) (hc : l.length ≤ c) (hb : Kd.C G.k26 w A' l'.length l') (hc' : l'.length ≤ c') :
  Calls Tryz.prog 27 #[.agg #[.int .i64 k, .int .i64 f, .int .i64 n, .slice A l.length c], .agg #[.int .i64 k', .int .i64 f', .int .i64 n', .slice A' l'.length c']] w fun e w' => e = .returned (.bool (eqEn k f n l k' f' n' l')) ∧ Below w.heap.size w w' := by
 obtain ⟨M, hM⟩ := bound_T l
 refine G.trivetref04_SameEntry.calls (M + l.length + 3) k f n A c l k' f' n' A' c' l' _ w ha hc hb hc' (sameEn_r _ k f n l k' f' n' l' (fun t ht => by have := hM t ht; omega) (by omega) ha.2.1 (fun t ht => ?_))
 obtain ⟨i, hi⟩ := List.getElem?_of_mem ht
 obtain ⟨ad, A2, c2, A3, c3, A4, c4, A5, c5, _, _, hX⟩ := tx_get ha hi
 exact hX.le
set_option maxHeartbeats 1000000 in
theorem sameTr1_is {w : World} (a b : TrD) {A B : Option Addr} {c d : Nat} (hc : a.f1.f3.length ≤ c) (ha : Kd.C G.k26 w A a.f1.f3.length a.f1.f3) (hd : b.f1.f3.length ≤ d) (hb : Kd.C G.k26 w B b.f1.f3.length b.f1.f3) :
  Calls Tryz.prog 145 #[.agg #[.int .i64 a.f0, .int .i64 a.f1.f0, .int .i64 a.f1.f1, .int .i64 a.f1.f2, .slice A a.f1.f3.length c], .agg #[.int .i64 b.f0, .int .i64 b.f1.f0, .int .i64 b.f1.f1, .int .i64 b.f1.f2, .slice B b.f1.f3.length d]] w fun e w' => e = .returned (.bool (eqTr a b)) ∧ Below w.heap.size w w' := by
 have HB := Lib.hid (show Below w.heap.size w ((w.alloc (.cells #[.int .i64 a.f0, .int .i64 a.f1.f0, .int .i64 a.f1.f1, .int .i64 a.f1.f2, .slice A a.f1.f3.length c] 63)).alloc (.cells #[.int .i64 b.f0, .int .i64 b.f1.f0, .int .i64 b.f1.f1, .int .i64 b.f1.f2, .slice B b.f1.f3.length d] 63)) from ((Below.refl _ _).alloc (Nat.le_refl _) _).alloc (by simp) _)
 have HE := Lib.hid (sameEn_is a.f1.f0 a.f1.f1 a.f1.f2 A c a.f1.f3 b.f1.f0 b.f1.f1 b.f1.f2 B d b.f1.f3 _ (Kd.C_below ha HB.out) (Kd.C_below hb HB.out))
 obtain ⟨q, hq⟩ : ∃ q, eqTr a b = q := ⟨_, rfl⟩
 have HQ := Lib.hid hq
 rw [hq]
 clear hq ha hb hc hd
 cases h0 : (a.f0 == b.f0) with
 | false =>
  have HV := Lib.hid (show q = false by rw [← HQ.out]; unfold eqTr; rw [h0, Bool.false_and])
  go_enter Tryz.func145, Tryz.ntmps145
  go_wp2_with fail
  go_ret
  exact ⟨by rw [HV.out]; rfl, HB.out⟩
 | true =>
  have HV := Lib.hid (show q = eqEn a.f1.f0 a.f1.f1 a.f1.f2 a.f1.f3 b.f1.f0 b.f1.f1 b.f1.f2 b.f1.f3 by rw [← HQ.out]; unfold eqTr; rw [h0, Bool.true_and])
  go_enter Tryz.func145, Tryz.ntmps145
  go_wp2_with fail
  refine HE.out.mono ?_
  rintro e w' ⟨rfl, hb⟩
  have HB2 := Lib.hid (HB.out.trans (hb.mono HB.out.size))
  clear hb
  go_wp2_with fail
  go_ret
  exact ⟨by rw [HV.out]; rfl, HB2.out⟩
set_option maxHeartbeats 1000000 in
theorem refSameTr_is {w : World} (a b : TrD) {A B : Option Addr} {c d : Nat} (hc : a.f1.f3.length ≤ c) (ha : Kd.C G.k26 w A a.f1.f3.length a.f1.f3) (hd : b.f1.f3.length ≤ d) (hb : Kd.C G.k26 w B b.f1.f3.length b.f1.f3) :
  Calls Tryz.prog 135 #[.agg #[.int .i64 a.f0, .int .i64 a.f1.f0, .int .i64 a.f1.f1, .int .i64 a.f1.f2, .slice A a.f1.f3.length c], .agg #[.int .i64 b.f0, .int .i64 b.f1.f0, .int .i64 b.f1.f1, .int .i64 b.f1.f2, .slice B b.f1.f3.length d]] w fun e w' => e = .returned (.bool (eqTr a b)) ∧ Below w.heap.size w w' := by
 have HB := Lib.hid (show Below w.heap.size w ((w.alloc (.cells #[.int .i64 a.f0, .int .i64 a.f1.f0, .int .i64 a.f1.f1, .int .i64 a.f1.f2, .slice A a.f1.f3.length c] 63)).alloc (.cells #[.int .i64 b.f0, .int .i64 b.f1.f0, .int .i64 b.f1.f1, .int .i64 b.f1.f2, .slice B b.f1.f3.length d] 63)) from ((Below.refl _ _).alloc (Nat.le_refl _) _).alloc (by simp) _)
 have HE := Lib.hid (refSameEn_is a.f1.f0 a.f1.f1 a.f1.f2 A c a.f1.f3 b.f1.f0 b.f1.f1 b.f1.f2 B d b.f1.f3 _ (Kd.C_below ha HB.out) hc (Kd.C_below hb HB.out) hd)
 obtain ⟨q, hq⟩ : ∃ q, eqTr a b = q := ⟨_, rfl⟩
 have HQ := Lib.hid hq
 rw [hq]
 clear hq ha hb hc hd
 cases h0 : (a.f0 == b.f0) with
 | false =>
  have HV := Lib.hid (show q = false by rw [← HQ.out]; unfold eqTr; rw [h0, Bool.false_and])
  go_enter Tryz.func135, Tryz.ntmps135
  go_wp2_with fail
  go_ret
  exact ⟨by rw [HV.out]; rfl, HB.out⟩
 | true =>
  have HV := Lib.hid (show q = eqEn a.f1.f0 a.f1.f1 a.f1.f2 a.f1.f3 b.f1.f0 b.f1.f1 b.f1.f2 b.f1.f3 by rw [← HQ.out]; unfold eqTr; rw [h0, Bool.true_and])
  go_enter Tryz.func135, Tryz.ntmps135
  go_wp2_with fail
  refine HE.out.mono ?_
  rintro e w' ⟨rfl, hb⟩
  have HB2 := Lib.hid (HB.out.trans (hb.mono HB.out.size))
  clear hb
  go_wp2_with fail
  go_ret
  exact ⟨by rw [HV.out]; rfl, HB2.out⟩
def eqfuncT_isI (a b : List TrD) (w : World) (i : Value) (wr : World) : Prop := ∃ k : Nat, i = .int .i64 k ∧ k ≤ a.length ∧ eqTrs a b = eqTrs (a.drop k) (b.drop k) ∧ Below w.heap.size w wr
set_option maxHeartbeats 1000000 in
theorem eqfuncT_is (A B : Option Addr) (c d : Nat) (a b : List TrD) (w : World) (ha : Kd.C G.k63 w A a.length a) (hb : Kd.C G.k63 w B b.length b) :
  Calls Tryz.prog 144 #[.slice A a.length c, .slice B b.length d, .func (.func 145) #[] #[]] w fun e w' => e = .returned (.bool (eqTrs a b)) ∧ Below w.heap.size w w' := by
 have hlm : a.length ≤ 9223372036854775807 := ha.2.1
 have HA := Lib.hid ha; have HB := Lib.hid hb
 clear ha hb
 by_cases hl : a.length = b.length
 ·have hlb : ((a.length : Int) != (b.length : Int)) = false := by rw [bne_eq_false_iff_eq]; omega
  have HL := Lib.hid hl
  clear hl
  go_enter Tryz.func144, Tryz.ntmps144
  go_wp2_with fail
  go_loopw [17] (fun i wr => eqfuncT_isI a b w i wr) (fun i _ => a.length - (intOf i).toNat)
  case atStart => exact ⟨0, rfl, Nat.zero_le _, rfl, Below.refl _ _⟩
  case round =>
   obtain ⟨k, rfl, hk, he, hb⟩ := hrel
   have HE := Lib.hid he; have HBr := Lib.hid hb
   clear he hb
   by_cases hlt : k < a.length
   ·obtain ⟨x, hx⟩ : ∃ x, a[k]? = some x := ⟨_, List.getElem?_eq_getElem hlt⟩
    obtain ⟨y, hy⟩ : ∃ y, b[k]? = some y := ⟨_, List.getElem?_eq_getElem (by have := HL.out; omega)⟩
    obtain ⟨ad, A4, c4, rfl, x0, x1, x2, x3, x4, lx, gx⟩ := tr_get (Kd.C_below HA.out HBr.out) hx
    obtain ⟨bd, B4, d4, rfl, y0, y1, y2, y3, y4, ly, gy⟩ := tr_get (Kd.C_below HB.out HBr.out) hy
    have HXX := Lib.hid (And.intro lx gx); have HYY := Lib.hid (And.intro ly gy)
    have HS := Lib.hid (eqTrs_take hx hy)
    have hkb : k < b.length := by have := HL.out; omega
    clear lx gx ly gy hx hy
    have zb : (bd.add (k * 5)).block < wr.heap.size := World.block_lt_of_cell? _ _ y0
    have HB2 := Lib.hid (show Below wr.heap.size wr ((wr.alloc (.cells #[.int .i64 x.f0, .int .i64 x.f1.f0, .int .i64 x.f1.f1, .int .i64 x.f1.f2, .slice A4 x.f1.f3.length c4] 63)).alloc (.cells #[.int .i64 y.f0, .int .i64 y.f1.f0, .int .i64 y.f1.f1, .int .i64 y.f1.f2, .slice B4 y.f1.f3.length d4] 63)) from ((Below.refl _ _).alloc (Nat.le_refl _) _).alloc (by simp) _)
    go_wp2_with fail
    refine (sameTr1_is x y HXX.out.1 (Kd.C_below HXX.out.2 HB2.out) HYY.out.1 (Kd.C_below HYY.out.2 HB2.out)).mono ?_
    rintro e w' ⟨rfl, hb⟩
    have HB3 := Lib.hid (HBr.out.trans ((HB2.out.trans (hb.mono HB2.out.size)).mono HBr.out.size))
    clear hb x0 x1 x2 x3 x4 y0 y1 y2 y3 y4 zb
    obtain ⟨q, hq⟩ : ∃ q, eqTr x y = q := ⟨_, rfl⟩
    have HQ := Lib.hid hq
    rw [hq]
    clear hq
    cases q with
    | true =>
     go_wp2_with fail
     go_roundw
     case rel => exact ⟨k + 1, by go_num, hlt, by rw [HE.out, HS.out, HQ.out, Bool.true_and], HB3.out⟩
     case measure => simp [intOf]; omega
    | false =>
     go_wp2_with fail
     go_ret
     exact ⟨by rw [HE.out, HS.out, HQ.out]; rfl, HB3.out⟩
   ·have HF := Lib.hid (show eqTrs a b = true by rw [HE.out, List.drop_of_length_le (by omega), List.drop_of_length_le (by have := HL.out; omega)]; rfl)
    go_wp2_with fail
    go_ret
    exact ⟨by rw [HF.out]; rfl, HBr.out⟩
 ·have hlb : ((a.length : Int) != (b.length : Int)) = true := by rw [bne_iff_ne]; omega
  have HF := Lib.hid (eqTrs_len hl)
  clear hl
  go_enter Tryz.func144, Tryz.ntmps144
  go_wp2_with fail
  go_ret
  exact ⟨by rw [HF.out]; rfl, Below.refl _ _⟩
def refSameTrs_isI (a b : List TrD) (w : World) (i : Value) (wr : World) : Prop := ∃ k : Nat, i = .int .i64 k ∧ k ≤ a.length ∧ eqTrs a b = eqTrs (a.drop k) (b.drop k) ∧ Below w.heap.size w wr
set_option maxHeartbeats 1000000 in
theorem refSameTrs_is (A B : Option Addr) (c d : Nat) (a b : List TrD) (w : World) (ha : Kd.C G.k63 w A a.length a) (hb : Kd.C G.k63 w B b.length b) :
  Calls Tryz.prog 64 #[.slice A a.length c, .slice B b.length d] w fun e w' => e = .returned (.bool (eqTrs a b)) ∧ Below w.heap.size w w' := by
 have hlm : a.length ≤ 9223372036854775807 := ha.2.1
 have HA := Lib.hid ha; have HB := Lib.hid hb
 clear ha hb
 by_cases hl : a.length = b.length
 ·have hlb : ((a.length : Int) != (b.length : Int)) = false := by rw [bne_eq_false_iff_eq]; omega
  have HL := Lib.hid hl
  clear hl
  go_enter Tryz.func64, Tryz.ntmps64
  go_wp2_with fail
  go_loopw [5] (fun i wr => refSameTrs_isI a b w i wr) (fun i _ => a.length - (intOf i).toNat)
  case atStart => exact ⟨0, rfl, Nat.zero_le _, rfl, Below.refl _ _⟩
  case round =>
   obtain ⟨k, rfl, hk, he, hb⟩ := hrel
   have HE := Lib.hid he; have HBr := Lib.hid hb
   clear he hb
   by_cases hlt : k < a.length
   ·obtain ⟨x, hx⟩ : ∃ x, a[k]? = some x := ⟨_, List.getElem?_eq_getElem hlt⟩
    obtain ⟨y, hy⟩ : ∃ y, b[k]? = some y := ⟨_, List.getElem?_eq_getElem (by have := HL.out; omega)⟩
    obtain ⟨ad, A4, c4, rfl, x0, x1, x2, x3, x4, lx, gx⟩ := tr_get (Kd.C_below HA.out HBr.out) hx
    obtain ⟨bd, B4, d4, rfl, y0, y1, y2, y3, y4, ly, gy⟩ := tr_get (Kd.C_below HB.out HBr.out) hy
    have HXX := Lib.hid (And.intro lx gx); have HYY := Lib.hid (And.intro ly gy)
    have HS := Lib.hid (eqTrs_take hx hy)
    have hkb : k < b.length := by have := HL.out; omega
    clear lx gx ly gy hx hy
    have zb : (bd.add (k * 5)).block < wr.heap.size := World.block_lt_of_cell? _ _ y0
    have HB2 := Lib.hid (show Below wr.heap.size wr wr.drew from (Below.refl _ _).drew)
    go_wp2_with fail
    refine wp_region_still_tail 8 (by kernel_rfl) (by kernel_rfl) ?_
    simp only [List.take_succ_cons, List.take_zero, List.drop_succ_cons, List.drop_zero]
    iterate 8 still_step
    refine wpStill_nil ?_
    change wpList _ _ _ _ _ wr.drew
    go_wp2_with fail
    refine (refSameTr_is x y HXX.out.1 (Kd.C_below HXX.out.2 HB2.out) HYY.out.1 (Kd.C_below HYY.out.2 HB2.out)).mono ?_
    rintro e w' ⟨rfl, hb⟩
    have HB3 := Lib.hid (HBr.out.trans ((HB2.out.trans (hb.mono HB2.out.size)).mono HBr.out.size))
    clear hb x0 x1 x2 x3 x4 y0 y1 y2 y3 y4 zb
    obtain ⟨q, hq⟩ : ∃ q, eqTr x y = q := ⟨_, rfl⟩
    have HQ := Lib.hid hq
    rw [hq]
    clear hq
    cases q with
    | true =>
     go_wp2_with fail
     go_roundw
     case rel => exact ⟨k + 1, by go_num, hlt, by rw [HE.out, HS.out, HQ.out, Bool.true_and], HB3.out⟩
     case measure => simp [intOf]; omega
    | false =>
     go_wp2_with fail
     go_ret
     exact ⟨by rw [HE.out, HS.out, HQ.out]; rfl, HB3.out⟩
   ·have HF := Lib.hid (show eqTrs a b = true by rw [HE.out, List.drop_of_length_le (by omega), List.drop_of_length_le (by have := HL.out; omega)]; rfl)
    go_wp2_with fail
    go_ret
    exact ⟨by rw [HF.out]; rfl, HBr.out⟩
 ·have hlb : ((a.length : Int) != (b.length : Int)) = true := by rw [bne_iff_ne]; omega
  have HF := Lib.hid (eqTrs_len hl)
  clear hl
  go_enter Tryz.func64, Tryz.ntmps64
  go_wp2_with fail
  go_ret
  exact ⟨by rw [HF.out]; rfl, Below.refl _ _⟩
theorem MsBox.cell {W : World} {b : Nat} {m : MsgD} {A8 A12 A16 : Option Addr} {c8 c12 c16 : Nat} (h : MsBox W b m A8 c8 A12 c12 A16 c16) : W.cell? ⟨b, 0, none⟩ = some (.int .i64 m.f0) ∧ W.cell? ⟨b, 1, none⟩ = some (.int .i64 m.f1) ∧ W.cell? ⟨b, 2, none⟩ = some (.int .i64 m.f2) ∧ W.cell? ⟨b, 3, none⟩ = some (.int .i64 m.f3) ∧ W.cell? ⟨b, 4, none⟩ = some (.int .i64 m.f4) ∧ W.cell? ⟨b, 5, none⟩ = some (.int .i64 m.f5) ∧ W.cell? ⟨b, 6, none⟩ = some (.int .i64 m.f6) ∧ W.cell? ⟨b, 7, none⟩ = some (.bool m.f7) ∧ W.cell? ⟨b, 8, none⟩ = some (.slice A8 m.f8.length c8) ∧ W.cell? ⟨b, 9, none⟩ = some (.int .i64 m.f9.f0) ∧ W.cell? ⟨b, 10, none⟩ = some (.int .i64 m.f9.f1) ∧ W.cell? ⟨b, 11, none⟩ = some (.int .i64 m.f9.f2) ∧ W.cell? ⟨b, 12, none⟩ = some (.slice A12 m.f9.f3.length c12) ∧ W.cell? ⟨b, 13, none⟩ = some (.int .i64 m.f10.f0) ∧ W.cell? ⟨b, 14, none⟩ = some (.int .i64 m.f10.f1) ∧ W.cell? ⟨b, 15, none⟩ = some (.int .i64 m.f10.f2) ∧ W.cell? ⟨b, 16, none⟩ = some (.slice A16 m.f10.f3.length c16) := ⟨(blk_cell h 0).trans rfl, (blk_cell h 1).trans rfl, (blk_cell h 2).trans rfl, (blk_cell h 3).trans rfl, (blk_cell h 4).trans rfl, (blk_cell h 5).trans rfl, (blk_cell h 6).trans rfl, (blk_cell h 7).trans rfl, (blk_cell h 8).trans rfl, (blk_cell h 9).trans rfl, (blk_cell h 10).trans rfl, (blk_cell h 11).trans rfl, (blk_cell h 12).trans rfl, (blk_cell h 13).trans rfl, (blk_cell h 14).trans rfl, (blk_cell h 15).trans rfl, (blk_cell h 16).trans rfl⟩
theorem MsBox.lt {W : World} {b : Nat} {m : MsgD} {A8 A12 A16 : Option Addr} {c8 c12 c16 : Nat} (h : MsBox W b m A8 c8 A12 c12 A16 c16) : b < W.heap.size := (Array.getElem?_eq_some_iff.1 h).1
theorem MsBox.below {W W' : World} {b : Nat} {m : MsgD} {A8 A12 A16 : Option Addr} {c8 c12 c16 : Nat} (h : MsBox W b m A8 c8 A12 c12 A16 c16) (hb : Below W.heap.size W W') : MsBox W' b m A8 c8 A12 c12 A16 c16 := (hb.block b h.lt).trans h
end Go.Proofs.YtgiefblcckikeaaGreat.M
end

section
/- A whole struct's load, at once. -/
namespace Go.Proofs.YtgiefblcckikeaaGreat.M
open Go
end Go.Proofs.YtgiefblcckikeaaGreat.M
end

section
/- A chain of && and ||: behind a false (true) it needs no walk, operation by operation; and a list of operations may be walked part by part. -/
namespace Go.Proofs.YtgiefblcckikeaaGreat.M
open Go
structure Aside0C (p : Prop) : Prop where mk :: (out : p)
abbrev Kn := List (Nat × Option Bool)
def Knows (a : Act) (K : Kn) : Prop := ∀ p, p ∈ K → a.tmps[p.1]? = some (match p.2 with | some b => .bool b | none => undef)
def kget : Kn → Nat → Option (Option Bool)
 | [], _ => none
 | p :: K, d => if p.1 = d then some p.2 else kget K d
def kdel (K : Kn) (d : Nat) : Kn := K.filter (fun p => decide (p.1 ≠ d))
def kput (N : Nat) (K : Kn) (dst : Option Tmp) (v : Option Bool) : Option Kn := match dst with
 | none => some K
 | some d => if d < N then some ((d, v) :: kdel K d) else none
def kval (K : Kn) : Operand → Option Bool
 | .tmp t => match kget K t with
  | some (some b) => some b
  | _ => none
 | .const (.bool b) => some b
 | _ => none
def kwant (ops : Array Oper) (K : Kn) (o : Oper) : Option Bool := match o.guard with
 | none => some true
 | some (j, want) => match (ops[j]?).bind (·.dst) with
  | none => some false
  | some d => match kget K d with
   | some (some b) => some (b == want)
   | some none => some false
   | none => none
def kexec (K : Kn) (o : Oper) : Option Bool := match o.op with
 | .move x | .assign x => kval K x
 | .pick c x y => match kval K c with
  | some true => kval K x
  | some false => kval K y
  | none => none
 | .unOp .not _ x => (kval K x).map (!·)
 | _ => none
def chainRun (ops : Array Oper) (N : Nat) : List Oper → Kn → Option Kn
 | [], K => some K
 | o :: r, K => match kwant ops K o with
  | none => none
  | some false => (kput N K o.dst none).bind (chainRun ops N r)
  | some true => (kexec K o).bind fun b => (kput N K o.dst (some b)).bind (chainRun ops N r)
theorem kget_mem : ∀ {K : Kn} {d : Nat} {v : Option Bool}, kget K d = some v → (d, v) ∈ K
 | p :: K, d, v, h => by
  unfold kget at h
  split at h
  ·obtain rfl := Option.some.inj h
   next e => subst e; exact List.mem_cons_self
  ·exact List.mem_cons_of_mem _ (kget_mem h)
theorem Knows.put {a : Act} {K K' : Kn} {N : Nat} {dst : Option Tmp} {v : Option Bool} {u : Value} (h : Knows a K) (hu : u = (match v with | some b => .bool b | none => undef)) (hN : N ≤ a.tmps.size) (hp : kput N K dst v = some K') : Knows (a.put dst u) K' ∧ N ≤ (a.put dst u).tmps.size ∧ (a.put dst u).defers = a.defers := by
 unfold kput at hp
 cases dst with
 | none => obtain rfl := Option.some.inj hp; exact ⟨h, hN, rfl⟩
 | some d =>
  simp only at hp
  by_cases hd : d < N
  ·rw [if_pos hd] at hp
   obtain rfl := Option.some.inj hp
   refine ⟨fun p hm => ?_, by simpa [Act.put] using hN, rfl⟩
   show (a.tmps.setIfInBounds d u)[p.1]? = _
   rcases List.mem_cons.1 hm with rfl | hm
   ·rw [Array.getElem?_setIfInBounds_self_of_lt (Nat.lt_of_lt_of_le hd hN), hu]
   ·have h2 := List.mem_filter.1 hm
    have h3 : p.1 ≠ d := of_decide_eq_true h2.2
    rw [Array.getElem?_setIfInBounds_ne (fun e => h3 e.symm)]
    exact h p h2.1
  ·rw [if_neg hd] at hp; cases hp
theorem kval_eval {a : Act} {K : Kn} {x : Operand} {b : Bool} (h : Knows a K) (hx : kval K x = some b) : a.eval x = .bool b := by
 unfold kval at hx
 split at hx
 ·next t =>
  split at hx
  ·next b' hg =>
   obtain rfl := Option.some.inj hx
   have := h _ (kget_mem hg)
   simp only at this
   show a.tmps.getD t undef = _
   rw [Array.getD_eq_getD_getElem?, this]
   rfl
  ·cases hx
 ·obtain rfl := Option.some.inj hx; rfl
 ·cases hx
theorem kexec_run {P : Program} {a : Act} {K : Kn} {o : Oper} {b : Bool} (h : Knows a K) (hx : kexec K o = some b) (w : World) : (execOp a.eval o).run P w = .ok (.value (.bool b)) w := by
 unfold kexec at hx
 split at hx
 ·next x ho => rw [BigFrame.run_move x ho, kval_eval h hx]
 ·next x ho => rw [BigFrame.run_assign x ho, kval_eval h hx]
 ·next c x y ho =>
  split at hx
  ·next hc => unfold execOp; rw [ho]; simp only [kval_eval h hc, kval_eval h hx]; rfl
  ·next hc => unfold execOp; rw [ho]; simp only [kval_eval h hc, kval_eval h hx]; rfl
  ·cases hx
 ·next tt x ho =>
  obtain ⟨b', hb', rfl⟩ := Option.map_eq_some_iff.1 hx
  unfold execOp
  rw [ho]
  simp only [kval_eval h hb']
  rfl
 ·cases hx
theorem chain_run {P : Program} {ops : Array Oper} {Q : Exit → Act → World → Prop} {w : World} {N : Nat} : ∀ (l : List Oper) (K K' : Kn) (a : Act), chainRun ops N l K = some K' → Knows a K → N ≤ a.tmps.size →
  (∀ a' : Act, Knows a' K' → a'.defers = a.defers → Q .normal a' w) → wpList P ops Q l a w
 | [], K, K', a, hr, h, hN, hq => by obtain rfl := Option.some.inj hr; exact hq a h rfl
 | o :: r, K, K', a, hr, h, hN, hq => by
  unfold chainRun at hr
  have hw : ∀ b, kwant ops K o = some b → Region.wanted o (yielded ops a.tmps) = b := by
   intro b hb
   unfold kwant at hb
   unfold Region.wanted
   split at hb
   ·next hg => rw [hg]; exact Option.some.inj hb
   ·next j want hg =>
    rw [hg]
    simp only
    unfold yielded
    split at hb
    ·next hd => rw [hd]; obtain rfl := Option.some.inj hb; rfl
    ·next d hd =>
     rw [hd, Option.bind_some]
     split at hb
     ·next b' hk => rw [h _ (kget_mem hk)]; obtain rfl := Option.some.inj hb; cases b' <;> cases want <;> rfl
     ·next hk => rw [h _ (kget_mem hk)]; obtain rfl := Option.some.inj hb; rfl
     ·cases hb
  unfold wpList
  split at hr
  ·cases hr
  ·next hk =>
   rw [hw _ hk, if_neg (by simp)]
   obtain ⟨K1, h1, h2⟩ := Option.bind_eq_some_iff.1 hr
   obtain ⟨h3, h4, h5⟩ := h.put (u := undef) rfl hN h1
   exact chain_run r K1 K' _ h2 h3 h4 (fun a' q1 q2 => hq a' q1 (q2.trans h5))
  ·next hk =>
   rw [hw _ hk, if_pos rfl]
   obtain ⟨b, hb, h0⟩ := Option.bind_eq_some_iff.1 hr
   obtain ⟨K1, h1, h2⟩ := Option.bind_eq_some_iff.1 h0
   obtain ⟨h3, h4, h5⟩ := h.put (u := .bool b) (v := some b) rfl hN h1
   refine .inl ?_
   unfold Oper.wp
   rw [kexec_run h hb]
   exact chain_run r K1 K' _ h2 h3 h4 (fun a' q1 q2 => hq a' q1 (q2.trans h5))
theorem Knows.nil (a : Act) : Knows a [] := fun p h => by cases h
theorem Knows.cons {a : Act} {K : Kn} {d : Nat} {b : Bool} (h : a.tmps[d]? = some (.bool b)) (k : Knows a K) : Knows a ((d, some b) :: K) := fun p hp => by
 rcases List.mem_cons.1 hp with rfl | hp
 ·exact h
 ·exact k p hp
theorem chain_to {P : Program} {ops : Array Oper} {Q : Exit → Act → World → Prop} {w : World} {a : Act} {l : List Oper} (N d : Nat) (b : Bool) (K : Kn) (hr : (chainRun ops N l K).bind (fun K' => kget K' d) = some (some b)) (h : Knows a K) (hN : N ≤ a.tmps.size)
  (hq : ∀ a' : Act, a'.tmps[d]? = some (.bool b) → a'.defers = a.defers → Q .normal a' w) : wpList P ops Q l a w := by
 obtain ⟨K', h1, h2⟩ := Option.bind_eq_some_iff.1 hr
 exact chain_run l K K' a h1 h hN (fun a' q1 q2 => hq a' (q1 _ (kget_mem h2)) q2)
theorem results_slot {fn : Func} {t : Nat} {a : Array Value} {v : Value} {P : Program} {w : World} (hr : fn.results = #[.tmp t]) (h : a[t]? = some v) : (results fn a).run P w = .ok v w := by
 simp [results, hr, h]
structure Halt (p : Prop) : Prop where mk :: (out : p)
def stopAt (Q : Exit → Act → World → Prop) (N : Act → World → Prop) : Exit → Act → World → Prop
 | .normal, a, w => Halt (N a w)
 | e, a, w => Q e a w
theorem upon_stop {P : Program} {o : Oper} {a : Act} {K K' : Act → World → Prop} {Q : Exit → Act → World → Prop} {N : Act → World → Prop} (hk : ∀ a w, K a w → K' a w) : ∀ r : Result Next, o.upon P a K (stopAt Q N) r → o.upon P a K' Q r := by
 intro r h
 unfold Oper.upon at h ⊢
 split at h
 ·exact hk _ _ h
 ·exact hk _ _ h
 ·exact hk _ _ h
 ·refine h.mono (fun e w' he => ?_)
  cases e with
  | returned v => exact hk _ _ he
  | panicked c => exact he
  | outgrown => obtain ⟨a, w, h⟩ := he; exact ⟨a, w, h⟩
 ·exact Rows.mono h (fun v w' he => hk _ _ he)
 ·exact h
 ·exact h.elim
theorem wpList_stop {P : Program} {ops : Array Oper} {Q : Exit → Act → World → Prop} {l2 : List Oper} : ∀ (l1 : List Oper) (a : Act) (w : World), wpList P ops (stopAt Q (wpList P ops Q l2)) l1 a w → wpList P ops Q (l1 ++ l2) a w
 | [], a, w, h => by
  unfold wpList at h
  exact h.out
 | o :: r, a, w, h => by
  unfold wpList at h
  rw [List.cons_append]
  unfold wpList
  split at h
  ·next hw =>
   rw [if_pos hw]
   rcases h with h | ⟨h1, a', w', h2⟩
   ·exact .inl (upon_stop (fun a w h => wpList_stop r a w h) _ h)
   ·exact .inr ⟨h1, a', w', h2⟩
  ·next hw =>
   rw [if_neg hw]
   exact wpList_stop r _ _ h
theorem wpList_cut {P : Program} {ops : Array Oper} {Q : Exit → Act → World → Prop} {a : Act} {w : World} {l : List Oper} (k : Nat) (h : wpList P ops (stopAt Q (wpList P ops Q (l.drop k))) (l.take k) a w) : wpList P ops Q l a w := by
 have := wpList_stop _ _ _ h
 rwa [List.take_append_drop] at this
theorem with_fin {P : Program} {ops : Array Oper} {Q : Exit → Act → World → Prop} {a : Act} {w : World} {l : List Oper} (Φ : Act → World → Prop) (hf : ∀ a' W, Φ a' W → Q .normal a' W) (h : Aside0C (∀ a' W, Φ a' W → Q .normal a' W) → wpList P ops Q l a w) : wpList P ops Q l a w := h ⟨hf⟩
end Go.Proofs.YtgiefblcckikeaaGreat.M
end

section
/- A message without what its kind does not have: record.bare, the reference's plain (printed by genbare04.py). -/
attribute [local irreducible] Go.wpStill
namespace Go.Proofs.YtgiefblcckikeaaGreat.M
open Go.RowKit Go.Proofs.YtgiefblcckikeaaGreatW.PrintWords Go.Proofs.YtgiefblcckikeaaGreatW.PrintLast Go.Proofs.YtgiefblcckikeaaGreatW.PrintMore Go.Proofs.YtgiefblcckikeaaGreat.G
def zE : EntD := ⟨0, 0, 0, []⟩
def zP : PartD := ⟨0, 0, 0, []⟩
def zM : MsgD := ⟨0, 0, 0, 0, 0, 0, 0, false, [], zE, zP⟩
def isKind (k : Int) : Bool := decide (1 ≤ k) && decide (k ≤ 6)
def bareM (m : MsgD) : MsgD :=
 if m.f0 = 6 then ⟨m.f0, m.f1, m.f2, 0, 0, 0, 0, false, [], m.f9, zP⟩
 else if m.f0 = 1 then ⟨m.f0, m.f1, m.f2, m.f3, m.f4, m.f5, 0, false, [], zE, zP⟩
 else if m.f0 = 2 then ⟨m.f0, m.f1, m.f2, m.f3, 0, 0, 0, m.f7, [], zE, zP⟩
 else if m.f0 = 3 then ⟨m.f0, m.f1, m.f2, m.f3, m.f4, m.f5, m.f6, false, m.f8, zE, zP⟩
 else if m.f0 = 4 then ⟨m.f0, m.f1, m.f2, m.f3, m.f4, 0, 0, m.f7, [], zE, zP⟩
 else ⟨m.f0, m.f1, m.f2, m.f3, m.f4, m.f5, 0, false, [], zE, m.f10⟩
def BareP (w : World) (m : MsgD) (e : Ending) (w' : World) : Prop := ∃ (y : MsgD) (B8 B12 B16 : Option Addr) (d8 d12 d16 : Nat), e = .returned (.tuple #[.agg (msgCells y B8 d8 B12 d12 B16 d16), .bool (isKind m.f0)]) ∧ (isKind m.f0 = true → y = bareM m) ∧ MsgC w' y B8 d8 B12 d12 B16 d16 ∧ Below w.heap.size w w'
theorem Bx.fin {w W : World} {g r T : Nat} {zs cs cs' : Array Value} {P : World → Prop} (h : Bx w g r T zs cs P W) : (W.setRow r cs').heap[r]? = some (.cells cs' T) ∧ P (W.setRow r cs') ∧ Below w.heap.size w (W.setRow r cs') := by
 have hk : KeepS (fun k => k = r ∨ k = g) W (W.setRow r cs') := ⟨rfl, rfl, rfl, by simp, fun i _ hi => setRow_other W r i cs' (fun e => hi (.inl e))⟩
 exact ⟨setRow_heap W r zs cs' T (0, 0) h.g0, h.done hk⟩
theorem bare_start_ (w : World) (m : MsgD) (A8 A12 A16 : Option Addr) (c8 c12 c16 : Nat) : Bx w (w.heap.size + 1 + 1) (w.heap.size + 1) 34 #[.int .i64 0, .int .i64 0, .int .i64 0, .int .i64 0, .int .i64 0, .int .i64 0, .int .i64 0, .bool false, .slice none 0 0, .int .i64 0, .int .i64 0, .int .i64 0, .slice none 0 0, .int .i64 0, .int .i64 0, .int .i64 0, .slice none 0 0] #[.int .i64 m.f0, .int .i64 m.f1, .int .i64 m.f2, .int .i64 0, .int .i64 0, .int .i64 0, .int .i64 0, .bool false, .slice none 0 0, .int .i64 0, .int .i64 0, .int .i64 0, .slice none 0 0, .int .i64 0, .int .i64 0, .int .i64 0, .slice none 0 0] (fun V => MsBox V w.heap.size m A8 c8 A12 c12 A16 c16) (((w.alloc (.cells #[.int .i64 m.f0, .int .i64 m.f1, .int .i64 m.f2, .int .i64 m.f3, .int .i64 m.f4, .int .i64 m.f5, .int .i64 m.f6, .bool m.f7, .slice A8 m.f8.length c8, .int .i64 m.f9.f0, .int .i64 m.f9.f1, .int .i64 m.f9.f2, .slice A12 m.f9.f3.length c12, .int .i64 m.f10.f0, .int .i64 m.f10.f1, .int .i64 m.f10.f2, .slice A16 m.f10.f3.length c16] 34)).alloc (.cells #[.int .i64 0, .int .i64 0, .int .i64 0, .int .i64 0, .int .i64 0, .int .i64 0, .int .i64 0, .bool false, .slice none 0 0, .int .i64 0, .int .i64 0, .int .i64 0, .slice none 0 0, .int .i64 0, .int .i64 0, .int .i64 0, .slice none 0 0] 34)).alloc (.cells #[.int .i64 m.f0, .int .i64 m.f1, .int .i64 m.f2, .int .i64 0, .int .i64 0, .int .i64 0, .int .i64 0, .bool false, .slice none 0 0, .int .i64 0, .int .i64 0, .int .i64 0, .slice none 0 0, .int .i64 0, .int .i64 0, .int .i64 0, .slice none 0 0] 34)) := by
 have z1 : (w.alloc (.cells #[.int .i64 m.f0, .int .i64 m.f1, .int .i64 m.f2, .int .i64 m.f3, .int .i64 m.f4, .int .i64 m.f5, .int .i64 m.f6, .bool m.f7, .slice A8 m.f8.length c8, .int .i64 m.f9.f0, .int .i64 m.f9.f1, .int .i64 m.f9.f2, .slice A12 m.f9.f3.length c12, .int .i64 m.f10.f0, .int .i64 m.f10.f1, .int .i64 m.f10.f2, .slice A16 m.f10.f3.length c16] 34)).heap.size = w.heap.size + 1 := by simp
 have z2 : ((w.alloc (.cells #[.int .i64 m.f0, .int .i64 m.f1, .int .i64 m.f2, .int .i64 m.f3, .int .i64 m.f4, .int .i64 m.f5, .int .i64 m.f6, .bool m.f7, .slice A8 m.f8.length c8, .int .i64 m.f9.f0, .int .i64 m.f9.f1, .int .i64 m.f9.f2, .slice A12 m.f9.f3.length c12, .int .i64 m.f10.f0, .int .i64 m.f10.f1, .int .i64 m.f10.f2, .slice A16 m.f10.f3.length c16] 34)).alloc (.cells #[.int .i64 0, .int .i64 0, .int .i64 0, .int .i64 0, .int .i64 0, .int .i64 0, .int .i64 0, .bool false, .slice none 0 0, .int .i64 0, .int .i64 0, .int .i64 0, .slice none 0 0, .int .i64 0, .int .i64 0, .int .i64 0, .slice none 0 0] 34)).heap.size = w.heap.size + 2 := by simp
 have z3 : (((w.alloc (.cells #[.int .i64 m.f0, .int .i64 m.f1, .int .i64 m.f2, .int .i64 m.f3, .int .i64 m.f4, .int .i64 m.f5, .int .i64 m.f6, .bool m.f7, .slice A8 m.f8.length c8, .int .i64 m.f9.f0, .int .i64 m.f9.f1, .int .i64 m.f9.f2, .slice A12 m.f9.f3.length c12, .int .i64 m.f10.f0, .int .i64 m.f10.f1, .int .i64 m.f10.f2, .slice A16 m.f10.f3.length c16] 34)).alloc (.cells #[.int .i64 0, .int .i64 0, .int .i64 0, .int .i64 0, .int .i64 0, .int .i64 0, .int .i64 0, .bool false, .slice none 0 0, .int .i64 0, .int .i64 0, .int .i64 0, .slice none 0 0, .int .i64 0, .int .i64 0, .int .i64 0, .slice none 0 0] 34)).alloc (.cells #[.int .i64 m.f0, .int .i64 m.f1, .int .i64 m.f2, .int .i64 0, .int .i64 0, .int .i64 0, .int .i64 0, .bool false, .slice none 0 0, .int .i64 0, .int .i64 0, .int .i64 0, .slice none 0 0, .int .i64 0, .int .i64 0, .int .i64 0, .slice none 0 0] 34)).heap.size = w.heap.size + 3 := by simp
 obtain ⟨u1, h1⟩ : ∃ u, w.alloc (.cells #[.int .i64 m.f0, .int .i64 m.f1, .int .i64 m.f2, .int .i64 m.f3, .int .i64 m.f4, .int .i64 m.f5, .int .i64 m.f6, .bool m.f7, .slice A8 m.f8.length c8, .int .i64 m.f9.f0, .int .i64 m.f9.f1, .int .i64 m.f9.f2, .slice A12 m.f9.f3.length c12, .int .i64 m.f10.f0, .int .i64 m.f10.f1, .int .i64 m.f10.f2, .slice A16 m.f10.f3.length c16] 34) = u := ⟨_, rfl⟩
 have b1 := (Below.refl _ w).alloc (Nat.le_refl _) (.cells #[.int .i64 m.f0, .int .i64 m.f1, .int .i64 m.f2, .int .i64 m.f3, .int .i64 m.f4, .int .i64 m.f5, .int .i64 m.f6, .bool m.f7, .slice A8 m.f8.length c8, .int .i64 m.f9.f0, .int .i64 m.f9.f1, .int .i64 m.f9.f2, .slice A12 m.f9.f3.length c12, .int .i64 m.f10.f0, .int .i64 m.f10.f1, .int .i64 m.f10.f2, .slice A16 m.f10.f3.length c16] 34)
 have x1 := heap_alloc_new w (.cells #[.int .i64 m.f0, .int .i64 m.f1, .int .i64 m.f2, .int .i64 m.f3, .int .i64 m.f4, .int .i64 m.f5, .int .i64 m.f6, .bool m.f7, .slice A8 m.f8.length c8, .int .i64 m.f9.f0, .int .i64 m.f9.f1, .int .i64 m.f9.f2, .slice A12 m.f9.f3.length c12, .int .i64 m.f10.f0, .int .i64 m.f10.f1, .int .i64 m.f10.f2, .slice A16 m.f10.f3.length c16] 34)
 rw [h1] at b1 x1 z1 z2 z3 ⊢
 obtain ⟨u2, h2⟩ : ∃ u, u1.alloc (.cells #[.int .i64 0, .int .i64 0, .int .i64 0, .int .i64 0, .int .i64 0, .int .i64 0, .int .i64 0, .bool false, .slice none 0 0, .int .i64 0, .int .i64 0, .int .i64 0, .slice none 0 0, .int .i64 0, .int .i64 0, .int .i64 0, .slice none 0 0] 34) = u := ⟨_, rfl⟩
 have b2 := (Below.refl _ u1).alloc (Nat.le_refl _) (.cells #[.int .i64 0, .int .i64 0, .int .i64 0, .int .i64 0, .int .i64 0, .int .i64 0, .int .i64 0, .bool false, .slice none 0 0, .int .i64 0, .int .i64 0, .int .i64 0, .slice none 0 0, .int .i64 0, .int .i64 0, .int .i64 0, .slice none 0 0] 34)
 have x2 := heap_alloc_new u1 (.cells #[.int .i64 0, .int .i64 0, .int .i64 0, .int .i64 0, .int .i64 0, .int .i64 0, .int .i64 0, .bool false, .slice none 0 0, .int .i64 0, .int .i64 0, .int .i64 0, .slice none 0 0, .int .i64 0, .int .i64 0, .int .i64 0, .slice none 0 0] 34)
 rw [h2] at b2 x2 z2 z3 ⊢
 have b3 := (Below.refl _ u2).alloc (Nat.le_refl _) (.cells #[.int .i64 m.f0, .int .i64 m.f1, .int .i64 m.f2, .int .i64 0, .int .i64 0, .int .i64 0, .int .i64 0, .bool false, .slice none 0 0, .int .i64 0, .int .i64 0, .int .i64 0, .slice none 0 0, .int .i64 0, .int .i64 0, .int .i64 0, .slice none 0 0] 34)
 have x3 := heap_alloc_new u2 (.cells #[.int .i64 m.f0, .int .i64 m.f1, .int .i64 m.f2, .int .i64 0, .int .i64 0, .int .i64 0, .int .i64 0, .bool false, .slice none 0 0, .int .i64 0, .int .i64 0, .int .i64 0, .slice none 0 0, .int .i64 0, .int .i64 0, .int .i64 0, .slice none 0 0] 34)
 rw [z1] at x2
 rw [z2] at x3
 have hx : MsBox (u2.alloc (.cells #[.int .i64 m.f0, .int .i64 m.f1, .int .i64 m.f2, .int .i64 0, .int .i64 0, .int .i64 0, .int .i64 0, .bool false, .slice none 0 0, .int .i64 0, .int .i64 0, .int .i64 0, .slice none 0 0, .int .i64 0, .int .i64 0, .int .i64 0, .slice none 0 0] 34)) w.heap.size m A8 c8 A12 c12 A16 c16 := (b3.block _ (by omega)).trans ((b2.block _ (by omega)).trans x1)
 exact ⟨(b3.block _ (by omega)).trans x2, x3, b1.trans ((b2.mono (by omega)).trans (b3.mono (by omega))), by omega, by omega, by omega, by omega, by omega, fun V _ hV => (hV w.heap.size (by omega) (by omega)).trans hx⟩
theorem bare_start (w : World) (m : MsgD) (A8 A12 A16 : Option Addr) (c8 c12 c16 : Nat) : ∃ w0, w0 = (((w.alloc (.cells #[.int .i64 m.f0, .int .i64 m.f1, .int .i64 m.f2, .int .i64 m.f3, .int .i64 m.f4, .int .i64 m.f5, .int .i64 m.f6, .bool m.f7, .slice A8 m.f8.length c8, .int .i64 m.f9.f0, .int .i64 m.f9.f1, .int .i64 m.f9.f2, .slice A12 m.f9.f3.length c12, .int .i64 m.f10.f0, .int .i64 m.f10.f1, .int .i64 m.f10.f2, .slice A16 m.f10.f3.length c16] 34)).alloc (.cells #[.int .i64 0, .int .i64 0, .int .i64 0, .int .i64 0, .int .i64 0, .int .i64 0, .int .i64 0, .bool false, .slice none 0 0, .int .i64 0, .int .i64 0, .int .i64 0, .slice none 0 0, .int .i64 0, .int .i64 0, .int .i64 0, .slice none 0 0] 34)).alloc (.cells #[.int .i64 m.f0, .int .i64 m.f1, .int .i64 m.f2, .int .i64 0, .int .i64 0, .int .i64 0, .int .i64 0, .bool false, .slice none 0 0, .int .i64 0, .int .i64 0, .int .i64 0, .slice none 0 0, .int .i64 0, .int .i64 0, .int .i64 0, .slice none 0 0] 34)) ∧ Bx w (w.heap.size + 1 + 1) (w.heap.size + 1) 34 #[.int .i64 0, .int .i64 0, .int .i64 0, .int .i64 0, .int .i64 0, .int .i64 0, .int .i64 0, .bool false, .slice none 0 0, .int .i64 0, .int .i64 0, .int .i64 0, .slice none 0 0, .int .i64 0, .int .i64 0, .int .i64 0, .slice none 0 0] #[.int .i64 m.f0, .int .i64 m.f1, .int .i64 m.f2, .int .i64 0, .int .i64 0, .int .i64 0, .int .i64 0, .bool false, .slice none 0 0, .int .i64 0, .int .i64 0, .int .i64 0, .slice none 0 0, .int .i64 0, .int .i64 0, .int .i64 0, .slice none 0 0] (fun V => MsBox V w.heap.size m A8 c8 A12 c12 A16 c16) w0 := ⟨_, rfl, bare_start_ w m A8 A12 A16 c8 c12 c16⟩
set_option maxHeartbeats 4000000 in
theorem bare_k6 {w : World} (m : MsgD) {A8 A12 A16 : Option Addr} {c8 c12 c16 : Nat} (hm : MsgC w m A8 c8 A12 c12 A16 c16) (hk : m.f0 = 6) :
  Calls Tryz.prog 87 #[.agg #[.int .i64 m.f0, .int .i64 m.f1, .int .i64 m.f2, .int .i64 m.f3, .int .i64 m.f4, .int .i64 m.f5, .int .i64 m.f6, .bool m.f7, .slice A8 m.f8.length c8, .int .i64 m.f9.f0, .int .i64 m.f9.f1, .int .i64 m.f9.f2, .slice A12 m.f9.f3.length c12, .int .i64 m.f10.f0, .int .i64 m.f10.f1, .int .i64 m.f10.f2, .slice A16 m.f10.f3.length c16]] w fun e w' => BareP w m e w' := by
 have t6 : (m.f0 == 6) = true := by rw [hk]; rfl
 have t1 : (m.f0 == 1) = false := by rw [hk]; rfl
 have t2 : (m.f0 == 2) = false := by rw [hk]; rfl
 have t3 : (m.f0 == 3) = false := by rw [hk]; rfl
 have t4 : (m.f0 == 4) = false := by rw [hk]; rfl
 have t5 : (m.f0 == 5) = false := by rw [hk]; rfl
 have HK := Lib.hid hk
 clear hk
 have HM := Lib.hid hm
 clear hm
 go_enter Tryz.func87, Tryz.ntmps87
 go_upto_region 2 with fail
 obtain ⟨w0, hw, hT⟩ := bare_start w m A8 A12 A16 c8 c12 c16
 rw [← hw]
 have HT0 := Lib.hid hT
 clear hw hT
 obtain ⟨g, hg⟩ : ∃ g, w.heap.size = g := ⟨_, rfl⟩
 have HG := Lib.hid hg
 rw [hg] at HT0 ⊢
 clear hg
 obtain ⟨a0, a1, a2, a3, a4, a5, a6, a7, a8, a9, a10, a11, a12, a13, a14, a15, a16⟩ := MsBox.cell HT0.out.h.now
 have b9 : w0.cell? ⟨g + 1 + 1, 9, none⟩ = some (.int .i64 0) := (blk_cell HT0.out.y 9).trans rfl
 have z9 : w0.frozen? ⟨g + 1 + 1, 9, none⟩ = false := blk_frozen HT0.out.y 9
 have b10 : w0.cell? ⟨g + 1 + 1, 10, none⟩ = some (.int .i64 0) := (blk_cell HT0.out.y 10).trans rfl
 have z10 : w0.frozen? ⟨g + 1 + 1, 10, none⟩ = false := blk_frozen HT0.out.y 10
 have b11 : w0.cell? ⟨g + 1 + 1, 11, none⟩ = some (.int .i64 0) := (blk_cell HT0.out.y 11).trans rfl
 have z11 : w0.frozen? ⟨g + 1 + 1, 11, none⟩ = false := blk_frozen HT0.out.y 11
 have b12 : w0.cell? ⟨g + 1 + 1, 12, none⟩ = some (.slice none 0 0) := (blk_cell HT0.out.y 12).trans rfl
 have z12 : w0.frozen? ⟨g + 1 + 1, 12, none⟩ = false := blk_frozen HT0.out.y 12
 have hne : g + 1 + 1 ≠ g := by omega
 have hne2 : g ≠ g + 1 + 1 := by omega
 go_upto_region 4 with fail
 have hT : Bx w (g + 1 + 1) (g + 1) 34 #[.int .i64 0, .int .i64 0, .int .i64 0, .int .i64 0, .int .i64 0, .int .i64 0, .int .i64 0, .bool false, .slice none 0 0, .int .i64 0, .int .i64 0, .int .i64 0, .slice none 0 0, .int .i64 0, .int .i64 0, .int .i64 0, .slice none 0 0] #[.int .i64 m.f0, .int .i64 m.f1, .int .i64 m.f2, .int .i64 0, .int .i64 0, .int .i64 0, .int .i64 0, .bool false, .slice none 0 0, .int .i64 m.f9.f0, .int .i64 m.f9.f1, .int .i64 m.f9.f2, .slice A12 m.f9.f3.length c12, .int .i64 0, .int .i64 0, .int .i64 0, .slice none 0 0] _ _ := ((((HT0.out.put 9 (.int .i64 m.f9.f0)).put 10 (.int .i64 m.f9.f1)).put 11 (.int .i64 m.f9.f2)).put 12 (.slice A12 m.f9.f3.length c12))
 have HT1 := Lib.hid hT
 clear hT
 obtain ⟨w1, hw⟩ : ∃ w1, ((((w0.setCell ⟨g + 1 + 1, 9, none⟩ (.int .i64 m.f9.f0)).setCell ⟨g + 1 + 1, 10, none⟩ (.int .i64 m.f9.f1)).setCell ⟨g + 1 + 1, 11, none⟩ (.int .i64 m.f9.f2)).setCell ⟨g + 1 + 1, 12, none⟩ (.slice A12 m.f9.f3.length c12)) = w1 := ⟨_, rfl⟩
 rw [hw] at HT1 ⊢
 clear hw
 refine wp_region_list ?_
 refine wpList_load_row rfl 34 (.tmp 4) rfl (g + 1 + 1) rfl 34 _ (0, 0) _ HT1.out.y Tryz.underlying34 rfl (by kernel_rfl) ?_
 refine wpList_store_row rfl 34 (.tmp 2) (.tmp 18) rfl (g + 1) _ rfl rfl 34 _ HT1.out.g0 (by kernel_rfl) rfl (by simp [Value.oneCell']) ?_
 go_wp2_with fail
 refine bodyPost_ret (results_ct rfl _ _ (g + 1) 34 _ (0, 0) _ rfl HT1.out.fin.1 Tryz.underlying34 rfl (by kernel_rfl)) rfl ?_
 have hik : isKind m.f0 = true := by rw [HK.out]; rfl
 refine ⟨⟨m.f0, m.f1, m.f2, 0, 0, 0, 0, false, [], m.f9, zP⟩, none, A12, none, 0, c12, 0, by rw [hik]; rfl, fun _ => by unfold bareM; simp [HK.out], ⟨Nat.le_refl 0, Kd.C_nil _ _, HM.out.l12, Kd.C_below HM.out.g12 HT1.out.fin.2.2, Nat.le_refl 0, Kd.C_nil _ _⟩, HT1.out.fin.2.2⟩
set_option maxHeartbeats 4000000 in
theorem bare_k1 {w : World} (m : MsgD) {A8 A12 A16 : Option Addr} {c8 c12 c16 : Nat} (hm : MsgC w m A8 c8 A12 c12 A16 c16) (hk : m.f0 = 1) :
  Calls Tryz.prog 87 #[.agg #[.int .i64 m.f0, .int .i64 m.f1, .int .i64 m.f2, .int .i64 m.f3, .int .i64 m.f4, .int .i64 m.f5, .int .i64 m.f6, .bool m.f7, .slice A8 m.f8.length c8, .int .i64 m.f9.f0, .int .i64 m.f9.f1, .int .i64 m.f9.f2, .slice A12 m.f9.f3.length c12, .int .i64 m.f10.f0, .int .i64 m.f10.f1, .int .i64 m.f10.f2, .slice A16 m.f10.f3.length c16]] w fun e w' => BareP w m e w' := by
 have t6 : (m.f0 == 6) = false := by rw [hk]; rfl
 have t1 : (m.f0 == 1) = true := by rw [hk]; rfl
 have t2 : (m.f0 == 2) = false := by rw [hk]; rfl
 have t3 : (m.f0 == 3) = false := by rw [hk]; rfl
 have t4 : (m.f0 == 4) = false := by rw [hk]; rfl
 have t5 : (m.f0 == 5) = false := by rw [hk]; rfl
 have HK := Lib.hid hk
 clear hk
 have HM := Lib.hid hm
 clear hm
 go_enter Tryz.func87, Tryz.ntmps87
 go_upto_region 2 with fail
 obtain ⟨w0, hw, hT⟩ := bare_start w m A8 A12 A16 c8 c12 c16
 rw [← hw]
 have HT0 := Lib.hid hT
 clear hw hT
 obtain ⟨g, hg⟩ : ∃ g, w.heap.size = g := ⟨_, rfl⟩
 have HG := Lib.hid hg
 rw [hg] at HT0 ⊢
 clear hg
 obtain ⟨a0, a1, a2, a3, a4, a5, a6, a7, a8, a9, a10, a11, a12, a13, a14, a15, a16⟩ := MsBox.cell HT0.out.h.now
 have b3 : w0.cell? ⟨g + 1 + 1, 3, none⟩ = some (.int .i64 0) := (blk_cell HT0.out.y 3).trans rfl
 have z3 : w0.frozen? ⟨g + 1 + 1, 3, none⟩ = false := blk_frozen HT0.out.y 3
 have b4 : w0.cell? ⟨g + 1 + 1, 4, none⟩ = some (.int .i64 0) := (blk_cell HT0.out.y 4).trans rfl
 have z4 : w0.frozen? ⟨g + 1 + 1, 4, none⟩ = false := blk_frozen HT0.out.y 4
 have b5 : w0.cell? ⟨g + 1 + 1, 5, none⟩ = some (.int .i64 0) := (blk_cell HT0.out.y 5).trans rfl
 have z5 : w0.frozen? ⟨g + 1 + 1, 5, none⟩ = false := blk_frozen HT0.out.y 5
 have hne : g + 1 + 1 ≠ g := by omega
 have hne2 : g ≠ g + 1 + 1 := by omega
 go_wp2_with fail
 go_region
 go_upto_region 18 with fail
 have hT : Bx w (g + 1 + 1) (g + 1) 34 #[.int .i64 0, .int .i64 0, .int .i64 0, .int .i64 0, .int .i64 0, .int .i64 0, .int .i64 0, .bool false, .slice none 0 0, .int .i64 0, .int .i64 0, .int .i64 0, .slice none 0 0, .int .i64 0, .int .i64 0, .int .i64 0, .slice none 0 0] #[.int .i64 m.f0, .int .i64 m.f1, .int .i64 m.f2, .int .i64 m.f3, .int .i64 m.f4, .int .i64 m.f5, .int .i64 0, .bool false, .slice none 0 0, .int .i64 0, .int .i64 0, .int .i64 0, .slice none 0 0, .int .i64 0, .int .i64 0, .int .i64 0, .slice none 0 0] _ _ := (((HT0.out.put 3 (.int .i64 m.f3)).put 4 (.int .i64 m.f4)).put 5 (.int .i64 m.f5)).drew
 have HT1 := Lib.hid hT
 clear hT
 obtain ⟨w1, hw⟩ : ∃ w1, (((w0.setCell ⟨g + 1 + 1, 3, none⟩ (.int .i64 m.f3)).setCell ⟨g + 1 + 1, 4, none⟩ (.int .i64 m.f4)).setCell ⟨g + 1 + 1, 5, none⟩ (.int .i64 m.f5)).drew = w1 := ⟨_, rfl⟩
 rw [hw] at HT1 ⊢
 clear hw
 refine wp_region_list ?_
 refine wpList_load_row rfl 34 (.tmp 4) rfl (g + 1 + 1) rfl 34 _ (0, 0) _ HT1.out.y Tryz.underlying34 rfl (by kernel_rfl) ?_
 refine wpList_store_row rfl 34 (.tmp 2) (.tmp 71) rfl (g + 1) _ rfl rfl 34 _ HT1.out.g0 (by kernel_rfl) rfl (by simp [Value.oneCell']) ?_
 go_wp2_with fail
 refine bodyPost_ret (results_ct rfl _ _ (g + 1) 34 _ (0, 0) _ rfl HT1.out.fin.1 Tryz.underlying34 rfl (by kernel_rfl)) rfl ?_
 have hik : isKind m.f0 = true := by rw [HK.out]; rfl
 refine ⟨⟨m.f0, m.f1, m.f2, m.f3, m.f4, m.f5, 0, false, [], zE, zP⟩, none, none, none, 0, 0, 0, by rw [hik]; rfl, fun _ => by unfold bareM; simp [HK.out], ⟨Nat.le_refl 0, Kd.C_nil _ _, Nat.le_refl 0, Kd.C_nil _ _, Nat.le_refl 0, Kd.C_nil _ _⟩, HT1.out.fin.2.2⟩
set_option maxHeartbeats 4000000 in
theorem bare_k2 {w : World} (m : MsgD) {A8 A12 A16 : Option Addr} {c8 c12 c16 : Nat} (hm : MsgC w m A8 c8 A12 c12 A16 c16) (hk : m.f0 = 2) :
  Calls Tryz.prog 87 #[.agg #[.int .i64 m.f0, .int .i64 m.f1, .int .i64 m.f2, .int .i64 m.f3, .int .i64 m.f4, .int .i64 m.f5, .int .i64 m.f6, .bool m.f7, .slice A8 m.f8.length c8, .int .i64 m.f9.f0, .int .i64 m.f9.f1, .int .i64 m.f9.f2, .slice A12 m.f9.f3.length c12, .int .i64 m.f10.f0, .int .i64 m.f10.f1, .int .i64 m.f10.f2, .slice A16 m.f10.f3.length c16]] w fun e w' => BareP w m e w' := by
 have t6 : (m.f0 == 6) = false := by rw [hk]; rfl
 have t1 : (m.f0 == 1) = false := by rw [hk]; rfl
 have t2 : (m.f0 == 2) = true := by rw [hk]; rfl
 have t3 : (m.f0 == 3) = false := by rw [hk]; rfl
 have t4 : (m.f0 == 4) = false := by rw [hk]; rfl
 have t5 : (m.f0 == 5) = false := by rw [hk]; rfl
 have HK := Lib.hid hk
 clear hk
 have HM := Lib.hid hm
 clear hm
 go_enter Tryz.func87, Tryz.ntmps87
 go_upto_region 2 with fail
 obtain ⟨w0, hw, hT⟩ := bare_start w m A8 A12 A16 c8 c12 c16
 rw [← hw]
 have HT0 := Lib.hid hT
 clear hw hT
 obtain ⟨g, hg⟩ : ∃ g, w.heap.size = g := ⟨_, rfl⟩
 have HG := Lib.hid hg
 rw [hg] at HT0 ⊢
 clear hg
 obtain ⟨a0, a1, a2, a3, a4, a5, a6, a7, a8, a9, a10, a11, a12, a13, a14, a15, a16⟩ := MsBox.cell HT0.out.h.now
 have b3 : w0.cell? ⟨g + 1 + 1, 3, none⟩ = some (.int .i64 0) := (blk_cell HT0.out.y 3).trans rfl
 have z3 : w0.frozen? ⟨g + 1 + 1, 3, none⟩ = false := blk_frozen HT0.out.y 3
 have b7 : w0.cell? ⟨g + 1 + 1, 7, none⟩ = some (.bool false) := (blk_cell HT0.out.y 7).trans rfl
 have z7 : w0.frozen? ⟨g + 1 + 1, 7, none⟩ = false := blk_frozen HT0.out.y 7
 have hne : g + 1 + 1 ≠ g := by omega
 have hne2 : g ≠ g + 1 + 1 := by omega
 go_upto_region 18 with fail
 have hT : Bx w (g + 1 + 1) (g + 1) 34 #[.int .i64 0, .int .i64 0, .int .i64 0, .int .i64 0, .int .i64 0, .int .i64 0, .int .i64 0, .bool false, .slice none 0 0, .int .i64 0, .int .i64 0, .int .i64 0, .slice none 0 0, .int .i64 0, .int .i64 0, .int .i64 0, .slice none 0 0] #[.int .i64 m.f0, .int .i64 m.f1, .int .i64 m.f2, .int .i64 m.f3, .int .i64 0, .int .i64 0, .int .i64 0, .bool m.f7, .slice none 0 0, .int .i64 0, .int .i64 0, .int .i64 0, .slice none 0 0, .int .i64 0, .int .i64 0, .int .i64 0, .slice none 0 0] _ _ := ((HT0.out.put 3 (.int .i64 m.f3)).put 7 (.bool m.f7))
 have HT1 := Lib.hid hT
 clear hT
 obtain ⟨w1, hw⟩ : ∃ w1, ((w0.setCell ⟨g + 1 + 1, 3, none⟩ (.int .i64 m.f3)).setCell ⟨g + 1 + 1, 7, none⟩ (.bool m.f7)) = w1 := ⟨_, rfl⟩
 rw [hw] at HT1 ⊢
 clear hw
 refine wp_region_list ?_
 refine wpList_load_row rfl 34 (.tmp 4) rfl (g + 1 + 1) rfl 34 _ (0, 0) _ HT1.out.y Tryz.underlying34 rfl (by kernel_rfl) ?_
 refine wpList_store_row rfl 34 (.tmp 2) (.tmp 71) rfl (g + 1) _ rfl rfl 34 _ HT1.out.g0 (by kernel_rfl) rfl (by simp [Value.oneCell']) ?_
 go_wp2_with fail
 refine bodyPost_ret (results_ct rfl _ _ (g + 1) 34 _ (0, 0) _ rfl HT1.out.fin.1 Tryz.underlying34 rfl (by kernel_rfl)) rfl ?_
 have hik : isKind m.f0 = true := by rw [HK.out]; rfl
 refine ⟨⟨m.f0, m.f1, m.f2, m.f3, 0, 0, 0, m.f7, [], zE, zP⟩, none, none, none, 0, 0, 0, by rw [hik]; rfl, fun _ => by unfold bareM; simp [HK.out], ⟨Nat.le_refl 0, Kd.C_nil _ _, Nat.le_refl 0, Kd.C_nil _ _, Nat.le_refl 0, Kd.C_nil _ _⟩, HT1.out.fin.2.2⟩
set_option maxHeartbeats 4000000 in
theorem bare_k3 {w : World} (m : MsgD) {A8 A12 A16 : Option Addr} {c8 c12 c16 : Nat} (hm : MsgC w m A8 c8 A12 c12 A16 c16) (hk : m.f0 = 3) :
  Calls Tryz.prog 87 #[.agg #[.int .i64 m.f0, .int .i64 m.f1, .int .i64 m.f2, .int .i64 m.f3, .int .i64 m.f4, .int .i64 m.f5, .int .i64 m.f6, .bool m.f7, .slice A8 m.f8.length c8, .int .i64 m.f9.f0, .int .i64 m.f9.f1, .int .i64 m.f9.f2, .slice A12 m.f9.f3.length c12, .int .i64 m.f10.f0, .int .i64 m.f10.f1, .int .i64 m.f10.f2, .slice A16 m.f10.f3.length c16]] w fun e w' => BareP w m e w' := by
 have t6 : (m.f0 == 6) = false := by rw [hk]; rfl
 have t1 : (m.f0 == 1) = false := by rw [hk]; rfl
 have t2 : (m.f0 == 2) = false := by rw [hk]; rfl
 have t3 : (m.f0 == 3) = true := by rw [hk]; rfl
 have t4 : (m.f0 == 4) = false := by rw [hk]; rfl
 have t5 : (m.f0 == 5) = false := by rw [hk]; rfl
 have HK := Lib.hid hk
 clear hk
 have HM := Lib.hid hm
 clear hm
 go_enter Tryz.func87, Tryz.ntmps87
 go_upto_region 2 with fail
 obtain ⟨w0, hw, hT⟩ := bare_start w m A8 A12 A16 c8 c12 c16
 rw [← hw]
 have HT0 := Lib.hid hT
 clear hw hT
 obtain ⟨g, hg⟩ : ∃ g, w.heap.size = g := ⟨_, rfl⟩
 have HG := Lib.hid hg
 rw [hg] at HT0 ⊢
 clear hg
 obtain ⟨a0, a1, a2, a3, a4, a5, a6, a7, a8, a9, a10, a11, a12, a13, a14, a15, a16⟩ := MsBox.cell HT0.out.h.now
 have b3 : w0.cell? ⟨g + 1 + 1, 3, none⟩ = some (.int .i64 0) := (blk_cell HT0.out.y 3).trans rfl
 have z3 : w0.frozen? ⟨g + 1 + 1, 3, none⟩ = false := blk_frozen HT0.out.y 3
 have b4 : w0.cell? ⟨g + 1 + 1, 4, none⟩ = some (.int .i64 0) := (blk_cell HT0.out.y 4).trans rfl
 have z4 : w0.frozen? ⟨g + 1 + 1, 4, none⟩ = false := blk_frozen HT0.out.y 4
 have b5 : w0.cell? ⟨g + 1 + 1, 5, none⟩ = some (.int .i64 0) := (blk_cell HT0.out.y 5).trans rfl
 have z5 : w0.frozen? ⟨g + 1 + 1, 5, none⟩ = false := blk_frozen HT0.out.y 5
 have b6 : w0.cell? ⟨g + 1 + 1, 6, none⟩ = some (.int .i64 0) := (blk_cell HT0.out.y 6).trans rfl
 have z6 : w0.frozen? ⟨g + 1 + 1, 6, none⟩ = false := blk_frozen HT0.out.y 6
 have b8 : w0.cell? ⟨g + 1 + 1, 8, none⟩ = some (.slice none 0 0) := (blk_cell HT0.out.y 8).trans rfl
 have z8 : w0.frozen? ⟨g + 1 + 1, 8, none⟩ = false := blk_frozen HT0.out.y 8
 have hne : g + 1 + 1 ≠ g := by omega
 have hne2 : g ≠ g + 1 + 1 := by omega
 go_wp2_with fail
 go_region
 go_upto_region 18 with fail
 have hT : Bx w (g + 1 + 1) (g + 1) 34 #[.int .i64 0, .int .i64 0, .int .i64 0, .int .i64 0, .int .i64 0, .int .i64 0, .int .i64 0, .bool false, .slice none 0 0, .int .i64 0, .int .i64 0, .int .i64 0, .slice none 0 0, .int .i64 0, .int .i64 0, .int .i64 0, .slice none 0 0] #[.int .i64 m.f0, .int .i64 m.f1, .int .i64 m.f2, .int .i64 m.f3, .int .i64 m.f4, .int .i64 m.f5, .int .i64 m.f6, .bool false, .slice A8 m.f8.length c8, .int .i64 0, .int .i64 0, .int .i64 0, .slice none 0 0, .int .i64 0, .int .i64 0, .int .i64 0, .slice none 0 0] _ _ := (((((HT0.out.put 3 (.int .i64 m.f3)).put 4 (.int .i64 m.f4)).put 5 (.int .i64 m.f5)).put 6 (.int .i64 m.f6)).put 8 (.slice A8 m.f8.length c8)).drew
 have HT1 := Lib.hid hT
 clear hT
 obtain ⟨w1, hw⟩ : ∃ w1, (((((w0.setCell ⟨g + 1 + 1, 3, none⟩ (.int .i64 m.f3)).setCell ⟨g + 1 + 1, 4, none⟩ (.int .i64 m.f4)).setCell ⟨g + 1 + 1, 5, none⟩ (.int .i64 m.f5)).setCell ⟨g + 1 + 1, 6, none⟩ (.int .i64 m.f6)).setCell ⟨g + 1 + 1, 8, none⟩ (.slice A8 m.f8.length c8)).drew = w1 := ⟨_, rfl⟩
 rw [hw] at HT1 ⊢
 clear hw
 refine wp_region_list ?_
 refine wpList_load_row rfl 34 (.tmp 4) rfl (g + 1 + 1) rfl 34 _ (0, 0) _ HT1.out.y Tryz.underlying34 rfl (by kernel_rfl) ?_
 refine wpList_store_row rfl 34 (.tmp 2) (.tmp 71) rfl (g + 1) _ rfl rfl 34 _ HT1.out.g0 (by kernel_rfl) rfl (by simp [Value.oneCell']) ?_
 go_wp2_with fail
 refine bodyPost_ret (results_ct rfl _ _ (g + 1) 34 _ (0, 0) _ rfl HT1.out.fin.1 Tryz.underlying34 rfl (by kernel_rfl)) rfl ?_
 have hik : isKind m.f0 = true := by rw [HK.out]; rfl
 refine ⟨⟨m.f0, m.f1, m.f2, m.f3, m.f4, m.f5, m.f6, false, m.f8, zE, zP⟩, A8, none, none, c8, 0, 0, by rw [hik]; rfl, fun _ => by unfold bareM; simp [HK.out], ⟨HM.out.l8, Kd.C_below HM.out.g8 HT1.out.fin.2.2, Nat.le_refl 0, Kd.C_nil _ _, Nat.le_refl 0, Kd.C_nil _ _⟩, HT1.out.fin.2.2⟩
set_option maxHeartbeats 4000000 in
theorem bare_k4 {w : World} (m : MsgD) {A8 A12 A16 : Option Addr} {c8 c12 c16 : Nat} (hm : MsgC w m A8 c8 A12 c12 A16 c16) (hk : m.f0 = 4) :
  Calls Tryz.prog 87 #[.agg #[.int .i64 m.f0, .int .i64 m.f1, .int .i64 m.f2, .int .i64 m.f3, .int .i64 m.f4, .int .i64 m.f5, .int .i64 m.f6, .bool m.f7, .slice A8 m.f8.length c8, .int .i64 m.f9.f0, .int .i64 m.f9.f1, .int .i64 m.f9.f2, .slice A12 m.f9.f3.length c12, .int .i64 m.f10.f0, .int .i64 m.f10.f1, .int .i64 m.f10.f2, .slice A16 m.f10.f3.length c16]] w fun e w' => BareP w m e w' := by
 have t6 : (m.f0 == 6) = false := by rw [hk]; rfl
 have t1 : (m.f0 == 1) = false := by rw [hk]; rfl
 have t2 : (m.f0 == 2) = false := by rw [hk]; rfl
 have t3 : (m.f0 == 3) = false := by rw [hk]; rfl
 have t4 : (m.f0 == 4) = true := by rw [hk]; rfl
 have t5 : (m.f0 == 5) = false := by rw [hk]; rfl
 have HK := Lib.hid hk
 clear hk
 have HM := Lib.hid hm
 clear hm
 go_enter Tryz.func87, Tryz.ntmps87
 go_upto_region 2 with fail
 obtain ⟨w0, hw, hT⟩ := bare_start w m A8 A12 A16 c8 c12 c16
 rw [← hw]
 have HT0 := Lib.hid hT
 clear hw hT
 obtain ⟨g, hg⟩ : ∃ g, w.heap.size = g := ⟨_, rfl⟩
 have HG := Lib.hid hg
 rw [hg] at HT0 ⊢
 clear hg
 obtain ⟨a0, a1, a2, a3, a4, a5, a6, a7, a8, a9, a10, a11, a12, a13, a14, a15, a16⟩ := MsBox.cell HT0.out.h.now
 have b3 : w0.cell? ⟨g + 1 + 1, 3, none⟩ = some (.int .i64 0) := (blk_cell HT0.out.y 3).trans rfl
 have z3 : w0.frozen? ⟨g + 1 + 1, 3, none⟩ = false := blk_frozen HT0.out.y 3
 have b7 : w0.cell? ⟨g + 1 + 1, 7, none⟩ = some (.bool false) := (blk_cell HT0.out.y 7).trans rfl
 have z7 : w0.frozen? ⟨g + 1 + 1, 7, none⟩ = false := blk_frozen HT0.out.y 7
 have b4 : w0.cell? ⟨g + 1 + 1, 4, none⟩ = some (.int .i64 0) := (blk_cell HT0.out.y 4).trans rfl
 have z4 : w0.frozen? ⟨g + 1 + 1, 4, none⟩ = false := blk_frozen HT0.out.y 4
 have hne : g + 1 + 1 ≠ g := by omega
 have hne2 : g ≠ g + 1 + 1 := by omega
 go_wp2_with fail
 go_region
 go_upto_region 18 with fail
 have hT : Bx w (g + 1 + 1) (g + 1) 34 #[.int .i64 0, .int .i64 0, .int .i64 0, .int .i64 0, .int .i64 0, .int .i64 0, .int .i64 0, .bool false, .slice none 0 0, .int .i64 0, .int .i64 0, .int .i64 0, .slice none 0 0, .int .i64 0, .int .i64 0, .int .i64 0, .slice none 0 0] #[.int .i64 m.f0, .int .i64 m.f1, .int .i64 m.f2, .int .i64 m.f3, .int .i64 m.f4, .int .i64 0, .int .i64 0, .bool m.f7, .slice none 0 0, .int .i64 0, .int .i64 0, .int .i64 0, .slice none 0 0, .int .i64 0, .int .i64 0, .int .i64 0, .slice none 0 0] _ _ := (((HT0.out.put 3 (.int .i64 m.f3)).put 7 (.bool m.f7)).put 4 (.int .i64 m.f4)).drew
 have HT1 := Lib.hid hT
 clear hT
 obtain ⟨w1, hw⟩ : ∃ w1, (((w0.setCell ⟨g + 1 + 1, 3, none⟩ (.int .i64 m.f3)).setCell ⟨g + 1 + 1, 7, none⟩ (.bool m.f7)).setCell ⟨g + 1 + 1, 4, none⟩ (.int .i64 m.f4)).drew = w1 := ⟨_, rfl⟩
 rw [hw] at HT1 ⊢
 clear hw
 refine wp_region_list ?_
 refine wpList_load_row rfl 34 (.tmp 4) rfl (g + 1 + 1) rfl 34 _ (0, 0) _ HT1.out.y Tryz.underlying34 rfl (by kernel_rfl) ?_
 refine wpList_store_row rfl 34 (.tmp 2) (.tmp 71) rfl (g + 1) _ rfl rfl 34 _ HT1.out.g0 (by kernel_rfl) rfl (by simp [Value.oneCell']) ?_
 go_wp2_with fail
 refine bodyPost_ret (results_ct rfl _ _ (g + 1) 34 _ (0, 0) _ rfl HT1.out.fin.1 Tryz.underlying34 rfl (by kernel_rfl)) rfl ?_
 have hik : isKind m.f0 = true := by rw [HK.out]; rfl
 refine ⟨⟨m.f0, m.f1, m.f2, m.f3, m.f4, 0, 0, m.f7, [], zE, zP⟩, none, none, none, 0, 0, 0, by rw [hik]; rfl, fun _ => by unfold bareM; simp [HK.out], ⟨Nat.le_refl 0, Kd.C_nil _ _, Nat.le_refl 0, Kd.C_nil _ _, Nat.le_refl 0, Kd.C_nil _ _⟩, HT1.out.fin.2.2⟩
set_option maxHeartbeats 4000000 in
theorem bare_k5 {w : World} (m : MsgD) {A8 A12 A16 : Option Addr} {c8 c12 c16 : Nat} (hm : MsgC w m A8 c8 A12 c12 A16 c16) (hk : m.f0 = 5) :
  Calls Tryz.prog 87 #[.agg #[.int .i64 m.f0, .int .i64 m.f1, .int .i64 m.f2, .int .i64 m.f3, .int .i64 m.f4, .int .i64 m.f5, .int .i64 m.f6, .bool m.f7, .slice A8 m.f8.length c8, .int .i64 m.f9.f0, .int .i64 m.f9.f1, .int .i64 m.f9.f2, .slice A12 m.f9.f3.length c12, .int .i64 m.f10.f0, .int .i64 m.f10.f1, .int .i64 m.f10.f2, .slice A16 m.f10.f3.length c16]] w fun e w' => BareP w m e w' := by
 have t6 : (m.f0 == 6) = false := by rw [hk]; rfl
 have t1 : (m.f0 == 1) = false := by rw [hk]; rfl
 have t2 : (m.f0 == 2) = false := by rw [hk]; rfl
 have t3 : (m.f0 == 3) = false := by rw [hk]; rfl
 have t4 : (m.f0 == 4) = false := by rw [hk]; rfl
 have t5 : (m.f0 == 5) = true := by rw [hk]; rfl
 have HK := Lib.hid hk
 clear hk
 have HM := Lib.hid hm
 clear hm
 go_enter Tryz.func87, Tryz.ntmps87
 go_upto_region 2 with fail
 obtain ⟨w0, hw, hT⟩ := bare_start w m A8 A12 A16 c8 c12 c16
 rw [← hw]
 have HT0 := Lib.hid hT
 clear hw hT
 obtain ⟨g, hg⟩ : ∃ g, w.heap.size = g := ⟨_, rfl⟩
 have HG := Lib.hid hg
 rw [hg] at HT0 ⊢
 clear hg
 obtain ⟨a0, a1, a2, a3, a4, a5, a6, a7, a8, a9, a10, a11, a12, a13, a14, a15, a16⟩ := MsBox.cell HT0.out.h.now
 have b3 : w0.cell? ⟨g + 1 + 1, 3, none⟩ = some (.int .i64 0) := (blk_cell HT0.out.y 3).trans rfl
 have z3 : w0.frozen? ⟨g + 1 + 1, 3, none⟩ = false := blk_frozen HT0.out.y 3
 have b4 : w0.cell? ⟨g + 1 + 1, 4, none⟩ = some (.int .i64 0) := (blk_cell HT0.out.y 4).trans rfl
 have z4 : w0.frozen? ⟨g + 1 + 1, 4, none⟩ = false := blk_frozen HT0.out.y 4
 have b5 : w0.cell? ⟨g + 1 + 1, 5, none⟩ = some (.int .i64 0) := (blk_cell HT0.out.y 5).trans rfl
 have z5 : w0.frozen? ⟨g + 1 + 1, 5, none⟩ = false := blk_frozen HT0.out.y 5
 have b13 : w0.cell? ⟨g + 1 + 1, 13, none⟩ = some (.int .i64 0) := (blk_cell HT0.out.y 13).trans rfl
 have z13 : w0.frozen? ⟨g + 1 + 1, 13, none⟩ = false := blk_frozen HT0.out.y 13
 have b14 : w0.cell? ⟨g + 1 + 1, 14, none⟩ = some (.int .i64 0) := (blk_cell HT0.out.y 14).trans rfl
 have z14 : w0.frozen? ⟨g + 1 + 1, 14, none⟩ = false := blk_frozen HT0.out.y 14
 have b15 : w0.cell? ⟨g + 1 + 1, 15, none⟩ = some (.int .i64 0) := (blk_cell HT0.out.y 15).trans rfl
 have z15 : w0.frozen? ⟨g + 1 + 1, 15, none⟩ = false := blk_frozen HT0.out.y 15
 have b16 : w0.cell? ⟨g + 1 + 1, 16, none⟩ = some (.slice none 0 0) := (blk_cell HT0.out.y 16).trans rfl
 have z16 : w0.frozen? ⟨g + 1 + 1, 16, none⟩ = false := blk_frozen HT0.out.y 16
 have hne : g + 1 + 1 ≠ g := by omega
 have hne2 : g ≠ g + 1 + 1 := by omega
 go_wp2_with fail
 go_region
 go_upto_region 18 with fail
 have hT : Bx w (g + 1 + 1) (g + 1) 34 #[.int .i64 0, .int .i64 0, .int .i64 0, .int .i64 0, .int .i64 0, .int .i64 0, .int .i64 0, .bool false, .slice none 0 0, .int .i64 0, .int .i64 0, .int .i64 0, .slice none 0 0, .int .i64 0, .int .i64 0, .int .i64 0, .slice none 0 0] #[.int .i64 m.f0, .int .i64 m.f1, .int .i64 m.f2, .int .i64 m.f3, .int .i64 m.f4, .int .i64 m.f5, .int .i64 0, .bool false, .slice none 0 0, .int .i64 0, .int .i64 0, .int .i64 0, .slice none 0 0, .int .i64 m.f10.f0, .int .i64 m.f10.f1, .int .i64 m.f10.f2, .slice A16 m.f10.f3.length c16] _ _ := (((((((HT0.out.put 3 (.int .i64 m.f3)).put 4 (.int .i64 m.f4)).put 5 (.int .i64 m.f5)).put 13 (.int .i64 m.f10.f0)).put 14 (.int .i64 m.f10.f1)).put 15 (.int .i64 m.f10.f2)).put 16 (.slice A16 m.f10.f3.length c16)).drew
 have HT1 := Lib.hid hT
 clear hT
 obtain ⟨w1, hw⟩ : ∃ w1, (((((((w0.setCell ⟨g + 1 + 1, 3, none⟩ (.int .i64 m.f3)).setCell ⟨g + 1 + 1, 4, none⟩ (.int .i64 m.f4)).setCell ⟨g + 1 + 1, 5, none⟩ (.int .i64 m.f5)).setCell ⟨g + 1 + 1, 13, none⟩ (.int .i64 m.f10.f0)).setCell ⟨g + 1 + 1, 14, none⟩ (.int .i64 m.f10.f1)).setCell ⟨g + 1 + 1, 15, none⟩ (.int .i64 m.f10.f2)).setCell ⟨g + 1 + 1, 16, none⟩ (.slice A16 m.f10.f3.length c16)).drew = w1 := ⟨_, rfl⟩
 rw [hw] at HT1 ⊢
 clear hw
 refine wp_region_list ?_
 refine wpList_load_row rfl 34 (.tmp 4) rfl (g + 1 + 1) rfl 34 _ (0, 0) _ HT1.out.y Tryz.underlying34 rfl (by kernel_rfl) ?_
 refine wpList_store_row rfl 34 (.tmp 2) (.tmp 71) rfl (g + 1) _ rfl rfl 34 _ HT1.out.g0 (by kernel_rfl) rfl (by simp [Value.oneCell']) ?_
 go_wp2_with fail
 refine bodyPost_ret (results_ct rfl _ _ (g + 1) 34 _ (0, 0) _ rfl HT1.out.fin.1 Tryz.underlying34 rfl (by kernel_rfl)) rfl ?_
 have hik : isKind m.f0 = true := by rw [HK.out]; rfl
 refine ⟨⟨m.f0, m.f1, m.f2, m.f3, m.f4, m.f5, 0, false, [], zE, m.f10⟩, none, none, A16, 0, 0, c16, by rw [hik]; rfl, fun _ => by unfold bareM; simp [HK.out], ⟨Nat.le_refl 0, Kd.C_nil _ _, Nat.le_refl 0, Kd.C_nil _ _, HM.out.l16, Kd.C_below HM.out.g16 HT1.out.fin.2.2⟩, HT1.out.fin.2.2⟩
end Go.Proofs.YtgiefblcckikeaaGreat.M
end

section
/- A message without what its kind does not have: record.bare, the reference's plain (printed by genbare04.py). -/
attribute [local irreducible] Go.wpStill
namespace Go.Proofs.YtgiefblcckikeaaGreat.M
open Go.RowKit Go.Proofs.YtgiefblcckikeaaGreatW.PrintWords Go.Proofs.YtgiefblcckikeaaGreatW.PrintLast Go.Proofs.YtgiefblcckikeaaGreatW.PrintMore Go.Proofs.YtgiefblcckikeaaGreat.G
set_option maxHeartbeats 4000000 in
theorem bare_k0 {w : World} (m : MsgD) {A8 A12 A16 : Option Addr} {c8 c12 c16 : Nat} (hm : MsgC w m A8 c8 A12 c12 A16 c16) (hk : isKind m.f0 = false) :
  Calls Tryz.prog 87 #[.agg #[.int .i64 m.f0, .int .i64 m.f1, .int .i64 m.f2, .int .i64 m.f3, .int .i64 m.f4, .int .i64 m.f5, .int .i64 m.f6, .bool m.f7, .slice A8 m.f8.length c8, .int .i64 m.f9.f0, .int .i64 m.f9.f1, .int .i64 m.f9.f2, .slice A12 m.f9.f3.length c12, .int .i64 m.f10.f0, .int .i64 m.f10.f1, .int .i64 m.f10.f2, .slice A16 m.f10.f3.length c16]] w fun e w' => BareP w m e w' := by
 have t6 : (m.f0 == 6) = false := by rw [beq_eq_false_iff_ne]; intro h; rw [h] at hk; cases hk
 have t1 : (m.f0 == 1) = false := by rw [beq_eq_false_iff_ne]; intro h; rw [h] at hk; cases hk
 have t2 : (m.f0 == 2) = false := by rw [beq_eq_false_iff_ne]; intro h; rw [h] at hk; cases hk
 have t3 : (m.f0 == 3) = false := by rw [beq_eq_false_iff_ne]; intro h; rw [h] at hk; cases hk
 have t4 : (m.f0 == 4) = false := by rw [beq_eq_false_iff_ne]; intro h; rw [h] at hk; cases hk
 have t5 : (m.f0 == 5) = false := by rw [beq_eq_false_iff_ne]; intro h; rw [h] at hk; cases hk
 have HK := Lib.hid hk
 clear hk
 have HM := Lib.hid hm
 clear hm
 go_enter Tryz.func87, Tryz.ntmps87
 go_upto_region 2 with fail
 obtain ⟨w0, hw, hT⟩ := bare_start w m A8 A12 A16 c8 c12 c16
 rw [← hw]
 have HT0 := Lib.hid hT
 clear hw hT
 obtain ⟨g, hg⟩ : ∃ g, w.heap.size = g := ⟨_, rfl⟩
 have HG := Lib.hid hg
 rw [hg] at HT0 ⊢
 clear hg
 obtain ⟨a0, a1, a2, a3, a4, a5, a6, a7, a8, a9, a10, a11, a12, a13, a14, a15, a16⟩ := MsBox.cell HT0.out.h.now
 have b3 : w0.cell? ⟨g + 1 + 1, 3, none⟩ = some (.int .i64 0) := (blk_cell HT0.out.y 3).trans rfl
 have z3 : w0.frozen? ⟨g + 1 + 1, 3, none⟩ = false := blk_frozen HT0.out.y 3
 have hne : g + 1 + 1 ≠ g := by omega
 have hne2 : g ≠ g + 1 + 1 := by omega
 go_upto_region 7 with fail
 have HT1 := Lib.hid (HT0.out.set 3 (.int .i64 m.f3) #[.int .i64 m.f0, .int .i64 m.f1, .int .i64 m.f2, .int .i64 m.f3, .int .i64 0, .int .i64 0, .int .i64 0, .bool false, .slice none 0 0, .int .i64 0, .int .i64 0, .int .i64 0, .slice none 0 0, .int .i64 0, .int .i64 0, .int .i64 0, .slice none 0 0] (blk_put HT0.out.y 3 _ rfl))
 obtain ⟨w1, hw⟩ : ∃ w1, w0.setCell ⟨g + 1 + 1, 3, none⟩ (.int .i64 m.f3) = w1 := ⟨_, rfl⟩
 rw [hw] at HT1 ⊢
 clear hw
 refine wp_region_list ?_
 refine wpList_cut 1 ?_
 simp only [List.take_succ_cons, List.take_zero, List.drop_succ_cons, List.drop_zero]
 go_wp2_with fail
 refine Halt.mk ?_
 refine wpList_store_row rfl 34 (.tmp 2) (.tmp 24) rfl (g + 1) #[.int .i64 0, .int .i64 0, .int .i64 0, .int .i64 0, .int .i64 0, .int .i64 0, .int .i64 0, .bool false, .slice none 0 0, .int .i64 0, .int .i64 0, .int .i64 0, .slice none 0 0, .int .i64 0, .int .i64 0, .int .i64 0, .slice none 0 0] rfl rfl 34 _ HT1.out.g0 (by kernel_rfl) rfl (by simp [Value.oneCell']) ?_
 go_wp2_with fail
 refine bodyPost_ret (results_ct rfl _ _ (g + 1) 34 _ (0, 0) _ rfl HT1.out.fin.1 Tryz.underlying34 rfl (by kernel_rfl)) rfl ?_
 exact ⟨zM, none, none, none, 0, 0, 0, by rw [HK.out]; rfl, fun h => (by rw [HK.out] at h; cases h), ⟨Nat.le_refl 0, Kd.C_nil _ _, Nat.le_refl 0, Kd.C_nil _ _, Nat.le_refl 0, Kd.C_nil _ _⟩, HT1.out.fin.2.2⟩
theorem bare_is {w : World} (m : MsgD) {A8 A12 A16 : Option Addr} {c8 c12 c16 : Nat} (hm : MsgC w m A8 c8 A12 c12 A16 c16) :
  Calls Tryz.prog 87 #[.agg #[.int .i64 m.f0, .int .i64 m.f1, .int .i64 m.f2, .int .i64 m.f3, .int .i64 m.f4, .int .i64 m.f5, .int .i64 m.f6, .bool m.f7, .slice A8 m.f8.length c8, .int .i64 m.f9.f0, .int .i64 m.f9.f1, .int .i64 m.f9.f2, .slice A12 m.f9.f3.length c12, .int .i64 m.f10.f0, .int .i64 m.f10.f1, .int .i64 m.f10.f2, .slice A16 m.f10.f3.length c16]] w fun e w' => BareP w m e w' := by
 cases hk : isKind m.f0 with
 | false => exact bare_k0 m hm hk
 | true =>
  have h2 : 1 ≤ m.f0 ∧ m.f0 ≤ 6 := by
   unfold isKind at hk
   rw [Bool.and_eq_true, decide_eq_true_eq, decide_eq_true_eq] at hk
   exact hk
  by_cases h1 : m.f0 = 1
  ·exact bare_k1 m hm h1
  ·by_cases h3 : m.f0 = 2
   ·exact bare_k2 m hm h3
   ·by_cases h4 : m.f0 = 3
    ·exact bare_k3 m hm h4
    ·by_cases h5 : m.f0 = 4
     ·exact bare_k4 m hm h5
     ·by_cases h6 : m.f0 = 5
      ·exact bare_k5 m hm h6
      ·exact bare_k6 m hm (by omega)
end Go.Proofs.YtgiefblcckikeaaGreat.M
end

section
/- Which termed entries and parts may be (printed by genmaym04.py). -/
attribute [local irreducible] Go.wpStill
namespace Go.Proofs.YtgiefblcckikeaaGreat.M
open Go.RowKit Go.Proofs.YtgiefblcckikeaaGreatW.PrintWords Go.Proofs.YtgiefblcckikeaaGreatW.PrintLast Go.Proofs.YtgiefblcckikeaaGreatW.PrintMore Go.Proofs.YtgiefblcckikeaaGreat.G
def mayTr (x : TrD) : Bool := inB 0 1099511627776 [x.f0] && mayE x.f1.f0 x.f1.f1 x.f1.f2 x.f1.f3
def mayPt (p : PartD) : Bool := inB 0 1099511627776 [p.f0] && (inB 1 4096 [p.f2] && (inB 0 (p.f2 - 1) [p.f1] && decide ((p.f3.length : Int) ≤ 16384)))
theorem lit_new (w : World) (xs : List Int) (hm : xs.length ≤ 1000) : Below w.heap.size w (w.alloc (.cells (xs.map (Value.int .i64)).toArray 2)) ∧ Kd.C (Kd.int .i64) (w.alloc (.cells (xs.map (Value.int .i64)).toArray 2)) (some ⟨w.heap.size, 0, none⟩) xs.length xs := ⟨(Below.refl _ _).alloc (Nat.le_refl _) _, C_lit w xs hm⟩
set_option maxHeartbeats 1000000 in
theorem termed_is {w : World} (a : TrD) {A : Option Addr} {c : Nat} (ha : Kd.C G.k26 w A a.f1.f3.length a.f1.f3) :
  Calls Tryz.prog 91 #[.agg #[.int .i64 a.f0, .int .i64 a.f1.f0, .int .i64 a.f1.f1, .int .i64 a.f1.f2, .slice A a.f1.f3.length c]] w fun e w' => e = .returned (.bool (mayTr a)) ∧ Below w.heap.size w w' := by
 have hx := heap_alloc_new w (.cells #[.int .i64 a.f0, .int .i64 a.f1.f0, .int .i64 a.f1.f1, .int .i64 a.f1.f2, .slice A a.f1.f3.length c] 63)
 have hb := (Below.refl _ w).alloc (Nat.le_refl _) (.cells #[.int .i64 a.f0, .int .i64 a.f1.f0, .int .i64 a.f1.f1, .int .i64 a.f1.f2, .slice A a.f1.f3.length c] 63)
 have hz : (w.alloc (.cells #[.int .i64 a.f0, .int .i64 a.f1.f0, .int .i64 a.f1.f1, .int .i64 a.f1.f2, .slice A a.f1.f3.length c] 63)).heap.size = w.heap.size + 1 := by simp
 obtain ⟨h1, h2⟩ := lit_new (w.alloc (.cells #[.int .i64 a.f0, .int .i64 a.f1.f0, .int .i64 a.f1.f1, .int .i64 a.f1.f2, .slice A a.f1.f3.length c] 63)) [a.f0] (by simp)
 simp only [List.map_cons, List.map_nil, List.length_cons, List.length_nil, Nat.zero_add] at h1 h2
 rw [hz] at h2
 have hx2 := (h1.block w.heap.size (by omega)).trans hx
 have HB := Lib.hid (hb.trans (h1.mono hb.size)); have HL := Lib.hid h2; have HX := Lib.hid hx2; have HA := Lib.hid (Kd.C_below ha (hb.trans (h1.mono hb.size)))
 obtain ⟨q, hq⟩ : ∃ q, mayTr a = q := ⟨_, rfl⟩
 have HQ := Lib.hid hq
 rw [hq]
 clear hq ha hx hb hz h1 h2 hx2
 go_enter Tryz.func91, Tryz.ntmps91
 go_wp2_with fail
 obtain ⟨w1, hw⟩ : ∃ w1, (w.alloc (.cells #[.int .i64 a.f0, .int .i64 a.f1.f0, .int .i64 a.f1.f1, .int .i64 a.f1.f2, .slice A a.f1.f3.length c] 63)).alloc (.cells #[.int .i64 a.f0] 2) = w1 := ⟨_, rfl⟩
 obtain ⟨g, hg⟩ : ∃ g, w.heap.size = g := ⟨_, rfl⟩
 have HG := Lib.hid hg
 rw [hw] at HB HL HX HA ⊢
 rw [hg] at HL HX ⊢
 clear hw hg
 obtain ⟨b0, hb0⟩ : ∃ b0, inB 0 1099511627776 [a.f0] = b0 := ⟨_, rfl⟩
 have HV := Lib.hid (show q = (b0 && mayE a.f1.f0 a.f1.f1 a.f1.f2 a.f1.f3) by rw [← HQ.out, ← hb0]; rfl)
 have h4 := G.record_count.calls (some ⟨g + 1, 0, none⟩) 1 [a.f0] b0 w1 HL.out (Nat.le_refl _) (by unfold G.record_count.f G.record_between.f; rw [hb0]; rfl)
 clear hb0
 refine h4.mono ?_
 rintro e w2 ⟨rfl, hb⟩
 have HB2 := Lib.hid (HB.out.trans (hb.mono HB.out.size)); have HX2 := Lib.hid ((hb.block g (Array.getElem?_eq_some_iff.1 HX.out).1).trans HX.out); have HA2 := Lib.hid (Kd.C_below HA.out hb)
 clear h4 hb HB HX HA HL
 have c0 : w2.cell? ⟨g, 0, none⟩ = some (.int .i64 a.f0) := (blk_cell HX2.out 0).trans rfl
 have c1 : w2.cell? ⟨g, 1, none⟩ = some (.int .i64 a.f1.f0) := (blk_cell HX2.out 1).trans rfl
 have c2 : w2.cell? ⟨g, 2, none⟩ = some (.int .i64 a.f1.f1) := (blk_cell HX2.out 2).trans rfl
 have c3 : w2.cell? ⟨g, 3, none⟩ = some (.int .i64 a.f1.f2) := (blk_cell HX2.out 3).trans rfl
 have c4 : w2.cell? ⟨g, 4, none⟩ = some (.slice A a.f1.f3.length c) := (blk_cell HX2.out 4).trans rfl
 cases b0 with
 | false =>
  have HW := Lib.hid (show q = false by rw [HV.out]; rfl)
  go_wp2_with fail
  go_ret
  exact ⟨by rw [HW.out]; rfl, HB2.out⟩
 | true =>
  have HW := Lib.hid (show q = mayE a.f1.f0 a.f1.f1 a.f1.f2 a.f1.f3 by rw [HV.out]; rfl)
  go_wp2_with fail
  refine (mayEn_is a.f1.f0 a.f1.f1 a.f1.f2 A c a.f1.f3 w2 HA2.out).mono ?_
  rintro e w3 ⟨rfl, hb⟩
  have HB3 := Lib.hid (HB2.out.trans (hb.mono HB2.out.size))
  clear hb
  go_wp2_with fail
  go_ret
  exact ⟨by rw [HW.out]; rfl, HB3.out⟩
theorem msg1_is {w : World} (a : TrD) {A : Option Addr} {c : Nat} (ha : Kd.C G.k26 w A a.f1.f3.length a.f1.f3) :
  Calls Tryz.prog 90 #[.agg #[.int .i64 a.f0, .int .i64 a.f1.f0, .int .i64 a.f1.f1, .int .i64 a.f1.f2, .slice A a.f1.f3.length c]] w fun e w' => e = .returned (.bool (!mayTr a)) ∧ Below w.heap.size w w' := by
 have HB := Lib.hid (show Below w.heap.size w (w.alloc (.cells #[.int .i64 a.f0, .int .i64 a.f1.f0, .int .i64 a.f1.f1, .int .i64 a.f1.f2, .slice A a.f1.f3.length c] 63)) from (Below.refl _ _).alloc (Nat.le_refl _) _)
 have HA := Lib.hid (Kd.C_below ha HB.out)
 clear ha
 go_enter Tryz.func90, Tryz.ntmps90
 go_wp2_with fail
 refine (termed_is a HA.out).mono ?_
 rintro e w' ⟨rfl, hb⟩
 have HB2 := Lib.hid (HB.out.trans (hb.mono HB.out.size))
 clear hb
 go_wp2_with fail
 go_ret
 exact ⟨by simp, HB2.out⟩
def TrV (l : List TrD) (w : World) (e : Ending) (w' : World) : Prop := ∃ i : Int, e = .returned (.int .i64 i) ∧ (0 ≤ i ↔ l.all mayTr = false) ∧ Below w.heap.size w w'
def TrI (l : List TrD) (w : World) (i : Value) (wr : World) : Prop := ∃ k : Nat, k ≤ l.length ∧ i = .int .i64 k ∧ (l.take k).all mayTr = true ∧ Below w.heap.size w wr
set_option maxHeartbeats 1000000 in
theorem tr_index (A : Option Addr) (c : Nat) (l : List TrD) (w : World) (hr : Kd.C G.k63 w A l.length l) :
  Calls Tryz.prog 146 #[.slice A l.length c, .func (.func 90) #[] #[]] w fun e w' => TrV l w e w' := by
 have hlm : l.length ≤ 9223372036854775807 := hr.2.1
 have HR := Lib.hid hr
 clear hr
 go_enter Tryz.func146, Tryz.ntmps146
 go_wp2_with fail
 go_loopw [8] (fun i wr => TrI l w i wr) (fun i _ => l.length - (intOf i).toNat)
 case atStart => exact ⟨0, Nat.zero_le _, rfl, by simp, Below.refl _ _⟩
 case round =>
  obtain ⟨k, hk, rfl, hin, hb⟩ := hrel
  have HIN := Lib.hid hin; have HBr := Lib.hid hb
  clear hin hb
  by_cases hlt : k < l.length
  ·obtain ⟨x, hx⟩ : ∃ x, l[k]? = some x := ⟨_, List.getElem?_eq_getElem hlt⟩
   obtain ⟨ad, A4, c4, rfl, x0, x1, x2, x3, x4, hl, hX⟩ := tr_get (Kd.C_below HR.out HBr.out) hx
   have HXX := Lib.hid hX
   have HX := Lib.hid (show l.take (k + 1) = l.take k ++ [x] by rw [List.take_add_one, hx]; rfl)
   have HM := Lib.hid (List.mem_of_getElem? hx)
   clear hx hX hl
   go_wp2_with fail
   refine (msg1_is x HXX.out).mono ?_
   rintro e w' ⟨rfl, hb⟩
   have HB2 := Lib.hid (HBr.out.trans (hb.mono HBr.out.size))
   clear hb
   cases ho : mayTr x with
   | false =>
    have HB := Lib.hid (show l.all mayTr = false by rw [List.all_eq_false]; exact ⟨x, HM.out, by rw [ho]; simp⟩)
    clear ho
    go_wp2_with fail
    go_ret
    exact ⟨k, rfl, ⟨fun _ => HB.out, fun _ => by omega⟩, HB2.out⟩
   | true =>
    have HB := Lib.hid (show (l.take (k + 1)).all mayTr = true by rw [HX.out, List.all_append, HIN.out]; simp [ho])
    clear ho
    go_wp2_with fail
    go_roundw
    case rel => exact ⟨k + 1, hlt, by go_num, HB.out, HB2.out⟩
    case measure => simp [intOf]; omega
  ·have HB := Lib.hid (show l.all mayTr = true by have := HIN.out; rwa [List.take_of_length_le (by omega)] at this)
   go_wp2_with fail
   go_ret
   exact ⟨-1, rfl, ⟨fun h => by omega, fun h => by rw [HB.out] at h; cases h⟩, HBr.out⟩
theorem tr_has (A : Option Addr) (c : Nat) (l : List TrD) (w : World) (hr : Kd.C G.k63 w A l.length l) :
  Calls Tryz.prog 89 #[.slice A l.length c, .func (.func 90) #[] #[]] w fun e w' => e = .returned (.bool (!l.all mayTr)) ∧ Below w.heap.size w w' := by
 have H := Lib.hid (tr_index A c l w hr)
 clear hr
 go_enter Tryz.func89, Tryz.ntmps89
 go_wp2_with fail
 refine H.out.mono ?_
 rintro e w' ⟨i, rfl, hi, hb⟩
 have HI := Lib.hid hi; have HB := Lib.hid hb
 clear hi hb
 go_wp2_with fail
 go_ret
 refine ⟨?_, HB.out⟩
 show Ending.returned (.bool (decide (0 ≤ i))) = _
 cases hb : l.all mayTr with
 | true => rw [decide_eq_false (fun h => by have := HI.out.1 h; rw [hb] at this; cases this)]; rfl
 | false => rw [decide_eq_true (HI.out.2 hb)]; rfl
set_option maxHeartbeats 2000000 in
theorem part_is {w : World} (a : PartD) {A : Option Addr} {c : Nat} (hp : isI64 a.f2) (ha : Kd.C (Kd.int .u8) w A a.f3.length a.f3) :
  Calls Tryz.prog 92 #[.agg #[.int .i64 a.f0, .int .i64 a.f1, .int .i64 a.f2, .slice A a.f3.length c]] w fun e w' => e = .returned (.bool (mayPt a)) ∧ Below w.heap.size w w' := by
 have hlm : a.f3.length ≤ 9223372036854775807 := Kd.C_max ha
 have hx := heap_alloc_new w (.cells #[.int .i64 a.f0, .int .i64 a.f1, .int .i64 a.f2, .slice A a.f3.length c] 32)
 have hb := (Below.refl _ w).alloc (Nat.le_refl _) (.cells #[.int .i64 a.f0, .int .i64 a.f1, .int .i64 a.f2, .slice A a.f3.length c] 32)
 have hz : (w.alloc (.cells #[.int .i64 a.f0, .int .i64 a.f1, .int .i64 a.f2, .slice A a.f3.length c] 32)).heap.size = w.heap.size + 1 := by simp
 obtain ⟨h1, h2⟩ := lit_new (w.alloc (.cells #[.int .i64 a.f0, .int .i64 a.f1, .int .i64 a.f2, .slice A a.f3.length c] 32)) [a.f0] (by simp)
 simp only [List.map_cons, List.map_nil, List.length_cons, List.length_nil, Nat.zero_add] at h1 h2
 rw [hz] at h2
 have hx2 := (h1.block w.heap.size (by omega)).trans hx
 have HB1 := Lib.hid (hb.trans (h1.mono hb.size)); have HL := Lib.hid h2; have HX1 := Lib.hid hx2
 obtain ⟨q, hq⟩ : ∃ q, mayPt a = q := ⟨_, rfl⟩
 have HQ := Lib.hid hq
 rw [hq]
 clear hq ha hx hb hz h1 h2 hx2
 go_enter Tryz.func92, Tryz.ntmps92
 go_wp2_with fail
 obtain ⟨w1, hw⟩ : ∃ w1, (w.alloc (.cells #[.int .i64 a.f0, .int .i64 a.f1, .int .i64 a.f2, .slice A a.f3.length c] 32)).alloc (.cells #[.int .i64 a.f0] 2) = w1 := ⟨_, rfl⟩
 obtain ⟨g, hg⟩ : ∃ g, w.heap.size = g := ⟨_, rfl⟩
 have HG := Lib.hid hg
 rw [hw] at HB1 HL HX1 ⊢
 rw [hg] at HL HX1 ⊢
 clear hw hg
 obtain ⟨b0, hb0⟩ : ∃ b0, inB 0 1099511627776 [a.f0] = b0 := ⟨_, rfl⟩
 obtain ⟨b1, hb1⟩ : ∃ b1, inB 1 4096 [a.f2] = b1 := ⟨_, rfl⟩
 obtain ⟨b2, hb2⟩ : ∃ b2, inB 0 (a.f2 - 1) [a.f1] = b2 := ⟨_, rfl⟩
 obtain ⟨b3, hb3⟩ : ∃ b3, decide ((a.f3.length : Int) ≤ 16384) = b3 := ⟨_, rfl⟩
 have HV := Lib.hid (show q = (b0 && (b1 && (b2 && b3))) by rw [← HQ.out, ← hb0, ← hb1, ← hb2, ← hb3]; rfl)
 have HB11 := Lib.hid hb1; have HB22 := Lib.hid hb2; have HPI := Lib.hid hp
 have h4 := G.record_count.calls (some ⟨g + 1, 0, none⟩) 1 [a.f0] b0 w1 HL.out (Nat.le_refl _) (by unfold G.record_count.f G.record_between.f; rw [hb0]; rfl)
 clear hb0 hb1 hb2 hp
 refine h4.mono ?_
 rintro e w2 ⟨rfl, hb⟩
 have HB2 := Lib.hid (HB1.out.trans (hb.mono HB1.out.size)); have HX2 := Lib.hid ((hb.block g (Array.getElem?_eq_some_iff.1 HX1.out).1).trans HX1.out)
 clear h4 hb HB1 HX1 HL
 have c0 : w2.cell? ⟨g, 0, none⟩ = some (.int .i64 a.f0) := (blk_cell HX2.out 0).trans rfl
 have c1 : w2.cell? ⟨g, 1, none⟩ = some (.int .i64 a.f1) := (blk_cell HX2.out 1).trans rfl
 have c2 : w2.cell? ⟨g, 2, none⟩ = some (.int .i64 a.f2) := (blk_cell HX2.out 2).trans rfl
 have c3 : w2.cell? ⟨g, 3, none⟩ = some (.slice A a.f3.length c) := (blk_cell HX2.out 3).trans rfl
 cases b0 with
 | false =>
  have HW := Lib.hid (show q = false by rw [HV.out]; simp)
  go_wp2_with fail
  go_ret
  exact ⟨by rw [HW.out]; rfl, HB2.out⟩
 | true =>
  obtain ⟨h1, h2⟩ := lit_new w2 [a.f2] (by simp)
  simp only [List.map_cons, List.map_nil, List.length_cons, List.length_nil, Nat.zero_add] at h1 h2
  have HLa := Lib.hid h2; have HBa := Lib.hid (HB2.out.trans (h1.mono HB2.out.size)); have HXa := Lib.hid ((h1.block g (Array.getElem?_eq_some_iff.1 HX2.out).1).trans HX2.out)
  clear h1 h2
  go_wp2_with fail
  refine (between_is _ 1 [a.f2] (1) (4096) _ HLa.out).mono ?_
  rw [HB11.out]
  rintro e w3 ⟨rfl, hb⟩
  have HB3 := Lib.hid (HBa.out.trans (hb.mono HBa.out.size)); have HX3 := Lib.hid ((hb.block g (Array.getElem?_eq_some_iff.1 HXa.out).1).trans HXa.out)
  clear hb HLa HBa HXa HB2 HX2 c0 c1 c2 c3
  have c0 : w3.cell? ⟨g, 0, none⟩ = some (.int .i64 a.f0) := (blk_cell HX3.out 0).trans rfl
  have c1 : w3.cell? ⟨g, 1, none⟩ = some (.int .i64 a.f1) := (blk_cell HX3.out 1).trans rfl
  have c2 : w3.cell? ⟨g, 2, none⟩ = some (.int .i64 a.f2) := (blk_cell HX3.out 2).trans rfl
  have c3 : w3.cell? ⟨g, 3, none⟩ = some (.slice A a.f3.length c) := (blk_cell HX3.out 3).trans rfl
  cases b1 with
  | false =>
   have HW := Lib.hid (show q = false by rw [HV.out]; simp)
   go_wp2_with fail
   go_ret
   exact ⟨by rw [HW.out]; rfl, HB3.out⟩
  | true =>
   have hw64 : wrap64 (a.f2 - 1) = a.f2 - 1 := by
    have h9 : 1 ≤ a.f2 ∧ a.f2 ≤ 4096 := by
     have h8 := HB11.out
     unfold inB at h8
     simpa using h8
    unfold wrap64
    omega
   obtain ⟨h1, h2⟩ := lit_new w3 [a.f1] (by simp)
   simp only [List.map_cons, List.map_nil, List.length_cons, List.length_nil, Nat.zero_add] at h1 h2
   have HLa := Lib.hid h2; have HBa := Lib.hid (HB3.out.trans (h1.mono HB3.out.size)); have HXa := Lib.hid ((h1.block g (Array.getElem?_eq_some_iff.1 HX3.out).1).trans HX3.out)
   clear h1 h2
   go_wp2_with fail
   refine (between_is _ 1 [a.f1] (0) (a.f2 - 1) _ HLa.out).mono ?_
   rw [HB22.out]
   rintro e w4 ⟨rfl, hb⟩
   have HB4 := Lib.hid (HBa.out.trans (hb.mono HBa.out.size)); have HX4 := Lib.hid ((hb.block g (Array.getElem?_eq_some_iff.1 HXa.out).1).trans HXa.out)
   clear hb HLa HBa HXa HB3 HX3 c0 c1 c2 c3
   have c0 : w4.cell? ⟨g, 0, none⟩ = some (.int .i64 a.f0) := (blk_cell HX4.out 0).trans rfl
   have c1 : w4.cell? ⟨g, 1, none⟩ = some (.int .i64 a.f1) := (blk_cell HX4.out 1).trans rfl
   have c2 : w4.cell? ⟨g, 2, none⟩ = some (.int .i64 a.f2) := (blk_cell HX4.out 2).trans rfl
   have c3 : w4.cell? ⟨g, 3, none⟩ = some (.slice A a.f3.length c) := (blk_cell HX4.out 3).trans rfl
   cases b2 with
   | false =>
    have HW := Lib.hid (show q = false by rw [HV.out]; simp)
    go_wp2_with fail
    go_ret
    exact ⟨by rw [HW.out]; rfl, HB4.out⟩
   | true =>
    have HW := Lib.hid (show q = b3 by rw [HV.out]; simp)
    go_wp2_with fail
    go_ret
    exact ⟨by rw [HW.out]; rfl, HB4.out⟩
end Go.Proofs.YtgiefblcckikeaaGreat.M
end

section
/- Which messages are the same: record.SameMsg, the reference's SameMsg (printed by gensame04.py). -/
attribute [local irreducible] Go.wpStill
namespace Go.Proofs.YtgiefblcckikeaaGreat.M
open Go.RowKit Go.Proofs.YtgiefblcckikeaaGreatW.PrintWords Go.Proofs.YtgiefblcckikeaaGreatW.PrintLast Go.Proofs.YtgiefblcckikeaaGreatW.PrintMore Go.Proofs.YtgiefblcckikeaaGreat.G
set_option maxHeartbeats 4000000 in
theorem sameMs_is {w : World} (m n : MsgD) {A8 A12 A16 B8 B12 B16 : Option Addr} {c8 c12 c16 d8 d12 d16 : Nat} (hm : MsgC w m A8 c8 A12 c12 A16 c16) (hn : MsgC w n B8 d8 B12 d12 B16 d16) :
  Calls Tryz.prog 88 #[.agg (msgCells m A8 c8 A12 c12 A16 c16), .agg (msgCells n B8 d8 B12 d12 B16 d16)] w fun e w' => e = .returned (.bool (eqMs m n)) ∧ Below w.heap.size w w' := by
 have hb1 : Below w.heap.size w ((w.alloc (.cells (msgCells m A8 c8 A12 c12 A16 c16) 34)).alloc (.cells (msgCells n B8 d8 B12 d12 B16 d16) 34)) := ((Below.refl _ _).alloc (Nat.le_refl _) _).alloc (by simp) _
 have hz1 : (w.alloc (.cells (msgCells m A8 c8 A12 c12 A16 c16) 34)).heap.size = w.heap.size + 1 := by simp
 have hx : MsBox ((w.alloc (.cells (msgCells m A8 c8 A12 c12 A16 c16) 34)).alloc (.cells (msgCells n B8 d8 B12 d12 B16 d16) 34)) w.heap.size m A8 c8 A12 c12 A16 c16 := (((Below.refl _ (w.alloc (.cells (msgCells m A8 c8 A12 c12 A16 c16) 34))).alloc (Nat.le_refl _) _).block w.heap.size (by omega)).trans (heap_alloc_new w _)
 have hy : MsBox ((w.alloc (.cells (msgCells m A8 c8 A12 c12 A16 c16) 34)).alloc (.cells (msgCells n B8 d8 B12 d12 B16 d16) 34)) (w.heap.size + 1) n B8 d8 B12 d12 B16 d16 := by rw [← hz1]; exact heap_alloc_new _ _
 have HB := Lib.hid hb1; have HX := Lib.hid hx; have HY := Lib.hid hy; have HM := Lib.hid (hm.below hb1); have HN := Lib.hid (hn.below hb1)
 clear hm hn hb1 hz1 hx hy
 obtain ⟨r, hr⟩ : ∃ r, eqMs m n = r := ⟨_, rfl⟩
 have HR0 := Lib.hid hr.symm
 rw [hr]
 clear hr
 go_enter Tryz.func88, Tryz.ntmps88
 go_wp2_with fail
 obtain ⟨w1, hw1⟩ : ∃ w1, (w.alloc (.cells (msgCells m A8 c8 A12 c12 A16 c16) 34)).alloc (.cells (msgCells n B8 d8 B12 d12 B16 d16) 34) = w1 := ⟨_, rfl⟩
 obtain ⟨g, hg⟩ : ∃ g, w.heap.size = g := ⟨_, rfl⟩
 try rw [hw1]
 rw [hw1] at HB HX HY HM HN
 rw [hg] at HX HY ⊢
 clear hw1 hg
 obtain ⟨q0, hq0⟩ : ∃ q0 : Bool, (m.f0 == n.f0) = q0 := ⟨_, rfl⟩
 obtain ⟨q1, hq1⟩ : ∃ q1 : Bool, (m.f1 == n.f1) = q1 := ⟨_, rfl⟩
 obtain ⟨q2, hq2⟩ : ∃ q2 : Bool, (m.f2 == n.f2) = q2 := ⟨_, rfl⟩
 obtain ⟨q3, hq3⟩ : ∃ q3 : Bool, (m.f3 == n.f3) = q3 := ⟨_, rfl⟩
 obtain ⟨q4, hq4⟩ : ∃ q4 : Bool, (m.f4 == n.f4) = q4 := ⟨_, rfl⟩
 obtain ⟨q5, hq5⟩ : ∃ q5 : Bool, (m.f5 == n.f5) = q5 := ⟨_, rfl⟩
 obtain ⟨q6, hq6⟩ : ∃ q6 : Bool, (m.f6 == n.f6) = q6 := ⟨_, rfl⟩
 obtain ⟨q7, hq7⟩ : ∃ q7 : Bool, (m.f7 == n.f7) = q7 := ⟨_, rfl⟩
 obtain ⟨q8, hq8⟩ : ∃ q8 : Bool, eqTrs m.f8 n.f8 = q8 := ⟨_, rfl⟩
 obtain ⟨q9, hq9⟩ : ∃ q9 : Bool, eqEn m.f9.f0 m.f9.f1 m.f9.f2 m.f9.f3 n.f9.f0 n.f9.f1 n.f9.f2 n.f9.f3 = q9 := ⟨_, rfl⟩
 obtain ⟨q10, hq10⟩ : ∃ q10 : Bool, eqPt m.f10 n.f10 = q10 := ⟨_, rfl⟩
 have HR := Lib.hid (show r = (q0 && (q1 && (q2 && (q3 && (q4 && (q5 && (q6 && (q7 && (q8 && (q9 && q10)))))))))) by rw [HR0.out, ← hq0, ← hq1, ← hq2, ← hq3, ← hq4, ← hq5, ← hq6, ← hq7, ← hq8, ← hq9, ← hq10]; rfl)
 have HQ8 := Lib.hid hq8; have HQ9 := Lib.hid hq9; have HQ10 := Lib.hid hq10
 clear hq8 hq9 hq10
 refine (eqfuncT_is A8 B8 c8 d8 m.f8 n.f8 w1 HM.out.g8 HN.out.g8).mono ?_
 rw [HQ8.out]
 rintro e w2 ⟨rfl, hb⟩
 have HB2 := Lib.hid (HB.out.trans (hb.mono HB.out.size)); have HX2 := Lib.hid (HX.out.below hb); have HY2 := Lib.hid (HY.out.below hb); have HM2 := Lib.hid (HM.out.below hb); have HN2 := Lib.hid (HN.out.below hb)
 clear hb HB HX HY HM HN
 obtain ⟨a0, a1, a2, a3, a4, a5, a6, a7, a8, a9, a10, a11, a12, a13, a14, a15, a16⟩ := HX2.out.cell
 obtain ⟨b0, b1, b2, b3, b4, b5, b6, b7, b8, b9, b10, b11, b12, b13, b14, b15, b16⟩ := HY2.out.cell
 go_upto_region 2 with fail
 go_cut [6] (fun v wx => v = .bool q10 ∧ Below w2.heap.size w2 wx)
 case first =>
  obtain ⟨p0, hp0⟩ : ∃ p0 : Bool, (m.f10.f0 == n.f10.f0) = p0 := ⟨_, rfl⟩
  obtain ⟨p1, hp1⟩ : ∃ p1 : Bool, (m.f10.f1 == n.f10.f1) = p1 := ⟨_, rfl⟩
  obtain ⟨p2, hp2⟩ : ∃ p2 : Bool, (m.f10.f2 == n.f10.f2) = p2 := ⟨_, rfl⟩
  obtain ⟨p3, hp3⟩ : ∃ p3 : Bool, eqS m.f10.f3 n.f10.f3 = p3 := ⟨_, rfl⟩
  have HP := Lib.hid (show q10 = (p0 && (p1 && (p2 && p3))) by rw [← HQ10.out, ← hp0, ← hp1, ← hp2, ← hp3]; rfl)
  have HP3 := Lib.hid hp3
  clear hp3
  have HBX := Lib.hid (Below.refl w2.heap.size w2)
  cases p0 with
  | false =>
   have HV := Lib.hid (show q10 = false by rw [HP.out]; simp)
   go_wp2_with fail
   go_meet
   exact ⟨by rw [HV.out], HBX.out⟩
  | true =>
   cases p1 with
   | false =>
    have HV := Lib.hid (show q10 = false by rw [HP.out]; simp)
    go_wp2_with fail
    go_meet
    exact ⟨by rw [HV.out], HBX.out⟩
   | true =>
    cases p2 with
    | false =>
     have HV := Lib.hid (show q10 = false by rw [HP.out]; simp)
     go_wp2_with fail
     go_meet
     exact ⟨by rw [HV.out], HBX.out⟩
    | true =>
     go_wp2_with fail
     refine (bEqual_is A16 c16 m.f10.f3 B16 d16 n.f10.f3 HM2.out.g16 HM2.out.l16 HN2.out.g16 HN2.out.l16).mono ?_
     rw [HP3.out]
     rintro e w3 ⟨rfl, hb⟩
     have HBX := Lib.hid hb
     clear hb
     cases p3 with
     | false =>
      have HV := Lib.hid (show q10 = false by rw [HP.out]; simp)
      go_wp2_with fail
      go_meet
      exact ⟨by rw [HV.out], HBX.out⟩
     | true =>
      have HV := Lib.hid (show q10 = true by rw [HP.out]; simp)
      go_wp2_with fail
      go_meet
      exact ⟨by rw [HV.out], HBX.out⟩
 case rest =>
  obtain ⟨rfl, hb⟩ := hcut
  obtain ⟨w3, rfl⟩ : ∃ w3, w3 = wc := ⟨_, rfl⟩
  have HBX := Lib.hid (HB2.out.trans (hb.mono HB2.out.size)); have HX3 := Lib.hid (HX2.out.below hb); have HY3 := Lib.hid (HY2.out.below hb); have HM3 := Lib.hid (HM2.out.below hb); have HN3 := Lib.hid (HN2.out.below hb)
  clear hb a0 a1 a2 a3 a4 a5 a6 a7 a8 a9 a10 a11 a12 a13 a14 a15 a16 b0 b1 b2 b3 b4 b5 b6 b7 b8 b9 b10 b11 b12 b13 b14 b15 b16 HB2 HX2 HY2 HM2 HN2 HR0 HQ10
  obtain ⟨a0, a1, a2, a3, a4, a5, a6, a7, a8, a9, a10, a11, a12, a13, a14, a15, a16⟩ := HX3.out.cell
  obtain ⟨b0, b1, b2, b3, b4, b5, b6, b7, b8, b9, b10, b11, b12, b13, b14, b15, b16⟩ := HY3.out.cell
  go_upto_region 3 with fail
  refine wp_region_list ?_
  refine with_fin (fun a' W => a'.tmps[4]? = some (.bool r) ∧ a'.defers = [] ∧ Below w.heap.size w W) (fun a' W h => ?_) (fun HF => ?_)
  ·obtain ⟨h1, h2, h3⟩ := h
   refine ‹∀ (a : Act) (w : World), Code.wp Tryz.prog Code.ret _ a w → _› _ _ ?_
   exact wp_ret (bodyPost_ret (v := .bool r) (results_slot rfl h1) h2 ⟨rfl, h3⟩)
  simp only [List.append_eq, List.cons_append, List.nil_append, List.take_succ_cons, List.take_zero, List.drop_succ_cons, List.drop_zero]
  cases q8 with
  | false => exact chain_to 113 4 false [(5, some false)] (by kernel_rfl) (Knows.cons rfl (Knows.nil _)) (Nat.le_refl 113) (fun a' h1 h2 => HF.out a' _ ⟨by rw [h1, HR.out]; simp, h2, HBX.out⟩)
  | true =>
   cases q10 with
   | false => exact chain_to 113 4 false [(5, some true), (6, some false)] (by kernel_rfl) (Knows.cons rfl (Knows.cons rfl (Knows.nil _))) (Nat.le_refl 113) (fun a' h1 h2 => HF.out a' _ ⟨by rw [h1, HR.out]; simp, h2, HBX.out⟩)
   | true =>
    refine wpList_cut 10 ?_
    simp only [List.append_eq, List.cons_append, List.nil_append, List.take_succ_cons, List.take_zero, List.drop_succ_cons, List.drop_zero]
    go_wp2_with fail
    refine (sameEn_is m.f9.f0 m.f9.f1 m.f9.f2 A12 c12 m.f9.f3 n.f9.f0 n.f9.f1 n.f9.f2 B12 d12 n.f9.f3 w3 HM3.out.g12 HN3.out.g12).mono ?_
    rw [HQ9.out]
    rintro e w4 ⟨rfl, hb⟩
    have HBY := Lib.hid (HBX.out.trans (hb.mono HBX.out.size)); have HX4 := Lib.hid (HX3.out.below hb); have HY4 := Lib.hid (HY3.out.below hb)
    clear hb HBX HX3 HY3 a0 a1 a2 a3 a4 a5 a6 a7 a8 a9 a10 a11 a12 a13 a14 a15 a16 b0 b1 b2 b3 b4 b5 b6 b7 b8 b9 b10 b11 b12 b13 b14 b15 b16
    obtain ⟨a0, a1, a2, a3, a4, a5, a6, a7, a8, a9, a10, a11, a12, a13, a14, a15, a16⟩ := HX4.out.cell
    obtain ⟨b0, b1, b2, b3, b4, b5, b6, b7, b8, b9, b10, b11, b12, b13, b14, b15, b16⟩ := HY4.out.cell
    go_wp2_with fail
    refine Halt.mk ?_
    cases q9 with
    | false => exact chain_to 113 4 false [(50, some true), (55, some false)] (by kernel_rfl) (Knows.cons rfl (Knows.cons rfl (Knows.nil _))) (Nat.le_refl 113) (fun a' h1 h2 => HF.out a' _ ⟨by rw [h1, HR.out]; simp, h2, HBY.out⟩)
    | true =>
     refine wpList_cut 7 ?_
     simp only [List.append_eq, List.cons_append, List.nil_append, List.take_succ_cons, List.take_zero, List.drop_succ_cons, List.drop_zero]
     go_wp2_with fail
     refine Halt.mk ?_
     cases q0 with
     | false => exact chain_to 113 4 false [(57, some true), (62, some false)] (by kernel_rfl) (Knows.cons rfl (Knows.cons rfl (Knows.nil _))) (Nat.le_refl 113) (fun a' h1 h2 => HF.out a' _ ⟨by rw [h1, HR.out]; simp, h2, HBY.out⟩)
     | true =>
      refine wpList_cut 7 ?_
      simp only [List.append_eq, List.cons_append, List.nil_append, List.take_succ_cons, List.take_zero, List.drop_succ_cons, List.drop_zero]
      go_wp2_with fail
      refine Halt.mk ?_
      cases q1 with
      | false => exact chain_to 113 4 false [(64, some true), (69, some false)] (by kernel_rfl) (Knows.cons rfl (Knows.cons rfl (Knows.nil _))) (Nat.le_refl 113) (fun a' h1 h2 => HF.out a' _ ⟨by rw [h1, HR.out]; simp, h2, HBY.out⟩)
      | true =>
       refine wpList_cut 7 ?_
       simp only [List.append_eq, List.cons_append, List.nil_append, List.take_succ_cons, List.take_zero, List.drop_succ_cons, List.drop_zero]
       go_wp2_with fail
       refine Halt.mk ?_
       cases q2 with
       | false => exact chain_to 113 4 false [(71, some true), (76, some false)] (by kernel_rfl) (Knows.cons rfl (Knows.cons rfl (Knows.nil _))) (Nat.le_refl 113) (fun a' h1 h2 => HF.out a' _ ⟨by rw [h1, HR.out]; simp, h2, HBY.out⟩)
       | true =>
        refine wpList_cut 7 ?_
        simp only [List.append_eq, List.cons_append, List.nil_append, List.take_succ_cons, List.take_zero, List.drop_succ_cons, List.drop_zero]
        go_wp2_with fail
        refine Halt.mk ?_
        cases q3 with
        | false => exact chain_to 113 4 false [(78, some true), (83, some false)] (by kernel_rfl) (Knows.cons rfl (Knows.cons rfl (Knows.nil _))) (Nat.le_refl 113) (fun a' h1 h2 => HF.out a' _ ⟨by rw [h1, HR.out]; simp, h2, HBY.out⟩)
        | true =>
         refine wpList_cut 7 ?_
         simp only [List.append_eq, List.cons_append, List.nil_append, List.take_succ_cons, List.take_zero, List.drop_succ_cons, List.drop_zero]
         go_wp2_with fail
         refine Halt.mk ?_
         cases q4 with
         | false => exact chain_to 113 4 false [(85, some true), (90, some false)] (by kernel_rfl) (Knows.cons rfl (Knows.cons rfl (Knows.nil _))) (Nat.le_refl 113) (fun a' h1 h2 => HF.out a' _ ⟨by rw [h1, HR.out]; simp, h2, HBY.out⟩)
         | true =>
          refine wpList_cut 7 ?_
          simp only [List.append_eq, List.cons_append, List.nil_append, List.take_succ_cons, List.take_zero, List.drop_succ_cons, List.drop_zero]
          go_wp2_with fail
          refine Halt.mk ?_
          cases q5 with
          | false => exact chain_to 113 4 false [(92, some true), (97, some false)] (by kernel_rfl) (Knows.cons rfl (Knows.cons rfl (Knows.nil _))) (Nat.le_refl 113) (fun a' h1 h2 => HF.out a' _ ⟨by rw [h1, HR.out]; simp, h2, HBY.out⟩)
          | true =>
           refine wpList_cut 7 ?_
           simp only [List.append_eq, List.cons_append, List.nil_append, List.take_succ_cons, List.take_zero, List.drop_succ_cons, List.drop_zero]
           go_wp2_with fail
           refine Halt.mk ?_
           cases q6 with
           | false => exact chain_to 113 4 false [(99, some true), (104, some false)] (by kernel_rfl) (Knows.cons rfl (Knows.cons rfl (Knows.nil _))) (Nat.le_refl 113) (fun a' h1 h2 => HF.out a' _ ⟨by rw [h1, HR.out]; simp, h2, HBY.out⟩)
           | true =>
            refine wpList_cut 7 ?_
            simp only [List.append_eq, List.cons_append, List.nil_append, List.take_succ_cons, List.take_zero, List.drop_succ_cons, List.drop_zero]
            go_wp2_with fail
            refine Halt.mk ?_
            cases q7 with
            | false => exact chain_to 113 4 false [(106, some true), (111, some false)] (by kernel_rfl) (Knows.cons rfl (Knows.cons rfl (Knows.nil _))) (Nat.le_refl 113) (fun a' h1 h2 => HF.out a' _ ⟨by rw [h1, HR.out]; simp, h2, HBY.out⟩)
            | true => exact chain_to 113 4 true [(106, some true), (111, some true)] (by kernel_rfl) (Knows.cons rfl (Knows.cons rfl (Knows.nil _))) (Nat.le_refl 113) (fun a' h1 h2 => HF.out a' _ ⟨by rw [h1, HR.out]; simp, h2, HBY.out⟩)
end Go.Proofs.YtgiefblcckikeaaGreat.M
end

section
/- Which messages may be: record.msg (printed by genmsg04.py). -/
attribute [local irreducible] Go.wpStill
namespace Go.Proofs.YtgiefblcckikeaaGreat.M
open Go.RowKit Go.Proofs.YtgiefblcckikeaaGreatW.PrintWords Go.Proofs.YtgiefblcckikeaaGreatW.PrintLast Go.Proofs.YtgiefblcckikeaaGreatW.PrintMore Go.Proofs.YtgiefblcckikeaaGreat.G
def mayMs (m : MsgD) : Bool := inB 0 4 [m.f1] && (inB 0 4 [m.f2] && (inB 0 1099511627776 [m.f3, m.f4, m.f5, m.f6] && (isKind m.f0 && (eqMs (bareM m) m && (decide ((m.f8.length : Int) ≤ 4096) && (m.f8.all mayTr && ((!(m.f0 == 5) || mayPt m.f10) && (!(m.f0 == 6) || mayE m.f9.f0 m.f9.f1 m.f9.f2 m.f9.f3))))))))
set_option maxHeartbeats 8000000 in
theorem msg_is {w : World} (m : MsgD) {A8 A12 A16 : Option Addr} {c8 c12 c16 : Nat} (hm : MsgC w m A8 c8 A12 c12 A16 c16) (hp : isI64 m.f10.f2) :
  Calls Tryz.prog 45 #[.agg #[.int .i64 m.f0, .int .i64 m.f1, .int .i64 m.f2, .int .i64 m.f3, .int .i64 m.f4, .int .i64 m.f5, .int .i64 m.f6, .bool m.f7, .slice A8 m.f8.length c8, .int .i64 m.f9.f0, .int .i64 m.f9.f1, .int .i64 m.f9.f2, .slice A12 m.f9.f3.length c12, .int .i64 m.f10.f0, .int .i64 m.f10.f1, .int .i64 m.f10.f2, .slice A16 m.f10.f3.length c16]] w fun e w' => e = .returned (.bool (mayMs m)) ∧ Below w.heap.size w w' := by
 have hb := (Below.refl _ w).alloc (Nat.le_refl _) (.cells #[.int .i64 m.f0, .int .i64 m.f1, .int .i64 m.f2, .int .i64 m.f3, .int .i64 m.f4, .int .i64 m.f5, .int .i64 m.f6, .bool m.f7, .slice A8 m.f8.length c8, .int .i64 m.f9.f0, .int .i64 m.f9.f1, .int .i64 m.f9.f2, .slice A12 m.f9.f3.length c12, .int .i64 m.f10.f0, .int .i64 m.f10.f1, .int .i64 m.f10.f2, .slice A16 m.f10.f3.length c16] 34)
 have HB0 := Lib.hid hb; have HX0 := Lib.hid (show MsBox (w.alloc (.cells #[.int .i64 m.f0, .int .i64 m.f1, .int .i64 m.f2, .int .i64 m.f3, .int .i64 m.f4, .int .i64 m.f5, .int .i64 m.f6, .bool m.f7, .slice A8 m.f8.length c8, .int .i64 m.f9.f0, .int .i64 m.f9.f1, .int .i64 m.f9.f2, .slice A12 m.f9.f3.length c12, .int .i64 m.f10.f0, .int .i64 m.f10.f1, .int .i64 m.f10.f2, .slice A16 m.f10.f3.length c16] 34)) w.heap.size m A8 c8 A12 c12 A16 c16 from heap_alloc_new w _); have HM0 := Lib.hid (hm.below hb); have HPI := Lib.hid hp
 have hlm : m.f8.length ≤ 9223372036854775807 := Kd.C_max hm.g8
 obtain ⟨q, hq⟩ : ∃ q, mayMs m = q := ⟨_, rfl⟩
 have HQ := Lib.hid hq
 rw [hq]
 clear hq hm hp hb
 go_enter Tryz.func45, Tryz.ntmps45
 go_upto_region 1 with fail
 obtain ⟨v0, hw⟩ : ∃ v, w.alloc (.cells #[.int .i64 m.f0, .int .i64 m.f1, .int .i64 m.f2, .int .i64 m.f3, .int .i64 m.f4, .int .i64 m.f5, .int .i64 m.f6, .bool m.f7, .slice A8 m.f8.length c8, .int .i64 m.f9.f0, .int .i64 m.f9.f1, .int .i64 m.f9.f2, .slice A12 m.f9.f3.length c12, .int .i64 m.f10.f0, .int .i64 m.f10.f1, .int .i64 m.f10.f2, .slice A16 m.f10.f3.length c16] 34) = v := ⟨_, rfl⟩
 obtain ⟨g, hg⟩ : ∃ g, w.heap.size = g := ⟨_, rfl⟩
 have HG := Lib.hid hg
 rw [hw] at HB0 HX0 HM0 ⊢
 rw [hg] at HX0 ⊢
 clear hw hg
 obtain ⟨b0, hb0⟩ : ∃ b, inB 0 4 [m.f1] = b := ⟨_, rfl⟩
 obtain ⟨b1, hb1⟩ : ∃ b, inB 0 4 [m.f2] = b := ⟨_, rfl⟩
 obtain ⟨b2, hb2⟩ : ∃ b, inB 0 1099511627776 [m.f3, m.f4, m.f5, m.f6] = b := ⟨_, rfl⟩
 obtain ⟨b3, hb3⟩ : ∃ b, isKind m.f0 = b := ⟨_, rfl⟩
 obtain ⟨b4, hb4⟩ : ∃ b, eqMs (bareM m) m = b := ⟨_, rfl⟩
 obtain ⟨b5, hb5⟩ : ∃ b : Bool, decide (4096 < (m.f8.length : Int)) = b := ⟨_, rfl⟩
 obtain ⟨b6, hb6⟩ : ∃ b, m.f8.all mayTr = b := ⟨_, rfl⟩
 obtain ⟨b7, hb7⟩ : ∃ b, mayPt m.f10 = b := ⟨_, rfl⟩
 obtain ⟨b8, hb8⟩ : ∃ b, mayE m.f9.f0 m.f9.f1 m.f9.f2 m.f9.f3 = b := ⟨_, rfl⟩
 obtain ⟨k5, hk5⟩ : ∃ b : Bool, (m.f0 != 5) = b := ⟨_, rfl⟩
 obtain ⟨k6, hk6⟩ : ∃ b : Bool, (m.f0 != 6) = b := ⟨_, rfl⟩
 have HV := Lib.hid (show q = (b0 && (b1 && (b2 && (b3 && (b4 && (!b5 && (b6 && ((k5 || b7) && (k6 || b8)))))))))  by
  rw [← HQ.out, ← hb0, ← hb1, ← hb2, ← hb3, ← hb4, ← hb5, ← hb6, ← hb7, ← hb8, ← hk5, ← hk6]
  unfold mayMs
  have e1 : decide ((m.f8.length : Int) ≤ 4096) = !decide (4096 < (m.f8.length : Int)) := by
   by_cases h : (m.f8.length : Int) ≤ 4096
   ·rw [decide_eq_true h, decide_eq_false (by omega)]; rfl
   ·rw [decide_eq_false h, decide_eq_true (by omega)]; rfl
  rw [e1]
  rfl)
 have H0 := Lib.hid hb0; have H1 := Lib.hid hb1; have H2 := Lib.hid hb2; have H3 := Lib.hid hb3; have H4 := Lib.hid hb4; have H6 := Lib.hid hb6; have H7 := Lib.hid hb7; have H8 := Lib.hid hb8
 clear hb0 hb1 hb2 hb3 hb4 hb6 hb7 hb8
 obtain ⟨a0, a1, a2, a3, a4, a5, a6, a7, a8, a9, a10, a11, a12, a13, a14, a15, a16⟩ := HX0.out.cell
 go_wp2_with fail
 have h4 := G.record_who.calls m.f1 (inB 0 4 [m.f1]) v0 rfl
 rw [H0.out] at h4
 refine h4.mono ?_
 rintro e v1 ⟨rfl, hb⟩
 have HB1 := Lib.hid (HB0.out.trans (hb.mono HB0.out.size)); have HX1 := Lib.hid (HX0.out.below hb); have HM1 := Lib.hid (HM0.out.below hb)
 clear h4 hb HB0 HX0 HM0 a0 a1 a2 a3 a4 a5 a6 a7 a8 a9 a10 a11 a12 a13 a14 a15 a16
 obtain ⟨a0, a1, a2, a3, a4, a5, a6, a7, a8, a9, a10, a11, a12, a13, a14, a15, a16⟩ := HX1.out.cell
 cases b0 with
 | false =>
  have HW := Lib.hid (show q = false by rw [HV.out]; simp)
  go_wp2_with fail
  go_ret
  exact ⟨by rw [HW.out]; rfl, HB1.out⟩
 | true =>
  go_wp2_with fail
  have h4 := G.record_who.calls m.f2 (inB 0 4 [m.f2]) v1 rfl
  rw [H1.out] at h4
  refine h4.mono ?_
  rintro e v2 ⟨rfl, hb⟩
  have HB2 := Lib.hid (HB1.out.trans (hb.mono HB1.out.size)); have HX2 := Lib.hid (HX1.out.below hb); have HM2 := Lib.hid (HM1.out.below hb)
  clear h4 hb HB1 HX1 HM1 a0 a1 a2 a3 a4 a5 a6 a7 a8 a9 a10 a11 a12 a13 a14 a15 a16
  obtain ⟨a0, a1, a2, a3, a4, a5, a6, a7, a8, a9, a10, a11, a12, a13, a14, a15, a16⟩ := HX2.out.cell
  cases b1 with
  | false =>
   have HW := Lib.hid (show q = false by rw [HV.out]; simp)
   go_wp2_with fail
   go_ret
   exact ⟨by rw [HW.out]; rfl, HB2.out⟩
  | true =>
   obtain ⟨h1, h2⟩ := lit_new v2 [m.f3, m.f4, m.f5, m.f6] (by simp)
   simp only [List.map_cons, List.map_nil, List.length_cons, List.length_nil, Nat.zero_add, Nat.reduceAdd] at h1 h2
   have HLa := Lib.hid h2; have HBa := Lib.hid (HB2.out.trans (h1.mono HB2.out.size)); have HXa := Lib.hid (HX2.out.below h1); have HMa := Lib.hid (HM2.out.below h1)
   clear h1 h2
   go_wp2_with fail
   have h4 := G.record_count.calls (some ⟨v2.heap.size, 0, none⟩) 4 [m.f3, m.f4, m.f5, m.f6] b2 _ HLa.out (Nat.le_refl _) (by unfold G.record_count.f G.record_between.f; rw [H2.out]; rfl)
   refine h4.mono ?_
   rintro e v3 ⟨rfl, hb⟩
   have HB3 := Lib.hid (HBa.out.trans (hb.mono HBa.out.size)); have HX3 := Lib.hid (HXa.out.below hb); have HM3 := Lib.hid (HMa.out.below hb)
   clear h4 hb HB2 HX2 HM2 HBa HXa HMa HLa a0 a1 a2 a3 a4 a5 a6 a7 a8 a9 a10 a11 a12 a13 a14 a15 a16
   obtain ⟨a0, a1, a2, a3, a4, a5, a6, a7, a8, a9, a10, a11, a12, a13, a14, a15, a16⟩ := HX3.out.cell
   cases b2 with
   | false =>
    have HW := Lib.hid (show q = false by rw [HV.out]; simp)
    go_wp2_with fail
    go_ret
    exact ⟨by rw [HW.out]; rfl, HB3.out⟩
   | true =>
    go_wp2_with fail
    have h4 := bare_is m HM3.out
    refine h4.mono ?_
    rintro e v4 ⟨y, B8, B12, B16, d8, d12, d16, rfl, hy, hyc, hb⟩
    rw [H3.out] at hy ⊢
    have HB4 := Lib.hid (HB3.out.trans (hb.mono HB3.out.size)); have HX4 := Lib.hid (HX3.out.below hb); have HM4 := Lib.hid (HM3.out.below hb); have HY := Lib.hid hy; have HYC := Lib.hid hyc
    clear h4 hb HB3 HX3 HM3 hy hyc a0 a1 a2 a3 a4 a5 a6 a7 a8 a9 a10 a11 a12 a13 a14 a15 a16
    obtain ⟨a0, a1, a2, a3, a4, a5, a6, a7, a8, a9, a10, a11, a12, a13, a14, a15, a16⟩ := HX4.out.cell
    go_upto_region 4 with fail
    have hbx := heap_alloc_new v4 (.cells #[.int .i64 y.f0, .int .i64 y.f1, .int .i64 y.f2, .int .i64 y.f3, .int .i64 y.f4, .int .i64 y.f5, .int .i64 y.f6, .bool y.f7, .slice B8 y.f8.length d8, .int .i64 y.f9.f0, .int .i64 y.f9.f1, .int .i64 y.f9.f2, .slice B12 y.f9.f3.length d12, .int .i64 y.f10.f0, .int .i64 y.f10.f1, .int .i64 y.f10.f2, .slice B16 y.f10.f3.length d16] 34)
    have hay := (Below.refl _ v4).alloc (Nat.le_refl _) (.cells #[.int .i64 y.f0, .int .i64 y.f1, .int .i64 y.f2, .int .i64 y.f3, .int .i64 y.f4, .int .i64 y.f5, .int .i64 y.f6, .bool y.f7, .slice B8 y.f8.length d8, .int .i64 y.f9.f0, .int .i64 y.f9.f1, .int .i64 y.f9.f2, .slice B12 y.f9.f3.length d12, .int .i64 y.f10.f0, .int .i64 y.f10.f1, .int .i64 y.f10.f2, .slice B16 y.f10.f3.length d16] 34)
    obtain ⟨v5, hw⟩ : ∃ v, v4.alloc (.cells #[.int .i64 y.f0, .int .i64 y.f1, .int .i64 y.f2, .int .i64 y.f3, .int .i64 y.f4, .int .i64 y.f5, .int .i64 y.f6, .bool y.f7, .slice B8 y.f8.length d8, .int .i64 y.f9.f0, .int .i64 y.f9.f1, .int .i64 y.f9.f2, .slice B12 y.f9.f3.length d12, .int .i64 y.f10.f0, .int .i64 y.f10.f1, .int .i64 y.f10.f2, .slice B16 y.f10.f3.length d16] 34) = v := ⟨_, rfl⟩
    rw [hw] at hbx hay ⊢
    clear hw
    have HB5 := Lib.hid (HB4.out.trans (hay.mono HB4.out.size)); have HX5 := Lib.hid (HX4.out.below hay); have HM5 := Lib.hid (HM4.out.below hay); have HYD := Lib.hid (HYC.out.below hay)
    obtain ⟨gy, hgy⟩ : ∃ gy, v4.heap.size = gy := ⟨_, rfl⟩
    rw [hgy] at hbx ⊢
    have HYX := Lib.hid (show MsBox v5 gy y B8 d8 B12 d12 B16 d16 from hbx)
    clear hbx hay hgy HB4 HX4 HM4 HYC a0 a1 a2 a3 a4 a5 a6 a7 a8 a9 a10 a11 a12 a13 a14 a15 a16
    obtain ⟨a0, a1, a2, a3, a4, a5, a6, a7, a8, a9, a10, a11, a12, a13, a14, a15, a16⟩ := HX5.out.cell
    cases b3 with
    | false =>
     have HW := Lib.hid (show q = false by rw [HV.out]; simp)
     go_wp2_with fail
     go_ret
     exact ⟨by rw [HW.out]; rfl, HB5.out⟩
    | true =>
     have HYE := Lib.hid (HY.out rfl)
     refine wp_region_list ?_
     refine wpList_cut 3 ?_
     simp only [List.take_succ_cons, List.take_zero, List.drop_succ_cons, List.drop_zero]
     go_wp2_with fail
     refine Halt.mk ?_
     refine gate_guard (by rfl) ?_
     dsimp only
     refine wpList_load_row rfl 34 (.tmp 3) rfl gy rfl 34 #[.int .i64 y.f0, .int .i64 y.f1, .int .i64 y.f2, .int .i64 y.f3, .int .i64 y.f4, .int .i64 y.f5, .int .i64 y.f6, .bool y.f7, .slice B8 y.f8.length d8, .int .i64 y.f9.f0, .int .i64 y.f9.f1, .int .i64 y.f9.f2, .slice B12 y.f9.f3.length d12, .int .i64 y.f10.f0, .int .i64 y.f10.f1, .int .i64 y.f10.f2, .slice B16 y.f10.f3.length d16] (0, 0) _ HYX.out Tryz.underlying34 rfl (by kernel_rfl) ?_
     refine gate_guard (by rfl) ?_
     dsimp only
     refine wpList_load_row rfl 34 (.tmp 1) rfl g rfl 34 #[.int .i64 m.f0, .int .i64 m.f1, .int .i64 m.f2, .int .i64 m.f3, .int .i64 m.f4, .int .i64 m.f5, .int .i64 m.f6, .bool m.f7, .slice A8 m.f8.length c8, .int .i64 m.f9.f0, .int .i64 m.f9.f1, .int .i64 m.f9.f2, .slice A12 m.f9.f3.length c12, .int .i64 m.f10.f0, .int .i64 m.f10.f1, .int .i64 m.f10.f2, .slice A16 m.f10.f3.length c16] (0, 0) _ HX5.out Tryz.underlying34 rfl (by kernel_rfl) ?_
     go_wp2_with fail
     have H4' := Lib.hid (show eqMs y m = b4 by rw [HYE.out]; exact H4.out)
     clear HYE HY
     have h4 := sameMs_is y m HYD.out HM5.out
     rw [H4'.out] at h4
     refine h4.mono ?_
     rintro e v6 ⟨rfl, hb⟩
     have HB6 := Lib.hid (HB5.out.trans (hb.mono HB5.out.size)); have HX6 := Lib.hid (HX5.out.below hb); have HM6 := Lib.hid (HM5.out.below hb)
     clear h4 hb HB5 HX5 HM5 a0 a1 a2 a3 a4 a5 a6 a7 a8 a9 a10 a11 a12 a13 a14 a15 a16
     obtain ⟨a0, a1, a2, a3, a4, a5, a6, a7, a8, a9, a10, a11, a12, a13, a14, a15, a16⟩ := HX6.out.cell
     cases b4 with
     | false =>
      have HW := Lib.hid (show q = false by rw [HV.out]; simp)
      go_wp2_with fail
      go_ret
      exact ⟨by rw [HW.out]; rfl, HB6.out⟩
     | true =>
      cases b5 with
      | true =>
       have HW := Lib.hid (show q = false by rw [HV.out]; simp)
       go_wp2_with fail
       go_ret
       exact ⟨by rw [HW.out]; rfl, HB6.out⟩
      | false =>
       go_wp2_with fail
       have h4 := tr_has A8 c8 m.f8 v6 HM6.out.g8
       rw [H6.out] at h4
       refine h4.mono ?_
       rintro e v7 ⟨rfl, hb⟩
       have HB7 := Lib.hid (HB6.out.trans (hb.mono HB6.out.size)); have HX7 := Lib.hid (HX6.out.below hb); have HM7 := Lib.hid (HM6.out.below hb)
       clear h4 hb HB6 HX6 HM6 a0 a1 a2 a3 a4 a5 a6 a7 a8 a9 a10 a11 a12 a13 a14 a15 a16
       obtain ⟨a0, a1, a2, a3, a4, a5, a6, a7, a8, a9, a10, a11, a12, a13, a14, a15, a16⟩ := HX7.out.cell
       cases b6 with
       | false =>
        have HW := Lib.hid (show q = false by rw [HV.out]; simp)
        go_wp2_with fail
        go_ret
        exact ⟨by rw [HW.out]; rfl, HB7.out⟩
       | true =>
        cases k5 with
        | true =>
         cases k6 with
         | true =>
          have HW := Lib.hid (show q = true by rw [HV.out]; simp)
          go_wp2_with fail
          go_ret
          exact ⟨by rw [HW.out]; rfl, HB7.out⟩
         | false =>
          go_wp2_with fail
          have h4 := mayEn_is m.f9.f0 m.f9.f1 m.f9.f2 A12 c12 m.f9.f3 v7 HM7.out.g12
          rw [H8.out] at h4
          refine h4.mono ?_
          rintro e v8 ⟨rfl, hb⟩
          have HB8 := Lib.hid (HB7.out.trans (hb.mono HB7.out.size)); have HX8 := Lib.hid (HX7.out.below hb); have HM8 := Lib.hid (HM7.out.below hb)
          clear h4 hb HB7 HX7 HM7 a0 a1 a2 a3 a4 a5 a6 a7 a8 a9 a10 a11 a12 a13 a14 a15 a16
          obtain ⟨a0, a1, a2, a3, a4, a5, a6, a7, a8, a9, a10, a11, a12, a13, a14, a15, a16⟩ := HX8.out.cell
          have HW := Lib.hid (show q = b8 by rw [HV.out]; simp)
          go_wp2_with fail
          go_ret
          exact ⟨by rw [HW.out]; rfl, HB8.out⟩
        | false =>
         go_wp2_with fail
         have h4 := part_is (c := c16) m.f10 HPI.out HM7.out.g16
         rw [H7.out] at h4
         refine h4.mono ?_
         rintro e v8 ⟨rfl, hb⟩
         have HB8 := Lib.hid (HB7.out.trans (hb.mono HB7.out.size)); have HX8 := Lib.hid (HX7.out.below hb); have HM8 := Lib.hid (HM7.out.below hb)
         clear h4 hb HB7 HX7 HM7 a0 a1 a2 a3 a4 a5 a6 a7 a8 a9 a10 a11 a12 a13 a14 a15 a16
         obtain ⟨a0, a1, a2, a3, a4, a5, a6, a7, a8, a9, a10, a11, a12, a13, a14, a15, a16⟩ := HX8.out.cell
         cases b7 with
         | false =>
          have HW := Lib.hid (show q = false by rw [HV.out]; simp)
          go_wp2_with fail
          go_ret
          exact ⟨by rw [HW.out]; rfl, HB8.out⟩
         | true =>
          cases k6 with
          | true =>
           have HW := Lib.hid (show q = true by rw [HV.out]; simp)
           go_wp2_with fail
           go_ret
           exact ⟨by rw [HW.out]; rfl, HB8.out⟩
          | false =>
           go_wp2_with fail
           have h4 := mayEn_is m.f9.f0 m.f9.f1 m.f9.f2 A12 c12 m.f9.f3 v8 HM8.out.g12
           rw [H8.out] at h4
           refine h4.mono ?_
           rintro e v9 ⟨rfl, hb⟩
           have HB9 := Lib.hid (HB8.out.trans (hb.mono HB8.out.size)); have HX9 := Lib.hid (HX8.out.below hb); have HM9 := Lib.hid (HM8.out.below hb)
           clear h4 hb HB8 HX8 HM8 a0 a1 a2 a3 a4 a5 a6 a7 a8 a9 a10 a11 a12 a13 a14 a15 a16
           obtain ⟨a0, a1, a2, a3, a4, a5, a6, a7, a8, a9, a10, a11, a12, a13, a14, a15, a16⟩ := HX9.out.cell
           have HW := Lib.hid (show q = b8 by rw [HV.out]; simp)
           go_wp2_with fail
           go_ret
           exact ⟨by rw [HW.out]; rfl, HB9.out⟩
end Go.Proofs.YtgiefblcckikeaaGreat.M
end
