/- RecordFullSaid: contracts of the functions that the law goes through, put together in build order (part 5 of 5). -/
import Derived.Test.YtgiefblcckikeaaPart3
section

/- The eye's lists: numbers and keys (printed by geneye04.py). -/
set_option maxRecDepth 100000
set_option linter.unusedVariables false
set_option linter.unusedSimpArgs false
attribute [local irreducible] Go.wpStill
namespace Go.Proofs.Ytgiefblcckikeaa.M
open Go.RowKit Go.Proofs.YtgiefblcckikeaaW.PrintWords Go.Proofs.YtgiefblcckikeaaW.PrintLast Go.Proofs.YtgiefblcckikeaaW.PrintMore Go.Proofs.Ytgiefblcckikeaa.G
theorem IsEye.at {w0 W W' : World} {x : Nat} {s : EyeS} (h : IsEye w0 W x s) (e : W'.heap[x]? = W.heap[x]?) : IsEye w0 W' x s := by
  obtain ⟨A, c, h1, h2⟩ := h
  exact ⟨A, c, e.trans h1, h2⟩
theorem S_keep' {α : Type} {d : Kd α} {el base : Nat} {w w' : World} {v : Value} {l : List α} {x : Nat} (hx : x < base) (h : Kd.S d el w base (fun _ => True) v l) (hk : KeepS (fun i => i = x) w w') : Kd.S d el w' base (fun _ => True) v l :=
  Kd.S_mono (Kd.S_step (Kd.S_bound h) (fun k hk2 hlt => hk.block k hlt (fun e => by have := hk2.2.1; omega))) (fun _ _ => trivial)
def eMany {α : Type} (g : EyeS → α × EyeS) : Nat → EyeS → List α × EyeS
  | 0, s => ([], s)
  | n + 1, s => if s.e = 0 then ((g s).1 :: (eMany g n (g s).2).1, (eMany g n (g s).2).2) else ([], s)
theorem eMany_stop {α : Type} {g : EyeS → α × EyeS} {n : Nat} {s : EyeS} (h : ¬ s.e = 0) : eMany g n s = ([], s) := by
  cases n with
  | zero => rfl
  | succ n => simp only [eMany, if_neg h]
def eCount (s : EyeS) : EyeS := eWrong (decide ((eNum s).1 < 0) || decide (4096 < (eNum s).1)) (eNum s).2
def eList {α : Type} (g : EyeS → α × EyeS) (s : EyeS) : List α × EyeS := eMany g (eNum s).1.toNat (eCount s)
def LiP {α : Type} (d : Kd α) (el : Nat) (w0 w : World) (x : Nat) (l : List α) (s' : EyeS) (e : Ending) (w' : World) : Prop := ∃ v : Value, e = .returned v ∧ Kd.S d el w' w.heap.size (fun _ => True) v l ∧ IsEye w0 w' x s' ∧ Below w0.heap.size w0 w' ∧ KeepS (fun i => i = x) w w'
theorem okS_many {α : Type} {g : EyeS → α × EyeS} (hg : ∀ s, okS s → okS (g s).2) (n : Nat) : ∀ s, okS s → okS (eMany g n s).2 := by
  induction n with
  | zero => exact fun s h => h
  | succ n ih =>
    intro s h
    simp only [eMany]
    split
    · exact ih _ (hg s h)
    · exact h
theorem okS_list {α : Type} {g : EyeS → α × EyeS} (hg : ∀ s, okS s → okS (g s).2) {s : EyeS} (h : okS s) : okS (eList g s).2 := okS_many hg _ _ (okS_wrong _ (okS_num h))
def eKey (s : EyeS) : KeyD × EyeS := (⟨(eSmall s).1, (eNum (eSmall s).2).1⟩, (eNum (eSmall s).2).2)
theorem okS_key {s : EyeS} (h : okS s) : okS (eKey s).2 := okS_num (okS_small h)
theorem eSmall_i32 (s : EyeS) : wrap32 (eSmall s).1 = (eSmall s).1 := by
  unfold eSmall
  split
  · next h => rw [IntKind.wrap_i32] at h; unfold wrap32; exact h
  · show wrap32 0 = 0; unfold wrap32; omega
set_option maxHeartbeats 1000000 in
theorem eKey_is {w0 w : World} {x : Nat} {s : EyeS} (hI : IsEye w0 w x s) (hB : Below w0.heap.size w0 w) (hok : okS s) :
    Calls Try.prog 79 #[.pointer (some ⟨x, 0, none⟩)] w fun e w' => EyP w0 w x (.agg #[.int .i32 (eKey s).1.f0, .int .i64 (eKey s).1.f1]) (eKey s).2 e w' := by
  have hbx := heap_alloc_new w (.cells #[.int .i32 0, .int .i64 0] 93)
  have hb1 := (Below.refl _ w).alloc (Nat.le_refl _) (.cells #[.int .i32 0, .int .i64 0] 93)
  have HLT := Lib.hid (show x < w.heap.size from hI.lt); have HGEW := Lib.hid (show w0.heap.size ≤ w.heap.size from hB.size)
  have HN := Lib.hid (eSmall_is (hI.below hb1) (hB.alloc hB.size _) hok)
  have HK1 := Lib.hid (KeepS.of_below (fun i => i = x) hb1)
  have HOK := Lib.hid (okS_small hok)
  have h32 := eSmall_i32 s
  have HK := Lib.hid (show eKey s = (⟨(eSmall s).1, (eNum (eSmall s).2).1⟩, (eNum (eSmall s).2).2) from rfl)
  obtain ⟨n, hn⟩ : ∃ n, (eSmall s).1 = n := ⟨_, rfl⟩
  obtain ⟨s2, hs2⟩ : ∃ s2, (eSmall s).2 = s2 := ⟨_, rfl⟩
  rw [hn, hs2] at HN HK
  rw [hs2] at HOK
  rw [hn] at h32
  have HBX := Lib.hid hbx
  have HZ := Lib.hid (show w.heap.size < (w.alloc (.cells #[.int .i32 0, .int .i64 0] 93)).heap.size by simp)
  clear hn hs2 hI hB hok hbx hb1
  go_enter Try.func79, Try.ntmps79
  go_wp2_with fail
  refine HN.out.mono ?_
  rintro e w1 ⟨rfl, h1, h2, h3⟩
  have HN2 := Lib.hid (eNum_is h1 h2 HOK.out)
  have HZ2 := Lib.hid (Nat.lt_of_lt_of_le HZ.out h3.size)
  have HB1 := Lib.hid ((h3.block w.heap.size HZ.out (by have := HLT.out; omega)).trans HBX.out)
  have HK2 := Lib.hid (HK1.out.trans h3)
  obtain ⟨m, hm⟩ : ∃ m, (eNum s2).1 = m := ⟨_, rfl⟩
  obtain ⟨s3, hs3⟩ : ∃ s3, (eNum s2).2 = s3 := ⟨_, rfl⟩
  rw [hm, hs3] at HN2 HK
  clear h1 h2 h3 hm hs3
  go_wp2_with fail
  refine HN2.out.mono ?_
  rintro e w2 ⟨rfl, h1, h2, h3⟩
  have H1 := Lib.hid h1; have H2 := Lib.hid h2
  have HB2 := Lib.hid ((h3.block w.heap.size HZ2.out (by have := HLT.out; omega)).trans HB1.out)
  have HK3 := Lib.hid (HK2.out.trans h3)
  have d0 : w2.cell? ⟨w.heap.size, 0, none⟩ = some (.int .i32 0) := by simp [World.cell?, HB2.out]
  have d1 : w2.cell? ⟨w.heap.size, 1, none⟩ = some (.int .i64 0) := by simp [World.cell?, HB2.out]
  have z0 : w2.frozen? ⟨w.heap.size, 0, none⟩ = false := by simp [World.frozen?, HB2.out]
  have z1 : w2.frozen? ⟨w.heap.size, 1, none⟩ = false := by simp [World.frozen?, HB2.out]
  clear h1 h2 h3
  go_wp2_with fail
  refine bodyPost_ret (results_cell_row rfl _ _ w.heap.size 93 #[.int .i32 n, .int .i64 m] (0, 0) _ rfl ?_ Try.underlying93 rfl (by kernel_rfl)) rfl ?_
  · refine blk_put (cs := #[.int .i32 n, .int .i64 0]) ?_ 1 _ rfl
    exact blk_put (cs := #[.int .i32 0, .int .i64 0]) HB2.out 0 _ rfl
  · rw [HK.out]
    have e1 : x ≠ w.heap.size := by have := HLT.out; omega
    exact ⟨rfl, H1.out.at ((Below.heap_setCell _ ⟨w.heap.size, 1, none⟩ _ x e1).trans (Below.heap_setCell _ ⟨w.heap.size, 0, none⟩ _ x e1)), (H2.out.setCell (by exact HGEW.out) _).setCell (by exact HGEW.out) _, (HK3.out.set (p := ⟨w.heap.size, 0, none⟩) (.inr (Nat.le_refl _)) _).set (p := ⟨w.heap.size, 1, none⟩) (.inr (Nat.le_refl _)) _⟩
def LiI_nums (g : EyeS → Int × EyeS) (n : Int) (s0 : EyeS) (w0 w : World) (x : Nat) (v i : Value) (W : World) : Prop := ∃ (U : List Int) (s : EyeS), i = .int .i64 (U.length : Int) ∧ U.length ≤ 4096 ∧ U.length ≤ n.toNat ∧ (s.e = 0 → n ≤ 4096) ∧ Kd.S (Kd.int .i64) 2 W w.heap.size (fun _ => True) v U ∧ IsEye w0 W x s ∧ Below w0.heap.size w0 W ∧ KeepS (fun i => i = x) w W ∧ okS s ∧ eList g s0 = (U ++ (eMany g (n.toNat - U.length) s).1, (eMany g (n.toNat - U.length) s).2)
set_option maxHeartbeats 2000000 in
theorem eList_nums {w0 w : World} {x : Nat} {s : EyeS} (hI : IsEye w0 w x s) (hB : Below w0.heap.size w0 w) (hok : okS s) :
    Calls Try.prog 77 #[.pointer (some ⟨x, 0, none⟩), .func (.func 75) #[.pointer (some ⟨x, 0, none⟩)] #[]] w fun e w' => LiP (Kd.int .i64) 2 w0 w x (eList eNum s).1 (eList eNum s).2 e w' := by
  have HN := Lib.hid (eNum_is hI hB hok)
  have HOK := Lib.hid (okS_num hok)
  have HLT := Lib.hid hI.lt
  have HGEW := Lib.hid (show w0.heap.size ≤ w.heap.size from hB.size)
  obtain ⟨n, hn⟩ : ∃ n, (eNum s).1 = n := ⟨_, rfl⟩
  obtain ⟨s1, hs1⟩ : ∃ s1, (eNum s).2 = s1 := ⟨_, rfl⟩
  have HCT := Lib.hid (show eCount s = eWrong (decide (n < 0) || decide (4096 < n)) s1 by unfold eCount; rw [hn, hs1])
  have Hint64 := Lib.hid (show eList eNum s = eMany eNum n.toNat (eCount s) by unfold eList; rw [hn])
  rw [hn, hs1] at HN
  rw [hs1] at HOK
  clear hI hB hok hn hs1
  go_enter Try.func77, Try.ntmps77
  go_wp2_with fail
  refine HN.out.mono ?_
  rintro e w1 ⟨rfl, h1, h2, h3⟩
  have H1 := Lib.hid h1; have H2 := Lib.hid h2; have H3 := Lib.hid h3
  clear h1 h2 h3 HN
  go_upto_region 2 with fail
  go_cut [] (fun wx => IsEye w0 wx x (eCount s) ∧ Below w0.heap.size w0 wx ∧ KeepS (fun i => i = x) w wx)
  case first =>
    by_cases ha : n < 0
    · have hq : decide (n < 0) = true := decide_eq_true ha
      have HW := Lib.hid (eWrong_is H1.out H2.out true)
      have HC2 := Lib.hid (show eCount s = eWrong true s1 by rw [HCT.out, hq, Bool.true_or])
      clear ha
      go_wp2_with fail
      refine HW.out.mono ?_
      rintro e w2 ⟨rfl, h1, h2, h3⟩
      have G1 := Lib.hid h1; have G2 := Lib.hid h2; have G3 := Lib.hid (H3.out.trans h3)
      clear h1 h2 h3
      go_wp2_with fail
      go_meet
      exact ⟨by rw [HC2.out]; exact G1.out, G2.out, G3.out⟩
    · have hq : decide (n < 0) = false := decide_eq_false ha
      obtain ⟨b, hb⟩ : ∃ b, decide ((4096 : Int) < n) = b := ⟨_, rfl⟩
      have HW := Lib.hid (eWrong_is H1.out H2.out b)
      have HC2 := Lib.hid (show eCount s = eWrong b s1 by rw [HCT.out, hq, hb, Bool.false_or])
      clear ha
      go_wp2_with fail
      refine HW.out.mono ?_
      rintro e w2 ⟨rfl, h1, h2, h3⟩
      have G1 := Lib.hid h1; have G2 := Lib.hid h2; have G3 := Lib.hid (H3.out.trans h3)
      clear h1 h2 h3
      go_wp2_with fail
      go_meet
      exact ⟨by rw [HC2.out]; exact G1.out, G2.out, G3.out⟩
  case rest =>
    obtain ⟨h1, h2, h3⟩ := hcut
    have G1 := Lib.hid h1; have G2 := Lib.hid h2; have G3 := Lib.hid h3
    have HE0 := Lib.hid (show (eCount s).e = 0 → n ≤ 4096 by
      intro h
      rw [HCT.out] at h
      by_cases h5 : (4096 : Int) < n
      · rw [decide_eq_true h5, Bool.or_true] at h
        unfold eWrong at h
        split at h
        · cases h
        · next h6 => exact absurd ⟨h, rfl⟩ h6
      · omega)
    have HOC := Lib.hid (show okS (eCount s) by rw [HCT.out]; exact okS_wrong _ HOK.out)
    clear h1 h2 h3
    go_wp2_with fail
    go_loopw [6, 7] (fun v i wr => LiI_nums eNum n s w0 w x v i wr) (fun _ i _ => n.toNat - (intOf i).toNat)
    case atStart => exact ⟨[], eCount s, rfl, by simp, by simp, HE0.out, Kd.S_nil _ _ _ _ _, G1.out, G2.out, G3.out, HOC.out, by simpa using Hint64.out⟩
    case round =>
      obtain ⟨U, s2, rfl, hU, hUn, hE, hS, hI, hB, hK, hO, hF⟩ := hrel
      have HI := Lib.hid hI; have HB := Lib.hid hB; have HK := Lib.hid hK; have HO := Lib.hid hO; have HF := Lib.hid hF; have HS := Lib.hid hS; have HUN := Lib.hid hUn; have HE := Lib.hid hE
      obtain ⟨Av, cv, rfl⟩ := Kd.S_slice hS
      obtain ⟨A, c, g1, g2, g3, g4⟩ := hI
      have c1 : wr.cell? ⟨x, 1, none⟩ = some (.int .i64 s2.e) := by simp [World.cell?, g1]
      clear hB hK hO hF hS hUn hE g1 g2 g3 g4
      by_cases hlt : (U.length : Int) < n
      · by_cases he : s2.e = 0
        · have hq1 : decide ((U.length : Int) < n) = true := decide_eq_true hlt
          have hq2 : (s2.e == 0) = true := by rw [he]; rfl
          have HN4 := Lib.hid (HE.out he)
          have HG := Lib.hid (eNum_is HI.out HB.out HO.out)
          have HGO := Lib.hid (okS_num HO.out)
          obtain ⟨y, hy⟩ : ∃ y, (eNum s2).1 = y := ⟨_, rfl⟩
          obtain ⟨s3, hs3⟩ : ∃ s3, (eNum s2).2 = s3 := ⟨_, rfl⟩
          have HF2 := Lib.hid (show eList eNum s = ((U ++ [y]) ++ (eMany eNum (n.toNat - (U ++ [y]).length) s3).1, (eMany eNum (n.toNat - (U ++ [y]).length) s3).2) by
            rw [HF.out]
            have e1 : n.toNat - U.length = (n.toNat - (U ++ [y]).length) + 1 := by simp; omega
            rw [e1]
            simp only [eMany, he, if_true, hy, hs3, List.append_assoc, List.singleton_append])
          have HLT2 := Lib.hid hlt
          rw [hy, hs3] at HG
          rw [hs3] at HGO
          clear hlt he hy hs3
          go_wp2_with fail
          refine HG.out.mono ?_
          rintro e w3 ⟨rfl, h1, h2, h3⟩
          have HS3 := Lib.hid (show Kd.S (Kd.int .i64) 2 w3 w.heap.size (fun _ => True) (.slice Av U.length cv) U from S_keep' HLT.out HS.out h3)
          have HZ3 := Lib.hid (Nat.le_trans HK.out.size h3.size)
          have K1 := Lib.hid h1; have K2 := Lib.hid h2; have K3 := Lib.hid (HK.out.trans h3)
          clear h1 h2 h3
          go_wp2_with ((with_reducible refine gate_builtin (b := .append) (xs := #[.tmp 30, .tmp 33]) rfl ?_); at_builtin; refine Kd.S_append (Kd.int .i64) (w0 := w3) w.heap.size rfl (.tmp 30) (.tmp 33) 33 2 (.int .i64 0) 8 rfl Try.underlying33 infoI64 rfl (by decide) (by omega) _ U y [.int .i64 y] (fun _ => True) (fun _ => False) rfl rfl rfl (fun _ hk => hk.elim) (fun _ _ => trivial) (Kd.S_mono HS3.out (fun _ h => ⟨h, fun q => q⟩)) (Below.refl _ _) HZ3.out (by omega) ?_; intro v1 w5 ho hb5 hg5 hat; obtain ⟨A5, c5, rfl⟩ := Kd.S_slice ho; have HS5 := Lib.hid ho; have HK5 := Lib.hid (K3.out.then_base hb5); have HI5 := Lib.hid (K1.out.at (hb5.block x HLT.out)); have HB5 := Lib.hid (K2.out.trans (hb5.mono HGEW.out)); clear ho hb5 hg5 hat)
          go_roundw
          case rel =>
            refine ⟨U ++ [y], s3, by rw [List.length_append]; go_num, ?_, ?_, fun _ => HN4.out, (by have h9 := HS5.out; rw [List.length_append] at h9; exact h9), HI5.out, HB5.out, HK5.out, HGO.out, HF2.out⟩
            · have h1 := HN4.out; have h2 := HLT2.out
              rw [List.length_append, List.length_singleton]
              omega
            · have h2 := HLT2.out
              rw [List.length_append, List.length_singleton]
              omega
          case measure => simp [intOf]; have h2 := HLT2.out; omega
        · have hq1 : decide ((U.length : Int) < n) = true := decide_eq_true hlt
          have hq2 : (s2.e == 0) = false := beq_eq_false_iff_ne.2 he
          have HF2 := Lib.hid (show eList eNum s = (U, s2) by rw [HF.out, eMany_stop he, List.append_nil])
          clear hlt he
          go_wp2_with fail
          go_ret
          exact ⟨_, rfl, by rw [HF2.out]; exact HS.out, by rw [HF2.out]; exact HI.out, HB.out, HK.out⟩
      · have hq1 : decide ((U.length : Int) < n) = false := decide_eq_false hlt
        have HF2 := Lib.hid (show eList eNum s = (U, s2) by
          have e1 : n.toNat - U.length = 0 := by omega
          rw [HF.out, e1]
          simp only [eMany, List.append_nil])
        clear hlt
        go_wp2_with fail
        go_ret
        exact ⟨_, rfl, by rw [HF2.out]; exact HS.out, by rw [HF2.out]; exact HI.out, HB.out, HK.out⟩
def LiI_keys (g : EyeS → KeyD × EyeS) (n : Int) (s0 : EyeS) (w0 w : World) (x : Nat) (v i : Value) (W : World) : Prop := ∃ (U : List KeyD) (s : EyeS), i = .int .i64 (U.length : Int) ∧ U.length ≤ 4096 ∧ U.length ≤ n.toNat ∧ (s.e = 0 → n ≤ 4096) ∧ Kd.S G.k93 93 W w.heap.size (fun _ => True) v U ∧ IsEye w0 W x s ∧ Below w0.heap.size w0 W ∧ KeepS (fun i => i = x) w W ∧ okS s ∧ eList g s0 = (U ++ (eMany g (n.toNat - U.length) s).1, (eMany g (n.toNat - U.length) s).2)
set_option maxHeartbeats 2000000 in
theorem eList_keys {w0 w : World} {x : Nat} {s : EyeS} (hI : IsEye w0 w x s) (hB : Below w0.heap.size w0 w) (hok : okS s) :
    Calls Try.prog 78 #[.pointer (some ⟨x, 0, none⟩), .func (.func 79) #[.pointer (some ⟨x, 0, none⟩)] #[]] w fun e w' => LiP G.k93 93 w0 w x (eList eKey s).1 (eList eKey s).2 e w' := by
  have HN := Lib.hid (eNum_is hI hB hok)
  have HOK := Lib.hid (okS_num hok)
  have HLT := Lib.hid hI.lt
  have HGEW := Lib.hid (show w0.heap.size ≤ w.heap.size from hB.size)
  obtain ⟨n, hn⟩ : ∃ n, (eNum s).1 = n := ⟨_, rfl⟩
  obtain ⟨s1, hs1⟩ : ∃ s1, (eNum s).2 = s1 := ⟨_, rfl⟩
  have HCT := Lib.hid (show eCount s = eWrong (decide (n < 0) || decide (4096 < n)) s1 by unfold eCount; rw [hn, hs1])
  have Hapi.Key := Lib.hid (show eList eKey s = eMany eKey n.toNat (eCount s) by unfold eList; rw [hn])
  rw [hn, hs1] at HN
  rw [hs1] at HOK
  clear hI hB hok hn hs1
  go_enter Try.func78, Try.ntmps78
  go_wp2_with fail
  refine HN.out.mono ?_
  rintro e w1 ⟨rfl, h1, h2, h3⟩
  have H1 := Lib.hid h1; have H2 := Lib.hid h2; have H3 := Lib.hid h3
  clear h1 h2 h3 HN
  go_upto_region 2 with fail
  go_cut [] (fun wx => IsEye w0 wx x (eCount s) ∧ Below w0.heap.size w0 wx ∧ KeepS (fun i => i = x) w wx)
  case first =>
    by_cases ha : n < 0
    · have hq : decide (n < 0) = true := decide_eq_true ha
      have HW := Lib.hid (eWrong_is H1.out H2.out true)
      have HC2 := Lib.hid (show eCount s = eWrong true s1 by rw [HCT.out, hq, Bool.true_or])
      clear ha
      go_wp2_with fail
      refine HW.out.mono ?_
      rintro e w2 ⟨rfl, h1, h2, h3⟩
      have G1 := Lib.hid h1; have G2 := Lib.hid h2; have G3 := Lib.hid (H3.out.trans h3)
      clear h1 h2 h3
      go_wp2_with fail
      go_meet
      exact ⟨by rw [HC2.out]; exact G1.out, G2.out, G3.out⟩
    · have hq : decide (n < 0) = false := decide_eq_false ha
      obtain ⟨b, hb⟩ : ∃ b, decide ((4096 : Int) < n) = b := ⟨_, rfl⟩
      have HW := Lib.hid (eWrong_is H1.out H2.out b)
      have HC2 := Lib.hid (show eCount s = eWrong b s1 by rw [HCT.out, hq, hb, Bool.false_or])
      clear ha
      go_wp2_with fail
      refine HW.out.mono ?_
      rintro e w2 ⟨rfl, h1, h2, h3⟩
      have G1 := Lib.hid h1; have G2 := Lib.hid h2; have G3 := Lib.hid (H3.out.trans h3)
      clear h1 h2 h3
      go_wp2_with fail
      go_meet
      exact ⟨by rw [HC2.out]; exact G1.out, G2.out, G3.out⟩
  case rest =>
    obtain ⟨h1, h2, h3⟩ := hcut
    have G1 := Lib.hid h1; have G2 := Lib.hid h2; have G3 := Lib.hid h3
    have HE0 := Lib.hid (show (eCount s).e = 0 → n ≤ 4096 by
      intro h
      rw [HCT.out] at h
      by_cases h5 : (4096 : Int) < n
      · rw [decide_eq_true h5, Bool.or_true] at h
        unfold eWrong at h
        split at h
        · cases h
        · next h6 => exact absurd ⟨h, rfl⟩ h6
      · omega)
    have HOC := Lib.hid (show okS (eCount s) by rw [HCT.out]; exact okS_wrong _ HOK.out)
    clear h1 h2 h3
    go_wp2_with fail
    go_loopw [6, 7] (fun v i wr => LiI_keys eKey n s w0 w x v i wr) (fun _ i _ => n.toNat - (intOf i).toNat)
    case atStart => exact ⟨[], eCount s, rfl, by simp, by simp, HE0.out, Kd.S_nil _ _ _ _ _, G1.out, G2.out, G3.out, HOC.out, by simpa using Hapi.Key.out⟩
    case round =>
      obtain ⟨U, s2, rfl, hU, hUn, hE, hS, hI, hB, hK, hO, hF⟩ := hrel
      have HI := Lib.hid hI; have HB := Lib.hid hB; have HK := Lib.hid hK; have HO := Lib.hid hO; have HF := Lib.hid hF; have HS := Lib.hid hS; have HUN := Lib.hid hUn; have HE := Lib.hid hE
      obtain ⟨Av, cv, rfl⟩ := Kd.S_slice hS
      obtain ⟨A, c, g1, g2, g3, g4⟩ := hI
      have c1 : wr.cell? ⟨x, 1, none⟩ = some (.int .i64 s2.e) := by simp [World.cell?, g1]
      clear hB hK hO hF hS hUn hE g1 g2 g3 g4
      by_cases hlt : (U.length : Int) < n
      · by_cases he : s2.e = 0
        · have hq1 : decide ((U.length : Int) < n) = true := decide_eq_true hlt
          have hq2 : (s2.e == 0) = true := by rw [he]; rfl
          have HN4 := Lib.hid (HE.out he)
          have HG := Lib.hid (eKey_is HI.out HB.out HO.out)
          have HGO := Lib.hid (okS_key HO.out)
          obtain ⟨y, hy⟩ : ∃ y, (eKey s2).1 = y := ⟨_, rfl⟩
          obtain ⟨s3, hs3⟩ : ∃ s3, (eKey s2).2 = s3 := ⟨_, rfl⟩
          have HF2 := Lib.hid (show eList eKey s = ((U ++ [y]) ++ (eMany eKey (n.toNat - (U ++ [y]).length) s3).1, (eMany eKey (n.toNat - (U ++ [y]).length) s3).2) by
            rw [HF.out]
            have e1 : n.toNat - U.length = (n.toNat - (U ++ [y]).length) + 1 := by simp; omega
            rw [e1]
            simp only [eMany, he, if_true, hy, hs3, List.append_assoc, List.singleton_append])
          have HLT2 := Lib.hid hlt
          rw [hy, hs3] at HG
          rw [hs3] at HGO
          clear hlt he hy hs3
          go_wp2_with fail
          refine HG.out.mono ?_
          rintro e w3 ⟨rfl, h1, h2, h3⟩
          have HS3 := Lib.hid (show Kd.S G.k93 93 w3 w.heap.size (fun _ => True) (.slice Av U.length cv) U from S_keep' HLT.out HS.out h3)
          have HZ3 := Lib.hid (Nat.le_trans HK.out.size h3.size)
          have K1 := Lib.hid h1; have K2 := Lib.hid h2; have K3 := Lib.hid (HK.out.trans h3)
          clear h1 h2 h3
          go_wp2_with ((with_reducible refine gate_builtin (b := .append) (xs := #[.tmp 30, .tmp 33]) rfl ?_); at_builtin; refine Kd.S_append G.k93 (w0 := w3) w.heap.size rfl (.tmp 30) (.tmp 33) 34 93 (.agg #[.int .i32 0, .int .i64 0]) 16 rfl Try.underlying34 infoKey rfl (by decide) (by omega) _ U y [.int .i32 y.f0, .int .i64 y.f1] (fun _ => True) (fun _ => False) rfl rfl (G.k93_mkM _ _ _ _) (fun _ hk => hk.elim) (fun _ _ => trivial) (Kd.S_mono HS3.out (fun _ h => ⟨h, fun q => q⟩)) (Below.refl _ _) HZ3.out (by omega) ?_; intro v1 w5 ho hb5 hg5 hat; obtain ⟨A5, c5, rfl⟩ := Kd.S_slice ho; have HS5 := Lib.hid ho; have HK5 := Lib.hid (K3.out.then_base hb5); have HI5 := Lib.hid (K1.out.at (hb5.block x HLT.out)); have HB5 := Lib.hid (K2.out.trans (hb5.mono HGEW.out)); clear ho hb5 hg5 hat)
          go_roundw
          case rel =>
            refine ⟨U ++ [y], s3, by rw [List.length_append]; go_num, ?_, ?_, fun _ => HN4.out, (by have h9 := HS5.out; rw [List.length_append] at h9; exact h9), HI5.out, HB5.out, HK5.out, HGO.out, HF2.out⟩
            · have h1 := HN4.out; have h2 := HLT2.out
              rw [List.length_append, List.length_singleton]
              omega
            · have h2 := HLT2.out
              rw [List.length_append, List.length_singleton]
              omega
          case measure => simp [intOf]; have h2 := HLT2.out; omega
        · have hq1 : decide ((U.length : Int) < n) = true := decide_eq_true hlt
          have hq2 : (s2.e == 0) = false := beq_eq_false_iff_ne.2 he
          have HF2 := Lib.hid (show eList eKey s = (U, s2) by rw [HF.out, eMany_stop he, List.append_nil])
          clear hlt he
          go_wp2_with fail
          go_ret
          exact ⟨_, rfl, by rw [HF2.out]; exact HS.out, by rw [HF2.out]; exact HI.out, HB.out, HK.out⟩
      · have hq1 : decide ((U.length : Int) < n) = false := decide_eq_false hlt
        have HF2 := Lib.hid (show eList eKey s = (U, s2) by
          have e1 : n.toNat - U.length = 0 := by omega
          rw [HF.out, e1]
          simp only [eMany, List.append_nil])
        clear hlt
        go_wp2_with fail
        go_ret
        exact ⟨_, rfl, by rw [HF2.out]; exact HS.out, by rw [HF2.out]; exact HI.out, HB.out, HK.out⟩
end Go.Proofs.Ytgiefblcckikeaa.M
end

section

/- The eye: a transaction. -/
set_option maxRecDepth 100000
set_option linter.unusedVariables false
set_option linter.unusedSimpArgs false
attribute [local irreducible] Go.wpStill
namespace Go.Proofs.Ytgiefblcckikeaa.M
open Go.RowKit Go.Proofs.YtgiefblcckikeaaW.PrintWords Go.Proofs.YtgiefblcckikeaaW.PrintLast Go.Proofs.YtgiefblcckikeaaW.PrintMore Go.Proofs.Ytgiefblcckikeaa.G
def eTxn (s : EyeS) : TxD × EyeS :=
  (⟨(eNum s).1, (eNum (eNum s).2).1, (eData (eNum (eNum s).2).2).1, (eList eNum (eData (eNum (eNum s).2).2).2).1, (eList eKey (eList eNum (eData (eNum (eNum s).2).2).2).2).1, (eList eKey (eList eKey (eList eNum (eData (eNum (eNum s).2).2).2).2).2).1⟩,
    (eList eKey (eList eKey (eList eNum (eData (eNum (eNum s).2).2).2).2).2).2)
theorem okS_txn {s : EyeS} (h : okS s) : okS (eTxn s).2 := okS_list (fun _ => okS_key) (okS_list (fun _ => okS_key) (okS_list (fun _ => okS_num) (okS_data (okS_num (okS_num h)))))
def TxP (w0 w : World) (x : Nat) (y : TxD) (s' : EyeS) (e : Ending) (w' : World) : Prop := ∃ v2 v3 v4 v5 : Value, e = .returned (.agg #[.int .i64 y.f0, .int .i64 y.f1, v2, v3, v4, v5]) ∧ Kd.R (Kd.int .u8) 5 w' w.heap.size (fun _ => True) v2 y.f2 ∧ Kd.R (Kd.int .i64) 2 w' w.heap.size (fun _ => True) v3 y.f3 ∧ Kd.R G.k93 93 w' w.heap.size (fun k => some k ≠ v5.ownBlock) v4 y.f4 ∧ Kd.R G.k93 93 w' w.heap.size (fun k => some k ≠ v4.ownBlock) v5 y.f5 ∧ IsEye w0 w' x s' ∧ Below w0.heap.size w0 w' ∧ KeepS (fun i => i = x) w w'
theorem R_keepO {α : Type} {d : Kd α} {el base : Nat} {w w' : World} {v : Value} {l : List α} {ok S : Nat → Prop} (ho : ∀ i, ok i → ¬ S i) (h : Kd.R d el w base ok v l) (hk : KeepS S w w') : Kd.R d el w' base ok v l :=
  Kd.R_step h (fun k hk2 hlt => hk.block k hlt (ho k hk2))
abbrev zTxn : Obj := .cells #[.int .i64 0, .int .i64 0, .slice none 0 0, .slice none 0 0, .slice none 0 0, .slice none 0 0] 36
set_option maxHeartbeats 4000000 in
theorem eTxn_is {w0 w : World} {x : Nat} {s : EyeS} (hI : IsEye w0 w x s) (hB : Below w0.heap.size w0 w) (hok : okS s) :
    Calls Try.prog 44 #[.pointer (some ⟨x, 0, none⟩)] w fun e w' => TxP w0 w x (eTxn s).1 (eTxn s).2 e w' := by
  have hbx := heap_alloc_new w zTxn
  have hb1 := (Below.refl _ w).alloc (Nat.le_refl _) zTxn
  have HLT := Lib.hid (show x < w.heap.size from hI.lt); have HGEW := Lib.hid (show w0.heap.size ≤ w.heap.size from hB.size)
  have HN := Lib.hid (eNum_is (hI.below hb1) (hB.alloc hB.size _) hok)
  have HK1 := Lib.hid (KeepS.of_below (fun i => i = x) hb1)
  obtain ⟨r, HF0⟩ : ∃ r, eTxn s = r := ⟨_, rfl⟩
  have HF := HF0
  unfold eTxn at HF
  obtain ⟨a, ha⟩ : ∃ a, (eNum s).1 = a := ⟨_, rfl⟩
  obtain ⟨s1, hs1⟩ : ∃ s1, (eNum s).2 = s1 := ⟨_, rfl⟩
  have ho1 := okS_num hok
  rw [ha, hs1] at HN HF
  rw [hs1] at ho1
  obtain ⟨b, hb⟩ : ∃ b, (eNum s1).1 = b := ⟨_, rfl⟩
  obtain ⟨s2, hs2⟩ : ∃ s2, (eNum s1).2 = s2 := ⟨_, rfl⟩
  have ho2 := okS_num ho1
  rw [hb, hs2] at HF
  rw [hs2] at ho2
  obtain ⟨l2, hl2⟩ : ∃ l2, (eData s2).1 = l2 := ⟨_, rfl⟩
  obtain ⟨s3, hs3⟩ : ∃ s3, (eData s2).2 = s3 := ⟨_, rfl⟩
  have ho3 := okS_data ho2
  rw [hl2, hs3] at HF
  rw [hs3] at ho3
  obtain ⟨l3, hl3⟩ : ∃ l3, (eList eNum s3).1 = l3 := ⟨_, rfl⟩
  obtain ⟨s4, hs4⟩ : ∃ s4, (eList eNum s3).2 = s4 := ⟨_, rfl⟩
  have ho4 := okS_list (g := eNum) (fun _ => okS_num) ho3
  rw [hl3, hs4] at HF
  rw [hs4] at ho4
  obtain ⟨l4, hl4⟩ : ∃ l4, (eList eKey s4).1 = l4 := ⟨_, rfl⟩
  obtain ⟨s5, hs5⟩ : ∃ s5, (eList eKey s4).2 = s5 := ⟨_, rfl⟩
  have ho5 := okS_list (g := eKey) (fun _ => okS_key) ho4
  rw [hl4, hs5] at HF
  rw [hs5] at ho5
  obtain ⟨l5, hl5⟩ : ∃ l5, (eList eKey s5).1 = l5 := ⟨_, rfl⟩
  obtain ⟨s6, hs6⟩ : ∃ s6, (eList eKey s5).2 = s6 := ⟨_, rfl⟩
  rw [hl5, hs6] at HF
  have HF := Lib.hid (HF0.trans HF.symm)
  have HO1 := Lib.hid ho1; have HO2 := Lib.hid ho2; have HO3 := Lib.hid ho3; have HO4 := Lib.hid ho4; have HO5 := Lib.hid ho5
  have HE2 := Lib.hid (And.intro hb hs2); have HE3 := Lib.hid (And.intro hl2 hs3); have HE4 := Lib.hid (And.intro hl3 hs4); have HE5 := Lib.hid (And.intro hl4 hs5); have HE6 := Lib.hid (And.intro hl5 hs6)
  have HBX := Lib.hid hbx
  have HZ := Lib.hid (show w.heap.size < (w.alloc zTxn).heap.size by simp)
  clear ha hs1 hb hs2 hl2 hs3 hl3 hs4 hl4 hs5 hl5 hs6 ho1 ho2 ho3 ho4 ho5 hI hB hok hbx hb1
  go_enter Try.func44, Try.ntmps44
  go_wp2_with fail
  refine HN.out.mono ?_
  rintro e w1 ⟨rfl, h1, h2, h3⟩
  have h4 := eNum_is h1 h2 HO1.out
  rw [HE2.out.1, HE2.out.2] at h4
  have HN2 := Lib.hid h4
  have HZ1 := Lib.hid (Nat.lt_of_lt_of_le HZ.out h3.size)
  have HB1 := Lib.hid ((h3.block w.heap.size HZ.out (by have := HLT.out; omega)).trans HBX.out)
  have HK2 := Lib.hid (HK1.out.trans h3)
  clear h1 h2 h3 h4
  go_wp2_with fail
  refine HN2.out.mono ?_
  rintro e w2 ⟨rfl, h1, h2, h3⟩
  have h4 := eData_is h1 h2 HO2.out
  rw [HE3.out.1, HE3.out.2] at h4
  have HN3 := Lib.hid h4
  have HZ2 := Lib.hid (Nat.lt_of_lt_of_le HZ1.out h3.size)
  have HB2 := Lib.hid ((h3.block w.heap.size HZ1.out (by have := HLT.out; omega)).trans HB1.out)
  have HK3 := Lib.hid (HK2.out.trans h3)
  clear h1 h2 h3 h4
  go_wp2_with fail
  refine HN3.out.mono ?_
  rintro e w3 ⟨v2, rfl, hv, h1, h2, h3⟩
  obtain ⟨A2, c2, rfl⟩ := Kd.R_slice hv
  have HV2 := Lib.hid (show Kd.R (Kd.int .u8) 5 w3 w.heap.size (fun k => k ≠ x ∧ k ≠ w.heap.size ∧ k ≠ w3.heap.size) _ l2 from Kd.R_mono (Kd.R_lower (Kd.R_bound hv) (Nat.le_of_lt HZ2.out)) (fun k hk => by
    have h7 := hk.2.1; have h8 := hk.2.2.1; have := HZ2.out; exact ⟨hk.1, by omega, by omega⟩))
  have HZ3 := Lib.hid (Nat.lt_of_lt_of_le HZ2.out h3.size)
  have HB3 := Lib.hid ((h3.block w.heap.size HZ2.out (by have := HLT.out; omega)).trans HB2.out)
  have HK4 := Lib.hid (HK3.out.trans h3)
  have H1 := Lib.hid h1; have H2 := Lib.hid h2
  clear h1 h2 h3 hv
  go_wp2_with fail
  have hby := heap_alloc_new w3 (.cells #[.int .i64 a, .int .i64 b, .slice A2 l2.length c2, .slice none 0 0, .slice none 0 0, .slice none 0 0] 36)
  have hay := (Below.refl _ w3).alloc (Nat.le_refl _) (.cells #[.int .i64 a, .int .i64 b, .slice A2 l2.length c2, .slice none 0 0, .slice none 0 0, .slice none 0 0] 36)
  have hzy : (w3.alloc (.cells #[.int .i64 a, .int .i64 b, .slice A2 l2.length c2, .slice none 0 0, .slice none 0 0, .slice none 0 0] 36)).heap.size = w3.heap.size + 1 := by simp
  have HVA := Lib.hid (Kd.R_alloc HV2.out (.cells #[.int .i64 a, .int .i64 b, .slice A2 l2.length c2, .slice none 0 0, .slice none 0 0, .slice none 0 0] 36))
  obtain ⟨w4, hw4⟩ : ∃ w4, w3.alloc (.cells #[.int .i64 a, .int .i64 b, .slice A2 l2.length c2, .slice none 0 0, .slice none 0 0, .slice none 0 0] 36) = w4 := ⟨_, rfl⟩
  rw [hw4] at hby hay hzy HVA ⊢
  obtain ⟨g, hg⟩ : ∃ g, w3.heap.size = g := ⟨_, rfl⟩
  have HI4 := Lib.hid (H1.out.below hay)
  have HD4 := Lib.hid (H2.out.trans (hay.mono H2.out.size))
  have HG4 := Lib.hid ((hay.block w.heap.size HZ3.out).trans HB3.out)
  have HQ4 := Lib.hid (HK4.out.then_below hay)
  rw [hg] at hby hzy HVA HZ3 ⊢
  have HY4 := Lib.hid hby
  have HGZ := Lib.hid (show w.heap.size < g ∧ x < w.heap.size from ⟨HZ3.out, HLT.out⟩)
  have HZZ4 := Lib.hid (show g < w4.heap.size by omega)
  clear hw4 hg hby hay hzy H1 H2 HB3 HK4 HV2
  have HV2 := HVA
  clear HVA
  have h4 := eList_nums HI4.out HD4.out HO3.out
  rw [HE4.out.1, HE4.out.2] at h4
  have HNN3 := Lib.hid h4
  clear h4
  refine HNN3.out.mono ?_
  rintro e w5 ⟨v3, rfl, hv, h1, h2, h3⟩
  have hvr := Kd.S_R hv
  obtain ⟨A3, c3, rfl⟩ := Kd.R_slice hvr
  have HV3 := Lib.hid (show Kd.R (Kd.int .i64) 2 w5 w.heap.size (fun k => k ≠ x ∧ k ≠ w.heap.size ∧ k ≠ g) _ l3 from Kd.R_mono (Kd.R_lower (Kd.R_bound hvr) HQ4.out.size) (fun k hk => by
    have h7 := hk.2.1; have h9 := HGZ.out; have h8 := HZZ4.out; refine ⟨?_, ?_, ?_⟩ <;> omega))
  have HW2 := Lib.hid (R_keepO (S := fun i => i = x) (fun i hi => hi.1) HV2.out h3)
  clear HV2
  have HV2 := HW2
  clear HW2
  have HG5 := Lib.hid ((h3.block w.heap.size (by have := HGZ.out; have := HZZ4.out; omega) (by have := HGZ.out; omega)).trans HG4.out)
  have HY5 := Lib.hid ((h3.block g HZZ4.out (by have := HGZ.out; omega)).trans HY4.out)
  have HQ5 := Lib.hid (HQ4.out.trans h3)
  have HZZ5 := Lib.hid (Nat.lt_of_lt_of_le HZZ4.out h3.size)
  have HI5 := Lib.hid h1
  have HD5 := Lib.hid h2
  have d3 : w5.cell? ⟨g, 3, none⟩ = some (.slice none 0 0) := by simp [World.cell?, HY5.out]
  have z3 : w5.frozen? ⟨g, 3, none⟩ = false := by simp [World.frozen?, HY5.out]
  clear hv hvr h1 h2 h3 HNN3
  go_wp2_with fail
  have HY6 := Lib.hid (blk_put (cs := #[.int .i64 a, .int .i64 b, .slice A2 l2.length c2, .slice none 0 0, .slice none 0 0, .slice none 0 0]) HY5.out 3 (.slice A3 l3.length c3) rfl)
  have HG6 := Lib.hid ((Below.heap_setCell w5 ⟨g, 3, none⟩ (.slice A3 l3.length c3) w.heap.size (by have := HGZ.out; simp; omega)).trans HG5.out)
  have HI6 := Lib.hid (HI5.out.at (Below.heap_setCell w5 ⟨g, 3, none⟩ (.slice A3 l3.length c3) x (by have := HGZ.out; simp; omega)))
  have HD6 := Lib.hid (HD5.out.setCell (p := ⟨g, 3, none⟩) (by have := HGZ.out; have := HGEW.out; simp; omega) (.slice A3 l3.length c3))
  have HQ6 := Lib.hid (HQ5.out.set (p := ⟨g, 3, none⟩) (.inr (by have := HGZ.out; simp; omega)) (.slice A3 l3.length c3))
  have HZZ6 := Lib.hid (show g < (w5.setCell ⟨g, 3, none⟩ (.slice A3 l3.length c3)).heap.size by rw [World.size_setCell]; exact HZZ5.out)
  have HW2 := Lib.hid (Kd.R_far (p := ⟨g, 3, none⟩) HV2.out (fun k hk => hk.2.2) (.slice A3 l3.length c3))
  have HW3 := Lib.hid (Kd.R_far (p := ⟨g, 3, none⟩) HV3.out (fun k hk => hk.2.2) (.slice A3 l3.length c3))
  obtain ⟨w6, hw6⟩ : ∃ w6, w5.setCell ⟨g, 3, none⟩ (.slice A3 l3.length c3) = w6 := ⟨_, rfl⟩
  rw [hw6] at HY6 HG6 HI6 HD6 HQ6 HZZ6 HW2 HW3 ⊢
  clear hw6 HY5 HG5 HI5 HD5 HQ5 HZZ5 HV2 HV3 d3 z3
  have HV2 := HW2
  clear HW2
  have HV3 := HW3
  clear HW3
  have h4 := eList_keys HI6.out HD6.out HO4.out
  rw [HE5.out.1, HE5.out.2] at h4
  have HNN4 := Lib.hid h4
  clear h4
  refine HNN4.out.mono ?_
  rintro e w7 ⟨v4, rfl, hv, h1, h2, h3⟩
  have hvr := Kd.S_R hv
  obtain ⟨A4, c4, rfl⟩ := Kd.R_slice hvr
  have HV4 := Lib.hid (show Kd.R G.k93 93 w7 w.heap.size (fun k => k ≠ x ∧ k ≠ w.heap.size ∧ k ≠ g) _ l4 from Kd.R_mono (Kd.R_lower (Kd.R_bound hvr) HQ6.out.size) (fun k hk => by
    have h7 := hk.2.1; have h9 := HGZ.out; have h8 := HZZ6.out; refine ⟨?_, ?_, ?_⟩ <;> omega))
  have HW2 := Lib.hid (R_keepO (S := fun i => i = x) (fun i hi => hi.1) HV2.out h3)
  clear HV2
  have HV2 := HW2
  clear HW2
  have HW3 := Lib.hid (R_keepO (S := fun i => i = x) (fun i hi => hi.1) HV3.out h3)
  clear HV3
  have HV3 := HW3
  clear HW3
  have HG7 := Lib.hid ((h3.block w.heap.size (by have := HGZ.out; have := HZZ6.out; omega) (by have := HGZ.out; omega)).trans HG6.out)
  have HY7 := Lib.hid ((h3.block g HZZ6.out (by have := HGZ.out; omega)).trans HY6.out)
  have HQ7 := Lib.hid (HQ6.out.trans h3)
  have HZZ7 := Lib.hid (Nat.lt_of_lt_of_le HZZ6.out h3.size)
  have HI7 := Lib.hid h1
  have HD7 := Lib.hid h2
  have d4 : w7.cell? ⟨g, 4, none⟩ = some (.slice none 0 0) := by simp [World.cell?, HY7.out]
  have z4 : w7.frozen? ⟨g, 4, none⟩ = false := by simp [World.frozen?, HY7.out]
  clear hv hvr h1 h2 h3 HNN4
  go_wp2_with fail
  have HY8 := Lib.hid (blk_put (cs := #[.int .i64 a, .int .i64 b, .slice A2 l2.length c2, .slice A3 l3.length c3, .slice none 0 0, .slice none 0 0]) HY7.out 4 (.slice A4 l4.length c4) rfl)
  have HG8 := Lib.hid ((Below.heap_setCell w7 ⟨g, 4, none⟩ (.slice A4 l4.length c4) w.heap.size (by have := HGZ.out; simp; omega)).trans HG7.out)
  have HI8 := Lib.hid (HI7.out.at (Below.heap_setCell w7 ⟨g, 4, none⟩ (.slice A4 l4.length c4) x (by have := HGZ.out; simp; omega)))
  have HD8 := Lib.hid (HD7.out.setCell (p := ⟨g, 4, none⟩) (by have := HGZ.out; have := HGEW.out; simp; omega) (.slice A4 l4.length c4))
  have HQ8 := Lib.hid (HQ7.out.set (p := ⟨g, 4, none⟩) (.inr (by have := HGZ.out; simp; omega)) (.slice A4 l4.length c4))
  have HZZ8 := Lib.hid (show g < (w7.setCell ⟨g, 4, none⟩ (.slice A4 l4.length c4)).heap.size by rw [World.size_setCell]; exact HZZ7.out)
  have HW2 := Lib.hid (Kd.R_far (p := ⟨g, 4, none⟩) HV2.out (fun k hk => hk.2.2) (.slice A4 l4.length c4))
  have HW3 := Lib.hid (Kd.R_far (p := ⟨g, 4, none⟩) HV3.out (fun k hk => hk.2.2) (.slice A4 l4.length c4))
  have HW4 := Lib.hid (Kd.R_far (p := ⟨g, 4, none⟩) HV4.out (fun k hk => hk.2.2) (.slice A4 l4.length c4))
  obtain ⟨w8, hw8⟩ : ∃ w8, w7.setCell ⟨g, 4, none⟩ (.slice A4 l4.length c4) = w8 := ⟨_, rfl⟩
  rw [hw8] at HY8 HG8 HI8 HD8 HQ8 HZZ8 HW2 HW3 HW4 ⊢
  clear hw8 HY7 HG7 HI7 HD7 HQ7 HZZ7 HV2 HV3 HV4 d4 z4
  have HV2 := HW2
  clear HW2
  have HV3 := HW3
  clear HW3
  have HV4 := HW4
  clear HW4
  have h4 := eList_keys HI8.out HD8.out HO5.out
  rw [HE6.out.1, HE6.out.2] at h4
  have HNN5 := Lib.hid h4
  clear h4
  refine HNN5.out.mono ?_
  rintro e w9 ⟨v5, rfl, hv, h1, h2, h3⟩
  have hvr := Kd.S_R hv
  obtain ⟨A5, c5, rfl⟩ := Kd.R_slice hvr
  have HV5 := Lib.hid (show Kd.R G.k93 93 w9 w.heap.size (fun k => k ≠ x ∧ k ≠ w.heap.size ∧ k ≠ g ∧ w8.heap.size ≤ k) _ l5 from Kd.R_mono (Kd.R_lower (Kd.R_bound hvr) HQ8.out.size) (fun k hk => by
    have h7 := hk.2.1; have h9 := HGZ.out; have h8 := HZZ8.out; refine ⟨?_, ?_, ?_, ?_⟩ <;> omega))
  have HW2 := Lib.hid (R_keepO (S := fun i => i = x) (fun i hi => hi.1) HV2.out h3)
  clear HV2
  have HV2 := HW2
  clear HW2
  have HW3 := Lib.hid (R_keepO (S := fun i => i = x) (fun i hi => hi.1) HV3.out h3)
  clear HV3
  have HV3 := HW3
  clear HW3
  have HW4 := Lib.hid (R_keepO (S := fun i => i = x) (fun i hi => hi.1.1) (show Kd.R G.k93 93 w8 w.heap.size (fun k => (k ≠ x ∧ k ≠ w.heap.size ∧ k ≠ g) ∧ k < w8.heap.size) _ l4 from Kd.R_mono (Kd.R_bound HV4.out) (fun k hk => ⟨hk.1, hk.2.2.1⟩)) h3)
  clear HV4
  have HV4 := HW4
  clear HW4
  have HG9 := Lib.hid ((h3.block w.heap.size (by have := HGZ.out; have := HZZ8.out; omega) (by have := HGZ.out; omega)).trans HG8.out)
  have HY9 := Lib.hid ((h3.block g HZZ8.out (by have := HGZ.out; omega)).trans HY8.out)
  have HQ9 := Lib.hid (HQ8.out.trans h3)
  have HZZ9 := Lib.hid (Nat.lt_of_lt_of_le HZZ8.out h3.size)
  have HI9 := Lib.hid h1
  have HD9 := Lib.hid h2
  have d5 : w9.cell? ⟨g, 5, none⟩ = some (.slice none 0 0) := by simp [World.cell?, HY9.out]
  have z5 : w9.frozen? ⟨g, 5, none⟩ = false := by simp [World.frozen?, HY9.out]
  clear hv hvr h1 h2 h3 HNN5
  have d0 : w9.cell? ⟨g, 0, none⟩ = some (.int .i64 a) := by simp [World.cell?, HY9.out]
  have d1 : w9.cell? ⟨g, 1, none⟩ = some (.int .i64 b) := by simp [World.cell?, HY9.out]
  have d2 : w9.cell? ⟨g, 2, none⟩ = some (.slice A2 l2.length c2) := by simp [World.cell?, HY9.out]
  have d3 : w9.cell? ⟨g, 3, none⟩ = some (.slice A3 l3.length c3) := by simp [World.cell?, HY9.out]
  have d4 : w9.cell? ⟨g, 4, none⟩ = some (.slice A4 l4.length c4) := by simp [World.cell?, HY9.out]
  have e0 : w9.cell? ⟨w.heap.size, 0, none⟩ = some (.int .i64 0) := by simp [World.cell?, HG9.out]
  have y0 : w9.frozen? ⟨w.heap.size, 0, none⟩ = false := by simp [World.frozen?, HG9.out]
  have e1 : w9.cell? ⟨w.heap.size, 1, none⟩ = some (.int .i64 0) := by simp [World.cell?, HG9.out]
  have y1 : w9.frozen? ⟨w.heap.size, 1, none⟩ = false := by simp [World.frozen?, HG9.out]
  have e2 : w9.cell? ⟨w.heap.size, 2, none⟩ = some (.slice none 0 0) := by simp [World.cell?, HG9.out]
  have y2 : w9.frozen? ⟨w.heap.size, 2, none⟩ = false := by simp [World.frozen?, HG9.out]
  have e3 : w9.cell? ⟨w.heap.size, 3, none⟩ = some (.slice none 0 0) := by simp [World.cell?, HG9.out]
  have y3 : w9.frozen? ⟨w.heap.size, 3, none⟩ = false := by simp [World.frozen?, HG9.out]
  have e4 : w9.cell? ⟨w.heap.size, 4, none⟩ = some (.slice none 0 0) := by simp [World.cell?, HG9.out]
  have y4 : w9.frozen? ⟨w.heap.size, 4, none⟩ = false := by simp [World.frozen?, HG9.out]
  have e5 : w9.cell? ⟨w.heap.size, 5, none⟩ = some (.slice none 0 0) := by simp [World.cell?, HG9.out]
  have y5 : w9.frozen? ⟨w.heap.size, 5, none⟩ = false := by simp [World.frozen?, HG9.out]
  have HGN : w.heap.size ≠ g := by have := HGZ.out; omega
  go_wp2_with fail
  have HEB := Lib.hid (blk_put (cs := #[.int .i64 a, .int .i64 b, .slice A2 l2.length c2, .slice A3 l3.length c3, .slice A4 l4.length c4, .slice none 0 0]) (blk_put (cs := #[.int .i64 a, .int .i64 b, .slice A2 l2.length c2, .slice A3 l3.length c3, .slice none 0 0, .slice none 0 0]) (blk_put (cs := #[.int .i64 a, .int .i64 b, .slice A2 l2.length c2, .slice none 0 0, .slice none 0 0, .slice none 0 0]) (blk_put (cs := #[.int .i64 a, .int .i64 b, .slice none 0 0, .slice none 0 0, .slice none 0 0, .slice none 0 0]) (blk_put (cs := #[.int .i64 a, .int .i64 0, .slice none 0 0, .slice none 0 0, .slice none 0 0, .slice none 0 0]) (blk_put (cs := #[.int .i64 0, .int .i64 0, .slice none 0 0, .slice none 0 0, .slice none 0 0, .slice none 0 0]) ((Below.heap_setCell w9 ⟨g, 5, none⟩ (.slice A5 l5.length c5) w.heap.size HGN).trans HG9.out) 0 (.int .i64 a) rfl) 1 (.int .i64 b) rfl) 2 (.slice A2 l2.length c2) rfl) 3 (.slice A3 l3.length c3) rfl) 4 (.slice A4 l4.length c4) rfl) 5 (.slice A5 l5.length c5) rfl)
  have HKS := Lib.hid ((((((((KeepS.refl (fun i => i = g ∨ i = w.heap.size) w9).set (p := ⟨g, 5, none⟩) (.inl (.inl rfl)) (.slice A5 l5.length c5)).set (p := ⟨w.heap.size, 0, none⟩) (.inl (.inr rfl)) (.int .i64 a)).set (p := ⟨w.heap.size, 1, none⟩) (.inl (.inr rfl)) (.int .i64 b)).set (p := ⟨w.heap.size, 2, none⟩) (.inl (.inr rfl)) (.slice A2 l2.length c2)).set (p := ⟨w.heap.size, 3, none⟩) (.inl (.inr rfl)) (.slice A3 l3.length c3)).set (p := ⟨w.heap.size, 4, none⟩) (.inl (.inr rfl)) (.slice A4 l4.length c4)).set (p := ⟨w.heap.size, 5, none⟩) (.inl (.inr rfl)) (.slice A5 l5.length c5))
  obtain ⟨W, hW⟩ : ∃ W, ((((((w9.setCell ⟨g, 5, none⟩ (.slice A5 l5.length c5)).setCell ⟨w.heap.size, 0, none⟩ (.int .i64 a)).setCell ⟨w.heap.size, 1, none⟩ (.int .i64 b)).setCell ⟨w.heap.size, 2, none⟩ (.slice A2 l2.length c2)).setCell ⟨w.heap.size, 3, none⟩ (.slice A3 l3.length c3)).setCell ⟨w.heap.size, 4, none⟩ (.slice A4 l4.length c4)).setCell ⟨w.heap.size, 5, none⟩ (.slice A5 l5.length c5) = W := ⟨_, rfl⟩
  rw [hW] at HEB HKS ⊢
  clear hW
  refine bodyPost_ret (results_cell_row rfl _ _ w.heap.size 36 #[.int .i64 a, .int .i64 b, .slice A2 l2.length c2, .slice A3 l3.length c3, .slice A4 l4.length c4, .slice A5 l5.length c5] (0, 0) _ rfl HEB.out Try.underlying36 rfl (by kernel_rfl)) rfl ?_
  rw [HF.out]
  have hq := HQ9.out.size
  have hgz := HGZ.out
  refine ⟨_, _, _, _, rfl, Kd.R_mono (R_keepO (fun i hi => ?_) HV2.out HKS.out) (fun _ _ => trivial), Kd.R_mono (R_keepO (fun i hi => ?_) HV3.out HKS.out) (fun _ _ => trivial), Kd.R_mono (R_keepO (fun i hi => ?_) HV4.out HKS.out) (fun k hk e => ?_), Kd.R_mono (R_keepO (fun i hi => ?_) HV5.out HKS.out) (fun k hk e => ?_), HI9.out.at (HKS.out.block x (by omega) ?_), HD9.out.trans (HKS.out.below (B := w0.heap.size) HD9.out.size ?_), HQ9.out.then_base (HKS.out.below (B := w.heap.size) hq ?_)⟩
  · rintro (h | h); exact hi.2.2 h; exact hi.2.1 h
  · rintro (h | h); exact hi.2.2 h; exact hi.2.1 h
  · rintro (h | h); exact hi.1.2.2 h; exact hi.1.2.1 h
  · have h5 := HV5.out.1 k e.symm
    have := hk.2
    have := h5.2.2.2
    omega
  · rintro (h | h); exact hi.2.2.1 h; exact hi.2.1 h
  · have h5 := HV4.out.1 k e.symm
    have := hk.2.2.2
    have := h5.2
    omega
  · rintro (h | h) <;> omega
  · have := HGEW.out
    rintro i (h | h) <;> omega
  · rintro i (h | h) <;> omega
end Go.Proofs.Ytgiefblcckikeaa.M
end

section

/- The eye's lists: transactions (printed by geneye04.py). -/
set_option maxRecDepth 100000
set_option linter.unusedVariables false
set_option linter.unusedSimpArgs false
attribute [local irreducible] Go.wpStill
namespace Go.Proofs.Ytgiefblcckikeaa.M
open Go.RowKit Go.Proofs.YtgiefblcckikeaaW.PrintWords Go.Proofs.YtgiefblcckikeaaW.PrintLast Go.Proofs.YtgiefblcckikeaaW.PrintMore Go.Proofs.Ytgiefblcckikeaa.G
def LiI_txns (g : EyeS → TxD × EyeS) (n : Int) (s0 : EyeS) (w0 w : World) (x : Nat) (v i : Value) (W : World) : Prop := ∃ (U : List TxD) (s : EyeS), i = .int .i64 (U.length : Int) ∧ U.length ≤ 4096 ∧ U.length ≤ n.toNat ∧ (s.e = 0 → n ≤ 4096) ∧ Kd.S G.k36 36 W w.heap.size (fun _ => True) v U ∧ IsEye w0 W x s ∧ Below w0.heap.size w0 W ∧ KeepS (fun i => i = x) w W ∧ okS s ∧ eList g s0 = (U ++ (eMany g (n.toNat - U.length) s).1, (eMany g (n.toNat - U.length) s).2)
set_option maxHeartbeats 2000000 in
theorem eList_txns {w0 w : World} {x : Nat} {s : EyeS} (hI : IsEye w0 w x s) (hB : Below w0.heap.size w0 w) (hok : okS s) :
    Calls Try.prog 87 #[.pointer (some ⟨x, 0, none⟩), .func (.func 44) #[.pointer (some ⟨x, 0, none⟩)] #[]] w fun e w' => LiP G.k36 36 w0 w x (eList eTxn s).1 (eList eTxn s).2 e w' := by
  have HN := Lib.hid (eNum_is hI hB hok)
  have HOK := Lib.hid (okS_num hok)
  have HLT := Lib.hid hI.lt
  have HGEW := Lib.hid (show w0.heap.size ≤ w.heap.size from hB.size)
  obtain ⟨n, hn⟩ : ∃ n, (eNum s).1 = n := ⟨_, rfl⟩
  obtain ⟨s1, hs1⟩ : ∃ s1, (eNum s).2 = s1 := ⟨_, rfl⟩
  have HCT := Lib.hid (show eCount s = eWrong (decide (n < 0) || decide (4096 < n)) s1 by unfold eCount; rw [hn, hs1])
  have Hapi.Txn := Lib.hid (show eList eTxn s = eMany eTxn n.toNat (eCount s) by unfold eList; rw [hn])
  rw [hn, hs1] at HN
  rw [hs1] at HOK
  clear hI hB hok hn hs1
  go_enter Try.func87, Try.ntmps87
  go_wp2_with fail
  refine HN.out.mono ?_
  rintro e w1 ⟨rfl, h1, h2, h3⟩
  have H1 := Lib.hid h1; have H2 := Lib.hid h2; have H3 := Lib.hid h3
  clear h1 h2 h3 HN
  go_upto_region 2 with fail
  go_cut [] (fun wx => IsEye w0 wx x (eCount s) ∧ Below w0.heap.size w0 wx ∧ KeepS (fun i => i = x) w wx)
  case first =>
    by_cases ha : n < 0
    · have hq : decide (n < 0) = true := decide_eq_true ha
      have HW := Lib.hid (eWrong_is H1.out H2.out true)
      have HC2 := Lib.hid (show eCount s = eWrong true s1 by rw [HCT.out, hq, Bool.true_or])
      clear ha
      go_wp2_with fail
      refine HW.out.mono ?_
      rintro e w2 ⟨rfl, h1, h2, h3⟩
      have G1 := Lib.hid h1; have G2 := Lib.hid h2; have G3 := Lib.hid (H3.out.trans h3)
      clear h1 h2 h3
      go_wp2_with fail
      go_meet
      exact ⟨by rw [HC2.out]; exact G1.out, G2.out, G3.out⟩
    · have hq : decide (n < 0) = false := decide_eq_false ha
      obtain ⟨b, hb⟩ : ∃ b, decide ((4096 : Int) < n) = b := ⟨_, rfl⟩
      have HW := Lib.hid (eWrong_is H1.out H2.out b)
      have HC2 := Lib.hid (show eCount s = eWrong b s1 by rw [HCT.out, hq, hb, Bool.false_or])
      clear ha
      go_wp2_with fail
      refine HW.out.mono ?_
      rintro e w2 ⟨rfl, h1, h2, h3⟩
      have G1 := Lib.hid h1; have G2 := Lib.hid h2; have G3 := Lib.hid (H3.out.trans h3)
      clear h1 h2 h3
      go_wp2_with fail
      go_meet
      exact ⟨by rw [HC2.out]; exact G1.out, G2.out, G3.out⟩
  case rest =>
    obtain ⟨h1, h2, h3⟩ := hcut
    have G1 := Lib.hid h1; have G2 := Lib.hid h2; have G3 := Lib.hid h3
    have HE0 := Lib.hid (show (eCount s).e = 0 → n ≤ 4096 by
      intro h
      rw [HCT.out] at h
      by_cases h5 : (4096 : Int) < n
      · rw [decide_eq_true h5, Bool.or_true] at h
        unfold eWrong at h
        split at h
        · cases h
        · next h6 => exact absurd ⟨h, rfl⟩ h6
      · omega)
    have HOC := Lib.hid (show okS (eCount s) by rw [HCT.out]; exact okS_wrong _ HOK.out)
    clear h1 h2 h3
    go_wp2_with fail
    go_loopw [6, 7] (fun v i wr => LiI_txns eTxn n s w0 w x v i wr) (fun _ i _ => n.toNat - (intOf i).toNat)
    case atStart => exact ⟨[], eCount s, rfl, by simp, by simp, HE0.out, Kd.S_nil _ _ _ _ _, G1.out, G2.out, G3.out, HOC.out, by simpa using Hapi.Txn.out⟩
    case round =>
      obtain ⟨U, s2, rfl, hU, hUn, hE, hS, hI, hB, hK, hO, hF⟩ := hrel
      have HI := Lib.hid hI; have HB := Lib.hid hB; have HK := Lib.hid hK; have HO := Lib.hid hO; have HF := Lib.hid hF; have HS := Lib.hid hS; have HUN := Lib.hid hUn; have HE := Lib.hid hE
      obtain ⟨Av, cv, rfl⟩ := Kd.S_slice hS
      obtain ⟨A, c, g1, g2, g3, g4⟩ := hI
      have c1 : wr.cell? ⟨x, 1, none⟩ = some (.int .i64 s2.e) := by simp [World.cell?, g1]
      clear hB hK hO hF hS hUn hE g1 g2 g3 g4
      by_cases hlt : (U.length : Int) < n
      · by_cases he : s2.e = 0
        · have hq1 : decide ((U.length : Int) < n) = true := decide_eq_true hlt
          have hq2 : (s2.e == 0) = true := by rw [he]; rfl
          have HN4 := Lib.hid (HE.out he)
          have HG := Lib.hid (eTxn_is HI.out HB.out HO.out)
          have HGO := Lib.hid (okS_txn HO.out)
          obtain ⟨y, hy⟩ : ∃ y, (eTxn s2).1 = y := ⟨_, rfl⟩
          obtain ⟨s3, hs3⟩ : ∃ s3, (eTxn s2).2 = s3 := ⟨_, rfl⟩
          have HF2 := Lib.hid (show eList eTxn s = ((U ++ [y]) ++ (eMany eTxn (n.toNat - (U ++ [y]).length) s3).1, (eMany eTxn (n.toNat - (U ++ [y]).length) s3).2) by
            rw [HF.out]
            have e1 : n.toNat - U.length = (n.toNat - (U ++ [y]).length) + 1 := by simp; omega
            rw [e1]
            simp only [eMany, he, if_true, hy, hs3, List.append_assoc, List.singleton_append])
          have HLT2 := Lib.hid hlt
          rw [hy, hs3] at HG
          rw [hs3] at HGO
          clear hlt he hy hs3
          go_wp2_with fail
          refine HG.out.mono ?_
          rintro e w3 ⟨v2, v3, v4, v5, rfl, r2, r3, r4, r5, h1, h2, h3⟩
          obtain ⟨A2, c2, rfl⟩ := Kd.R_slice r2
          obtain ⟨A3, c3, rfl⟩ := Kd.R_slice r3
          obtain ⟨A4, c4, rfl⟩ := Kd.R_slice r4
          obtain ⟨A5, c5, rfl⟩ := Kd.R_slice r5
          have HBW := Lib.hid (show w.heap.size ≤ wr.heap.size from HK.out.size)
          have R2 := Lib.hid (show Kd.R (Kd.int .u8) 5 w3 w.heap.size (fun k => wr.heap.size ≤ k) _ y.f2 from Kd.R_mono (Kd.R_lower (Kd.R_bound r2) HBW.out) (fun k hk => hk.2.1))
          have R3 := Lib.hid (show Kd.R (Kd.int .i64) 2 w3 w.heap.size (fun k => wr.heap.size ≤ k) _ y.f3 from Kd.R_mono (Kd.R_lower (Kd.R_bound r3) HBW.out) (fun k hk => hk.2.1))
          have R4 := Lib.hid (show Kd.R G.k93 93 w3 w.heap.size (fun k => wr.heap.size ≤ k) _ y.f4 from Kd.R_mono (Kd.R_lower (Kd.R_bound r4) HBW.out) (fun k hk => hk.2.1))
          have R5 := Lib.hid (show Kd.R G.k93 93 w3 w.heap.size (fun k => wr.heap.size ≤ k) _ y.f5 from Kd.R_mono (Kd.R_lower (Kd.R_bound r5) HBW.out) (fun k hk => hk.2.1))
          have HS3 := Lib.hid (show Kd.S G.k36 36 w3 w.heap.size (fun k => True ∧ ¬ wr.heap.size ≤ k) (.slice Av U.length cv) U from Kd.S_mono (Kd.S_step (Kd.S_bound HS.out) (fun k hk2 hlt => h3.block k hlt (fun e => by have := hk2.2.1; have := HLT.out; omega))) (fun k hk => ⟨trivial, by have := hk.2.2.1; omega⟩))
          have HOWN := Lib.hid (Kd.S_lt HS.out)
          have HZ3 := Lib.hid (Nat.le_trans HK.out.size h3.size)
          have K1 := Lib.hid h1; have K2 := Lib.hid h2; have K3 := Lib.hid (HK.out.trans h3)
          clear h1 h2 h3 r2 r3 r4 r5
          go_wp2_with ((with_reducible refine gate_builtin (b := .append) (xs := #[.tmp 30, .tmp 33]) rfl ?_); at_builtin; refine Kd.S_append G.k36 (w0 := w3) w.heap.size rfl (.tmp 30) (.tmp 33) 22 36 (.agg #[.int .i64 0, .int .i64 0, .slice none 0 0, .slice none 0 0, .slice none 0 0, .slice none 0 0]) 112 rfl Try.underlying22 G.info36 rfl (by decide) (by omega) _ U y [.int .i64 y.f0, .int .i64 y.f1, .slice A2 y.f2.length c2, .slice A3 y.f3.length c3, .slice A4 y.f4.length c4, .slice A5 y.f5.length c5] (fun _ => True) (fun k => wr.heap.size ≤ k) rfl rfl (G.k36_mkM _ _ _ y R2.out R3.out R4.out R5.out) (fun k hk => ⟨trivial, fun e => by have := HOWN.out k e.symm; omega⟩) (fun _ _ => trivial) HS3.out (Below.refl _ _) HZ3.out (by omega) ?_; intro v1 w5 ho hb5 hg5 hat; obtain ⟨A9, c9, rfl⟩ := Kd.S_slice ho; have HS5 := Lib.hid ho; have HK5 := Lib.hid (K3.out.then_base hb5); have HI5 := Lib.hid (K1.out.at (hb5.block x HLT.out)); have HB5 := Lib.hid (K2.out.trans (hb5.mono HGEW.out)); clear ho hb5 hg5 hat)
          go_roundw
          case rel =>
            refine ⟨U ++ [y], s3, by rw [List.length_append]; go_num, ?_, ?_, fun _ => HN4.out, (by have h9 := HS5.out; rw [List.length_append] at h9; exact h9), HI5.out, HB5.out, HK5.out, HGO.out, HF2.out⟩
            · have h1 := HN4.out; have h2 := HLT2.out
              rw [List.length_append, List.length_singleton]
              omega
            · have h2 := HLT2.out
              rw [List.length_append, List.length_singleton]
              omega
          case measure => simp [intOf]; have h2 := HLT2.out; omega
        · have hq1 : decide ((U.length : Int) < n) = true := decide_eq_true hlt
          have hq2 : (s2.e == 0) = false := beq_eq_false_iff_ne.2 he
          have HF2 := Lib.hid (show eList eTxn s = (U, s2) by rw [HF.out, eMany_stop he, List.append_nil])
          clear hlt he
          go_wp2_with fail
          go_ret
          exact ⟨_, rfl, by rw [HF2.out]; exact HS.out, by rw [HF2.out]; exact HI.out, HB.out, HK.out⟩
      · have hq1 : decide ((U.length : Int) < n) = false := decide_eq_false hlt
        have HF2 := Lib.hid (show eList eTxn s = (U, s2) by
          have e1 : n.toNat - U.length = 0 := by omega
          rw [HF.out, e1]
          simp only [eMany, List.append_nil])
        clear hlt
        go_wp2_with fail
        go_ret
        exact ⟨_, rfl, by rw [HF2.out]; exact HS.out, by rw [HF2.out]; exact HI.out, HB.out, HK.out⟩
end Go.Proofs.Ytgiefblcckikeaa.M
end

section

/- The eye: an entry (printed by geneyee04.py). -/
set_option maxRecDepth 100000
set_option linter.unusedVariables false
set_option linter.unusedSimpArgs false
attribute [local irreducible] Go.wpStill
namespace Go.Proofs.Ytgiefblcckikeaa.M
open Go.RowKit Go.Proofs.YtgiefblcckikeaaW.PrintWords Go.Proofs.YtgiefblcckikeaaW.PrintLast Go.Proofs.YtgiefblcckikeaaW.PrintMore Go.Proofs.Ytgiefblcckikeaa.G
abbrev EnD := Int × Int × Int × List TxD
def eKind (s : EyeS) : EyeS := eWrong (decide ((eNum s).1 ≠ 0) && decide ((eNum s).1 ≠ 1)) (eNum s).2
def eBody (s : EyeS) : EnD × EyeS := ((1, (eSmall s).1, (eNum (eSmall s).2).1, (eList eTxn (eNum (eSmall s).2).2).1), (eList eTxn (eNum (eSmall s).2).2).2)
def eEntry (s : EyeS) : EnD × EyeS := if ¬ (eKind s).e = 0 ∨ (eNum s).1 = 0 then ((0, 0, 0, []), eKind s) else eBody (eKind s)
theorem okS_kind {s : EyeS} (h : okS s) : okS (eKind s) := okS_wrong _ (okS_num h)
def EnP (w0 w : World) (x : Nat) (y : EnD) (s' : EyeS) (e : Ending) (w' : World) : Prop := ∃ v : Value, e = .returned (.agg #[.int .i64 y.1, .int .i64 y.2.1, .int .i64 y.2.2.1, v]) ∧ Kd.S G.k36 36 w' w.heap.size (fun _ => True) v y.2.2.2 ∧ IsEye w0 w' x s' ∧ Below w0.heap.size w0 w' ∧ KeepS (fun i => i = x) w w'
abbrev zEnt : Obj := .cells #[.int .i64 0, .int .i64 0, .int .i64 0, .slice none 0 0] 24
set_option maxHeartbeats 4000000 in
theorem eEntry_is {w0 w : World} {x : Nat} {s : EyeS} (hI : IsEye w0 w x s) (hB : Below w0.heap.size w0 w) (hok : okS s) :
    Calls Try.prog 62 #[.pointer (some ⟨x, 0, none⟩)] w fun e w' => EnP w0 w x (eEntry s).1 (eEntry s).2 e w' := by
  have hbx := heap_alloc_new w zEnt
  have hb1 := (Below.refl _ w).alloc (Nat.le_refl _) zEnt
  have HLT := Lib.hid (show x < w.heap.size from hI.lt); have HGEW := Lib.hid (show w0.heap.size ≤ w.heap.size from hB.size)
  have HN := Lib.hid (eNum_is (hI.below hb1) (hB.alloc hB.size _) hok)
  have HK1 := Lib.hid (KeepS.of_below (fun i => i = x) hb1)
  have HOK := Lib.hid (okS_kind hok)
  obtain ⟨k, hk⟩ : ∃ k, (eNum s).1 = k := ⟨_, rfl⟩
  obtain ⟨s1, hs1⟩ : ∃ s1, (eNum s).2 = s1 := ⟨_, rfl⟩
  have HKD := Lib.hid (show eKind s = eWrong (decide (k ≠ 0) && decide (k ≠ 1)) s1 by unfold eKind; rw [hk, hs1])
  have HF := Lib.hid (show eEntry s = if ¬ (eKind s).e = 0 ∨ k = 0 then ((0, 0, 0, []), eKind s) else eBody (eKind s) by unfold eEntry; rw [hk])
  rw [hk, hs1] at HN
  have HBX := Lib.hid hbx
  have HZ := Lib.hid (show w.heap.size < (w.alloc zEnt).heap.size by simp)
  clear hk hs1 hI hB hok hbx hb1
  go_enter Try.func62, Try.ntmps62
  go_wp2_with fail
  refine HN.out.mono ?_
  rintro e w1 ⟨rfl, h1, h2, h3⟩
  have H1 := Lib.hid h1; have H2 := Lib.hid h2
  have HZ1 := Lib.hid (Nat.lt_of_lt_of_le HZ.out h3.size)
  have HB1 := Lib.hid ((h3.block w.heap.size HZ.out (by have := HLT.out; omega)).trans HBX.out)
  have HK2 := Lib.hid (HK1.out.trans h3)
  clear h1 h2 h3
  go_upto_region 2 with fail
  go_cut [] (fun wx => IsEye w0 wx x (eKind s) ∧ Below w0.heap.size w0 wx ∧ KeepS (fun i => i = x) w1 wx)
  case first =>
    by_cases ha : k = 0
    · have hq : (k != 0) = false := by rw [ha]; rfl
      have HW := Lib.hid (eWrong_is H1.out H2.out false)
      have HC2 := Lib.hid (show eKind s = eWrong false s1 by rw [HKD.out, decide_eq_false (fun h => h ha), Bool.false_and])
      clear ha
      go_wp2_with fail
      refine HW.out.mono ?_
      rintro e w2 ⟨rfl, h1, h2, h3⟩
      have G1 := Lib.hid h1; have G2 := Lib.hid h2; have G3 := Lib.hid h3
      clear h1 h2 h3
      go_wp2_with fail
      go_meet
      exact ⟨by rw [HC2.out]; exact G1.out, G2.out, G3.out⟩
    · have hq : (k != 0) = true := bne_iff_ne.2 ha
      obtain ⟨b, hb⟩ : ∃ b, (k != 1) = b := ⟨_, rfl⟩
      have HW := Lib.hid (eWrong_is H1.out H2.out b)
      have HC2 := Lib.hid (show eKind s = eWrong b s1 by
        rw [HKD.out, decide_eq_true ha, Bool.true_and]
        have : decide (k ≠ 1) = b := by
          rw [← hb, Bool.eq_iff_iff, decide_eq_true_eq, bne_iff_ne]
        rw [this])
      clear ha
      go_wp2_with fail
      refine HW.out.mono ?_
      rintro e w2 ⟨rfl, h1, h2, h3⟩
      have G1 := Lib.hid h1; have G2 := Lib.hid h2; have G3 := Lib.hid h3
      clear h1 h2 h3
      go_wp2_with fail
      go_meet
      exact ⟨by rw [HC2.out]; exact G1.out, G2.out, G3.out⟩
  case rest =>
    obtain ⟨h1, h2, h3⟩ := hcut
    obtain ⟨w2, rfl⟩ : ∃ w2, w2 = wc := ⟨_, rfl⟩
    have HIX := Lib.hid h1; have HDX := Lib.hid h2
    have HZ2 := Lib.hid (Nat.lt_of_lt_of_le HZ1.out h3.size)
    have HB2 := Lib.hid ((h3.block w.heap.size HZ1.out (by have := HLT.out; omega)).trans HB1.out)
    have HQX := Lib.hid (HK2.out.trans h3)
    obtain ⟨s2, hs2⟩ : ∃ s2, eKind s = s2 := ⟨_, rfl⟩
    rw [hs2] at HIX HF HOK
    have HIX := Lib.hid HIX.out
    have c1 : w2.cell? ⟨x, 1, none⟩ = some (.int .i64 s2.e) := by
      obtain ⟨A, c, g1, _⟩ := HIX.out
      simp [World.cell?, g1]
    have x0 : w2.cell? ⟨w.heap.size, 0, none⟩ = some (.int .i64 0) := by simp [World.cell?, HB2.out]
    have x1 : w2.cell? ⟨w.heap.size, 1, none⟩ = some (.int .i64 0) := by simp [World.cell?, HB2.out]
    have x2 : w2.cell? ⟨w.heap.size, 2, none⟩ = some (.int .i64 0) := by simp [World.cell?, HB2.out]
    have x3 : w2.cell? ⟨w.heap.size, 3, none⟩ = some (.slice none 0 0) := by simp [World.cell?, HB2.out]
    have y0 : w2.frozen? ⟨w.heap.size, 0, none⟩ = false := by simp [World.frozen?, HB2.out]
    have y1 : w2.frozen? ⟨w.heap.size, 1, none⟩ = false := by simp [World.frozen?, HB2.out]
    have y2 : w2.frozen? ⟨w.heap.size, 2, none⟩ = false := by simp [World.frozen?, HB2.out]
    have y3 : w2.frozen? ⟨w.heap.size, 3, none⟩ = false := by simp [World.frozen?, HB2.out]
    clear h1 h2 h3 hs2 HN HK1 HBX H1 H2 HB1 HK2 HZ HKD
    by_cases he : s2.e = 0
    · have hq1 : (s2.e != 0) = false := by rw [he]; rfl
      by_cases hk : k = 0
      · have hq2 : (k == 0) = true := by rw [hk]; rfl
        have HR := Lib.hid (show eEntry s = ((0, 0, 0, []), s2) by rw [HF.out, if_pos (.inr hk)])
        clear he hk
        go_wp2_with fail
        have HEB := Lib.hid (blk_put (cs := #[.int .i64 0, .int .i64 0, .int .i64 0, .slice none 0 0]) (blk_put (cs := #[.int .i64 0, .int .i64 0, .int .i64 0, .slice none 0 0]) (blk_put (cs := #[.int .i64 0, .int .i64 0, .int .i64 0, .slice none 0 0]) (blk_put (cs := #[.int .i64 0, .int .i64 0, .int .i64 0, .slice none 0 0]) (HB2.out) 0 (.int .i64 0) rfl) 1 (.int .i64 0) rfl) 2 (.int .i64 0) rfl) 3 (.slice none 0 0) rfl)
        have HKS := Lib.hid ((((((KeepS.refl (fun i => i = w.heap.size) w2)).set (p := ⟨w.heap.size, 0, none⟩) (.inl rfl) (.int .i64 0)).set (p := ⟨w.heap.size, 1, none⟩) (.inl rfl) (.int .i64 0)).set (p := ⟨w.heap.size, 2, none⟩) (.inl rfl) (.int .i64 0)).set (p := ⟨w.heap.size, 3, none⟩) (.inl rfl) (.slice none 0 0))
        obtain ⟨W, hW⟩ : ∃ W, ((((w2).setCell ⟨w.heap.size, 0, none⟩ (.int .i64 0)).setCell ⟨w.heap.size, 1, none⟩ (.int .i64 0)).setCell ⟨w.heap.size, 2, none⟩ (.int .i64 0)).setCell ⟨w.heap.size, 3, none⟩ (.slice none 0 0) = W := ⟨_, rfl⟩
        rw [hW] at HEB HKS ⊢
        clear hW
        refine bodyPost_ret (results_cell_row rfl _ _ w.heap.size 24 #[.int .i64 0, .int .i64 0, .int .i64 0, .slice none 0 0] (0, 0) _ rfl HEB.out Try.underlying24 rfl (by kernel_rfl)) rfl ?_
        rw [HR.out]
        have hz := HZ2.out
        have hlt := HLT.out
        have hgw := HGEW.out
        exact ⟨_, rfl, Kd.S_nil _ _ _ _ _, HIX.out.at (HKS.out.block x (by omega) (by show ¬ x = w.heap.size; omega)), HDX.out.trans (HKS.out.below (B := w0.heap.size) HDX.out.size (by rintro i rfl; omega)), HQX.out.then_base (HKS.out.below (B := w.heap.size) (by omega) (by rintro i rfl; omega))⟩
      · have hq2 : (k == 0) = false := beq_eq_false_iff_ne.2 hk
        have HR := Lib.hid (show eEntry s = eBody s2 by rw [HF.out, if_neg (fun h => h.elim (fun h => h he) hk)])
        clear he hk
        obtain ⟨r, HR0⟩ : ∃ r, eBody s2 = r := ⟨_, rfl⟩
        have HR1 := HR0
        unfold eBody at HR1
        have ho2 := HOK.out
        obtain ⟨f, hf⟩ : ∃ f, (eSmall s2).1 = f := ⟨_, rfl⟩
        obtain ⟨s3, hs3⟩ : ∃ s3, (eSmall s2).2 = s3 := ⟨_, rfl⟩
        have ho3 := okS_small ho2
        rw [hf, hs3] at HR1
        rw [hs3] at ho3
        obtain ⟨n, hn⟩ : ∃ n, (eNum s3).1 = n := ⟨_, rfl⟩
        obtain ⟨s4, hs4⟩ : ∃ s4, (eNum s3).2 = s4 := ⟨_, rfl⟩
        have ho4 := okS_num ho3
        rw [hn, hs4] at HR1
        rw [hs4] at ho4
        obtain ⟨l, hl⟩ : ∃ l, (eList eTxn s4).1 = l := ⟨_, rfl⟩
        obtain ⟨s5, hs5⟩ : ∃ s5, (eList eTxn s4).2 = s5 := ⟨_, rfl⟩
        rw [hl, hs5] at HR1
        have HR2 := Lib.hid (show eEntry s = _ from HR.out.trans (HR0.trans HR1.symm))
        have HO1 := Lib.hid ho2; have HO2 := Lib.hid ho3; have HO3 := Lib.hid ho4
        have HE1 := Lib.hid (And.intro hf hs3); have HE2 := Lib.hid (And.intro hn hs4); have HE3 := Lib.hid (And.intro hl hs5)
        clear hf hs3 hn hs4 hl hs5 ho2 ho3 ho4 HR HR0 HR1 HF HOK y0 y1 y2 y3 x0 x1 x2 x3
        go_wp2_with fail
        have hby := heap_alloc_new w2 (.cells #[.int .i64 1, .int .i64 0, .int .i64 0, .slice none 0 0] 24)
        have hay := (Below.refl _ w2).alloc (Nat.le_refl _) (.cells #[.int .i64 1, .int .i64 0, .int .i64 0, .slice none 0 0] 24)
        have hzy : (w2.alloc (.cells #[.int .i64 1, .int .i64 0, .int .i64 0, .slice none 0 0] 24)).heap.size = w2.heap.size + 1 := by simp
        obtain ⟨w4, hw4⟩ : ∃ w4, w2.alloc (.cells #[.int .i64 1, .int .i64 0, .int .i64 0, .slice none 0 0] 24) = w4 := ⟨_, rfl⟩
        rw [hw4] at hby hay hzy ⊢
        obtain ⟨g, hg⟩ : ∃ g, w2.heap.size = g := ⟨_, rfl⟩
        have HI4 := Lib.hid (HIX.out.below hay)
        have HD4 := Lib.hid (HDX.out.trans (hay.mono HDX.out.size))
        have HB4 := Lib.hid ((hay.block w.heap.size HZ2.out).trans HB2.out)
        have HQ4 := Lib.hid (HQX.out.then_below hay)
        rw [hg] at hby hzy HZ2 ⊢
        have HY4 := Lib.hid hby
        have HGZ := Lib.hid (show w.heap.size < g ∧ x < w.heap.size from ⟨HZ2.out, HLT.out⟩)
        have HZZ4 := Lib.hid (show g < w4.heap.size by omega)
        clear hw4 hg hby hay hzy HIX HDX HB2 HQX c1
        have h4 := eSmall_is HI4.out HD4.out HO1.out
        rw [HE1.out.1, HE1.out.2] at h4
        have HNN1 := Lib.hid h4
        clear h4
        refine HNN1.out.mono ?_
        rintro e w5 ⟨rfl, h1, h2, h3⟩
        have HB5 := Lib.hid ((h3.block w.heap.size (by have := HGZ.out; have := HZZ4.out; omega) (by have := HGZ.out; omega)).trans HB4.out)
        have HY5 := Lib.hid ((h3.block g HZZ4.out (by have := HGZ.out; omega)).trans HY4.out)
        have HQ5 := Lib.hid (HQ4.out.trans h3)
        have HZZ5 := Lib.hid (Nat.lt_of_lt_of_le HZZ4.out h3.size)
        have HI5 := Lib.hid h1
        have HD5 := Lib.hid h2
        have d1 : w5.cell? ⟨g, 1, none⟩ = some (.int .i64 0) := by simp [World.cell?, HY5.out]
        have z1 : w5.frozen? ⟨g, 1, none⟩ = false := by simp [World.frozen?, HY5.out]
        clear h1 h2 h3 HNN1
        go_wp2_with fail
        have HY6 := Lib.hid (blk_put (cs := #[.int .i64 1, .int .i64 0, .int .i64 0, .slice none 0 0]) HY5.out 1 (.int .i64 f) rfl)
        have HB6 := Lib.hid ((Below.heap_setCell w5 ⟨g, 1, none⟩ (.int .i64 f) w.heap.size (by have := HGZ.out; simp; omega)).trans HB5.out)
        have HI6 := Lib.hid (HI5.out.at (Below.heap_setCell w5 ⟨g, 1, none⟩ (.int .i64 f) x (by have := HGZ.out; simp; omega)))
        have HD6 := Lib.hid (HD5.out.setCell (p := ⟨g, 1, none⟩) (by have := HGZ.out; have := HGEW.out; simp; omega) (.int .i64 f))
        have HQ6 := Lib.hid (HQ5.out.set (p := ⟨g, 1, none⟩) (.inr (by have := HGZ.out; simp; omega)) (.int .i64 f))
        have HZZ6 := Lib.hid (show g < (w5.setCell ⟨g, 1, none⟩ (.int .i64 f)).heap.size by rw [World.size_setCell]; exact HZZ5.out)
        obtain ⟨w6, hw6⟩ : ∃ w6, w5.setCell ⟨g, 1, none⟩ (.int .i64 f) = w6 := ⟨_, rfl⟩
        rw [hw6] at HY6 HB6 HI6 HD6 HQ6 HZZ6 ⊢
        clear hw6 HY5 HB5 HI5 HD5 HQ5 HZZ5 d1 z1
        have h4 := eNum_is HI6.out HD6.out HO2.out
        rw [HE2.out.1, HE2.out.2] at h4
        have HNN2 := Lib.hid h4
        clear h4
        refine HNN2.out.mono ?_
        rintro e w7 ⟨rfl, h1, h2, h3⟩
        have HB7 := Lib.hid ((h3.block w.heap.size (by have := HGZ.out; have := HZZ6.out; omega) (by have := HGZ.out; omega)).trans HB6.out)
        have HY7 := Lib.hid ((h3.block g HZZ6.out (by have := HGZ.out; omega)).trans HY6.out)
        have HQ7 := Lib.hid (HQ6.out.trans h3)
        have HZZ7 := Lib.hid (Nat.lt_of_lt_of_le HZZ6.out h3.size)
        have HI7 := Lib.hid h1
        have HD7 := Lib.hid h2
        have d2 : w7.cell? ⟨g, 2, none⟩ = some (.int .i64 0) := by simp [World.cell?, HY7.out]
        have z2 : w7.frozen? ⟨g, 2, none⟩ = false := by simp [World.frozen?, HY7.out]
        clear h1 h2 h3 HNN2
        go_wp2_with fail
        have HY8 := Lib.hid (blk_put (cs := #[.int .i64 1, .int .i64 f, .int .i64 0, .slice none 0 0]) HY7.out 2 (.int .i64 n) rfl)
        have HB8 := Lib.hid ((Below.heap_setCell w7 ⟨g, 2, none⟩ (.int .i64 n) w.heap.size (by have := HGZ.out; simp; omega)).trans HB7.out)
        have HI8 := Lib.hid (HI7.out.at (Below.heap_setCell w7 ⟨g, 2, none⟩ (.int .i64 n) x (by have := HGZ.out; simp; omega)))
        have HD8 := Lib.hid (HD7.out.setCell (p := ⟨g, 2, none⟩) (by have := HGZ.out; have := HGEW.out; simp; omega) (.int .i64 n))
        have HQ8 := Lib.hid (HQ7.out.set (p := ⟨g, 2, none⟩) (.inr (by have := HGZ.out; simp; omega)) (.int .i64 n))
        have HZZ8 := Lib.hid (show g < (w7.setCell ⟨g, 2, none⟩ (.int .i64 n)).heap.size by rw [World.size_setCell]; exact HZZ7.out)
        obtain ⟨w8, hw8⟩ : ∃ w8, w7.setCell ⟨g, 2, none⟩ (.int .i64 n) = w8 := ⟨_, rfl⟩
        rw [hw8] at HY8 HB8 HI8 HD8 HQ8 HZZ8 ⊢
        clear hw8 HY7 HB7 HI7 HD7 HQ7 HZZ7 d2 z2
        have h4 := eList_txns HI8.out HD8.out HO3.out
        rw [HE3.out.1, HE3.out.2] at h4
        have HNN3 := Lib.hid h4
        clear h4
        refine HNN3.out.mono ?_
        rintro e w9 ⟨vl, rfl, hv, h1, h2, h3⟩
        obtain ⟨Al, cl, rfl⟩ := Kd.S_slice hv
        have HV := Lib.hid (show Kd.S G.k36 36 w9 w.heap.size (fun k => k ≠ g ∧ k ≠ w.heap.size) _ l from Kd.S_mono (Kd.S_lower (Kd.S_bound hv) HQ8.out.size) (fun k hk => by
          have h7 := hk.2.1; have h9 := HGZ.out; have h8 := HZZ8.out; constructor <;> omega))
        clear hv
        have HB9 := Lib.hid ((h3.block w.heap.size (by have := HGZ.out; have := HZZ8.out; omega) (by have := HGZ.out; omega)).trans HB8.out)
        have HY9 := Lib.hid ((h3.block g HZZ8.out (by have := HGZ.out; omega)).trans HY8.out)
        have HQ9 := Lib.hid (HQ8.out.trans h3)
        have HZZ9 := Lib.hid (Nat.lt_of_lt_of_le HZZ8.out h3.size)
        have HI9 := Lib.hid h1
        have HD9 := Lib.hid h2
        have d3 : w9.cell? ⟨g, 3, none⟩ = some (.slice none 0 0) := by simp [World.cell?, HY9.out]
        have z3 : w9.frozen? ⟨g, 3, none⟩ = false := by simp [World.frozen?, HY9.out]
        clear h1 h2 h3 HNN3
        have d0 : w9.cell? ⟨g, 0, none⟩ = some (.int .i64 1) := by simp [World.cell?, HY9.out]
        have d1 : w9.cell? ⟨g, 1, none⟩ = some (.int .i64 f) := by simp [World.cell?, HY9.out]
        have d2 : w9.cell? ⟨g, 2, none⟩ = some (.int .i64 n) := by simp [World.cell?, HY9.out]
        have x0 : w9.cell? ⟨w.heap.size, 0, none⟩ = some (.int .i64 0) := by simp [World.cell?, HB9.out]
        have x1 : w9.cell? ⟨w.heap.size, 1, none⟩ = some (.int .i64 0) := by simp [World.cell?, HB9.out]
        have x2 : w9.cell? ⟨w.heap.size, 2, none⟩ = some (.int .i64 0) := by simp [World.cell?, HB9.out]
        have x3 : w9.cell? ⟨w.heap.size, 3, none⟩ = some (.slice none 0 0) := by simp [World.cell?, HB9.out]
        have y0 : w9.frozen? ⟨w.heap.size, 0, none⟩ = false := by simp [World.frozen?, HB9.out]
        have y1 : w9.frozen? ⟨w.heap.size, 1, none⟩ = false := by simp [World.frozen?, HB9.out]
        have y2 : w9.frozen? ⟨w.heap.size, 2, none⟩ = false := by simp [World.frozen?, HB9.out]
        have y3 : w9.frozen? ⟨w.heap.size, 3, none⟩ = false := by simp [World.frozen?, HB9.out]
        have HGN : w.heap.size ≠ g := by have := HGZ.out; omega
        go_wp2_with fail
        have HEB := Lib.hid (blk_put (cs := #[.int .i64 1, .int .i64 f, .int .i64 n, .slice none 0 0]) (blk_put (cs := #[.int .i64 1, .int .i64 f, .int .i64 0, .slice none 0 0]) (blk_put (cs := #[.int .i64 1, .int .i64 0, .int .i64 0, .slice none 0 0]) (blk_put (cs := #[.int .i64 0, .int .i64 0, .int .i64 0, .slice none 0 0]) ((Below.heap_setCell w9 ⟨g, 3, none⟩ (.slice Al l.length cl) w.heap.size HGN).trans HB9.out) 0 (.int .i64 1) rfl) 1 (.int .i64 f) rfl) 2 (.int .i64 n) rfl) 3 (.slice Al l.length cl) rfl)
        have HKS := Lib.hid (((((((KeepS.refl (fun i => i = g ∨ i = w.heap.size) w9)).set (p := ⟨g, 3, none⟩) (.inl (.inl rfl)) (.slice Al l.length cl)).set (p := ⟨w.heap.size, 0, none⟩) (.inl (.inr rfl)) (.int .i64 1)).set (p := ⟨w.heap.size, 1, none⟩) (.inl (.inr rfl)) (.int .i64 f)).set (p := ⟨w.heap.size, 2, none⟩) (.inl (.inr rfl)) (.int .i64 n)).set (p := ⟨w.heap.size, 3, none⟩) (.inl (.inr rfl)) (.slice Al l.length cl))
        obtain ⟨W, hW⟩ : ∃ W, ((((w9.setCell ⟨g, 3, none⟩ (.slice Al l.length cl)).setCell ⟨w.heap.size, 0, none⟩ (.int .i64 1)).setCell ⟨w.heap.size, 1, none⟩ (.int .i64 f)).setCell ⟨w.heap.size, 2, none⟩ (.int .i64 n)).setCell ⟨w.heap.size, 3, none⟩ (.slice Al l.length cl) = W := ⟨_, rfl⟩
        rw [hW] at HEB HKS ⊢
        clear hW
        refine bodyPost_ret (results_cell_row rfl _ _ w.heap.size 24 #[.int .i64 1, .int .i64 f, .int .i64 n, .slice Al l.length cl] (0, 0) _ rfl HEB.out Try.underlying24 rfl (by kernel_rfl)) rfl ?_
        rw [HR2.out]
        have hq := HQ9.out.size
        have hgz := HGZ.out
        refine ⟨_, rfl, Kd.S_mono (Kd.S_step HV.out (fun k hk hlt => HKS.out.block k hlt ?_)) (fun _ _ => trivial), HI9.out.at (HKS.out.block x (by omega) ?_), HD9.out.trans (HKS.out.below (B := w0.heap.size) HD9.out.size ?_), HQ9.out.then_base (HKS.out.below (B := w.heap.size) hq ?_)⟩
        · rintro (h | h); exact hk.1 h; exact hk.2 h
        · rintro (h | h) <;> omega
        · have := HGEW.out
          rintro i (h | h) <;> omega
        · rintro i (h | h) <;> omega
    · have hq1 : (s2.e != 0) = true := bne_iff_ne.2 he
      have HR := Lib.hid (show eEntry s = ((0, 0, 0, []), s2) by rw [HF.out, if_pos (.inl he)])
      clear he
      go_wp2_with fail
      have HEB := Lib.hid (blk_put (cs := #[.int .i64 0, .int .i64 0, .int .i64 0, .slice none 0 0]) (blk_put (cs := #[.int .i64 0, .int .i64 0, .int .i64 0, .slice none 0 0]) (blk_put (cs := #[.int .i64 0, .int .i64 0, .int .i64 0, .slice none 0 0]) (blk_put (cs := #[.int .i64 0, .int .i64 0, .int .i64 0, .slice none 0 0]) (HB2.out) 0 (.int .i64 0) rfl) 1 (.int .i64 0) rfl) 2 (.int .i64 0) rfl) 3 (.slice none 0 0) rfl)
      have HKS := Lib.hid ((((((KeepS.refl (fun i => i = w.heap.size) w2)).set (p := ⟨w.heap.size, 0, none⟩) (.inl rfl) (.int .i64 0)).set (p := ⟨w.heap.size, 1, none⟩) (.inl rfl) (.int .i64 0)).set (p := ⟨w.heap.size, 2, none⟩) (.inl rfl) (.int .i64 0)).set (p := ⟨w.heap.size, 3, none⟩) (.inl rfl) (.slice none 0 0))
      obtain ⟨W, hW⟩ : ∃ W, ((((w2).setCell ⟨w.heap.size, 0, none⟩ (.int .i64 0)).setCell ⟨w.heap.size, 1, none⟩ (.int .i64 0)).setCell ⟨w.heap.size, 2, none⟩ (.int .i64 0)).setCell ⟨w.heap.size, 3, none⟩ (.slice none 0 0) = W := ⟨_, rfl⟩
      rw [hW] at HEB HKS ⊢
      clear hW
      refine bodyPost_ret (results_cell_row rfl _ _ w.heap.size 24 #[.int .i64 0, .int .i64 0, .int .i64 0, .slice none 0 0] (0, 0) _ rfl HEB.out Try.underlying24 rfl (by kernel_rfl)) rfl ?_
      rw [HR.out]
      have hz := HZ2.out
      have hlt := HLT.out
      have hgw := HGEW.out
      exact ⟨_, rfl, Kd.S_nil _ _ _ _ _, HIX.out.at (HKS.out.block x (by omega) (by show ¬ x = w.heap.size; omega)), HDX.out.trans (HKS.out.below (B := w0.heap.size) HDX.out.size (by rintro i rfl; omega)), HQX.out.then_base (HKS.out.below (B := w.heap.size) (by omega) (by rintro i rfl; omega))⟩
end Go.Proofs.Ytgiefblcckikeaa.M
end

section

/- TakeEntry (printed by gentake04.py). -/
set_option maxRecDepth 100000
set_option linter.unusedVariables false
set_option linter.unusedSimpArgs false
attribute [local irreducible] Go.wpStill
namespace Go.Proofs.Ytgiefblcckikeaa.M
open Go.RowKit Go.Proofs.YtgiefblcckikeaaW.PrintWords Go.Proofs.YtgiefblcckikeaaW.PrintLast Go.Proofs.YtgiefblcckikeaaW.PrintMore Go.Proofs.Ytgiefblcckikeaa.G
def eEnds (s : EyeS) (may all : Bool) : Int := if ¬ s.e = 0 then s.e else if all = true ∧ 0 < s.l.length then 13 else if s.o = true ∨ may = false then 40 else 0
theorem eEnds_is {w0 w : World} {x : Nat} {s : EyeS} (hI : IsEye w0 w x s) (may all : Bool) :
    Calls Try.prog 45 #[.pointer (some ⟨x, 0, none⟩), .bool may, .bool all] w fun e w' => e = .returned (.int .i64 (eEnds s may all)) ∧ w' = w := by
  obtain ⟨A, c, h1, h2, h3, h4⟩ := hI
  have c0 : w.cell? ⟨x, 0, none⟩ = some (.slice A s.l.length c) := by simp [World.cell?, h1]
  have c1 : w.cell? ⟨x, 1, none⟩ = some (.int .i64 s.e) := by simp [World.cell?, h1]
  have c2 : w.cell? ⟨x, 2, none⟩ = some (.bool s.o) := by simp [World.cell?, h1]
  clear h1 h2 h3 h4
  obtain ⟨l, e, o⟩ := s
  simp only at c0 c1 c2
  by_cases he : e = 0
  · have hq : (e != 0) = false := by rw [he]; rfl
    cases all with
    | true =>
      by_cases hl : 0 < l.length
      · have hq2 : decide (0 < l.length) = true := decide_eq_true (by omega)
        have HF := Lib.hid (show eEnds ⟨l, e, o⟩ may true = 13 by unfold eEnds; rw [if_neg (fun h => h he), if_pos ⟨rfl, hl⟩])
        clear he hl
        go_enter Try.func45, Try.ntmps45
        go_wp2_with fail
        go_ret
        exact ⟨by rw [HF.out]; rfl, rfl⟩
      · have hq2 : decide (0 < l.length) = false := decide_eq_false (by omega)
        have HF := Lib.hid (show eEnds ⟨l, e, o⟩ may true = if o = true ∨ may = false then 40 else 0 by unfold eEnds; rw [if_neg (fun h => h he), if_neg (fun h => hl h.2)])
        clear he hl
        cases o <;> cases may <;> (go_enter Try.func45, Try.ntmps45; go_wp2_with fail; go_ret; exact ⟨by rw [HF.out]; rfl, rfl⟩)
    | false =>
      have HF := Lib.hid (show eEnds ⟨l, e, o⟩ may false = if o = true ∨ may = false then 40 else 0 by unfold eEnds; rw [if_neg (fun h => h he), if_neg (fun h => by cases h.1)])
      clear he
      cases o <;> cases may <;> (go_enter Try.func45, Try.ntmps45; go_wp2_with fail; go_ret; exact ⟨by rw [HF.out]; rfl, rfl⟩)
  · have hq : (e != 0) = true := bne_iff_ne.2 he
    have HF := Lib.hid (show eEnds ⟨l, e, o⟩ may all = e by unfold eEnds; rw [if_pos he])
    clear he
    go_enter Try.func45, Try.ntmps45
    go_wp2_with fail
    go_ret
    exact ⟨by rw [HF.out]; rfl, rfl⟩
def takeEn (l : List Int) : EnD × Int :=
  if eEnds (eEntry ⟨l, 0, false⟩).2 (mayE (eEntry ⟨l, 0, false⟩).1.1 (eEntry ⟨l, 0, false⟩).1.2.1 (eEntry ⟨l, 0, false⟩).1.2.2.1 (eEntry ⟨l, 0, false⟩).1.2.2.2) true = 0 then ((eEntry ⟨l, 0, false⟩).1, 0)
  else ((0, 0, 0, []), eEnds (eEntry ⟨l, 0, false⟩).2 (mayE (eEntry ⟨l, 0, false⟩).1.1 (eEntry ⟨l, 0, false⟩).1.2.1 (eEntry ⟨l, 0, false⟩).1.2.2.1 (eEntry ⟨l, 0, false⟩).1.2.2.2) true)
abbrev oEye (A : Option Addr) (n c : Nat) : Obj := .cells #[.slice A n c, .int .i64 0, .bool false] 83
set_option maxHeartbeats 4000000 in
theorem takeEn_is (A : Option Addr) (c : Nat) (l : List Int) (w : World) (hr : Kd.C (Kd.int .u8) w A l.length l) (hc : l.length ≤ c) (hb : okB l = true) (hl : l.length < 140737488355328) :
    Calls Try.prog 31 #[.slice A l.length c] w fun e w' => ∃ v : Value, e = .returned (.tuple #[.agg #[.int .i64 (takeEn l).1.1, .int .i64 (takeEn l).1.2.1, .int .i64 (takeEn l).1.2.2.1, v], .int .i64 (takeEn l).2]) ∧ Kd.S G.k36 36 w' w.heap.size (fun _ => True) v (takeEn l).1.2.2.2 ∧ Below w.heap.size w w' := by
  have h0 := heap_alloc_new w zEnt
  have s1 : (w.alloc zEnt).heap.size = w.heap.size + 1 := by simp
  have h1 := heap_alloc_new (w.alloc zEnt) (oEye A l.length c)
  have s2 : ((w.alloc zEnt).alloc (oEye A l.length c)).heap.size = w.heap.size + 1 + 1 := by simp
  have b1 := ((Below.refl _ w).alloc (Nat.le_refl _) zEnt).alloc (by simp) (oEye A l.length c)
  have g1 : ((w.alloc zEnt).alloc (oEye A l.length c)).heap[w.heap.size]? = some zEnt := by
    have := (Below.refl _ (w.alloc zEnt)).alloc (Nat.le_refl _) (oEye A l.length c)
    exact (this.block w.heap.size (by omega)).trans h0
  rw [s1] at h1
  go_enter Try.func31, Try.ntmps31
  go_wp2_with fail
  obtain ⟨w2, hw2⟩ : ∃ w2, (w.alloc zEnt).alloc (oEye A l.length c) = w2 := ⟨_, rfl⟩
  obtain ⟨x, hx⟩ : ∃ x, w.heap.size + 1 = x := ⟨_, rfl⟩
  rw [hw2] at h1 s2 b1 g1 ⊢
  rw [hx] at h1 s1 s2 ⊢
  have HI := Lib.hid (show IsEye w w2 x ⟨l, 0, false⟩ from ⟨A, c, h1, by omega, hc, hr⟩)
  have HX := Lib.hid hx; have HS2 := Lib.hid s2; have HB2 := Lib.hid b1; have HG2 := Lib.hid g1
  have HN := Lib.hid (eEntry_is HI.out HB2.out (s := ⟨l, 0, false⟩) ⟨hb, hl⟩)
  obtain ⟨r, hr1⟩ : ∃ r, takeEn l = r := ⟨_, rfl⟩
  have hr2 := hr1
  unfold takeEn at hr2
  obtain ⟨y, hy⟩ : ∃ y, (eEntry ⟨l, 0, false⟩).1 = y := ⟨_, rfl⟩
  obtain ⟨s', hs'⟩ : ∃ s', (eEntry ⟨l, 0, false⟩).2 = s' := ⟨_, rfl⟩
  rw [hy, hs'] at hr2 HN
  obtain ⟨k, f, n, t⟩ := y
  simp only at hr2
  obtain ⟨er, her⟩ : ∃ er, eEnds s' (mayE k f n t) true = er := ⟨_, rfl⟩
  rw [her] at hr2
  have HER := Lib.hid her; have HR1 := Lib.hid hr1; have HR2 := Lib.hid hr2
  clear h0 s1 h1 s2 b1 g1 hw2 hx hy hs' hr2 hr1 her hr hc hb hl
  refine HN.out.mono ?_
  rintro e w3 ⟨v, rfl, hv, h1, h2, h3⟩
  obtain ⟨At, ct, rfl, htc, hC⟩ := Kd.S_reads hv
  simp only at hv hC htc
  have HZ2 := Lib.hid (show w.heap.size < w2.heap.size by have := HS2.out; have := HX.out; omega)
  have HV := Lib.hid (show Kd.S G.k36 36 w3 w.heap.size (fun k => k ≠ w.heap.size ∧ k < w3.heap.size) (.slice At t.length ct) t from Kd.S_mono (Kd.S_lower (Kd.S_bound hv) (Nat.le_of_lt HZ2.out)) (fun k hk => ⟨by have h7 := hk.2.1; have := HZ2.out; omega, hk.2.2.1⟩))
  have HC := Lib.hid hC
  have HI3 := Lib.hid h1; have HB3 := Lib.hid h2
  have HG3 := Lib.hid ((h3.block w.heap.size HZ2.out (by have := HX.out; omega)).trans HG2.out)
  have HZ3 := Lib.hid (Nat.lt_of_lt_of_le HZ2.out h3.size)
  clear hv hC htc h1 h2 h3 HN HI HB2 HG2
  go_wp2_with fail
  have hby := heap_alloc_new w3 (.cells #[.int .i64 k, .int .i64 f, .int .i64 n, .slice At t.length ct] 24)
  have hay := (Below.refl _ w3).alloc (Nat.le_refl _) (.cells #[.int .i64 k, .int .i64 f, .int .i64 n, .slice At t.length ct] 24)
  have hzy : (w3.alloc (.cells #[.int .i64 k, .int .i64 f, .int .i64 n, .slice At t.length ct] 24)).heap.size = w3.heap.size + 1 := by simp
  obtain ⟨w4, hw4⟩ : ∃ w4, w3.alloc (.cells #[.int .i64 k, .int .i64 f, .int .i64 n, .slice At t.length ct] 24) = w4 := ⟨_, rfl⟩
  rw [hw4] at hby hay hzy ⊢
  have HM := Lib.hid (mayEn_is k f n At ct t w4 (Kd.C_below HC.out hay))
  have HI4 := Lib.hid (HI3.out.below hay)
  have HB4 := Lib.hid (HB3.out.trans (hay.mono HB3.out.size))
  have HG4 := Lib.hid ((hay.block w.heap.size HZ3.out).trans HG3.out)
  have HV4 := Lib.hid (Kd.S_below HV.out hay)
  obtain ⟨g, hg⟩ : ∃ g, w3.heap.size = g := ⟨_, rfl⟩
  rw [hg] at hby hzy HV4 HZ3 ⊢
  have HY4 := Lib.hid hby
  have HZ4 := Lib.hid (show w.heap.size < g ∧ g < w4.heap.size ∧ x < w4.heap.size from ⟨HZ3.out, by omega, HI4.out.lt⟩)
  have d0 : w4.cell? ⟨g, 0, none⟩ = some (.int .i64 k) := by simp [World.cell?, HY4.out]
  have d1 : w4.cell? ⟨g, 1, none⟩ = some (.int .i64 f) := by simp [World.cell?, HY4.out]
  have d2 : w4.cell? ⟨g, 2, none⟩ = some (.int .i64 n) := by simp [World.cell?, HY4.out]
  have d3 : w4.cell? ⟨g, 3, none⟩ = some (.slice At t.length ct) := by simp [World.cell?, HY4.out]
  clear hw4 hg hby hay hzy HI3 HB3 HG3 HV HC
  go_wp2_with fail
  refine HM.out.mono ?_
  rintro e w5 ⟨rfl, hb5⟩
  have HI5 := Lib.hid (HI4.out.below hb5)
  have HE := Lib.hid (eEnds_is HI5.out (mayE k f n t) true)
  rw [HER.out] at HE
  have HB5 := Lib.hid (HB4.out.trans (hb5.mono HB4.out.size))
  have HG5 := Lib.hid ((hb5.block w.heap.size (by have := HZ4.out; omega)).trans HG4.out)
  have HY5 := Lib.hid ((hb5.block g HZ4.out.2.1).trans HY4.out)
  have HV5 := Lib.hid (Kd.S_below HV4.out hb5)
  clear hb5 d0 d1 d2 d3 HI4 HB4 HG4 HY4 HV4 HM
  go_wp2_with fail
  refine HE.out.mono ?_
  rintro e w6 ⟨rfl, rfl⟩
  have d0 : w6.cell? ⟨g, 0, none⟩ = some (.int .i64 k) := by simp [World.cell?, HY5.out]
  have d1 : w6.cell? ⟨g, 1, none⟩ = some (.int .i64 f) := by simp [World.cell?, HY5.out]
  have d2 : w6.cell? ⟨g, 2, none⟩ = some (.int .i64 n) := by simp [World.cell?, HY5.out]
  have d3 : w6.cell? ⟨g, 3, none⟩ = some (.slice At t.length ct) := by simp [World.cell?, HY5.out]
  have x0 : w6.cell? ⟨w.heap.size, 0, none⟩ = some (.int .i64 0) := by simp [World.cell?, HG5.out]
  have x1 : w6.cell? ⟨w.heap.size, 1, none⟩ = some (.int .i64 0) := by simp [World.cell?, HG5.out]
  have x2 : w6.cell? ⟨w.heap.size, 2, none⟩ = some (.int .i64 0) := by simp [World.cell?, HG5.out]
  have x3 : w6.cell? ⟨w.heap.size, 3, none⟩ = some (.slice none 0 0) := by simp [World.cell?, HG5.out]
  have y0 : w6.frozen? ⟨w.heap.size, 0, none⟩ = false := by simp [World.frozen?, HG5.out]
  have y1 : w6.frozen? ⟨w.heap.size, 1, none⟩ = false := by simp [World.frozen?, HG5.out]
  have y2 : w6.frozen? ⟨w.heap.size, 2, none⟩ = false := by simp [World.frozen?, HG5.out]
  have y3 : w6.frozen? ⟨w.heap.size, 3, none⟩ = false := by simp [World.frozen?, HG5.out]
  have HGN : w.heap.size ≠ g := by have := HZ4.out; omega
  by_cases he : er = 0
  · have hq : (er != 0) = false := by rw [he]; rfl
    have HR := Lib.hid (show takeEn l = ((k, f, n, t), 0) by rw [HR1.out, ← HR2.out, if_pos he])
    clear he
    go_wp2_with fail
    have HEB := Lib.hid (blk_put (cs := #[.int .i64 k, .int .i64 f, .int .i64 n, .slice none 0 0]) (blk_put (cs := #[.int .i64 k, .int .i64 f, .int .i64 0, .slice none 0 0]) (blk_put (cs := #[.int .i64 k, .int .i64 0, .int .i64 0, .slice none 0 0]) (blk_put (cs := #[.int .i64 0, .int .i64 0, .int .i64 0, .slice none 0 0]) (HG5.out) 0 (.int .i64 k) rfl) 1 (.int .i64 f) rfl) 2 (.int .i64 n) rfl) 3 (.slice At t.length ct) rfl)
    have HKS := Lib.hid ((((((KeepS.refl (fun i => i = w.heap.size) w6)).set (p := ⟨w.heap.size, 0, none⟩) (.inl rfl) (.int .i64 k)).set (p := ⟨w.heap.size, 1, none⟩) (.inl rfl) (.int .i64 f)).set (p := ⟨w.heap.size, 2, none⟩) (.inl rfl) (.int .i64 n)).set (p := ⟨w.heap.size, 3, none⟩) (.inl rfl) (.slice At t.length ct))
    obtain ⟨W, hW⟩ : ∃ W, ((((w6).setCell ⟨w.heap.size, 0, none⟩ (.int .i64 k)).setCell ⟨w.heap.size, 1, none⟩ (.int .i64 f)).setCell ⟨w.heap.size, 2, none⟩ (.int .i64 n)).setCell ⟨w.heap.size, 3, none⟩ (.slice At t.length ct) = W := ⟨_, rfl⟩
    rw [hW] at HEB HKS ⊢
    clear hW
    refine bodyPost_ret (results_ct rfl _ _ w.heap.size 24 #[.int .i64 k, .int .i64 f, .int .i64 n, .slice At t.length ct] (0, 0) _ rfl HEB.out Try.underlying24 rfl (by kernel_rfl)) rfl ?_
    rw [HR.out]
    refine ⟨_, rfl, Kd.S_mono (Kd.S_step HV5.out (fun k hk hlt => HKS.out.block k hlt hk.1)) (fun _ _ => trivial), HB5.out.trans (HKS.out.below (B := w.heap.size) HB5.out.size (by rintro i rfl; exact Nat.le_refl _))⟩
  · have hq : (er != 0) = true := bne_iff_ne.2 he
    have HR := Lib.hid (show takeEn l = ((0, 0, 0, []), er) by rw [HR1.out, ← HR2.out, if_neg he])
    clear he
    go_wp2_with fail
    have HEB := Lib.hid (blk_put (cs := #[.int .i64 0, .int .i64 0, .int .i64 0, .slice none 0 0]) (blk_put (cs := #[.int .i64 0, .int .i64 0, .int .i64 0, .slice none 0 0]) (blk_put (cs := #[.int .i64 0, .int .i64 0, .int .i64 0, .slice none 0 0]) (blk_put (cs := #[.int .i64 0, .int .i64 0, .int .i64 0, .slice none 0 0]) (HG5.out) 0 (.int .i64 0) rfl) 1 (.int .i64 0) rfl) 2 (.int .i64 0) rfl) 3 (.slice none 0 0) rfl)
    have HKS := Lib.hid ((((((KeepS.refl (fun i => i = w.heap.size) w6)).set (p := ⟨w.heap.size, 0, none⟩) (.inl rfl) (.int .i64 0)).set (p := ⟨w.heap.size, 1, none⟩) (.inl rfl) (.int .i64 0)).set (p := ⟨w.heap.size, 2, none⟩) (.inl rfl) (.int .i64 0)).set (p := ⟨w.heap.size, 3, none⟩) (.inl rfl) (.slice none 0 0))
    obtain ⟨W, hW⟩ : ∃ W, ((((w6).setCell ⟨w.heap.size, 0, none⟩ (.int .i64 0)).setCell ⟨w.heap.size, 1, none⟩ (.int .i64 0)).setCell ⟨w.heap.size, 2, none⟩ (.int .i64 0)).setCell ⟨w.heap.size, 3, none⟩ (.slice none 0 0) = W := ⟨_, rfl⟩
    rw [hW] at HEB HKS ⊢
    clear hW
    refine bodyPost_ret (results_ct rfl _ _ w.heap.size 24 #[.int .i64 0, .int .i64 0, .int .i64 0, .slice none 0 0] (0, 0) _ rfl HEB.out Try.underlying24 rfl (by kernel_rfl)) rfl ?_
    rw [HR.out]
    refine ⟨_, rfl, Kd.S_nil _ _ _ _ _, HB5.out.trans (HKS.out.below (B := w.heap.size) HB5.out.size (by rintro i rfl; exact Nat.le_refl _))⟩
end Go.Proofs.Ytgiefblcckikeaa.M
namespace Go.Proofs.Ytgiefblcckikeaa.G
open Go.RowKit Go.Proofs.YtgiefblcckikeaaW.PrintWords Go.Proofs.Ytgiefblcckikeaa.M
def record_TakeEntry.f (l0 : List Int) : Option (Int × Int × Int × List S36 × Int) := if okB l0 = true ∧ l0.length < 140737488355328 then some ((takeEn l0).1.1, (takeEn l0).1.2.1, (takeEn l0).1.2.2.1, (takeEn l0).1.2.2.2, (takeEn l0).2) else none
theorem record_TakeEntry.calls (A0 : Option Addr) (c0 : Nat) (l0 : List Int) (r1 r2 r3 : Int) (r4 : List S36) (r5 : Int) (w : World) (hr0 : Kd.C (Kd.int .u8) w A0 l0.length l0) (hc0 : l0.length ≤ c0) (h : record_TakeEntry.f l0 = some (r1, r2, r3, r4, r5)) :
    Calls Try.prog 31 #[.slice A0 l0.length c0] w fun e w' => ∃ v3_ : Value, e = .returned (.tuple #[.agg #[.int .i64 r1, .int .i64 r2, .int .i64 r3, v3_], .int .i64 r5]) ∧ Kd.S k36 36 w' w.heap.size (fun _ => True) v3_ r4 ∧ Below w.heap.size w w' := by
  unfold record_TakeEntry.f at h
  split at h
  · next hq =>
    simp only [Option.some.injEq, Prod.mk.injEq] at h
    obtain ⟨rfl, rfl, rfl, rfl, rfl⟩ := h
    exact takeEn_is A0 c0 l0 w hr0 hc0 hq.1 hq.2
  · cases h
end Go.Proofs.Ytgiefblcckikeaa.G
end

section

/- law04's begun returns true (by hand: the printed walk is long). -/
set_option maxRecDepth 100000
set_option linter.unusedVariables false
set_option linter.unusedSimpArgs false
attribute [local irreducible] Go.wpStill
namespace Go.Proofs.Ytgiefblcckikeaa.M
open Go.RowKit Go.Proofs.YtgiefblcckikeaaW.PrintWords Go.Proofs.YtgiefblcckikeaaW.PrintLast Go.Proofs.YtgiefblcckikeaaW.PrintMore Go.Proofs.Ytgiefblcckikeaa.G
abbrev bgT : List TxD := [(⟨1, 3, [], [], [], []⟩ : TxD)]
abbrev bgB : List Int := [2, 1, 2, 2, 2, 5, 2, 1, 2, 1, 2, 3, 0, 0, 0, 0]
theorem bg_entF : entF 1 2 5 bgT = (bgB, 0) := by decide +kernel
theorem bg_take : takeEn bgB = ((1, 2, 5, bgT), 0) := by kernel_rfl
theorem bg_same : ∃ k, G.trivetref04_SameEntry.f k 1 2 5 bgT 1 2 5 bgT = some true := by
  refine ⟨20, ?_⟩
  rw [sameEn_r 20 1 2 5 bgT 1 2 5 bgT (fun t ht => by rw [List.mem_singleton.1 ht]; decide) (by decide) (by decide) (fun t ht => by rw [List.mem_singleton.1 ht]; exact ⟨by decide, by decide, by decide, by decide⟩)]
  have : eqEn 1 2 5 bgT 1 2 5 bgT = true := by kernel_rfl
  rw [this]
set_option maxHeartbeats 1000000 in
theorem begun_is (w : World) : Calls Try.prog 7 #[] w fun e w' => e = .returned (.bool true) ∧ Below w.heap.size w w' := by
  go_enter Try.func7, Try.ntmps7
  go_wp2_with fail
  refine (G.trivetlaw04_simple.calls 1 2 5 bgT bgB w rfl).mono ?_
  rintro e w1 ⟨v3, v4, rfl, hs, hr, hb⟩
  obtain ⟨A, c, rfl, hc, hC⟩ := Kd.S_reads hs
  obtain ⟨B, d, rfl⟩ := Kd.R_slice hr
  obtain ⟨-, hd, hD⟩ := Kd.R_reads' hr
  obtain ⟨l, hl⟩ : ∃ l, bgT = l := ⟨_, rfl⟩
  obtain ⟨bs, hbs⟩ : ∃ bs, bgB = bs := ⟨_, rfl⟩
  have hEF := bg_entF; have hTK := bg_take; obtain ⟨K, hSM⟩ := bg_same
  have ho : okE 1 2 5 bgT = true := by kernel_rfl
  have hok : okB bgB = true := by decide
  have hbl : bgB.length < 140737488355328 := by decide
  rw [hl, hbs] at hEF hTK
  rw [hl] at hSM ho hc hC
  rw [hbs] at hok hbl hd hD
  rw [show (bgT).length = l.length by rw [hl], show (bgB).length = bs.length by rw [hbs]]
  have HC := Lib.hid hC; have HD := Lib.hid hD; have HB := Lib.hid hb; have HCC := Lib.hid (And.intro hc hd)
  have HEF := Lib.hid hEF; have HTK := Lib.hid hTK; have HSM := Lib.hid hSM; have HO := Lib.hid (And.intro ho (And.intro hok hbl))
  clear hs hr hb hC hD hc hd hl hbs hEF hTK hSM ho hok hbl
  go_wp2_with fail
  have hbx := heap_alloc_new w1 (.cells #[.int .i64 1, .int .i64 2, .int .i64 5, .slice A l.length c] 24)
  have hay := (Below.refl _ w1).alloc (Nat.le_refl _) (.cells #[.int .i64 1, .int .i64 2, .int .i64 5, .slice A l.length c] 24)
  have hz : (w1.alloc (.cells #[.int .i64 1, .int .i64 2, .int .i64 5, .slice A l.length c] 24)).heap.size = w1.heap.size + 1 := by simp
  obtain ⟨w2, hw2⟩ : ∃ w2, w1.alloc (.cells #[.int .i64 1, .int .i64 2, .int .i64 5, .slice A l.length c] 24) = w2 := ⟨_, rfl⟩
  rw [hw2] at hbx hay hz ⊢
  obtain ⟨g, hg⟩ : ∃ g, w1.heap.size = g := ⟨_, rfl⟩
  have HC2 := Lib.hid (Kd.C_below HC.out hay); have HD2 := Lib.hid (Kd.C_below HD.out hay); have HB2 := Lib.hid (HB.out.trans (hay.mono HB.out.size))
  rw [hg] at hbx hz ⊢
  have HX2 := Lib.hid (And.intro hbx (show g < w2.heap.size by omega))
  clear hw2 hbx hay hz hg HC HD HB
  have a0 : w2.cell? ⟨g, 0, none⟩ = some (.int .i64 1) := by simp [World.cell?, HX2.out.1]
  have a1 : w2.cell? ⟨g, 1, none⟩ = some (.int .i64 2) := by simp [World.cell?, HX2.out.1]
  have a2 : w2.cell? ⟨g, 2, none⟩ = some (.int .i64 5) := by simp [World.cell?, HX2.out.1]
  have a3 : w2.cell? ⟨g, 3, none⟩ = some (.slice A l.length c) := by simp [World.cell?, HX2.out.1]
  go_wp2_with fail
  refine (entry_is 1 2 5 A c l w2 HC2.out HO.out.1).mono ?_
  rw [HEF.out]
  rintro e w3 ⟨v, rfl, hv, hb⟩
  obtain ⟨V, cv, rfl⟩ := Kd.R_slice hv
  obtain ⟨-, hvl, hV⟩ := Kd.R_reads' hv
  have HV := Lib.hid (show Kd.C (Kd.int .u8) w3 V bs.length bs from hV); have HVL := Lib.hid (show bs.length ≤ cv from hvl)
  have HC3 := Lib.hid (Kd.C_below HC2.out hb); have HD3 := Lib.hid (Kd.C_below HD2.out hb); have HB3 := Lib.hid (HB2.out.trans (hb.mono HB2.out.size))
  have HX3 := Lib.hid (And.intro ((hb.block g HX2.out.2).trans HX2.out.1) (Nat.lt_of_lt_of_le HX2.out.2 hb.size))
  clear hv hvl hV hb a0 a1 a2 a3 HC2 HD2 HB2 HX2
  go_wp2_with fail
  refine (takeEn_is B d bs w3 HD3.out HCC.out.2 HO.out.2.1 HO.out.2.2).mono ?_
  rw [HTK.out]
  rintro e w4 ⟨v, rfl, hv, hb⟩
  obtain ⟨Y, cy, rfl, hyc, hY⟩ := Kd.S_reads hv
  have HY := Lib.hid (show Kd.C G.k36 w4 Y l.length l from hY); have HYC := Lib.hid (show l.length ≤ cy from hyc)
  have HC4 := Lib.hid (Kd.C_below HC3.out hb); have HD4 := Lib.hid (Kd.C_below HD3.out hb); have HV4 := Lib.hid (Kd.C_below HV.out hb); have HB4 := Lib.hid (HB3.out.trans (hb.mono HB3.out.size))
  have HX4 := Lib.hid (And.intro ((hb.block g HX3.out.2).trans HX3.out.1) (Nat.lt_of_lt_of_le HX3.out.2 hb.size))
  clear hv hyc hY hb HC3 HD3 HB3 HX3 HV
  go_wp2_with fail
  have hbx := heap_alloc_new w4 (.cells #[.int .i64 1, .int .i64 2, .int .i64 5, .slice Y l.length cy] 24)
  have hay := (Below.refl _ w4).alloc (Nat.le_refl _) (.cells #[.int .i64 1, .int .i64 2, .int .i64 5, .slice Y l.length cy] 24)
  obtain ⟨w5, hw5⟩ : ∃ w5, w4.alloc (.cells #[.int .i64 1, .int .i64 2, .int .i64 5, .slice Y l.length cy] 24) = w5 := ⟨_, rfl⟩
  rw [hw5] at hbx hay ⊢
  obtain ⟨g2, hg2⟩ : ∃ g2, w4.heap.size = g2 := ⟨_, rfl⟩
  have HC5 := Lib.hid (Kd.C_below HC4.out hay); have HD5 := Lib.hid (Kd.C_below HD4.out hay); have HV5 := Lib.hid (Kd.C_below HV4.out hay); have HY5 := Lib.hid (Kd.C_below HY.out hay); have HB5 := Lib.hid (HB4.out.trans (hay.mono HB4.out.size))
  have HX5 := Lib.hid ((hay.block g HX4.out.2).trans HX4.out.1)
  rw [hg2] at hbx ⊢
  have HG5 := Lib.hid hbx
  clear hw5 hbx hay hg2 HC4 HD4 HB4 HX4 HV4 HY
  have a0 : w5.cell? ⟨g, 0, none⟩ = some (.int .i64 1) := by simp [World.cell?, HX5.out]
  have a1 : w5.cell? ⟨g, 1, none⟩ = some (.int .i64 2) := by simp [World.cell?, HX5.out]
  have a2 : w5.cell? ⟨g, 2, none⟩ = some (.int .i64 5) := by simp [World.cell?, HX5.out]
  have a3 : w5.cell? ⟨g, 3, none⟩ = some (.slice A l.length c) := by simp [World.cell?, HX5.out]
  have b0 : w5.cell? ⟨g2, 0, none⟩ = some (.int .i64 1) := by simp [World.cell?, HG5.out]
  have b1 : w5.cell? ⟨g2, 1, none⟩ = some (.int .i64 2) := by simp [World.cell?, HG5.out]
  have b2 : w5.cell? ⟨g2, 2, none⟩ = some (.int .i64 5) := by simp [World.cell?, HG5.out]
  have b3 : w5.cell? ⟨g2, 3, none⟩ = some (.slice Y l.length cy) := by simp [World.cell?, HG5.out]
  go_wp2_with fail
  refine (G.bytes_Equal.calls V cv bs B d bs true w5 HV5.out HVL.out HD5.out HCC.out.2 (by unfold G.bytes_Equal.f; simp)).mono ?_
  rintro e w6 ⟨rfl, ⟨n, rfl⟩⟩
  go_wp2_with fail
  refine (G.trivetref04_SameEntry.calls K 1 2 5 A c l 1 2 5 Y cy l true _ (Kd.C_drewN HC5.out n) HCC.out.1 (Kd.C_drewN HY5.out n) HYC.out HSM.out).mono ?_
  rintro e w7 ⟨rfl, hb⟩
  have HB7 := Lib.hid (below_then (pw_below_drewN HB5.out n) hb)
  clear hb
  go_wp2_with fail
  go_ret
  exact ⟨rfl, HB7.out⟩
end Go.Proofs.Ytgiefblcckikeaa.M
namespace Go.Proofs.Ytgiefblcckikeaa.G
open Go.RowKit Go.Proofs.YtgiefblcckikeaaW.PrintWords Go.Proofs.Ytgiefblcckikeaa.M
def trivetlaw04_begun.f : Option Bool := some true
theorem trivetlaw04_begun.calls (r : Bool) (w : World) (h : trivetlaw04_begun.f = some r) :
    Calls Try.prog 7 #[] w fun e w' => e = .returned (.bool r) ∧ Below w.heap.size w w' := by
  obtain rfl := Option.some.inj h
  exact begun_is w
end Go.Proofs.Ytgiefblcckikeaa.G
end

section

/- RecordFull returns true (printed by genfull04.py). -/
set_option maxRecDepth 100000
set_option linter.unusedVariables false
set_option linter.unusedSimpArgs false
attribute [local irreducible] Go.wpStill
namespace Go.Proofs.Ytgiefblcckikeaa.M
open Go.RowKit Go.Proofs.YtgiefblcckikeaaW.PrintWords Go.Proofs.YtgiefblcckikeaaW.PrintLast Go.Proofs.YtgiefblcckikeaaW.PrintMore Go.Proofs.Ytgiefblcckikeaa.G
theorem infoU8' : (Try.prog.info? 5).map (fun i => (i.zero, i.size, i.bytes)) = some (some (.int .u8 0), 1, 1) := by kernel_rfl
set_option maxHeartbeats 4000000 in
theorem full_walk (w : World) (t : TxD) (left : Int) {A2 A3 A4 A5 : Option Addr} {c2 c3 c4 c5 : Nat} (hC : TxC w t A2 c2 A3 c3 A4 c4 A5 c5) (ht : okTd t) :
    Calls Try.prog 4 #[.agg #[.int .i64 t.f0, .int .i64 t.f1, .slice A2 t.f2.length c2, .slice A3 t.f3.length c3, .slice A4 t.f4.length c4, .slice A5 t.f5.length c5], .int .i64 left] w fun e w' => e = .returned (.bool true) ∧ Below w.heap.size w w' := by
  have HO := Lib.hid (okT_of ht)
  have HC := Lib.hid hC
  have hbx := heap_alloc_new w (.cells #[.int .i64 t.f0, .int .i64 t.f1, .slice A2 t.f2.length c2, .slice A3 t.f3.length c3, .slice A4 t.f4.length c4, .slice A5 t.f5.length c5] 36)
  have hay := (Below.refl _ w).alloc (Nat.le_refl _) (.cells #[.int .i64 t.f0, .int .i64 t.f1, .slice A2 t.f2.length c2, .slice A3 t.f3.length c3, .slice A4 t.f4.length c4, .slice A5 t.f5.length c5] 36)
  have hz : w.heap.size < (w.alloc (.cells #[.int .i64 t.f0, .int .i64 t.f1, .slice A2 t.f2.length c2, .slice A3 t.f3.length c3, .slice A4 t.f4.length c4, .slice A5 t.f5.length c5] 36)).heap.size := by simp
  have HX0 := Lib.hid hbx; have HB0 := Lib.hid hay; have HZ0 := Lib.hid hz
  clear hbx hay hz hC ht
  go_enter Try.func4, Try.ntmps4
  go_wp2_with fail
  refine (begun_is _).mono ?_
  rintro e w2 ⟨rfl, hb⟩
  have HB2 := Lib.hid (HB0.out.trans (hb.mono HB0.out.size))
  have HX2 := Lib.hid ((hb.block w.heap.size HZ0.out).trans HX0.out)
  clear hb HB0 HX0 HZ0
  obtain ⟨g, hg⟩ : ∃ g, w.heap.size = g := ⟨_, rfl⟩
  have HG := Lib.hid hg
  by_cases hl : left < 0 ∨ left > 1024
  · have fin : ∀ W : World, Below w.heap.size w W → ∀ n : Nat, True := fun _ _ _ => trivial
    by_cases h1 : left < 0
    · have q1 : decide (left < 0) = true := decide_eq_true h1
      clear hl h1
      go_wp2_with fail
      refine (begun_is _).mono ?_
      rintro e w3 ⟨rfl, hb⟩
      have HB3 := Lib.hid (HB2.out.trans (hb.mono HB2.out.size))
      clear hb
      go_wp2_with fail
      go_ret
      exact ⟨rfl, HB3.out⟩
    · have q1 : decide (left < 0) = false := decide_eq_false h1
      have q2 : decide ((1024 : Int) < left) = true := decide_eq_true (by omega)
      clear hl h1
      go_wp2_with fail
      refine (begun_is _).mono ?_
      rintro e w3 ⟨rfl, hb⟩
      have HB3 := Lib.hid (HB2.out.trans (hb.mono HB2.out.size))
      clear hb
      go_wp2_with fail
      go_ret
      exact ⟨rfl, HB3.out⟩
  · have q1 : decide (left < 0) = false := decide_eq_false (by omega)
    have q2 : decide ((1024 : Int) < left) = false := decide_eq_false (by omega)
    have HLF := Lib.hid (show 0 ≤ left ∧ left ≤ 1024 by omega)
    have hwI : wrap64 (1048576 - left) = 1048576 - left := by unfold wrap64; omega
    obtain ⟨hd, hhd⟩ : ∃ hd, List.replicate (1048576 - left).toNat (0 : Int) = hd := ⟨_, rfl⟩
    have HHL := Lib.hid (show (hd.length : Int) = 1048576 - left by rw [← hhd, List.length_replicate]; omega)
    have HHD := Lib.hid hhd
    obtain ⟨⟨bl, er⟩, hpf⟩ : ∃ x, putF hd t = x := ⟨_, rfl⟩
    have HPF := Lib.hid hpf
    clear hl hhd hpf
    rw [hg] at HX2 ⊢
    clear hg
    have a0 : w2.cell? ⟨g, 0, none⟩ = some (.int .i64 t.f0) := (blk_cell HX2.out 0).trans rfl
    have a1 : w2.cell? ⟨g, 1, none⟩ = some (.int .i64 t.f1) := (blk_cell HX2.out 1).trans rfl
    have a2 : w2.cell? ⟨g, 2, none⟩ = some (.slice A2 t.f2.length c2) := (blk_cell HX2.out 2).trans rfl
    have a3 : w2.cell? ⟨g, 3, none⟩ = some (.slice A3 t.f3.length c3) := (blk_cell HX2.out 3).trans rfl
    have a4 : w2.cell? ⟨g, 4, none⟩ = some (.slice A4 t.f4.length c4) := (blk_cell HX2.out 4).trans rfl
    have a5 : w2.cell? ⟨g, 5, none⟩ = some (.slice A5 t.f5.length c5) := (blk_cell HX2.out 5).trans rfl
    go_upto_region 3 with fail
    go_cut [5, 6] (fun b e wx => (∃ Z cz, b = .slice Z bl.length cz ∧ bl.length ≤ cz ∧ Kd.C (Kd.int .u8) wx Z bl.length bl) ∧ e = .int .i64 er ∧ Below w.heap.size w wx ∧ wx.heap[g]? = some (.cells #[.int .i64 t.f0, .int .i64 t.f1, .slice A2 t.f2.length c2, .slice A3 t.f3.length c3, .slice A4 t.f4.length c4, .slice A5 t.f5.length c5] 36))
    case first =>
      refine start_ (n := 10) (S := fun w' => w'.cell? ⟨g, 0, none⟩ = some (.int .i64 t.f0) ∧ w'.cell? ⟨g, 1, none⟩ = some (.int .i64 t.f1) ∧ w'.cell? ⟨g, 2, none⟩ = some (.slice A2 t.f2.length c2) ∧ w'.cell? ⟨g, 3, none⟩ = some (.slice A3 t.f3.length c3) ∧ w'.cell? ⟨g, 4, none⟩ = some (.slice A4 t.f4.length c4) ∧ w'.cell? ⟨g, 5, none⟩ = some (.slice A5 t.f5.length c5)) (ds := []) #[false, false, false, false, false, false, false, false, false, false] (by kernel_rfl) rfl rfl ?_ (fun hHeld => ?_)
      rotate_left
      refine pure_ (i := 0) (N := some 21) (v := ?_) (a' := ?_) #[true, false, false, false, false, false, false, false, false, false] rfl rfl (by kernel_rfl) (fun _ _ _ h => h) (Or.inl ⟨by rfl, ?_⟩) ?_ ?_
      rotate_left
      · intro w'
        go_simp
        try with_reducible rfl
      rotate_left
      · simp only [Act.put, List.setIfInBounds_toArray, List.set_cons_zero, List.set_cons_succ, i64_w, i32_w]
        rfl
      refine pure_ (i := 1) (N := some 22) (v := ?_) (a' := ?_) #[true, true, false, false, false, false, false, false, false, false] rfl rfl (by kernel_rfl) (fun _ _ _ h => h) (Or.inl ⟨by rfl, ?_⟩) ?_ ?_
      rotate_left
      · intro w'
        go_simp
        try with_reducible rfl
      rotate_left
      · simp only [Act.put, List.setIfInBounds_toArray, List.set_cons_zero, List.set_cons_succ, i64_w, i32_w]
        rfl
      refine take_ (i := 3) (N := some 24) (v := ?_) (a' := ?_) #[true, true, false, true, false, false, false, false, false, false] rfl rfl (by kernel_rfl) (fun _ _ _ h => h) (Or.inl ⟨by rfl, ?_⟩) hHeld ?_ ?_
      rotate_left
      · intro w' hS
        go_simp
        try with_reducible rfl
      rotate_left
      · simp only [Act.put, List.setIfInBounds_toArray, List.set_cons_zero, List.set_cons_succ, i64_w, i32_w]
        rfl
      refine one_ (i := 2) (N := some 23) #[true, true, true, true, false, false, false, false, false, false] rfl rfl (by kernel_rfl) (by decide) (fun K hK => ?_)
      refine Kd.R_make_step (Kd.int .u8) _ 5 (by rfl) (N := 23) rfl 26 _ _ rfl (1048576 - left) (by first | rfl | (show Value.int IntKind.i64 (wrap64 (1048576 - left)) = _; rw [hwI])) (by first | rfl | (show Value.int IntKind.i64 (wrap64 (1048576 - left)) = _; rw [hwI])) Try.underlying26 (.int .u8 0) 1 infoU8' rfl (by decide) (by omega) 0 (ok := fun _ => True) (okp := fun _ => True) rfl (fun _ hk => hk) trivial (by have := HLF.out; omega) (by have := HLF.out; omega) (Below.refl _ _) (Nat.le_refl _) ?_
      intro v w24 ho hb3 hg_ hnew_
      clear hg_ hnew_
      rw [HHD.out] at ho
      obtain ⟨V, cv, rfl⟩ := Kd.R_slice ho
      obtain ⟨-, hvl, hV⟩ := Kd.R_reads' ho
      have HV := Lib.hid hV; have HVL := Lib.hid hvl; have HB24 := Lib.hid (HB2.out.drew.trans (hb3.mono HB2.out.size)); have HX24 := Lib.hid (blk_below (blk_drew HX2.out) hb3)
      clear ho hb3 hV hvl
      refine hK.out _ _ ⟨(blk_cell HX24.out 0).trans rfl, (blk_cell HX24.out 1).trans rfl, (blk_cell HX24.out 2).trans rfl, (blk_cell HX24.out 3).trans rfl, (blk_cell HX24.out 4).trans rfl, (blk_cell HX24.out 5).trans rfl⟩ (fun hHeld => ?_)
      refine norm_ (a' := ?_) ?_ ?_
      rotate_left
      · (show Act.put _ (some 23) _ = _; simp only [Act.put, List.setIfInBounds_toArray, List.set_cons_zero, List.set_cons_succ, i64_w, i32_w]; rfl)
      refine one_ (i := 4) (N := some 25) #[true, true, true, true, true, false, false, false, false, false] rfl rfl (by kernel_rfl) (by decide) (fun K hK => ?_)
      go_simp
      refine (putTxn_is V cv hd t w24 HV.out HVL.out ⟨HC.out.l2, Kd.C_below HC.out.g2 HB24.out, HC.out.l3, Kd.C_below HC.out.g3 HB24.out, HC.out.l4, Kd.C_below HC.out.g4 HB24.out, HC.out.l5, Kd.C_below HC.out.g5 HB24.out⟩ HO.out.1 (by have := HHL.out; have := HLF.out; omega)).mono ?_
      rw [HPF.out]
      rintro e w27 ⟨v, rfl, hv, hb3⟩
      obtain ⟨Z, cz, rfl⟩ := Kd.R_slice hv
      obtain ⟨-, hzl, hZ⟩ := Kd.R_reads' hv
      have HZ := Lib.hid (And.intro hzl hZ); have HB27 := Lib.hid (HB24.out.trans (hb3.mono HB24.out.size)); have HX27 := Lib.hid (blk_below HX24.out hb3)
      clear hv hb3 hzl hZ
      refine hK.out _ _ ⟨(blk_cell HX27.out 0).trans rfl, (blk_cell HX27.out 1).trans rfl, (blk_cell HX27.out 2).trans rfl, (blk_cell HX27.out 3).trans rfl, (blk_cell HX27.out 4).trans rfl, (blk_cell HX27.out 5).trans rfl⟩ (fun hHeld => ?_)
      refine pure_ (i := 5) (N := some 20) (v := ?_) (a' := ?_) #[true, true, true, true, true, true, false, false, false, false] rfl rfl (by kernel_rfl) (fun _ _ _ h => h) (Or.inl ⟨by rfl, ?_⟩) ?_ ?_
      rotate_left
      · intro w'
        go_simp
        try with_reducible rfl
      rotate_left
      · simp only [Act.put, List.setIfInBounds_toArray, List.set_cons_zero, List.set_cons_succ, i64_w, i32_w]
        rfl
      refine pure_ (i := 6) (N := some 26) (v := ?_) (a' := ?_) #[true, true, true, true, true, true, true, false, false, false] rfl rfl (by kernel_rfl) (fun _ _ _ h => h) (Or.inl ⟨by rfl, ?_⟩) ?_ ?_
      rotate_left
      · intro w'
        go_simp
        try with_reducible rfl
      rotate_left
      · simp only [Act.put, List.setIfInBounds_toArray, List.set_cons_zero, List.set_cons_succ, i64_w, i32_w]
        rfl
      refine pure_ (i := 7) (N := some 27) (v := ?_) (a' := ?_) #[true, true, true, true, true, true, true, true, false, false] rfl rfl (by kernel_rfl) (fun _ _ _ h => h) (Or.inl ⟨by rfl, ?_⟩) ?_ ?_
      rotate_left
      · intro w'
        go_simp
        try with_reducible rfl
      rotate_left
      · simp only [Act.put, List.setIfInBounds_toArray, List.set_cons_zero, List.set_cons_succ, i64_w, i32_w]
        rfl
      refine pure_ (i := 8) (N := some 5) (v := ?_) (a' := ?_) #[true, true, true, true, true, true, true, true, true, false] rfl rfl (by kernel_rfl) (fun _ _ _ h => h) (Or.inl ⟨by rfl, ?_⟩) ?_ ?_
      rotate_left
      · intro w'
        go_simp
        try with_reducible rfl
      rotate_left
      · simp only [Act.put, List.setIfInBounds_toArray, List.set_cons_zero, List.set_cons_succ, i64_w, i32_w]
        rfl
      refine pure_ (i := 9) (N := some 6) (v := ?_) (a' := ?_) #[true, true, true, true, true, true, true, true, true, true] rfl rfl (by kernel_rfl) (fun _ _ _ h => h) (Or.inl ⟨by rfl, ?_⟩) ?_ ?_
      rotate_left
      · intro w'
        go_simp
        try with_reducible rfl
      rotate_left
      · simp only [Act.put, List.setIfInBounds_toArray, List.set_cons_zero, List.set_cons_succ, i64_w, i32_w]
        rfl
      refine done_ (by kernel_rfl) ?_
      go_wp2_with fail
      go_meet
      exact ⟨⟨Z, cz, rfl, HZ.out.1, HZ.out.2⟩, rfl, HB27.out, HX27.out⟩
      exact ⟨(blk_cell (blk_drew HX2.out) 0).trans rfl, (blk_cell (blk_drew HX2.out) 1).trans rfl, (blk_cell (blk_drew HX2.out) 2).trans rfl, (blk_cell (blk_drew HX2.out) 3).trans rfl, (blk_cell (blk_drew HX2.out) 4).trans rfl, (blk_cell (blk_drew HX2.out) 5).trans rfl⟩
    case rest =>
      obtain ⟨⟨Z, cz, rfl, hzl, hZ⟩, rfl, hb, hx⟩ := hcut
      obtain ⟨w3, rfl⟩ : ∃ w3, w3 = wc := ⟨_, rfl⟩
      have HZ := Lib.hid (And.intro hzl hZ); have HB3 := Lib.hid hb; have HX3 := Lib.hid hx
      clear hzl hZ hb hx a0 a1 a2 a3 a4 a5 HB2 HX2
      have a0 : w3.cell? ⟨g, 0, none⟩ = some (.int .i64 t.f0) := (blk_cell HX3.out 0).trans rfl
      have a1 : w3.cell? ⟨g, 1, none⟩ = some (.int .i64 t.f1) := (blk_cell HX3.out 1).trans rfl
      have a2 : w3.cell? ⟨g, 2, none⟩ = some (.slice A2 t.f2.length c2) := (blk_cell HX3.out 2).trans rfl
      have a3 : w3.cell? ⟨g, 3, none⟩ = some (.slice A3 t.f3.length c3) := (blk_cell HX3.out 3).trans rfl
      have a4 : w3.cell? ⟨g, 4, none⟩ = some (.slice A4 t.f4.length c4) := (blk_cell HX3.out 4).trans rfl
      have a5 : w3.cell? ⟨g, 5, none⟩ = some (.slice A5 t.f5.length c5) := (blk_cell HX3.out 5).trans rfl
      go_wp2_with fail
      refine (G.trivetref04_CheckTxn.calls (mT t + 1) t.f0 t.f1 A2 c2 t.f2 A3 c3 t.f3 A4 c4 t.f4 A5 c5 t.f5 (if mayT t = true then 0 else 40) w3 (Kd.C_below HC.out.g2 HB3.out) HC.out.l2 (Kd.C_below HC.out.g3 HB3.out) HC.out.l3 (Kd.C_below HC.out.g4 HB3.out) HC.out.l4 (Kd.C_below HC.out.g5 HB3.out) HC.out.l5 (check_f _ t (by omega) HO.out.2)).mono ?_
      rintro e w4 ⟨rfl, hb⟩
      have HB4 := Lib.hid (HB3.out.trans (hb.mono HB3.out.size))
      have HX4 := Lib.hid (blk_below HX3.out hb)
      have HZ4 := Lib.hid (Kd.C_below HZ.out.2 hb)
      have HZL := Lib.hid HZ.out.1
      clear hb a0 a1 a2 a3 a4 a5 HB3 HX3 HZ
      have HP2 := Lib.hid HPF.out
      cases hm : mayT t with
      | false =>
        have e2 : putF hd t = ([], 40) := by unfold putF; rw [hm]; rfl
        obtain ⟨rfl, rfl⟩ : bl = [] ∧ er = 40 := by
          have := HPF.out.symm.trans e2
          simpa using this
        rw [if_neg (by simp)]
        clear hm e2
        go_wp2_with fail
        go_ret
        exact ⟨rfl, HB4.out⟩
      | true =>
        rw [if_pos rfl]
        have HM := Lib.hid hm
        have e3 := txform_f 100 t HO.out.1 hm (Nat.le_refl _)
        have HTF := Lib.hid e3
        clear hm e3
        have a0 : w4.cell? ⟨g, 0, none⟩ = some (.int .i64 t.f0) := (blk_cell HX4.out 0).trans rfl
        have a1 : w4.cell? ⟨g, 1, none⟩ = some (.int .i64 t.f1) := (blk_cell HX4.out 1).trans rfl
        have a2 : w4.cell? ⟨g, 2, none⟩ = some (.slice A2 t.f2.length c2) := (blk_cell HX4.out 2).trans rfl
        have a3 : w4.cell? ⟨g, 3, none⟩ = some (.slice A3 t.f3.length c3) := (blk_cell HX4.out 3).trans rfl
        have a4 : w4.cell? ⟨g, 4, none⟩ = some (.slice A4 t.f4.length c4) := (blk_cell HX4.out 4).trans rfl
        have a5 : w4.cell? ⟨g, 5, none⟩ = some (.slice A5 t.f5.length c5) := (blk_cell HX4.out 5).trans rfl
        go_wp2_with fail
        refine (G.trivetref04_TxnForm.calls 100 t.f0 t.f1 A2 c2 t.f2 A3 c3 t.f3 A4 c4 t.f4 A5 c5 t.f5 (txB t) w4 (Kd.C_below HC.out.g2 HB4.out) HC.out.l2 (Kd.C_below HC.out.g3 HB4.out) HC.out.l3 (Kd.C_below HC.out.g4 HB4.out) HC.out.l4 (Kd.C_below HC.out.g5 HB4.out) HC.out.l5 HTF.out).mono ?_
        rintro e w5 ⟨v, rfl, hv, hb⟩
        obtain ⟨F, cf, rfl⟩ := Kd.R_slice hv
        obtain ⟨-, hfl, hF⟩ := Kd.R_reads' hv
        obtain ⟨fm, hfm⟩ : ∃ fm, txB t = fm := ⟨_, rfl⟩
        rw [hfm] at hfl hF ⊢
        have HFM := Lib.hid hfm
        have HF := Lib.hid (And.intro hfl hF); have HB5 := Lib.hid (HB4.out.trans (hb.mono HB4.out.size)); have HZ5 := Lib.hid (Kd.C_below HZ4.out hb)
        clear hv hfl hF hb hfm a0 a1 a2 a3 a4 a5 HX4 HB4 HZ4
        have hlt : ((hd ++ fm).length : Int) = 1048576 - left + (fm.length : Int) := by have := HHL.out; rw [List.length_append]; omega
        by_cases hf : left < (fm.length : Int)
        · have q3 : decide (left < (fm.length : Int)) = true := decide_eq_true hf
          have e2 : putF hd t = ([], 3) := by unfold putF; rw [HM.out, HFM.out, if_pos rfl, if_pos (by have := HLF.out; omega)]
          obtain ⟨rfl, rfl⟩ : bl = [] ∧ er = 3 := by
            have := HPF.out.symm.trans e2
            simpa using this
          clear e2 hf hlt
          go_wp2_with fail
          go_ret
          exact ⟨rfl, HB5.out⟩
        · have q3 : decide (left < (fm.length : Int)) = false := decide_eq_false hf
          have e2 : putF hd t = (hd ++ fm, 0) := by unfold putF; rw [HM.out, HFM.out, if_pos rfl, if_neg (by have := HLF.out; omega)]
          obtain ⟨rfl, rfl⟩ : bl = hd ++ fm ∧ er = 0 := by
            have := HPF.out.symm.trans e2
            simpa using this
          have hsf : sufB (hd ++ fm) fm = true := by
            unfold sufB
            rw [if_pos (by rw [List.length_append]; omega)]
            have : (hd ++ fm).drop ((hd ++ fm).length - fm.length) = fm := by
              rw [List.length_append, Nat.add_sub_cancel, List.drop_left]
            rw [this]
            unfold eqS
            simp
          have HSF := Lib.hid hsf
          obtain ⟨ab, hab⟩ : ∃ ab, hd ++ fm = ab := ⟨_, rfl⟩
          rw [hab] at HSF HZ5 HZL hlt ⊢
          have hw2 : wrap64 (1048576 - left + (fm.length : Int)) = (ab.length : Int) := by rw [← hlt]; unfold wrap64; omega
          clear e2 hf hab hsf hlt HPF HP2
          go_wp2_with fail
          refine (suffix_is Z cz ab F cf fm w5 HZ5.out HZL.out HF.out.2 HF.out.1).mono ?_
          rw [HSF.out]
          rintro e w6 ⟨rfl, hb⟩
          have HB6 := Lib.hid (HB5.out.trans (hb.mono HB5.out.size))
          clear hb
          go_wp2_with fail
          go_ret
          exact ⟨by simp, HB6.out⟩
end Go.Proofs.Ytgiefblcckikeaa.M
end
