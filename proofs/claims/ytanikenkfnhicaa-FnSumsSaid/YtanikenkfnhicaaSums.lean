/-
  Contracts: which numbers are sums of lengths, the program's and the reference's.
-/
import Derived.Test.YtanikenkfnhicaaSumP
import Derived.Test.YtanikenkfnhicaaBoolS
import Derived.Test.YtanikenkfnhicaaReg
import Derived.Test.YtanikenkfnhicaaCurs2
import Derived.Deep.Cut
namespace Go.Proofs.Ytanikenkfnhicaa
open Go.ChangeShapes Go.WideShapes Go.ChangeAt Go.RowKit
set_option linter.unusedVariables false

theorem Try.infoBoolS : (Try.prog.info? 4).map (fun i => (i.zero, i.size, i.bytes)) = some (some (.bool false), 1, 1) := by kernel_rfl
/-- numbers as integers -/
def natL (l : List Nat) : List Int := l.map Int.ofNat
theorem natL_length (l : List Nat) : (natL l).length = l.length := by simp [natL]
theorem natL_nth {l : List Nat} {k : Nat} (h : k < l.length) : nth (natL l) k = ((l.getD k 0 : Nat) : Int) := by unfold natL nth; simp [h]
theorem getD_mem {l : List Nat} {k : Nat} (h : k < l.length) : l.getD k 0 ∈ l := by rw [List.getD_eq_getElem?_getD, List.getElem?_eq_getElem h]; exact List.getElem_mem h
def rbL (l : List Nat) (n : Nat) : List Bool := (List.range (n + 1)).map (rb l)
theorem rbL_length (l : List Nat) (n : Nat) : (rbL l n).length = n + 1 := by simp [rbL]
theorem rbL_nth (l : List Nat) {n j : Nat} (h : j ≤ n) : nthB (rbL l n) j = rb l j := by unfold rbL nthB; simp [show j < n + 1 by omega]
/-- is m a sum whose first lengths are among the first k? -/
def anyK (l : List Nat) (m k : Nat) : Bool := (l.take k).any fun x => decide (x ≤ m) && rb l (m - x)
theorem anyK_succ {l : List Nat} {m k : Nat} (h : k < l.length) : anyK l m (k + 1) = (anyK l m k || (decide (l.getD k 0 ≤ m) && rb l (m - l.getD k 0))) := by
  unfold anyK
  rw [List.take_add_one, List.any_append, List.getD_eq_getElem?_getD, List.getElem?_eq_getElem h]
  simp
structure SumO (l : List Nat) (n m : Nat) (bs : List Bool) : Prop where
  len : bs.length = n + 1
  old : ∀ j, j < m → j ≤ n → nthB bs j = rb l j
  new : ∀ j, m ≤ j → j ≤ n → nthB bs j = (j == 0)
structure SumI (l : List Nat) (n m k : Nat) (bs : List Bool) : Prop where
  len : bs.length = n + 1
  old : ∀ j, j < m → j ≤ n → nthB bs j = rb l j
  at_ : nthB bs m = ((m == 0) || anyK l m k)
  new : ∀ j, m < j → j ≤ n → nthB bs j = false
section
variable {l : List Nat} {n m k : Nat} {bs : List Bool}
theorem SumO.start (l : List Nat) (n : Nat) : SumO l n 0 ((List.replicate (n + 1) false).set 0 true) := by
  refine ⟨by simp, fun j h => absurd h (Nat.not_lt_zero _), fun j _ h => ?_⟩
  rw [nthB_set _ _ _ _ (by simp)]
  by_cases e : j = 0
  · subst e; rfl
  · rw [if_neg e, nthB_replicate _ _ (by omega)]; simp [e]
theorem SumO.start1 (l : List Nat) (n : Nat) : SumO l n 1 ((List.replicate (n + 1) false).set 0 true) := by
  have h := SumO.start l n
  refine ⟨h.len, fun j h1 h2 => ?_, fun j h1 h2 => h.new j (by omega) h2⟩
  obtain rfl : j = 0 := by omega
  rw [h.new 0 (Nat.le_refl _) h2]; rfl
theorem SumO.go (h : SumO l n m bs) (hm : m ≤ n) : SumI l n m 0 bs :=
  ⟨h.len, h.old, by rw [h.new m (Nat.le_refl _) hm]; simp [anyK], fun j h1 h2 => by rw [h.new j (by omega) h2]; simp; omega⟩
theorem SumI.full (hl : ∀ x ∈ l, 1 ≤ x) (h : SumI l n m l.length bs) : SumO l n (m + 1) bs := by
  refine ⟨h.len, fun j h1 h2 => ?_, fun j h1 h2 => by rw [h.new j (by omega) h2]; symm; simp; omega⟩
  rcases Nat.lt_succ_iff_lt_or_eq.1 h1 with h3 | rfl
  · exact h.old j h3 h2
  · rw [h.at_]
    rcases Nat.eq_zero_or_pos j with rfl | hj
    · rfl
    · rw [rb_rec hl hj]; unfold anyK; rw [List.take_of_length_le (Nat.le_refl _)]
      have : (j == 0) = false := by simp; omega
      rw [this, Bool.false_or]
theorem SumI.step (h : SumI l n m k bs) (hm : m ≤ n) (hk : k < l.length) {b : Bool} (hb : b = (nthB bs m || (decide (l.getD k 0 ≤ m) && rb l (m - l.getD k 0)))) : SumI l n m (k + 1) (bs.set m b) := by
  have hml : m < bs.length := by rw [h.len]; omega
  refine ⟨by rw [List.length_set]; exact h.len, fun j h1 h2 => ?_, ?_, fun j h1 h2 => ?_⟩
  · rw [nthB_set _ _ _ _ hml, if_neg (by omega)]; exact h.old j h1 h2
  · rw [nthB_set _ _ _ _ hml, if_pos rfl, hb, h.at_, anyK_succ hk, Bool.or_assoc]
  · rw [nthB_set _ _ _ _ hml, if_neg (by omega)]; exact h.new j h1 h2
theorem SumO.end (h : SumO l n (n + 1) bs) : bs = rbL l n := by
  apply List.ext_getElem
  · rw [h.len, rbL_length]
  · intro j h1 h2
    have hj : j ≤ n := by have := h.len; omega
    rw [← nthB_eq h1, ← nthB_eq h2, h.old j (by omega) hj, rbL_nth _ hj]
end

set_option maxHeartbeats 4000000 in
set_option maxRecDepth 100000 in
theorem sumsUpTo_any (v1 : Value) (z : List Int) (lo1 hi1 : Nat) (n : Nat) (w : World) (h1 : IntS w lo1 hi1 v1 z) (hh1 : hi1 ≤ w.heap.size) (l : List Nat) (hzl : z = natL l) (hl : ∀ x ∈ l, 1 ≤ x ∧ x ≤ 1000) (hn : n ≤ 3200) (hll : l.length ≤ 1048576) :
    Calls Try.prog 19 #[v1, .int .i64 (n : Nat)] w fun e w' => ∃ r, e = .returned (r) ∧ BoolS w' w.heap.size w'.heap.size r (rbL l n) ∧ Below w.heap.size w w' := by
  have HL := Lib.hid hl; clear hl
  have HZ0 := Lib.hid hzl
  have hlz : z.length = l.length := by rw [hzl, natL_length]
  clear hzl
  obtain ⟨c, HCC⟩ : ∃ c : Nat, Hid (n + 1 = c) := ⟨_, Lib.hid rfl⟩
  obtain ⟨zl, HZL⟩ : ∃ c : Nat, Hid (l.length = c) := ⟨_, Lib.hid rfl⟩
  have hwm : IntKind.i64.wrap ((n : Int) + 1) = (c : Int) := by rw [IntWalk.i64_in _ (by omega)]; have := HCC.out; omega
  have hc1 : c ≤ 3201 := by have := HCC.out; omega
  have hc0 : 1 ≤ c := by have := HCC.out; omega
  have hmk := fun W => run_make_row' (P := Try.prog) 42 4 (.bool false) 1 Try.underlying42 Try.infoBoolS rfl .i64 .i64 c (by omega) (by omega) W
  obtain ⟨W1, HW1⟩ : ∃ W, Hid (W = w.alloc (.cells (madeCells #[.bool false] c) 4)) := ⟨_, Lib.hid rfl⟩
  have hb1 : Below w.heap.size w W1 := by rw [HW1.out]; exact below_a1 w _
  have hz1 : w.heap.size + 1 ≤ W1.heap.size := by rw [HW1.out]; simp
  have HM1 := Lib.hid (show BoolS W1 w.heap.size (w.heap.size + 1) (.slice (some ⟨w.heap.size, 0, none⟩) c c) (List.replicate c false) by rw [HW1.out]; exact made_bools _ _ _ rfl (by omega))
  have HM2 := Lib.hid (BoolS.set0 HM1.out (j := 0) (by rw [List.length_replicate]; omega) true)
  have kk := (BoolS.at0 HM1.out (j := 0) (by rw [List.length_replicate]; omega))
  have hci : (0 : Int) < (c : Int) := by omega
  rw [HZL.out] at hlz
  have F1 := Lib.hid h1
  obtain ⟨A1, c1, rfl, hc1, hd1⟩ := h1.dims
  clear h1
  go_enter Try.func19, Try.ntmps19
  rw [hlz]
  go_upto_region 2 with (fail)
  rw [← HW1.out]; clear HW1 hmk HM1
  obtain ⟨kk1, kk2⟩ := kk
  have HP0 := Lib.hid (show SumO l n 0 ((List.replicate c false).set 0 true) by have := SumO.start l n; rw [HCC.out] at this; exact this)
  go_wp2_with fail
  clear kk1 kk2
  go_loopw [16] (fun iv wr => ∃ (m : Nat) (bs : List Bool), m ≤ c ∧ iv = .int .i64 m ∧ Hid (SumO l n m bs) ∧ Hid (BoolS wr w.heap.size (w.heap.size + 1) (.slice (some ⟨w.heap.size, 0, none⟩) c c) bs) ∧ w.heap.size + 1 ≤ wr.heap.size ∧ Hid (Below w.heap.size w wr)) (fun iv _ => c - (intOf iv).toNat)
  case atStart => exact ⟨0, _, by omega, rfl, HP0, HM2, by simp; omega, Lib.hid (hb1.setCell (p := ⟨w.heap.size, 0, none⟩) (Nat.le_refl _) _)⟩
  case round =>
    obtain ⟨m, bs, hm, rfl, HP, HZ, hz, HB⟩ := hrel
    by_cases hlt : m < c
    case neg =>
      obtain rfl : m = c := by omega
      have hii : True := trivial
      have HE := Lib.hid (show bs = rbL l n from SumO.end (by rw [HCC.out]; exact HP.out))
      go_wp2_with fail
      go_ret
      exact ⟨_, rfl, by rw [← HE.out]; exact HZ.out.mono (Nat.le_refl _) hz, HB.out⟩
    obtain ⟨wo, rfl⟩ : ∃ wo : World, wo = wr := ⟨_, rfl⟩
    have hmn : m ≤ n := by have := HCC.out; omega
    have hmi : (m : Int) < (c : Int) := by omega
    have hii : True := trivial
    go_wp2_with fail
    go_loopw [21] (fun jv wr => ∃ (k : Nat) (ys : List Bool), k ≤ zl ∧ jv = .int .i64 k ∧ Hid (SumI l n m k ys) ∧ Hid (BoolS wr w.heap.size (w.heap.size + 1) (.slice (some ⟨w.heap.size, 0, none⟩) c c) ys) ∧ w.heap.size + 1 ≤ wr.heap.size ∧ Hid (Below w.heap.size w wr)) (fun jv _ => zl - (intOf jv).toNat)
    case atStart => exact ⟨0, bs, Nat.zero_le _, rfl, Lib.hid (HP.out.go hmn), HZ, hz, HB⟩
    case round =>
      obtain ⟨k, ys, hk, rfl, HQ, HZ2, hz2, HB2⟩ := hrel
      by_cases hkl : k < zl
      case neg =>
        obtain rfl : k = zl := by omega
        have HPN := Lib.hid (SumI.full (fun x hx => (HL.out x hx).1) (by rw [HZL.out]; exact HQ.out))
        go_wp2_with fail
        go_roundw
        case rel => exact ⟨m + 1, ys, by omega, by go_num, HPN, HZ2, hz2, HB2⟩
        case measure => simp [intOf]; omega
      have hkl2 : k < l.length := by rw [HZL.out]; exact hkl
      obtain ⟨b1, o1, rfl, _, hbb, x1, _⟩ := (IntS.below F1.out HB2.out hh1).opened (j := k) (by rw [hlz]; exact hkl)
      obtain ⟨x, HX⟩ : ∃ x, Hid (l.getD k 0 = x) := ⟨_, Lib.hid rfl⟩
      have hx := HL.out _ (getD_mem hkl2)
      rw [HX.out] at hx
      rw [HZ0.out, natL_nth hkl2, HX.out] at x1
      have hyl := HQ.out.len
      obtain ⟨y1, y2⟩ := BoolS.at0 HZ2.out (j := m) (by omega)
      obtain ⟨b, HBM⟩ : ∃ b, Hid (nthB ys m = b) := ⟨_, Lib.hid rfl⟩
      rw [HBM.out] at y1
      have HQN := Lib.hid (fun b' hb' => HQ.out.step (b := b') hmn hkl2 hb')
      rw [HX.out, HBM.out] at HQN
      have hki : (k : Int) < zl := by omega
      cases b with
      | true =>
        have HQ1 := Lib.hid (HQN.out true rfl)
        have HYS := Lib.hid (HZ2.out.set0 (j := m) (by omega) true)
        have HBS := Lib.hid (HB2.out.setCell (p := ⟨w.heap.size, m, none⟩) (Nat.le_refl _) (.bool true))
        go_wp2_with fail
        go_roundw
        case rel => exact ⟨k + 1, _, by omega, by go_num, HQ1, HYS, by simp; omega, HBS⟩
        case measure => simp [intOf]; omega
      | false =>
      by_cases hxm : x ≤ m
      case neg =>
        have hxd : decide ((x : Int) ≤ (m : Int)) = false := decide_eq_false (by omega)
        have HQ1 := Lib.hid (HQN.out false (by rw [decide_eq_false hxm]; rfl))
        have HYS := Lib.hid (HZ2.out.set0 (j := m) (by omega) false)
        have HBS := Lib.hid (HB2.out.setCell (p := ⟨w.heap.size, m, none⟩) (Nat.le_refl _) (.bool false))
        go_wp2_with fail
        go_roundw
        case rel => exact ⟨k + 1, _, by omega, by go_num, HQ1, HYS, by simp; omega, HBS⟩
        case measure => simp [intOf]; omega
      have hxd : decide ((x : Int) ≤ (m : Int)) = true := decide_eq_true (by omega)
      obtain ⟨y, HY⟩ : ∃ y, Hid (m - x = y) := ⟨_, Lib.hid rfl⟩
      have hym : y < m := by have := HY.out; omega
      have hwy : IntKind.i64.wrap ((m : Int) - (x : Int)) = (y : Int) := by rw [IntWalk.i64_in _ (by omega)]; have := HY.out; omega
      have hyi : (y : Int) < (c : Int) := by omega
      obtain ⟨y3, _⟩ := BoolS.at0 HZ2.out (j := y) (by omega)
      rw [HQ.out.old y hym (by omega)] at y3
      obtain ⟨b, HBY⟩ : ∃ b, Hid (rb l y = b) := ⟨_, Lib.hid rfl⟩
      rw [HBY.out] at y3
      have HQ1 := Lib.hid (HQN.out b (by rw [decide_eq_true hxm, HY.out, HBY.out]; rfl))
      have HYS := Lib.hid (HZ2.out.set0 (j := m) (by omega) b)
      have HBS := Lib.hid (HB2.out.setCell (p := ⟨w.heap.size, m, none⟩) (Nat.le_refl _) (.bool b))
      go_wp2_with fail
      go_roundw
      case rel => exact ⟨k + 1, _, by omega, by go_num, HQ1, HYS, by simp; omega, HBS⟩
      case measure => simp [intOf]; omega

set_option maxHeartbeats 4000000 in
set_option maxRecDepth 100000 in
theorem nuSums_any (v1 : Value) (z : List Int) (lo1 hi1 : Nat) (n : Nat) (w : World) (h1 : IntS w lo1 hi1 v1 z) (hh1 : hi1 ≤ w.heap.size) (l : List Nat) (hzl : z = natL l) (hl : ∀ x ∈ l, 1 ≤ x ∧ x ≤ 1000) (hn : n ≤ 3200) (hll : l.length ≤ 1048576) :
    Calls Try.prog 22 #[v1, .int .i64 (n : Nat)] w fun e w' => ∃ r, e = .returned (r) ∧ BoolS w' w.heap.size w'.heap.size r (rbL l n) ∧ Below w.heap.size w w' := by
  have HL := Lib.hid hl; clear hl
  have HZ0 := Lib.hid hzl
  have hlz : z.length = l.length := by rw [hzl, natL_length]
  clear hzl
  obtain ⟨c, HCC⟩ : ∃ c : Nat, Hid (n + 1 = c) := ⟨_, Lib.hid rfl⟩
  obtain ⟨zl, HZL⟩ : ∃ c : Nat, Hid (l.length = c) := ⟨_, Lib.hid rfl⟩
  have hwm : IntKind.i64.wrap ((n : Int) + 1) = (c : Int) := by rw [IntWalk.i64_in _ (by omega)]; have := HCC.out; omega
  have hc1 : c ≤ 3201 := by have := HCC.out; omega
  have hc0 : 1 ≤ c := by have := HCC.out; omega
  have hmk := fun W => run_make_row' (P := Try.prog) 42 4 (.bool false) 1 Try.underlying42 Try.infoBoolS rfl .i64 .i64 c (by omega) (by omega) W
  obtain ⟨W1, HW1⟩ : ∃ W, Hid (W = w.alloc (.cells (madeCells #[.bool false] c) 4)) := ⟨_, Lib.hid rfl⟩
  have hb1 : Below w.heap.size w W1 := by rw [HW1.out]; exact below_a1 w _
  have hz1 : w.heap.size + 1 ≤ W1.heap.size := by rw [HW1.out]; simp
  have HM1 := Lib.hid (show BoolS W1 w.heap.size (w.heap.size + 1) (.slice (some ⟨w.heap.size, 0, none⟩) c c) (List.replicate c false) by rw [HW1.out]; exact made_bools _ _ _ rfl (by omega))
  have HM2 := Lib.hid (BoolS.set0 HM1.out (j := 0) (by rw [List.length_replicate]; omega) true)
  have kk := (BoolS.at0 HM1.out (j := 0) (by rw [List.length_replicate]; omega))
  have hci : (0 : Int) < (c : Int) := by omega
  rw [HZL.out] at hlz
  have F1 := Lib.hid h1
  obtain ⟨A1, c1, rfl, hc1, hd1⟩ := h1.dims
  clear h1
  go_enter Try.func22, Try.ntmps22
  rw [hlz]
  go_upto_region 2 with (fail)
  rw [← HW1.out]; clear HW1 hmk HM1
  obtain ⟨kk1, kk2⟩ := kk
  have HP0 := Lib.hid (show SumO l n 1 ((List.replicate c false).set 0 true) by have := SumO.start1 l n; rw [HCC.out] at this; exact this)
  go_wp2_with fail
  clear kk1 kk2
  go_loopw [6] (fun iv wr => ∃ (m : Nat) (bs : List Bool), m ≤ c ∧ iv = .int .i64 m ∧ Hid (SumO l n m bs) ∧ Hid (BoolS wr w.heap.size (w.heap.size + 1) (.slice (some ⟨w.heap.size, 0, none⟩) c c) bs) ∧ w.heap.size + 1 ≤ wr.heap.size ∧ Hid (Below w.heap.size w wr)) (fun iv _ => c - (intOf iv).toNat)
  case atStart => exact ⟨1, _, by omega, rfl, HP0, HM2, by simp; omega, Lib.hid (hb1.setCell (p := ⟨w.heap.size, 0, none⟩) (Nat.le_refl _) _)⟩
  case round =>
    obtain ⟨m, bs, hm, rfl, HP, HZ, hz, HB⟩ := hrel
    by_cases hlt : m < c
    case neg =>
      obtain rfl : m = c := by omega
      have hle : decide ((m : Int) ≤ (n : Int)) = false := decide_eq_false (by have := HCC.out; omega)
      have hle3 : decide (m ≤ n) = false := decide_eq_false (by have := HCC.out; omega)
      have hle4 : n < m := by have := HCC.out; omega
      have HE := Lib.hid (show bs = rbL l n from SumO.end (by rw [HCC.out]; exact HP.out))
      go_wp2_with fail
      go_ret
      exact ⟨_, rfl, by rw [← HE.out]; exact HZ.out.mono (Nat.le_refl _) hz, HB.out⟩
    obtain ⟨wo, rfl⟩ : ∃ wo : World, wo = wr := ⟨_, rfl⟩
    have hmn : m ≤ n := by have := HCC.out; omega
    have hmi : (m : Int) < (c : Int) := by omega
    have hle : decide ((m : Int) ≤ (n : Int)) = true := decide_eq_true (by omega)
    go_wp2_with fail
    go_loopw [21] (fun jv wr => ∃ (k : Nat) (ys : List Bool), k ≤ zl ∧ jv = .int .i64 k ∧ Hid (SumI l n m k ys) ∧ Hid (BoolS wr w.heap.size (w.heap.size + 1) (.slice (some ⟨w.heap.size, 0, none⟩) c c) ys) ∧ w.heap.size + 1 ≤ wr.heap.size ∧ Hid (Below w.heap.size w wr)) (fun jv _ => zl - (intOf jv).toNat)
    case atStart => exact ⟨0, bs, Nat.zero_le _, rfl, Lib.hid (HP.out.go hmn), HZ, hz, HB⟩
    case round =>
      obtain ⟨k, ys, hk, rfl, HQ, HZ2, hz2, HB2⟩ := hrel
      by_cases hkl : k < zl
      case neg =>
        obtain rfl : k = zl := by omega
        have HPN := Lib.hid (SumI.full (fun x hx => (HL.out x hx).1) (by rw [HZL.out]; exact HQ.out))
        go_wp2_with fail
        go_roundw
        case rel => exact ⟨m + 1, ys, by omega, by go_num, HPN, HZ2, hz2, HB2⟩
        case measure => simp [intOf]; omega
      have hkl2 : k < l.length := by rw [HZL.out]; exact hkl
      obtain ⟨b1, o1, rfl, _, hbb, x1, _⟩ := (IntS.below F1.out HB2.out hh1).opened (j := k) (by rw [hlz]; exact hkl)
      obtain ⟨x, HX⟩ : ∃ x, Hid (l.getD k 0 = x) := ⟨_, Lib.hid rfl⟩
      have hx := HL.out _ (getD_mem hkl2)
      rw [HX.out] at hx
      rw [HZ0.out, natL_nth hkl2, HX.out] at x1
      have hyl := HQ.out.len
      obtain ⟨y1, y2⟩ := BoolS.at0 HZ2.out (j := m) (by omega)
      obtain ⟨b, HBM⟩ : ∃ b, Hid (nthB ys m = b) := ⟨_, Lib.hid rfl⟩
      rw [HBM.out] at y1
      have HQN := Lib.hid (fun b' hb' => HQ.out.step (b := b') hmn hkl2 hb')
      rw [HX.out, HBM.out] at HQN
      have hki : (k : Int) < zl := by omega
      cases b with
      | true =>
        have HQ1 := Lib.hid (HQN.out true rfl)
        have HYS := Lib.hid (HZ2.out.set0 (j := m) (by omega) true)
        have HBS := Lib.hid (HB2.out.setCell (p := ⟨w.heap.size, m, none⟩) (Nat.le_refl _) (.bool true))
        go_wp2_with fail
        go_roundw
        case rel => exact ⟨k + 1, _, by omega, by go_num, HQ1, HYS, by simp; omega, HBS⟩
        case measure => simp [intOf]; omega
      | false =>
      by_cases hxm : x ≤ m
      case neg =>
        have hxd : decide ((x : Int) ≤ (m : Int)) = false := decide_eq_false (by omega)
        have HQ1 := Lib.hid (HQN.out false (by rw [decide_eq_false hxm]; rfl))
        have HYS := Lib.hid (HZ2.out.set0 (j := m) (by omega) false)
        have HBS := Lib.hid (HB2.out.setCell (p := ⟨w.heap.size, m, none⟩) (Nat.le_refl _) (.bool false))
        go_wp2_with fail
        go_roundw
        case rel => exact ⟨k + 1, _, by omega, by go_num, HQ1, HYS, by simp; omega, HBS⟩
        case measure => simp [intOf]; omega
      have hxd : decide ((x : Int) ≤ (m : Int)) = true := decide_eq_true (by omega)
      obtain ⟨y, HY⟩ : ∃ y, Hid (m - x = y) := ⟨_, Lib.hid rfl⟩
      have hym : y < m := by have := HY.out; omega
      have hwy : IntKind.i64.wrap ((m : Int) - (x : Int)) = (y : Int) := by rw [IntWalk.i64_in _ (by omega)]; have := HY.out; omega
      have hyi : (y : Int) < (c : Int) := by omega
      obtain ⟨y3, _⟩ := BoolS.at0 HZ2.out (j := y) (by omega)
      rw [HQ.out.old y hym (by omega)] at y3
      obtain ⟨b, HBY⟩ : ∃ b, Hid (rb l y = b) := ⟨_, Lib.hid rfl⟩
      rw [HBY.out] at y3
      have HQ1 := Lib.hid (HQN.out b (by rw [decide_eq_true hxm, HY.out, HBY.out]; rfl))
      have HYS := Lib.hid (HZ2.out.set0 (j := m) (by omega) b)
      have HBS := Lib.hid (HB2.out.setCell (p := ⟨w.heap.size, m, none⟩) (Nat.le_refl _) (.bool b))
      go_wp2_with fail
      go_roundw
      case rel => exact ⟨k + 1, _, by omega, by go_num, HQ1, HYS, by simp; omega, HBS⟩
      case measure => simp [intOf]; omega

end Go.Proofs.Ytanikenkfnhicaa
