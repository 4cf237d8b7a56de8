/-
  Contracts: binomial numbers and subsets by rank, the program's and the reference's.
-/
import Derived.Test.YtlignkgfclenkaaBinP
import Derived.Test.YtlignkgfclenkaaBoolS
import Derived.Test.YtlignkgfclenkaaReg
namespace Go.Proofs.Ytlignkgfclenkaa
open Go.ChangeShapes Go.WideShapes Go.ChangeAt Go.RowKit
set_option linter.unusedVariables false

set_option maxHeartbeats 4000000 in
set_option maxRecDepth 100000 in
theorem binomial_any (n : Nat) (k : Nat) (w : World)  (hn : n ≤ 60) (hk : k ≤ 60) :
    Calls Try.prog 65 #[.int .i64 (n : Nat), .int .i64 (k : Nat)] w fun e w' => e = .returned (.int .i64 (ch n k : Nat)) ∧ Below w.heap.size w w' := by
  by_cases hkn : n < k
  case pos =>
    have hd1 : decide ((n : Int) < (k : Int)) = true := decide_eq_true (by omega)
    have hd2 : decide ((k : Int) < 0) = false := decide_eq_false (by omega)
    have HE := Lib.hid (ch_over hkn)
    go_enter Try.func65, Try.ntmps65
    go_wp2_with fail
    go_ret
    exact ⟨ret_int (by rw [HE.out]; rfl), Below.refl _ _⟩
  have hd1 : decide ((n : Int) < (k : Int)) = false := decide_eq_false (by omega)
  have hd2 : decide ((k : Int) < 0) = false := decide_eq_false (by omega)
  obtain ⟨c, HCC⟩ : ∃ c : Nat, Hid (k + 1 = c) := ⟨_, Lib.hid rfl⟩
  have hwm : IntKind.i64.wrap ((k : Int) + 1) = (c : Int) := by rw [IntWalk.i64_in _ (by omega)]; have := HCC.out; omega
  have hkc : k < c := by have := HCC.out; omega
  have hc61 : c ≤ 61 := by have := HCC.out; omega
  have hmk := fun W => run_make_row' (P := Try.prog) 53 3 (.int .i64 0) 8 Try.underlying53 Try.info3 rfl .i64 .i64 c (by omega) (by omega) W
  obtain ⟨W1, HW1⟩ : ∃ W, Hid (W = w.alloc (.cells (madeCells #[.int .i64 0] c) 3)) := ⟨_, Lib.hid rfl⟩
  have hb1 : Below w.heap.size w W1 := by rw [HW1.out]; exact below_a1 w _
  have hz1 : w.heap.size + 1 ≤ W1.heap.size := by rw [HW1.out]; simp
  have HM1 := Lib.hid (show IntS W1 w.heap.size (w.heap.size + 1) (.slice (some ⟨w.heap.size, 0, none⟩) c c) (List.replicate c 0) by rw [HW1.out]; exact made_ints _ _ _ rfl (by omega))
  have HM2 := Lib.hid (IntS.set0 HM1.out (j := 0) (by rw [List.length_replicate]; omega) 1)
  have kk := (IntS.at0 HM1.out (j := 0) (by rw [List.length_replicate]; omega))
  have hci : (0 : Int) < (c : Int) := by omega
  go_enter Try.func65, Try.ntmps65
  go_upto_region 4 with (fail)
  rw [← HW1.out]; clear HW1 hmk HM1
  obtain ⟨kk1, kk2⟩ := kk
  go_wp2_with fail
  clear kk1 kk2
  go_loopw [20] (fun iv wr => ∃ (m : Nat) (zs : List Int), m ≤ n ∧ iv = .int .i64 m ∧ Hid (PasF c m zs) ∧ Hid (IntS wr w.heap.size (w.heap.size + 1) (.slice (some ⟨w.heap.size, 0, none⟩) c c) zs) ∧ w.heap.size + 1 ≤ wr.heap.size ∧ Hid (Below w.heap.size w wr)) (fun iv _ => n - (intOf iv).toNat)
  case atStart => exact ⟨0, _, Nat.zero_le _, rfl, Lib.hid PasF.start, HM2, by simp; omega, Lib.hid (hb1.setCell (p := ⟨w.heap.size, 0, none⟩) (Nat.le_refl _) _)⟩
  case round =>
    obtain ⟨m, zs, hm, rfl, HP, HZ, hz, HB⟩ := hrel
    by_cases hlt : m < n
    case neg =>
      obtain rfl : m = n := by omega
      have hki : (k : Int) < (c : Int) := by omega
      have hkl : k < zs.length := by rw [HP.out.1]; exact hkc
      obtain ⟨x1, _⟩ := IntS.at0 HZ.out hkl
      rw [HP.out.2 k hkc] at x1
      skip
      go_wp2_with fail
      go_ret
      exact ⟨rfl, HB.out⟩
    obtain ⟨wo, rfl⟩ : ∃ wo : World, wo = wr := ⟨_, rfl⟩
    go_wp2_with fail
    go_loopw [6] (fun jv wr => ∃ (i : Nat) (ys : List Int), i < c ∧ jv = .int .i64 i ∧ Hid (Pas c m i ys) ∧ Hid (IntS wr w.heap.size (w.heap.size + 1) (.slice (some ⟨w.heap.size, 0, none⟩) c c) ys) ∧ w.heap.size + 1 ≤ wr.heap.size ∧ Hid (Below w.heap.size w wr)) (fun jv _ => (intOf jv).toNat)
    case atStart => exact ⟨k, zs, by have := HCC.out; omega, rfl, Lib.hid (HP.out.go (.inr (by have := HCC.out; omega))), HZ, hz, HB⟩
    case round =>
      obtain ⟨i, ys, hi, rfl, HQ, HZ2, hz2, HB2⟩ := hrel
      by_cases hi0 : i = 0
      case pos =>
        subst hi0
        have HPN := Lib.hid HQ.out.full
        go_wp2_with fail
        go_roundw
        case rel => exact ⟨m + 1, ys, by omega, by go_num, HPN, HZ2, hz2, HB2⟩
        case measure => simp [intOf]; omega
      obtain ⟨p, HIP⟩ : ∃ p : Nat, Hid (i = p + 1) := ⟨i - 1, Lib.hid (by omega)⟩
      have hpc : p < c := by have := HIP.out; omega
      have hw6 : IntKind.i64.wrap ((i : Int) - 1) = (p : Int) := by rw [IntWalk.i64_in _ (by omega)]; have := HIP.out; omega
      have hgi : decide ((0 : Int) < (i : Int)) = true := decide_eq_true (by omega)
      have hii : (i : Int) < (c : Int) := by omega
      have hpi : (p : Int) < (c : Int) := by omega
      have hpi2 : p < i := by have := HIP.out; omega
      have hyl := HQ.out.1
      obtain ⟨a, ea, ha⟩ := HQ.out.at_ (j := i) hi
      obtain ⟨b, eb, hb⟩ := HQ.out.at_ (j := p) hpc
      have a60 : a ≤ 2305843009213693952 := by
        have h1 := ch_le (m + 1) i; have h2 := ch_le m i
        have h3 : 2 ^ (m + 1) ≤ 2 ^ 61 := Nat.pow_le_pow_right (by omega) (by omega)
        have h4 : 2 ^ m ≤ 2 ^ 61 := Nat.pow_le_pow_right (by omega) (by omega)
        have e : (2 : Nat) ^ 61 = 2305843009213693952 := by decide
        omega
      have b60 : b ≤ 2305843009213693952 := by
        have h1 := ch_le (m + 1) p; have h2 := ch_le m p
        have h3 : 2 ^ (m + 1) ≤ 2 ^ 61 := Nat.pow_le_pow_right (by omega) (by omega)
        have h4 : 2 ^ m ≤ 2 ^ 61 := Nat.pow_le_pow_right (by omega) (by omega)
        have e : (2 : Nat) ^ 61 = 2305843009213693952 := by decide
        omega
      clear ha hb
      obtain ⟨s, HS⟩ : ∃ s : Nat, Hid (s = a + b) := ⟨_, Lib.hid rfl⟩
      have hw9 : IntKind.i64.wrap ((a : Int) + (b : Int)) = (s : Int) := by rw [IntWalk.i64_in _ (by omega)]; have := HS.out; omega
      have HQN := Lib.hid (show Pas c m p (ys.set i (s : Int)) by
        have h := HQ.out
        have e := HIP.out
        subst e
        have h2 := h.step (by omega)
        rw [ea, eb] at h2
        rw [HS.out]
        exact_mod_cast h2)
      obtain ⟨y1, y2⟩ := IntS.at0 HZ2.out (j := i) (by omega)
      obtain ⟨y3, _⟩ := IntS.at0 HZ2.out (j := p) (by omega)
      rw [ea] at y1
      rw [eb] at y3
      have EA := Lib.hid ea; have EB := Lib.hid eb; clear ea eb
      have HYS := Lib.hid (HZ2.out.set0 (j := i) (by omega) (s : Int))
      have HBS := Lib.hid (HB2.out.setCell (p := ⟨w.heap.size, i, none⟩) (Nat.le_refl _) (.int .i64 s))
      have Y1 := Lib.hid y1; have Y2 := Lib.hid y2; have Y3 := Lib.hid y3; clear y1 y2 y3
      obtain ⟨wp, rfl⟩ : ∃ wp : World, wp = wr := ⟨_, rfl⟩
      go_wp2_with fail
      refine wp_region_U (fun w' => w'.cell? ⟨w.heap.size, i, none⟩ = some (.int .i64 a) ∧ w'.cell? ⟨w.heap.size, p, none⟩ = some (.int .i64 b)) [11] (by kernel_rfl) ?_
      have hS : wp.drew.cell? ⟨w.heap.size, i, none⟩ = some (.int .i64 a) ∧ wp.drew.cell? ⟨w.heap.size, p, none⟩ = some (.int .i64 b) := ⟨Y1.out, Y3.out⟩
      refine anyU_take (i := 0) (v := .slice (some ⟨w.heap.size, 0, none⟩) c c) rfl (by kernel_rfl) (by kernel_rfl) (by kernel_rfl) (fun _ _ _ h => h) ⟨by rfl, fun w' hS' => (by obtain ⟨s1, s2⟩ := hS'; go_simp)⟩ hS ?_
      simp only [List.getElem_toArray, List.getElem_cons_zero, Act.put, List.setIfInBounds_toArray, List.set_cons_zero, List.set_cons_succ]
      refine anyU_take (i := 1) (v := .int .i64 i) rfl (by kernel_rfl) (by kernel_rfl) (by kernel_rfl) (fun _ _ _ h => h) ⟨by rfl, fun w' hS' => (by obtain ⟨s1, s2⟩ := hS'; go_simp)⟩ hS ?_
      simp only [List.getElem_toArray, List.getElem_cons_succ, List.getElem_cons_zero, Act.put, List.setIfInBounds_toArray, List.set_cons_zero, List.set_cons_succ]
      refine anyU_take (i := 2) (v := .pointer (some ⟨w.heap.size, i, none⟩)) rfl (by kernel_rfl) (by kernel_rfl) (by kernel_rfl) (fun _ _ _ h => h) ⟨by rfl, fun w' hS' => (by obtain ⟨s1, s2⟩ := hS'; simp [go_sem, hii])⟩ hS ?_
      simp only [List.getElem_toArray, List.getElem_cons_succ, List.getElem_cons_zero, Act.put, List.setIfInBounds_toArray, List.set_cons_zero, List.set_cons_succ]
      refine anyU_take (i := 3) (v := .int .i64 a) rfl (by kernel_rfl) (by kernel_rfl) (by kernel_rfl) (fun _ _ _ h => h) ⟨by rfl, fun w' hS' => (by obtain ⟨s1, s2⟩ := hS'; go_simp)⟩ hS ?_
      simp only [List.getElem_toArray, List.getElem_cons_succ, List.getElem_cons_zero, Act.put, List.setIfInBounds_toArray, List.set_cons_zero, List.set_cons_succ]
      refine anyU_take (i := 4) (v := .slice (some ⟨w.heap.size, 0, none⟩) c c) rfl (by kernel_rfl) (by kernel_rfl) (by kernel_rfl) (fun _ _ _ h => h) ⟨by rfl, fun w' hS' => (by obtain ⟨s1, s2⟩ := hS'; go_simp)⟩ hS ?_
      simp only [List.getElem_toArray, List.getElem_cons_succ, List.getElem_cons_zero, Act.put, List.setIfInBounds_toArray, List.set_cons_zero, List.set_cons_succ]
      refine anyU_take (i := 5) (v := .int .i64 i) rfl (by kernel_rfl) (by kernel_rfl) (by kernel_rfl) (fun _ _ _ h => h) ⟨by rfl, fun w' hS' => (by obtain ⟨s1, s2⟩ := hS'; go_simp)⟩ hS ?_
      simp only [List.getElem_toArray, List.getElem_cons_succ, List.getElem_cons_zero, Act.put, List.setIfInBounds_toArray, List.set_cons_zero, List.set_cons_succ]
      refine anyU_take (i := 6) (v := .int .i64 p) rfl (by kernel_rfl) (by kernel_rfl) (by kernel_rfl) (fun _ _ _ h => h) ⟨by rfl, fun w' hS' => (by obtain ⟨s1, s2⟩ := hS'; simp [go_sem, hw6])⟩ hS ?_
      simp only [List.getElem_toArray, List.getElem_cons_succ, List.getElem_cons_zero, Act.put, List.setIfInBounds_toArray, List.set_cons_zero, List.set_cons_succ]
      refine anyU_take (i := 7) (v := .pointer (some ⟨w.heap.size, p, none⟩)) rfl (by kernel_rfl) (by kernel_rfl) (by kernel_rfl) (fun _ _ _ h => h) ⟨by rfl, fun w' hS' => (by obtain ⟨s1, s2⟩ := hS'; simp [go_sem, hpi])⟩ hS ?_
      simp only [List.getElem_toArray, List.getElem_cons_succ, List.getElem_cons_zero, Act.put, List.setIfInBounds_toArray, List.set_cons_zero, List.set_cons_succ]
      refine anyU_take (i := 8) (v := .int .i64 b) rfl (by kernel_rfl) (by kernel_rfl) (by kernel_rfl) (fun _ _ _ h => h) ⟨by rfl, fun w' hS' => (by obtain ⟨s1, s2⟩ := hS'; go_simp)⟩ hS ?_
      simp only [List.getElem_toArray, List.getElem_cons_succ, List.getElem_cons_zero, Act.put, List.setIfInBounds_toArray, List.set_cons_zero, List.set_cons_succ]
      refine anyU_take (i := 9) (v := .int .i64 s) rfl (by kernel_rfl) (by kernel_rfl) (by kernel_rfl) (fun _ _ _ h => h) ⟨by rfl, fun w' hS' => (by obtain ⟨s1, s2⟩ := hS'; simp [go_sem, hw9])⟩ hS ?_
      simp only [List.getElem_toArray, List.getElem_cons_succ, List.getElem_cons_zero, Act.put, List.setIfInBounds_toArray, List.set_cons_zero, List.set_cons_succ]
      refine anyU_take (i := 10) (v := .pointer (some ⟨w.heap.size, i, none⟩)) rfl (by kernel_rfl) (by kernel_rfl) (by kernel_rfl) (fun _ _ _ h => h) ⟨by rfl, fun w' hS' => (by obtain ⟨s1, s2⟩ := hS'; simp [go_sem, hii])⟩ hS ?_
      simp only [List.getElem_toArray, List.getElem_cons_succ, List.getElem_cons_zero, Act.put, List.setIfInBounds_toArray, List.set_cons_zero, List.set_cons_succ]
      refine anyU_ready (rs := [11]) (by kernel_rfl) (by simp) ?_
      refine ReadyU.cons (i := 11) rfl (fun K hK => ?_) ReadyU.nil
      simp only [List.getElem_toArray, List.getElem_cons_succ, List.getElem_cons_zero]
      refine ite_is (by rfl) ?_
      have zc : wp.drew.cell? ⟨w.heap.size, i, none⟩ = some (.int .i64 a) := Y1.out
      have zf : wp.drew.frozen? ⟨w.heap.size, i, none⟩ = false := Y2.out
      simp [go_sem, zc, zf]
      refine hK.out _ _ ⟨fun h => absurd h (by decide), ?_⟩
      clear hK K zc zf
      try simp only [List.getElem_toArray, List.getElem_cons_succ, List.getElem_cons_zero, Act.put, List.setIfInBounds_toArray, List.set_cons_zero, List.set_cons_succ]
      clear hS
      refine anyU_done (by kernel_rfl) ?_ _
      go_wp2_with fail
      go_roundw
      case rel => exact ⟨p, ys.set i (s : Int), hpc, by go_num, HQN, Lib.hid (IntS.still (HYS.out) (grown_drew _) (by rw [size_setCell]; omega)), by simp; omega, Lib.hid ((HB2.out.drew).setCell (p := ⟨w.heap.size, i, none⟩) (Nat.le_refl _) _)⟩
      case measure => simp [intOf]; omega

set_option maxHeartbeats 4000000 in
set_option maxRecDepth 100000 in
theorem nuChoose_any (n : Nat) (k : Nat) (w : World)  (hn : n ≤ 60) (hk : k ≤ 60) :
    Calls Try.prog 63 #[.int .i64 (n : Nat), .int .i64 (k : Nat)] w fun e w' => e = .returned (.int .i64 (ch n k : Nat)) ∧ Below w.heap.size w w' := by
  by_cases hkn : n < k
  case pos =>
    have hd1 : decide ((n : Int) < (k : Int)) = true := decide_eq_true (by omega)
    have hd2 : decide ((k : Int) < 0) = false := decide_eq_false (by omega)
    have HE := Lib.hid (ch_over hkn)
    go_enter Try.func63, Try.ntmps63
    go_wp2_with fail
    go_ret
    exact ⟨ret_int (by rw [HE.out]; rfl), Below.refl _ _⟩
  have hd1 : decide ((n : Int) < (k : Int)) = false := decide_eq_false (by omega)
  have hd2 : decide ((k : Int) < 0) = false := decide_eq_false (by omega)
  obtain ⟨c, HCC⟩ : ∃ c : Nat, Hid (n + 1 = c) := ⟨_, Lib.hid rfl⟩
  have hwm : IntKind.i64.wrap ((n : Int) + 1) = (c : Int) := by rw [IntWalk.i64_in _ (by omega)]; have := HCC.out; omega
  have hkc : k < c := by have := HCC.out; omega
  have hc61 : c ≤ 61 := by have := HCC.out; omega
  have hmk := fun W => run_make_row' (P := Try.prog) 53 3 (.int .i64 0) 8 Try.underlying53 Try.info3 rfl .i64 .i64 c (by omega) (by omega) W
  obtain ⟨W1, HW1⟩ : ∃ W, Hid (W = w.alloc (.cells (madeCells #[.int .i64 0] c) 3)) := ⟨_, Lib.hid rfl⟩
  have hb1 : Below w.heap.size w W1 := by rw [HW1.out]; exact below_a1 w _
  have hz1 : w.heap.size + 1 ≤ W1.heap.size := by rw [HW1.out]; simp
  have HM1 := Lib.hid (show IntS W1 w.heap.size (w.heap.size + 1) (.slice (some ⟨w.heap.size, 0, none⟩) c c) (List.replicate c 0) by rw [HW1.out]; exact made_ints _ _ _ rfl (by omega))
  have HM2 := Lib.hid (IntS.set0 HM1.out (j := 0) (by rw [List.length_replicate]; omega) 1)
  have kk := (IntS.at0 HM1.out (j := 0) (by rw [List.length_replicate]; omega))
  have hci : (0 : Int) < (c : Int) := by omega
  go_enter Try.func63, Try.ntmps63
  go_upto_region 4 with (fail)
  rw [← HW1.out]; clear HW1 hmk HM1
  obtain ⟨kk1, kk2⟩ := kk
  go_wp2_with fail
  clear kk1 kk2
  go_loopw [6] (fun iv wr => ∃ (m e : Nat) (zs : List Int), m ≤ n ∧ iv = .int .i64 e ∧ Hid (e = m + 1) ∧ Hid (PasF c m zs) ∧ Hid (IntS wr w.heap.size (w.heap.size + 1) (.slice (some ⟨w.heap.size, 0, none⟩) c c) zs) ∧ w.heap.size + 1 ≤ wr.heap.size ∧ Hid (Below w.heap.size w wr)) (fun iv _ => n + 1 - (intOf iv).toNat)
  case atStart => exact ⟨0, 1, _, Nat.zero_le _, rfl, Lib.hid rfl, Lib.hid PasF.start, HM2, by simp; omega, Lib.hid (hb1.setCell (p := ⟨w.heap.size, 0, none⟩) (Nat.le_refl _) _)⟩
  case round =>
    obtain ⟨m, e, zs, hm, rfl, HEM, HP, HZ, hz, HB⟩ := hrel
    by_cases hlt : m < n
    case neg =>
      obtain rfl : m = n := by omega
      have hki : (k : Int) < (c : Int) := by omega
      have hkl : k < zs.length := by rw [HP.out.1]; exact hkc
      obtain ⟨x1, _⟩ := IntS.at0 HZ.out hkl
      rw [HP.out.2 k hkc] at x1
      have hle : decide ((e : Int) ≤ (m : Int)) = false := decide_eq_false (by have := HEM.out; omega)
      have hle3 : decide (e ≤ m) = false := decide_eq_false (by have := HEM.out; omega)
      have hle4 : m < e := by have := HEM.out; omega
      go_wp2_with fail
      go_ret
      exact ⟨rfl, HB.out⟩
    obtain ⟨wo, rfl⟩ : ∃ wo : World, wo = wr := ⟨_, rfl⟩
    have hle : decide ((e : Int) ≤ (n : Int)) = true := decide_eq_true (by have := HEM.out; omega)
    have hen : e ≤ n := by have := HEM.out; omega
    go_wp2_with fail
    go_loopw [7] (fun jv wr => ∃ (i : Nat) (ys : List Int), i < c ∧ jv = .int .i64 i ∧ Hid (Pas c m i ys) ∧ Hid (IntS wr w.heap.size (w.heap.size + 1) (.slice (some ⟨w.heap.size, 0, none⟩) c c) ys) ∧ w.heap.size + 1 ≤ wr.heap.size ∧ Hid (Below w.heap.size w wr)) (fun jv _ => (intOf jv).toNat)
    case atStart => exact ⟨e, zs, by have := HCC.out; omega, rfl, Lib.hid (HP.out.go (.inl (Nat.le_of_eq HEM.out.symm))), HZ, hz, HB⟩
    case round =>
      obtain ⟨i, ys, hi, rfl, HQ, HZ2, hz2, HB2⟩ := hrel
      by_cases hi0 : i = 0
      case pos =>
        subst hi0
        have HPN := Lib.hid HQ.out.full
        go_wp2_with fail
        go_roundw
        case rel => exact ⟨m + 1, e + 1, ys, by omega, by go_num, Lib.hid (by rw [HEM.out]), HPN, HZ2, hz2, HB2⟩
        case measure => simp [intOf]; omega
      obtain ⟨p, HIP⟩ : ∃ p : Nat, Hid (i = p + 1) := ⟨i - 1, Lib.hid (by omega)⟩
      have hpc : p < c := by have := HIP.out; omega
      have hw6 : IntKind.i64.wrap ((i : Int) - 1) = (p : Int) := by rw [IntWalk.i64_in _ (by omega)]; have := HIP.out; omega
      have hgi : decide ((0 : Int) < (i : Int)) = true := decide_eq_true (by omega)
      have hii : (i : Int) < (c : Int) := by omega
      have hpi : (p : Int) < (c : Int) := by omega
      have hpi2 : p < i := by have := HIP.out; omega
      have hyl := HQ.out.1
      obtain ⟨a, ea, ha⟩ := HQ.out.at_ (j := i) hi
      obtain ⟨b, eb, hb⟩ := HQ.out.at_ (j := p) hpc
      have a60 : a ≤ 2305843009213693952 := by
        have h1 := ch_le (m + 1) i; have h2 := ch_le m i
        have h3 : 2 ^ (m + 1) ≤ 2 ^ 61 := Nat.pow_le_pow_right (by omega) (by omega)
        have h4 : 2 ^ m ≤ 2 ^ 61 := Nat.pow_le_pow_right (by omega) (by omega)
        have e : (2 : Nat) ^ 61 = 2305843009213693952 := by decide
        omega
      have b60 : b ≤ 2305843009213693952 := by
        have h1 := ch_le (m + 1) p; have h2 := ch_le m p
        have h3 : 2 ^ (m + 1) ≤ 2 ^ 61 := Nat.pow_le_pow_right (by omega) (by omega)
        have h4 : 2 ^ m ≤ 2 ^ 61 := Nat.pow_le_pow_right (by omega) (by omega)
        have e : (2 : Nat) ^ 61 = 2305843009213693952 := by decide
        omega
      clear ha hb
      obtain ⟨s, HS⟩ : ∃ s : Nat, Hid (s = a + b) := ⟨_, Lib.hid rfl⟩
      have hw9 : IntKind.i64.wrap ((a : Int) + (b : Int)) = (s : Int) := by rw [IntWalk.i64_in _ (by omega)]; have := HS.out; omega
      have HQN := Lib.hid (show Pas c m p (ys.set i (s : Int)) by
        have h := HQ.out
        have e := HIP.out
        subst e
        have h2 := h.step (by omega)
        rw [ea, eb] at h2
        rw [HS.out]
        exact_mod_cast h2)
      obtain ⟨y1, y2⟩ := IntS.at0 HZ2.out (j := i) (by omega)
      obtain ⟨y3, _⟩ := IntS.at0 HZ2.out (j := p) (by omega)
      rw [ea] at y1
      rw [eb] at y3
      have EA := Lib.hid ea; have EB := Lib.hid eb; clear ea eb
      have HYS := Lib.hid (HZ2.out.set0 (j := i) (by omega) (s : Int))
      have HBS := Lib.hid (HB2.out.setCell (p := ⟨w.heap.size, i, none⟩) (Nat.le_refl _) (.int .i64 s))
      have Y1 := Lib.hid y1; have Y2 := Lib.hid y2; have Y3 := Lib.hid y3; clear y1 y2 y3
      obtain ⟨wp, rfl⟩ : ∃ wp : World, wp = wr := ⟨_, rfl⟩
      go_wp2_with fail
      refine wp_region_U (fun w' => w'.cell? ⟨w.heap.size, i, none⟩ = some (.int .i64 a) ∧ w'.cell? ⟨w.heap.size, p, none⟩ = some (.int .i64 b)) [11] (by kernel_rfl) ?_
      have hS : wp.drew.cell? ⟨w.heap.size, i, none⟩ = some (.int .i64 a) ∧ wp.drew.cell? ⟨w.heap.size, p, none⟩ = some (.int .i64 b) := ⟨Y1.out, Y3.out⟩
      refine anyU_take (i := 0) (v := .slice (some ⟨w.heap.size, 0, none⟩) c c) rfl (by kernel_rfl) (by kernel_rfl) (by kernel_rfl) (fun _ _ _ h => h) ⟨by rfl, fun w' hS' => (by obtain ⟨s1, s2⟩ := hS'; go_simp)⟩ hS ?_
      simp only [List.getElem_toArray, List.getElem_cons_zero, Act.put, List.setIfInBounds_toArray, List.set_cons_zero, List.set_cons_succ]
      refine anyU_take (i := 1) (v := .int .i64 i) rfl (by kernel_rfl) (by kernel_rfl) (by kernel_rfl) (fun _ _ _ h => h) ⟨by rfl, fun w' hS' => (by obtain ⟨s1, s2⟩ := hS'; go_simp)⟩ hS ?_
      simp only [List.getElem_toArray, List.getElem_cons_succ, List.getElem_cons_zero, Act.put, List.setIfInBounds_toArray, List.set_cons_zero, List.set_cons_succ]
      refine anyU_take (i := 2) (v := .pointer (some ⟨w.heap.size, i, none⟩)) rfl (by kernel_rfl) (by kernel_rfl) (by kernel_rfl) (fun _ _ _ h => h) ⟨by rfl, fun w' hS' => (by obtain ⟨s1, s2⟩ := hS'; simp [go_sem, hii])⟩ hS ?_
      simp only [List.getElem_toArray, List.getElem_cons_succ, List.getElem_cons_zero, Act.put, List.setIfInBounds_toArray, List.set_cons_zero, List.set_cons_succ]
      refine anyU_take (i := 3) (v := .int .i64 a) rfl (by kernel_rfl) (by kernel_rfl) (by kernel_rfl) (fun _ _ _ h => h) ⟨by rfl, fun w' hS' => (by obtain ⟨s1, s2⟩ := hS'; go_simp)⟩ hS ?_
      simp only [List.getElem_toArray, List.getElem_cons_succ, List.getElem_cons_zero, Act.put, List.setIfInBounds_toArray, List.set_cons_zero, List.set_cons_succ]
      refine anyU_take (i := 4) (v := .slice (some ⟨w.heap.size, 0, none⟩) c c) rfl (by kernel_rfl) (by kernel_rfl) (by kernel_rfl) (fun _ _ _ h => h) ⟨by rfl, fun w' hS' => (by obtain ⟨s1, s2⟩ := hS'; go_simp)⟩ hS ?_
      simp only [List.getElem_toArray, List.getElem_cons_succ, List.getElem_cons_zero, Act.put, List.setIfInBounds_toArray, List.set_cons_zero, List.set_cons_succ]
      refine anyU_take (i := 5) (v := .int .i64 i) rfl (by kernel_rfl) (by kernel_rfl) (by kernel_rfl) (fun _ _ _ h => h) ⟨by rfl, fun w' hS' => (by obtain ⟨s1, s2⟩ := hS'; go_simp)⟩ hS ?_
      simp only [List.getElem_toArray, List.getElem_cons_succ, List.getElem_cons_zero, Act.put, List.setIfInBounds_toArray, List.set_cons_zero, List.set_cons_succ]
      refine anyU_take (i := 6) (v := .int .i64 p) rfl (by kernel_rfl) (by kernel_rfl) (by kernel_rfl) (fun _ _ _ h => h) ⟨by rfl, fun w' hS' => (by obtain ⟨s1, s2⟩ := hS'; simp [go_sem, hw6])⟩ hS ?_
      simp only [List.getElem_toArray, List.getElem_cons_succ, List.getElem_cons_zero, Act.put, List.setIfInBounds_toArray, List.set_cons_zero, List.set_cons_succ]
      refine anyU_take (i := 7) (v := .pointer (some ⟨w.heap.size, p, none⟩)) rfl (by kernel_rfl) (by kernel_rfl) (by kernel_rfl) (fun _ _ _ h => h) ⟨by rfl, fun w' hS' => (by obtain ⟨s1, s2⟩ := hS'; simp [go_sem, hpi])⟩ hS ?_
      simp only [List.getElem_toArray, List.getElem_cons_succ, List.getElem_cons_zero, Act.put, List.setIfInBounds_toArray, List.set_cons_zero, List.set_cons_succ]
      refine anyU_take (i := 8) (v := .int .i64 b) rfl (by kernel_rfl) (by kernel_rfl) (by kernel_rfl) (fun _ _ _ h => h) ⟨by rfl, fun w' hS' => (by obtain ⟨s1, s2⟩ := hS'; go_simp)⟩ hS ?_
      simp only [List.getElem_toArray, List.getElem_cons_succ, List.getElem_cons_zero, Act.put, List.setIfInBounds_toArray, List.set_cons_zero, List.set_cons_succ]
      refine anyU_take (i := 9) (v := .int .i64 s) rfl (by kernel_rfl) (by kernel_rfl) (by kernel_rfl) (fun _ _ _ h => h) ⟨by rfl, fun w' hS' => (by obtain ⟨s1, s2⟩ := hS'; simp [go_sem, hw9])⟩ hS ?_
      simp only [List.getElem_toArray, List.getElem_cons_succ, List.getElem_cons_zero, Act.put, List.setIfInBounds_toArray, List.set_cons_zero, List.set_cons_succ]
      refine anyU_take (i := 10) (v := .pointer (some ⟨w.heap.size, i, none⟩)) rfl (by kernel_rfl) (by kernel_rfl) (by kernel_rfl) (fun _ _ _ h => h) ⟨by rfl, fun w' hS' => (by obtain ⟨s1, s2⟩ := hS'; simp [go_sem, hii])⟩ hS ?_
      simp only [List.getElem_toArray, List.getElem_cons_succ, List.getElem_cons_zero, Act.put, List.setIfInBounds_toArray, List.set_cons_zero, List.set_cons_succ]
      refine anyU_ready (rs := [11]) (by kernel_rfl) (by simp) ?_
      refine ReadyU.cons (i := 11) rfl (fun K hK => ?_) ReadyU.nil
      simp only [List.getElem_toArray, List.getElem_cons_succ, List.getElem_cons_zero]
      refine ite_is (by rfl) ?_
      have zc : wp.drew.cell? ⟨w.heap.size, i, none⟩ = some (.int .i64 a) := Y1.out
      have zf : wp.drew.frozen? ⟨w.heap.size, i, none⟩ = false := Y2.out
      simp [go_sem, zc, zf]
      refine hK.out _ _ ⟨fun h => absurd h (by decide), ?_⟩
      clear hK K zc zf
      try simp only [List.getElem_toArray, List.getElem_cons_succ, List.getElem_cons_zero, Act.put, List.setIfInBounds_toArray, List.set_cons_zero, List.set_cons_succ]
      clear hS
      refine anyU_done (by kernel_rfl) ?_ _
      go_wp2_with fail
      go_roundw
      case rel => exact ⟨p, ys.set i (s : Int), hpc, by go_num, HQN, Lib.hid (IntS.still (HYS.out) (grown_drew _) (by rw [size_setCell]; omega)), by simp; omega, Lib.hid ((HB2.out.drew).setCell (p := ⟨w.heap.size, i, none⟩) (Nat.le_refl _) _)⟩
      case measure => simp [intOf]; omega

end Go.Proofs.Ytlignkgfclenkaa
