/-
  Contracts: whole numbers, digits (program and reference), sums.
-/
import Derived.Test.YtbbdhcfbdndhlaaDoorDgP
import Derived.Test.YtbbdhcfbdndhlaaDoorCurs2
import Derived.Test.YtbbdhcfbdndhlaaDoorFind
import Derived.Test.YtbbdhcfbdndhlaaDoorSSet
import Derived.Test.YtbbdhcfbdndhlaaDoorBoolS
namespace Go.Proofs.YtbbdhcfbdndhlaaDoor
open Go.ChangeShapes Go.WideShapes Go.ChangeAt Go.RowKit
set_option linter.unusedVariables false

theorem tdivN (a b : Nat) : Int.tdiv (a : Int) (b : Int) = ((a / b : Nat) : Int) := (Int.ofNat_tdiv a b).symm

theorem isWhole_any (n : Int) (w : World) : Calls Tryd.prog 23 #[.int .i64 n] w fun e w' => e = .returned (.bool (inB n 0 1000000000000)) ∧ w = w' := by
  go_enter Tryd.func23, Tryd.ntmps23
  go_wp2_with fail
  refine (within_any _ _ _ _).mono ?_
  rintro e w' ⟨rfl, rfl⟩
  go_wp2_with fail
  go_ret
  exact ⟨rfl, rfl⟩

theorem nuWhole_any (n : Int) (w : World) : Calls Tryd.prog 25 #[.int .i64 n] w fun e w' => e = .returned (.bool (inB n 0 1000000000000)) ∧ w = w' := by
  go_enter Tryd.func25, Tryd.ntmps25
  go_wp2_with fail
  refine (l1In_any _ _ _ _).mono ?_
  rintro e w' ⟨rfl, rfl⟩
  go_wp2_with fail
  go_ret
  exact ⟨rfl, rfl⟩

set_option maxHeartbeats 4000000 in
set_option maxRecDepth 100000 in
theorem DigitsOf_impl (n : Int) (b : Int) (c : Int) (w : World)   :
    Calls Tryd.prog 6 #[.int .i64 n, .int .i64 b, .int .i64 c] w fun e w' => ∃ r, e = .returned (.tuple #[r, .bool (digOk n b c)]) ∧ IntS w' w.heap.size w'.heap.size r (digOut n b c) ∧ Below w.heap.size w w' := by
  go_enter Tryd.func6, Tryd.ntmps6
  by_cases ha : inB n 0 1000000000000 = true
  case neg =>
    have ha' : inB n 0 1000000000000 = false := by simpa using ha
    have HNO := Lib.hid (show digOk n b c = false by unfold digOk; rw [ha']; simp)
    go_wp2_with (first | (go_at_call 23; refine (isWhole_any _ _).mono ?_; rintro e w' ⟨rfl, rfl⟩) | (go_at_call 24; refine (within_any _ _ _ _).mono ?_; rintro e w' ⟨rfl, rfl⟩))
    go_ret2
    exact ⟨_, ret_vb HNO.out.symm, by rw [digOut_no HNO.out]; exact IntS.nil _ _ _, Below.refl _ _⟩
  by_cases hb : inB b 2 1000 = true
  case neg =>
    have hb' : inB b 2 1000 = false := by simpa using hb
    have HNO := Lib.hid (show digOk n b c = false by unfold digOk; rw [hb']; simp)
    go_wp2_with (first | (go_at_call 23; refine (isWhole_any _ _).mono ?_; rintro e w' ⟨rfl, rfl⟩) | (go_at_call 24; refine (within_any _ _ _ _).mono ?_; rintro e w' ⟨rfl, rfl⟩))
    go_ret2
    exact ⟨_, ret_vb HNO.out.symm, by rw [digOut_no HNO.out]; exact IntS.nil _ _ _, Below.refl _ _⟩
  by_cases hc : inB c 0 60 = true
  case neg =>
    have hc' : inB c 0 60 = false := by simpa using hc
    have HNO := Lib.hid (show digOk n b c = false by unfold digOk; rw [hc']; simp)
    go_wp2_with (first | (go_at_call 23; refine (isWhole_any _ _).mono ?_; rintro e w' ⟨rfl, rfl⟩) | (go_at_call 24; refine (within_any _ _ _ _).mono ?_; rintro e w' ⟨rfl, rfl⟩))
    go_ret2
    exact ⟨_, ret_vb HNO.out.symm, by rw [digOut_no HNO.out]; exact IntS.nil _ _ _, Below.refl _ _⟩
  have HA := Lib.hid (inB_le ha); have HB := Lib.hid (inB_le hb); have HC := Lib.hid (inB_le hc)
  obtain ⟨N, rfl⟩ : ∃ m : Nat, n = m := ⟨n.toNat, by have := HA.out; omega⟩
  obtain ⟨b, rfl⟩ : ∃ m : Nat, b = m := ⟨b.toNat, by have := HB.out; omega⟩
  obtain ⟨c, rfl⟩ : ∃ m : Nat, c = m := ⟨c.toNat, by have := HC.out; omega⟩
  have hN : N ≤ 1000000000000 := by have := HA.out; omega
  have hb2 : 2 ≤ b := by have := HB.out; omega
  have hb3 : b ≤ 1000 := by have := HB.out; omega
  have hc60 : c ≤ 60 := by have := HC.out; omega
  have HDK := Lib.hid (show digOk (N : Int) (b : Int) (c : Int) = decide (N / b ^ c = 0) by unfold digOk; rw [ha, hb, hc]; simp only [Bool.true_and, Int.toNat_natCast])
  go_wp2_with (first | (go_at_call 23; refine (isWhole_any _ _).mono ?_; rintro e w' ⟨rfl, rfl⟩) | (go_at_call 24; refine (within_any _ _ _ _).mono ?_; rintro e w' ⟨rfl, rfl⟩))
  go_loopw [0, 8, 23] (fun nv ov iv wr => ∃ (i m : Nat) (out : List Int), i ≤ c ∧ iv = .int .i64 i ∧ nv = .int .i64 m ∧ Hid (m = N / b ^ i) ∧ Hid (OwnI wr w.heap.size 3 ov out) ∧ Hid (out = digs N b i) ∧ Hid (Turned w.heap.size w.heap.size w wr)) (fun nv ov iv _ => c - (intOf iv).toNat)
  case atStart => exact ⟨0, N, [], Nat.zero_le _, rfl, rfl, Lib.hid (by simp), Lib.hid (OwnI.nil _ _ _), Lib.hid rfl, Lib.hid (Turned.refl w.heap.size w.heap.size w)⟩
  case round =>
    obtain ⟨i, m, out, hi, rfl, rfl, HM, HO, HD, HF1⟩ := hrel
    have hs1 := HF1.out.size
    have hm : m ≤ 1000000000000 := by rw [HM.out]; exact Nat.le_trans (div_le' _ _ _) hN
    have hol : out.length ≤ 60 := by rw [HD.out, digs_len]; omega
    by_cases hic : i < c
    case pos =>
      have hii : (i : Int) < c := by omega
      obtain ⟨x, HX⟩ : ∃ x, Hid (m % b = x) := ⟨_, Lib.hid rfl⟩
      obtain ⟨y, HY⟩ : ∃ y, Hid (m / b = y) := ⟨_, Lib.hid rfl⟩
      have hml : x < b := by rw [← HX.out]; exact Nat.mod_lt _ (by omega)
      have hdl : y ≤ m := by rw [← HY.out]; exact Nat.div_le_self _ _
      have hb0 : ¬ (b : Int) = 0 := by omega
      have hbn : ¬ b = 0 := by omega
      have hme : (m : Int) % (b : Int) = (x : Int) := by rw [← HX.out]; rfl
      have hde : (m : Int) / (b : Int) = (y : Int) := by rw [← HY.out]; rfl
      have HSD := Lib.hid (show digs N b (i + 1) = out ++ [((m % b : Nat) : Int)] by rw [digs_succ, ← HD.out, HM.out])
      have HSM := Lib.hid (show m / b = N / b ^ (i + 1) by rw [HM.out, div_step])
      have HLT := Lib.hid HO.out.lt
      rw [HX.out] at HSD
      rw [HY.out] at HSM
      go_wp2_with (at_builtin; refine append_int (s := .tmp 25) Tryd.underlying26 Tryd.info3 (by decide) wr rfl _ rfl HO.out x _ rfl (by simp [Act.eval, go_sem]) (by omega) (by omega) ?_; intro v' w' ho' hg' hat')
      go_roundw
      case rel => exact ⟨i + 1, y, _, by omega, by go_num, by go_num, HSM, Lib.hid ho', Lib.hid HSD.out.symm, Lib.hid (HF1.out.grown hg' fun g e => .inr (HLT.out g e).1)⟩
      case measure => simp [intOf]; omega
    obtain rfl : i = c := by omega
    obtain ⟨Ao, co, rfl, hco, hdo⟩ := HO.out.ints.dims
    by_cases hz : m = 0
    case pos =>
      have HYES := Lib.hid (show digOk (N : Int) (b : Int) (i : Int) = true by rw [HDK.out, ← HM.out, hz]; rfl)
      have hm0 : ¬ (0 : Int) < m := by omega
      subst hz
      go_wp2_with fail
      go_ret2
      exact ⟨_, ret_vb HYES.out.symm, by rw [digOut_yes HYES.out, Int.toNat_natCast, Int.toNat_natCast, Int.toNat_natCast, ← HD.out]; exact HO.out.ints, (HF1.out.below_of (Below.refl _ _) (by omega) (by omega))⟩
    have HNO := Lib.hid (show digOk (N : Int) (b : Int) (i : Int) = false by rw [HDK.out, ← HM.out, decide_eq_false hz])
    have hm0 : (0 : Int) < m := by omega
    go_wp2_with fail
    go_ret2
    exact ⟨_, ret_vb HNO.out.symm, by rw [digOut_no HNO.out]; exact IntS.nil _ _ _, (HF1.out.below_of (Below.refl _ _) (by omega) (by omega))⟩

set_option maxHeartbeats 2000000 in
set_option maxRecDepth 100000 in
theorem nuDigits_any (N : Nat) (b : Nat) (c : Nat) (w : World)  (hN : N ≤ 1000000000000) (hb2 : 2 ≤ b) (hb3 : b ≤ 1000) (hc : c ≤ 60) :
    Calls Tryd.prog 27 #[.int .i64 (N : Nat), .int .i64 (b : Nat), .int .i64 (c : Nat)] w fun e w' => ∃ r, e = .returned (r) ∧ IntS w' w.heap.size w'.heap.size r (digs N b c) ∧ Below w.heap.size w w' := by
  go_enter Tryd.func27, Tryd.ntmps27
  have hmk := fun W => run_make_row' (P := Tryd.prog) 26 3 (.int .i64 0) 8 Tryd.underlying26 Tryd.info3 rfl .i64 .i64 c (by omega) (by omega) W
  go_upto_region 2 with (fail)
  refine nameC ?_
  intro W1 HW1
  have hg1 : w.grownBy W1 none := by rw [HW1.out]; exact grown_alloc _ _
  have hs1 := hg1.size
  have HF1 := Lib.hid ((Turned.refl w.heap.size w.heap.size w).still hg1)
  have HZ := Lib.hid (show IntS W1 (w.heap.size) (w.heap.size + 1) (.slice (some ⟨w.heap.size, 0, none⟩) c c) (List.replicate c 0) by rw [HW1.out]; exact made_ints _ _ _ rfl (by omega))
  have hz : w.heap.size + 1 ≤ W1.heap.size := by rw [HW1.out]; simp
  clear HW1 hmk
  go_wp2_with fail
  go_loopw [0, 13] (fun nv iv wr => ∃ (i m : Nat) (zs : List Int), i ≤ c ∧ iv = .int .i64 i ∧ nv = .int .i64 m ∧ Hid (m = N / b ^ i) ∧ Hid (IntS wr (w.heap.size) (w.heap.size + 1) (.slice (some ⟨w.heap.size, 0, none⟩) c c) zs) ∧ Hid (zs.length = c) ∧ Hid (∀ j, j < i → nth zs j = nth (digs N b c) j) ∧ w.heap.size + 1 ≤ wr.heap.size ∧ Hid (Turned w.heap.size w.heap.size w wr)) (fun nv iv _ => c - (intOf iv).toNat)
  case atStart => exact ⟨0, N, _, Nat.zero_le _, rfl, rfl, Lib.hid (by simp), HZ, Lib.hid (by simp), Lib.hid (fun j hj => absurd hj (by omega)), hz, HF1⟩
  case round =>
    clear HF1
    obtain ⟨i, m, zs, hi, rfl, rfl, HM, HZ, HL, HD, hz, HF2⟩ := hrel
    have hs2 := HF2.out.size
    have hm : m ≤ 1000000000000 := by rw [HM.out]; exact Nat.le_trans (div_le' _ _ _) hN
    by_cases hic : i < c
    case neg =>
      obtain rfl : i = c := by omega
      have HE := Lib.hid (show zs = digs N b i from ext_nth (by rw [HL.out, digs_len]) fun j hj => HD.out j (by rw [HL.out] at hj; exact hj))
      rw [HE.out] at HZ
      go_wp2_with fail
      go_ret
      exact ⟨_, rfl, IntS.mono HZ.out (Nat.le_refl _) (by omega), (HF2.out.below_of (Below.refl _ _) (by omega) (by omega))⟩
    have hii : (i : Int) < c := by omega
    obtain ⟨x, HX⟩ : ∃ x, Hid (m % b = x) := ⟨_, Lib.hid rfl⟩
    obtain ⟨y, HY⟩ : ∃ y, Hid (m / b = y) := ⟨_, Lib.hid rfl⟩
    have hml : x < b := by rw [← HX.out]; exact Nat.mod_lt _ (by omega)
    have hdl : y ≤ m := by rw [← HY.out]; exact Nat.div_le_self _ _
    have hb0 : ¬ (b : Int) = 0 := by omega
    have hbn : ¬ b = 0 := by omega
    have hme : (m : Int) % (b : Int) = (x : Int) := by rw [← HX.out]; rfl
    have hde : (m : Int) / (b : Int) = (y : Int) := by rw [← HY.out]; rfl
    have HSM := Lib.hid (show m / b = N / b ^ (i + 1) by rw [HM.out, div_step])
    have HSD := Lib.hid (show nth (digs N b c) i = ((m % b : Nat) : Int) by rw [nth_digs hic, HM.out])
    rw [HX.out] at HSD
    rw [HY.out] at HSM
    obtain ⟨y1, y2⟩ := HZ.out.at0 (j := i) (by rw [HL.out]; exact hic)
    obtain ⟨z, HZ9⟩ : ∃ z, Hid (nth zs i = z) := ⟨_, Lib.hid rfl⟩
    rw [HZ9.out] at y1
    have HSET := Lib.hid (HZ.out.set0 (j := i) (by rw [HL.out]; exact hic) (x : Int))
    have HN := Lib.hid (show ∀ j, j < i + 1 → nth (zs.set i (x : Int)) j = nth (digs N b c) j from fun j hj => by
      rw [nth_set _ _ _ _ (by rw [HL.out]; exact hic)]
      by_cases e : j = i
      · rw [if_pos e, e, HSD.out]
      · rw [if_neg e]; exact HD.out j (by omega))
    go_wp2_with fail
    go_roundw
    case rel => exact ⟨i + 1, y, _, by omega, by go_num, by go_num, HSM, HSET, Lib.hid (by rw [List.length_set]; exact HL.out), HN, by rw [size_setCell]; omega, Lib.hid (HF2.out.grown (grown_set _ _ _) (fun g e => .inr (by cases e; show w.heap.size ≤ w.heap.size; omega)))⟩
    case measure => simp [intOf]; omega

set_option maxHeartbeats 4000000 in
set_option maxRecDepth 100000 in
theorem DigitsOf_spec (n : Int) (b : Int) (c : Int) (w : World)   :
    Calls Tryd.prog 7 #[.int .i64 n, .int .i64 b, .int .i64 c] w fun e w' => ∃ r, e = .returned (.tuple #[r, .bool (digOk n b c)]) ∧ IntS w' w.heap.size w'.heap.size r (digOut n b c) ∧ Below w.heap.size w w' := by
  go_enter Tryd.func7, Tryd.ntmps7
  by_cases ha : inB n 0 1000000000000 = true
  case neg =>
    have ha' : inB n 0 1000000000000 = false := by simpa using ha
    have HNO := Lib.hid (show digOk n b c = false by unfold digOk; rw [ha']; simp)
    go_wp2_with (first | (go_at_call 25; refine (nuWhole_any _ _).mono ?_; rintro e w' ⟨rfl, rfl⟩) | (go_at_call 26; refine (l1In_any _ _ _ _).mono ?_; rintro e w' ⟨rfl, rfl⟩))
    go_ret2
    exact ⟨_, ret_vb HNO.out.symm, by rw [digOut_no HNO.out]; exact IntS.nil _ _ _, Below.refl _ _⟩
  by_cases hb : inB b 2 1000 = true
  case neg =>
    have hb' : inB b 2 1000 = false := by simpa using hb
    have HNO := Lib.hid (show digOk n b c = false by unfold digOk; rw [hb']; simp)
    go_wp2_with (first | (go_at_call 25; refine (nuWhole_any _ _).mono ?_; rintro e w' ⟨rfl, rfl⟩) | (go_at_call 26; refine (l1In_any _ _ _ _).mono ?_; rintro e w' ⟨rfl, rfl⟩))
    go_ret2
    exact ⟨_, ret_vb HNO.out.symm, by rw [digOut_no HNO.out]; exact IntS.nil _ _ _, Below.refl _ _⟩
  by_cases hc : inB c 0 60 = true
  case neg =>
    have hc' : inB c 0 60 = false := by simpa using hc
    have HNO := Lib.hid (show digOk n b c = false by unfold digOk; rw [hc']; simp)
    go_wp2_with (first | (go_at_call 25; refine (nuWhole_any _ _).mono ?_; rintro e w' ⟨rfl, rfl⟩) | (go_at_call 26; refine (l1In_any _ _ _ _).mono ?_; rintro e w' ⟨rfl, rfl⟩))
    go_ret2
    exact ⟨_, ret_vb HNO.out.symm, by rw [digOut_no HNO.out]; exact IntS.nil _ _ _, Below.refl _ _⟩
  have HA := Lib.hid (inB_le ha); have HB := Lib.hid (inB_le hb); have HC := Lib.hid (inB_le hc)
  obtain ⟨N, rfl⟩ : ∃ m : Nat, n = m := ⟨n.toNat, by have := HA.out; omega⟩
  obtain ⟨b, rfl⟩ : ∃ m : Nat, b = m := ⟨b.toNat, by have := HB.out; omega⟩
  obtain ⟨c, rfl⟩ : ∃ m : Nat, c = m := ⟨c.toNat, by have := HC.out; omega⟩
  have hN : N ≤ 1000000000000 := by have := HA.out; omega
  have hb2 : 2 ≤ b := by have := HB.out; omega
  have hb3 : b ≤ 1000 := by have := HB.out; omega
  have hc60 : c ≤ 60 := by have := HC.out; omega
  have HDK := Lib.hid (show digOk (N : Int) (b : Int) (c : Int) = decide (N / b ^ c = 0) by unfold digOk; rw [ha, hb, hc]; simp only [Bool.true_and, Int.toNat_natCast])
  go_wp2_with (first | (go_at_call 25; refine (nuWhole_any _ _).mono ?_; rintro e w' ⟨rfl, rfl⟩) | (go_at_call 26; refine (l1In_any _ _ _ _).mono ?_; rintro e w' ⟨rfl, rfl⟩))
  go_loopw [8, 9] (fun nv iv wr => ∃ (i m : Nat), i ≤ c ∧ iv = .int .i64 i ∧ nv = .int .i64 m ∧ Hid (m = N / b ^ i) ∧ Hid (Turned w.heap.size w.heap.size w wr)) (fun nv iv _ => c - (intOf iv).toNat)
  case atStart => exact ⟨0, N, Nat.zero_le _, rfl, rfl, Lib.hid (by simp), Lib.hid (Turned.refl w.heap.size w.heap.size w)⟩
  case round =>
    obtain ⟨i, m, hi, rfl, rfl, HM, HF1⟩ := hrel
    have hs1 := HF1.out.size
    have hm : m ≤ 1000000000000 := by rw [HM.out]; exact Nat.le_trans (div_le' _ _ _) hN
    by_cases hic : i < c
    case pos =>
      have hii : (i : Int) < c := by omega
      obtain ⟨y, HY⟩ : ∃ y, Hid (m / b = y) := ⟨_, Lib.hid rfl⟩
      have hdl : y ≤ m := by rw [← HY.out]; exact Nat.div_le_self _ _
      have hb0 : ¬ (b : Int) = 0 := by omega
      have hbn : ¬ b = 0 := by omega
      have hde : (m : Int) / (b : Int) = (y : Int) := by rw [← HY.out]; rfl
      have HSM := Lib.hid (show m / b = N / b ^ (i + 1) by rw [HM.out, div_step])
      rw [HY.out] at HSM
      go_wp2_with fail
      go_roundw
      case rel => exact ⟨i + 1, y, by omega, by go_num, by go_num, HSM, HF1⟩
      case measure => simp [intOf]; omega
    obtain rfl : i = c := by omega
    by_cases hz : m = 0
    case neg =>
      have HNO := Lib.hid (show digOk (N : Int) (b : Int) (i : Int) = false by rw [HDK.out, ← HM.out, decide_eq_false hz])
      have hm0 : (0 : Int) < m := by omega
      go_wp2_with fail
      go_ret2
      exact ⟨_, ret_vb HNO.out.symm, by rw [digOut_no HNO.out]; exact IntS.nil _ _ _, (HF1.out.below_of (Below.refl _ _) (by omega) (by omega))⟩
    have HYES := Lib.hid (show digOk (N : Int) (b : Int) (i : Int) = true by rw [HDK.out, ← HM.out, hz]; rfl)
    have hm0 : ¬ (0 : Int) < m := by omega
    subst hz
    go_wp2_with fail
    refine (nuDigits_any N b i _ hN hb2 hb3 hc60).mono ?_
    rintro e W2 ⟨r2, rfl, hr2, hb9⟩
    have hsz9 := HF1.out.size
    obtain ⟨A9, c9, rfl, hc9, hd9⟩ := hr2.dims
    go_wp2_with fail
    go_ret2
    exact ⟨_, ret_vb HYES.out.symm, by rw [digOut_yes HYES.out, Int.toNat_natCast, Int.toNat_natCast, Int.toNat_natCast]; exact IntS.mono hr2 (by omega) (Nat.le_refl _), ((HF1.out.below_of (Below.refl _ _) (by omega) (by omega))).trans (hb9.mono (by omega))⟩

end Go.Proofs.YtbbdhcfbdndhlaaDoor
