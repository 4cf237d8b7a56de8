/-
  The reference's side of CutView and ChildView.
-/
import Derived.Test.YtlignkgfclenkaaVz
import Derived.Test.YtlignkgfclenkaaTxV
import Derived.Test.YtlignkgfclenkaaExt
import Derived.Laws.IdiomStrings
import Derived.Laws.Concat
import Derived.Deep.RegionHeld3
namespace Go.Proofs.Ytlignkgfclenkaa
open Go.ChangeShapes Go.WideShapes Go.ChangeAt Go.RowKit
set_option linter.unusedVariables false

/-- bytes as a string -/
def strL (l : List UInt8) : ByteArray := ⟨l.toArray⟩
theorem strL_app (a b : List UInt8) : strL a ++ strL b = strL (a ++ b) := by
  apply ByteArray.ext
  simp [strL]
theorem txtS_eq (n : Nat) (t : VT) : txtS n t = strL (txt n t) := rfl

set_option maxHeartbeats 1000000 in
set_option maxRecDepth 100000 in
theorem l1Num_dig (n : Nat) (w : World) (hn : n ≤ 9) : Calls Try.prog 82 #[.int .i64 (n : Nat)] w fun e w' => e = .returned (.string (strL [dig n])) ∧ Below w.heap.size w w' := by
  have hd := dig_nat hn
  have hconv : ∀ W : World, (convert 42 9 (.slice (some ⟨W.heap.size, 0, none⟩) 1 1)).run Try.prog (W.alloc (.cells #[.int .u8 (48 + (n : Int))] 5)) = .ok (.string (strL [dig n])) (W.alloc (.cells #[.int .u8 (48 + (n : Int))] 5)) := fun W =>
    run_convert_bytes_back _ 42 9 5 ⟨W.heap.size, 0, none⟩ 1 [dig n] Try.underlying42 Try.underlying5 Try.underlying9 (fun j hj => by
      obtain rfl : j = 0 := by simp at hj; omega
      simp [Addr.add, hd])
  go_enter Try.func82, Try.ntmps82
  go_wp2_with fail
  go_ret
  exact ⟨rfl, (Below.refl _ _).alloc (Nat.le_refl _) _⟩
theorem l1In_any (n lo hi : Int) (w : World) :
    Calls Try.prog 43 #[.int .i64 n, .int .i64 lo, .int .i64 hi] w fun e w' => e = .returned (.bool (inB n lo hi)) ∧ w = w' := by
  by_cases h1 : lo ≤ n
  · go_enter Try.func43, Try.ntmps43
    go_wp2
    go_ret
    exact ⟨by simp [inB, h1], rfl⟩
  · have h1' : n < lo := by omega
    go_enter Try.func43, Try.ntmps43
    go_wp2
    go_ret
    exact ⟨ret_bool (by unfold inB; rw [decide_eq_false (show ¬ lo ≤ n by omega)]; rfl), rfl⟩
theorem viDepth_any (x : Int) (w : World) : Calls Try.prog 48 #[.int .i64 x] w fun e w' => e = .returned (.bool (inB x 0 80)) ∧ w = w' := by
  go_enter Try.func48, Try.ntmps48
  go_wp2_with (go_at_call 43; refine (l1In_any _ _ _ _).mono ?_; rintro e w' ⟨rfl, rfl⟩)
  go_ret
  exact ⟨rfl, rfl⟩

theorem ret_str {a b : ByteArray} (h : b = a) : Ending.returned (.string a) = .returned (.string b) := by rw [h]
theorem add_str {P : Program} {a b c : List UInt8} {s r : ByteArray} (hs : s = strL a) (hr : r = strL b) (h : a.length + b.length ≤ 100000) (hc : a ++ b = c) (w : World) : (Op.stringOp .add s r).run P w = .ok (.string (strL c)) w := by
  subst hc; subst hs; subst hr
  exact run_string_add_lists w a b (by omega) (by omega)

set_option maxHeartbeats 4000000 in
set_option maxRecDepth 100000 in
theorem viPrint_any : ∀ (n : Nat) (t : VT) (bt lo hi : Nat) (w : World), n ≤ 100 → OkT n t → (txt n t).length ≤ 4000 → TreeAt w 71 lo hi t bt → hi ≤ w.heap.size →
    Calls Try.prog 44 #[.pointer (some ⟨bt, 0, none⟩), .int .i64 n] w (fun e w' => e = .returned (.string (txtS n t)) ∧ Below w.heap.size w w') := by
  intro n
  induction n with
  | zero =>
    intro t bt lo hi w hn hok hlen ht hhi
    obtain ⟨hd, hi9, hpl, hp6⟩ := hok.deg
    obtain ⟨vp, vq, bs, hlo, hbt, hbx, hip, hsl, hts⟩ := ht.opened
    have e0 := ext_cell w (a := ⟨bt, 0, none⟩) (by show bt < _; omega) (hbx.cell 0 (by simp))
    have e1 := ext_cell w (a := ⟨bt, 1, none⟩) (by show bt < _; omega) (hbx.cell 1 (by simp))
    have hHT : hdT t = [dig t.degree, 46, dig t.input] := rfl
    obtain ⟨d, HD⟩ : ∃ d, Hid (t.degree = d) := ⟨_, Lib.hid rfl⟩
    obtain ⟨i, HI⟩ : ∃ d, Hid (t.input = d) := ⟨_, Lib.hid rfl⟩
    obtain ⟨HH, HT⟩ : ∃ d, Hid (hdT t = d) := ⟨_, Lib.hid rfl⟩
    rw [HT.out] at hHT
    rw [HD.out] at e0 hd hHT
    rw [HI.out] at e1 hi9 hHT
    have add1 := fun w => add_str (P := Try.prog) (a := [dig d]) (b := [46]) (c := [dig d, 46]) (s := strL [dig d]) (r := ⟨#[46]⟩) rfl rfl (by simp) rfl w
    have add2 := fun w => add_str (P := Try.prog) (a := [dig d, 46]) (b := [dig i]) (c := HH) (s := strL [dig d, 46]) (r := strL [dig i]) rfl rfl (by simp) hHT.symm w
    clear hHT
    have HS := Lib.hid (show txtS 0 t = strL (hdT t) from rfl)
    clear hbx hip hsl hts ht hok hpl hp6
    go_enter Try.func44, Try.ntmps44
    go_wp2_with fail
    refine wp_region_ext (by kernel_rfl) (by kernel_rfl) ?_
    repeat (go_big_quiet_step ((go_at_call 82; exact ext_call (l1Num_dig _ _ (by omega)))))
    refine wpQuiet_nil ?_
    intro _ hw'
    obtain ⟨px, hw''⟩ := hw'
    subst hw''
    clear e0 e1 add1 add2
    go_wp2_with fail
    go_ret
    exact ⟨ret_str (by rw [HS.out, HT.out]), ext_below _ _⟩
  | succ n ih =>
    have HIH := Lib.hid ih; clear ih
    intro t bt lo hi w hn hok hlen ht hhi
    obtain ⟨hd, hi9, hpl, hp6⟩ := hok.deg
    obtain ⟨vp, vq, bs, hlo, hbt, hbx, hip, hsl, hts⟩ := ht.opened
    have e0 := ext_cell w (a := ⟨bt, 0, none⟩) (by show bt < _; omega) (hbx.cell 0 (by simp))
    have e1 := ext_cell w (a := ⟨bt, 1, none⟩) (by show bt < _; omega) (hbx.cell 1 (by simp))
    have hHT : hdT t = [dig t.degree, 46, dig t.input] := rfl
    obtain ⟨d, HD⟩ : ∃ d, Hid (t.degree = d) := ⟨_, Lib.hid rfl⟩
    obtain ⟨i, HI⟩ : ∃ d, Hid (t.input = d) := ⟨_, Lib.hid rfl⟩
    obtain ⟨HH, HT⟩ : ∃ d, Hid (hdT t = d) := ⟨_, Lib.hid rfl⟩
    rw [HT.out] at hHT
    rw [HD.out] at e0 hd hHT
    rw [HI.out] at e1 hi9 hHT
    have add1 := fun w => add_str (P := Try.prog) (a := [dig d]) (b := [46]) (c := [dig d, 46]) (s := strL [dig d]) (r := ⟨#[46]⟩) rfl rfl (by simp) rfl w
    have add2 := fun w => add_str (P := Try.prog) (a := [dig d, 46]) (b := [dig i]) (c := HH) (s := strL [dig d, 46]) (r := strL [dig i]) rfl rfl (by simp) hHT.symm w
    clear hHT
    have HTS := Lib.hid hts; clear hts
    have HOK := Lib.hid hok
    have HIP := Lib.hid hip
    obtain ⟨A, c, rfl, hc1, hc2, hcell⟩ := hsl
    have HC := Lib.hid hcell; clear hcell
    have k3 : w.cell? ⟨bt, 3, none⟩ = some (.slice A t.parts.length c) := hbx.cell 3 (by simp)
    obtain ⟨m, HM⟩ : ∃ m, Hid (t.parts.length = m) := ⟨_, Lib.hid rfl⟩
    rw [HM.out] at k3 hc1 hp6
    have HPL := Lib.hid (hpl.trans HM.out)
    clear hip ht hok hpl
    have hn0 : (((n + 1 : Nat) : Int) == 0) = false := by simp; omega
    obtain ⟨nn, HNN⟩ : ∃ z : Int, Hid (((n + 1 : Nat) : Int) = z) := ⟨_, Lib.hid rfl⟩
    rw [HNN.out] at hn0 ⊢
    by_cases hm : m = 0
    · have hm' : ((m : Int) == 0) = true := by simp; exact hm
      have HS := Lib.hid (show txtS (n + 1) t = strL (hdT t) by unfold txtS; rw [txt_flat (.inr (HM.out.trans hm))]; rfl)
      have HM0 := Lib.hid hm
      clear hm hbx
      go_enter Try.func44, Try.ntmps44
      go_wp2_with fail
      refine wp_region_ext (by kernel_rfl) (by kernel_rfl) ?_
      repeat (go_big_quiet_step ((go_at_call 82; exact ext_call (l1Num_dig _ _ (by omega)))))
      refine wpQuiet_nil ?_
      intro _ hw'
      obtain ⟨px, hw''⟩ := hw'
      subst hw''
      clear e0 e1 add1 add2
      have k4 := ext_cell w (a := ⟨bt, 3, none⟩) (by show bt < _; omega) k3 px
      go_wp2_with fail
      go_ret
      exact ⟨ret_str (by rw [HS.out, HT.out]), ext_below _ _⟩
    have hm' : ((m : Int) == 0) = false := by simp; exact hm
    have HS := Lib.hid (show txtS (n + 1) t = strL (hdT t ++ kids (txt n) t.ports t.parts m ++ [41]) by unfold txtS; rw [txt_deep (n := n) (t := t) (by rw [HM.out]; exact hm), HM.out]; rfl)
    have HTL := Lib.hid (txt_deep_len (n := n) (t := t) (by rw [HM.out]; exact hm))
    rw [HTL.out, HM.out] at hlen
    obtain ⟨LM, HLM⟩ : ∃ d, Hid ((kids (txt n) t.ports t.parts m).length = d) := ⟨_, Lib.hid rfl⟩
    rw [HLM.out] at hlen
    have k2 : w.cell? ⟨bt, 2, none⟩ = some vp := hbx.cell 2 (by simp)
    obtain ⟨A2, c2, rfl, hc3, hc4, hpc⟩ := HIP.out.form
    rw [HPL.out] at k2 hc3
    have HPC := Lib.hid hpc; clear hpc
    have hm0 : 0 < m := by omega
    clear hm hbx
    unfold maxLen at hc2 hc4
    go_enter Try.func44, Try.ntmps44
    go_wp2_with fail
    refine wp_region_ext (by kernel_rfl) (by kernel_rfl) ?_
    repeat (go_big_quiet_step ((go_at_call 82; exact ext_call (l1Num_dig _ _ (by omega)))))
    refine wpQuiet_nil ?_
    intro _ hw'
    obtain ⟨px, hw''⟩ := hw'
    subst hw''
    clear e0 e1 add1 add2
    obtain ⟨W, HW⟩ : ∃ W, Hid (W = ext w px) := ⟨_, Lib.hid rfl⟩
    have hbW : Below w.heap.size w W := by rw [HW.out]; exact ext_below _ _
    have HBE := Lib.hid hbW
    rw [← HW.out]
    have k4 := (hbW.cell (p := ⟨bt, 3, none⟩) (by show bt < _; omega)).trans k3
    clear hbW HW
    go_wp2_with fail
    clear k4
    go_loopw [36, 5] (fun i' c' wr => ∃ (k : Nat) (L : List UInt8), k ≤ m ∧ i' = .int .i64 k ∧ c' = .string (strL L) ∧ Hid (L = HH ++ kids (txt n) t.ports t.parts k) ∧ Hid (Below w.heap.size w wr)) (fun i' _ _ => m - (intOf i').toNat)
    case atStart => exact ⟨0, HH, Nat.zero_le _, rfl, rfl, Lib.hid (by rw [kids, List.append_nil]), HBE⟩
    case round =>
      clear HBE
      obtain ⟨k, L, hk, rfl, rfl, HL, HBE⟩ := hrel
      have hs1 := HBE.out.size
      have HHL := Lib.hid (show HH.length = 3 by rw [← HT.out]; rfl)
      by_cases hlt : k < m
      case neg =>
        obtain rfl : k = m := by omega
        have add9 := fun w => add_str (P := Try.prog) (a := L) (b := [41]) (c := L ++ [41]) (s := strL L) (r := ⟨#[41]⟩) rfl rfl (by rw [HL.out]; simp only [List.length_append, List.length_cons, List.length_nil]; rw [HLM.out, HHL.out]; omega) rfl w
        go_wp2_with fail
        go_ret
        exact ⟨ret_str (by rw [HS.out, HL.out, HT.out]), HBE.out⟩
      obtain ⟨bp, op, hA, hbp1, hbp2, hcp⟩ := HC.out (by rw [HM.out]; omega)
      have x1 : w.cell? ⟨bp, op + k, none⟩ = some (.pointer (some ⟨nthN bs k, 0, none⟩)) := (hcp k (by rw [HM.out]; omega)).1
      clear hcp
      subst hA
      obtain ⟨bq, oq, hA, hbq1, hbq2, hcq⟩ := HPC.out (by rw [HPL.out]; omega)
      have x2 := (hcq k (by rw [HPL.out]; omega)).1
      clear hcq
      subst hA
      obtain ⟨a, ha, ha5⟩ := HOK.out.port (j := k) (by rw [HM.out]; exact hlt)
      rw [ha] at x2
      obtain ⟨hkn, hkl⟩ := kids_next (sub := txt n) (ps := t.ports) (ts := t.parts) (m := m) hlt ha
      have HKN := Lib.hid hkn
      rw [HLM.out] at hkl
      obtain ⟨PT, HPT⟩ : ∃ u, Hid (nthT t.parts k = u) := ⟨_, Lib.hid rfl⟩
      rw [HPT.out] at hkl HKN
      clear hkn ha
      have HOKP := Lib.hid (HPT.out ▸ HOK.out.at_ (j := k) (by rw [HM.out]; exact hlt))
      have HTP := Lib.hid (HPT.out ▸ HTS.out k (by rw [HM.out]; exact hlt))
      obtain ⟨pb, HPB⟩ : ∃ u, Hid (nthN bs k = u) := ⟨_, Lib.hid rfl⟩
      rw [HPB.out] at x1 HTP
      have k1 := (HBE.out.cell (p := ⟨bp, op + k, none⟩) (by show bp < _; omega)).trans x1
      have k0 := (HBE.out.cell (p := ⟨bt, 2, none⟩) (by show bt < _; omega)).trans k2
      have k9 := (HBE.out.cell (p := ⟨bq, oq + k, none⟩) (by show bq < _; omega)).trans x2
      clear x1 x2
      obtain ⟨X, HXX⟩ : ∃ u, Hid (txt n PT = u) := ⟨_, Lib.hid rfl⟩
      rw [HXX.out] at HKN hkl
      have hLl : L.length = 3 + (kids (txt n) t.ports t.parts k).length := by rw [HL.out, List.length_append, HHL.out]
      have hlx : L.length + 3 + X.length ≤ 4000 := by omega
      have HLL := Lib.hid hlx
      clear hLl hlx
      have add4 := fun w => add_str (P := Try.prog) (a := [dig a]) (b := [58]) (c := [dig a, 58]) (s := strL [dig a]) (r := ⟨#[58]⟩) rfl rfl (by simp) rfl w
      have add5 := fun w => add_str (P := Try.prog) (a := [dig a, 58]) (b := X) (c := dig a :: 58 :: X) (s := strL [dig a, 58]) (r := strL X) rfl rfl (by have := HLL.out; simp only [List.length_cons, List.length_nil]; omega) rfl w
      have hw1 : IntKind.i64.wrap (nn - 1) = nn - 1 := IntWalk.i64_in _ (by rw [← HNN.out]; omega)
      have HCALL := fun W (hb : Below w.heap.size w W) => Lib.hid (show Calls Try.prog 44 #[.pointer (some ⟨pb, 0, none⟩), .int .i64 (nn - 1)] W (fun e w' => e = .returned (.string (strL X)) ∧ Below W.heap.size W w') by
        rw [show nn - 1 = (n : Int) by rw [← HNN.out]; omega, ← HXX.out]
        exact HIH.out PT pb lo hi W (by omega) HOKP.out (by rw [HXX.out]; have := HLL.out; omega) (TreeAt.keep (fun k h1 h2 => hb.block k (by omega)) (Nat.le_refl _) (Nat.le_refl _) _ _ HTP.out) (by have := hb.size; omega))
      have HCH := Lib.hid HCALL; clear HCALL
      by_cases hk0 : k = 0
      · have hk0' : ((k : Int) == 0) = true := by simp; exact hk0
        have HK0 := Lib.hid hk0; clear hk0
        have add3 := fun w => add_str (P := Try.prog) (a := L) (b := [40]) (c := L ++ [40]) (s := strL L) (r := ⟨#[40]⟩) rfl rfl (by have := HLL.out; simp only [List.length_cons, List.length_nil]; omega) rfl w
        have add6 := fun w => add_str (P := Try.prog) (a := L ++ [40]) (b := dig a :: 58 :: X) (c := L ++ 40 :: dig a :: 58 :: X) (s := strL (L ++ [40])) (r := strL (dig a :: 58 :: X)) rfl rfl (by have := HLL.out; simp only [List.length_append, List.length_cons, List.length_nil]; omega) (by simp) w
        go_wp2_with (first | (go_at_call 82; refine (l1Num_dig _ _ (by omega)).mono ?_; rintro e w2 ⟨rfl, hb2⟩; have hbe2 := HBE.out.trans (hb2.mono hs1); have HBE2 := Lib.hid hbe2; have hs2 := hbe2.size; clear hb2 hbe2 HBE k0 k1 k9) | (go_at_call 44; refine (HCH.out _ HBE2.out).out.mono ?_; rintro e w3 ⟨rfl, hb3⟩; have HBE3 := Lib.hid (HBE2.out.trans (hb3.mono hs2)); clear hb3))
        go_roundw
        case rel => exact ⟨k + 1, L ++ 40 :: dig a :: 58 :: X, by omega, by go_num, rfl, Lib.hid (by rw [HKN.out, HL.out, if_pos HK0.out]; simp), HBE3⟩
        case measure => simp [intOf]; omega
      · have hk0' : ((k : Int) == 0) = false := by simp; exact hk0
        have HK0 := Lib.hid hk0; clear hk0
        have add3 := fun w => add_str (P := Try.prog) (a := L) (b := [44]) (c := L ++ [44]) (s := strL L) (r := ⟨#[44]⟩) rfl rfl (by have := HLL.out; simp only [List.length_cons, List.length_nil]; omega) rfl w
        have add6 := fun w => add_str (P := Try.prog) (a := L ++ [44]) (b := dig a :: 58 :: X) (c := L ++ 44 :: dig a :: 58 :: X) (s := strL (L ++ [44])) (r := strL (dig a :: 58 :: X)) rfl rfl (by have := HLL.out; simp only [List.length_append, List.length_cons, List.length_nil]; omega) (by simp) w
        go_wp2_with (first | (go_at_call 82; refine (l1Num_dig _ _ (by omega)).mono ?_; rintro e w2 ⟨rfl, hb2⟩; have hbe2 := HBE.out.trans (hb2.mono hs1); have HBE2 := Lib.hid hbe2; have hs2 := hbe2.size; clear hb2 hbe2 HBE k0 k1 k9) | (go_at_call 44; refine (HCH.out _ HBE2.out).out.mono ?_; rintro e w3 ⟨rfl, hb3⟩; have HBE3 := Lib.hid (HBE2.out.trans (hb3.mono hs2)); clear hb3))
        go_roundw
        case rel => exact ⟨k + 1, L ++ 44 :: dig a :: 58 :: X, by omega, by go_num, rfl, Lib.hid (by rw [HKN.out, HL.out, if_neg HK0.out]; simp), HBE3⟩
        case measure => simp [intOf]; omega

end Go.Proofs.Ytlignkgfclenkaa
