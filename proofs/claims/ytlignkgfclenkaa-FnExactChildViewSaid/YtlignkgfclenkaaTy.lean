/-
  The program's side of CutView and ChildView.
-/
import Derived.Test.YtlignkgfclenkaaTw
import Derived.Test.YtlignkgfclenkaaTxV
import Derived.Test.YtlignkgfclenkaaExt
namespace Go.Proofs.Ytlignkgfclenkaa
open Go.ChangeShapes Go.WideShapes Go.ChangeAt Go.RowKit
set_option linter.unusedVariables false

set_option maxHeartbeats 1000000 in
theorem textTo_any (n : Nat) (t : VT) (bt lo hi : Nat) (w : World) (hn : n ≤ 100) (hok : OkT n t) (hlen : (txt n t).length ≤ 4000) (ht : TreeAt w 77 lo hi t bt) (hhi : hi ≤ w.heap.size) :
    Calls Try.prog 47 #[.pointer (some ⟨bt, 0, none⟩), .int .i64 n] w (fun e w' => e = .returned (.string (txtS n t)) ∧ Below w.heap.size w w') := by
  have HT := Lib.hid ht; have HOK := Lib.hid hok
  clear ht hok
  go_enter Try.func47, Try.ntmps47
  go_wp2_with fail
  obtain ⟨W, HW⟩ : ∃ W, Hid (W = w.alloc (.cells #[.pointer none, .slice none 0 0] 117)) := ⟨_, Lib.hid rfl⟩
  rw [← HW.out]
  have HB := Lib.hid (show Bld W w.heap.size w.heap.size (Lib.byteCells []) by rw [HW.out]; exact Lib.fresh_isBuilder _ _ w)
  have hb0 : Below w.heap.size w W := by rw [HW.out]; exact (Below.refl _ _).alloc (Nat.le_refl _) _
  have hs0 := hb0.size
  refine (write_any n t bt lo hi w.heap.size w.heap.size [] W hn HOK.out (TreeAt.keep (fun k h1 h2 => hb0.block k (by omega)) (Nat.le_refl _) (Nat.le_refl _) _ _ HT.out) hhi HB.out (by simp only [List.length_nil]; omega) hs0).mono ?_
  rintro e w2 ⟨rfl, hb, hbe⟩
  have HB2 := Lib.hid hb
  have HBE := Lib.hid (hb0.trans hbe)
  clear hb hbe HW
  go_wp2_with fail
  refine (Try.Builder_String_any w.heap.size w.heap.size _ w2 (.inr HB2.out) HBE.out.size).mono ?_
  rintro e w3 ⟨rfl, hbe⟩
  go_wp2_with fail
  go_ret
  exact ⟨rfl, HBE.out.trans hbe⟩
theorem isDepth_any (x : Int) (w : World) : Calls Try.prog 49 #[.int .i64 x] w fun e w' => e = .returned (.bool (inB x 0 80)) ∧ w = w' := by
  go_enter Try.func49, Try.ntmps49
  go_wp2_with (go_at_call 46; refine (within_any _ _ _ _).mono ?_; rintro e w' ⟨rfl, rfl⟩)
  go_ret
  exact ⟨rfl, rfl⟩
theorem ret_sb {a b : ByteArray} {c d : Bool} (h : b = a) (h2 : d = c) : Ending.returned (.tuple #[.string a, .bool c]) = .returned (.tuple #[.string b, .bool d]) := by rw [h, h2]
theorem ret_sib {a b : ByteArray} {i j : Int} {c d : Bool} (h : d = c ∧ b = a ∧ j = i) : Ending.returned (.tuple #[.string a, .int .i64 i, .bool c]) = .returned (.tuple #[.string b, .int .i64 j, .bool d]) := by rw [h.1, h.2.1, h.2.2]

set_option maxHeartbeats 4000000 in
set_option maxRecDepth 100000 in
theorem CutView_impl (s : ByteArray) (x : Int) (w : World) (hi : s.size ≤ maxLen) (hx : I64 x) : Calls Try.prog 12 #[.string s, .int .i64 x] w (fun e w' => e = .returned (.tuple #[.string (cutS s x), .bool (cutOk s x)]) ∧ Below w.heap.size w w') := by
  go_enter Try.func12, Try.ntmps12
  go_wp2_with fail
  refine (readView_any s w).mono ?_
  rintro e w2 ⟨hb, hm⟩
  have HB := Lib.hid hb; clear hb
  rcases hm with ⟨hn, rfl⟩ | ⟨t, b, hy, rfl, ht⟩
  · have HN := Lib.hid hn; clear hn
    go_wp2_with fail
    go_ret2
    exact ⟨ret_sb (cut_none HN.out).2 (cut_none HN.out).1, HB.out⟩
  have HY := Lib.hid hy; have HT := Lib.hid ht
  have HV := Lib.hid (vread_ok hy)
  clear hy ht
  cases hxb : inB x 0 80 with
  | false =>
    have HX := Lib.hid hxb
    go_wp2_with (go_at_call 49; refine (isDepth_any _ _).mono ?_; rw [hxb]; rintro e w' ⟨rfl, rfl⟩)
    go_ret2
    exact ⟨ret_sb (cut_out HY.out HX.out).2 (cut_out HY.out HX.out).1, HB.out⟩
  | true =>
    have HX := Lib.hid hxb
    obtain ⟨x1, x2⟩ := inB_iff.1 hxb
    obtain ⟨n, HN⟩ : ∃ n : Nat, Hid (x = n) := ⟨x.toNat, Lib.hid (by omega)⟩
    have HCALL := Lib.hid (show Calls Try.prog 47 #[.pointer (some ⟨b, 0, none⟩), .int .i64 x] w2 (fun e w' => e = .returned (.string (txtS x.toNat t)) ∧ Below w2.heap.size w2 w') by rw [HN.out]; exact textTo_any n t b _ _ w2 (by have := HN.out; omega) (HV.out n).1 (HV.out n).2 HT.out (Nat.le_refl _))
    go_wp2_with (first | (go_at_call 49; refine (isDepth_any _ _).mono ?_; rw [hxb]; rintro e w' ⟨rfl, rfl⟩) | (go_at_call 47; refine HCALL.out.mono ?_; rintro e w3 ⟨rfl, hb3⟩))
    go_ret2
    exact ⟨ret_sb (cut_yes HY.out HX.out).2 (cut_yes HY.out HX.out).1, HB.out.trans (hb3.mono HB.out.size)⟩

set_option maxHeartbeats 4000000 in
set_option maxRecDepth 100000 in
theorem ChildView_impl (s : ByteArray) (x : Int) (w : World) (hi : s.size ≤ maxLen) (hx : I64 x) : Calls Try.prog 10 #[.string s, .int .i64 x] w (fun e w' => e = .returned (.tuple #[.string (chlS s x), .int .i64 (chlI s x), .bool (chlOk s x)]) ∧ Below w.heap.size w w') := by
  go_enter Try.func10, Try.ntmps10
  go_wp2_with fail
  refine (readView_any s w).mono ?_
  rintro e w2 ⟨hb, hm⟩
  have HB := Lib.hid hb; clear hb
  rcases hm with ⟨hn, rfl⟩ | ⟨t, b, hy, rfl, ht⟩
  · have HN := Lib.hid hn; clear hn
    go_wp2_with fail
    go_ret3
    exact ⟨ret_sib (chl_none HN.out), HB.out⟩
  have HY := Lib.hid hy; have HT := Lib.hid ht
  have HV := Lib.hid (vread_ok hy)
  obtain ⟨vp, vq, bs, hlo, hbt, hbx, hip, hsl, hts⟩ := ht.opened
  obtain ⟨hd, hi9, hpl, hp6⟩ := (vread_ok hy 0).1.deg
  have HTS := Lib.hid hts
  obtain ⟨A, c, rfl, hc1, hc2, hcell⟩ := hsl
  have HC := Lib.hid hcell
  obtain ⟨A2, c2, rfl, hc3, hc4, hpc⟩ := hip.form
  have HPC := Lib.hid hpc
  have k3 : w2.cell? ⟨b, 3, none⟩ = some (.slice A t.parts.length c) := hbx.cell 3 (by simp)
  have k2 : w2.cell? ⟨b, 2, none⟩ = some (.slice A2 t.ports.length c2) := hbx.cell 2 (by simp)
  clear hy ht hip hcell hpc hts hbx
  obtain ⟨m, HM⟩ : ∃ m, Hid (t.parts.length = m) := ⟨_, Lib.hid rfl⟩
  have HPL := Lib.hid (hpl.trans HM.out)
  rw [HM.out] at k3 hc1 hp6
  rw [HPL.out] at k2 hc3
  clear hpl
  unfold maxLen at hc2 hc4
  have hw1 : IntKind.i64.wrap ((m : Int) - 1) = (m : Int) - 1 := IntWalk.i64_in _ (by omega)
  cases hxb : inB x 0 ((m : Int) - 1) with
  | false =>
    have HX := Lib.hid (show inB x 0 ((t.parts.length : Int) - 1) = false by rw [HM.out]; exact hxb)
    go_wp2_with (go_at_call 46; refine (within_any _ _ _ _).mono ?_; rw [hxb]; rintro e w' ⟨rfl, rfl⟩)
    go_ret3
    exact ⟨ret_sib (chl_out HY.out HX.out), HB.out⟩
  | true =>
    have HX := Lib.hid (show inB x 0 ((t.parts.length : Int) - 1) = true by rw [HM.out]; exact hxb)
    obtain ⟨x1, x2⟩ := inB_iff.1 hxb
    obtain ⟨k, rfl⟩ : ∃ n : Nat, x = n := ⟨x.toNat, by omega⟩
    have hlt : k < m := by omega
    obtain ⟨bp, op, hA, hbp1, hbp2, hcp⟩ := HC.out (by rw [HM.out]; omega)
    have x3 : w2.cell? ⟨bp, op + k, none⟩ = some (.pointer (some ⟨nthN bs k, 0, none⟩)) := (hcp k (by rw [HM.out]; omega)).1
    clear hcp
    subst hA
    obtain ⟨bq, oq, hA, hbq1, hbq2, hcq⟩ := HPC.out (by rw [HPL.out]; omega)
    have x4 := (hcq k (by rw [HPL.out]; omega)).1
    clear hcq
    subst hA
    have hsz2 := HB.out.size
    obtain ⟨pv, HPV⟩ : ∃ u, Hid (nth t.ports k = u) := ⟨_, Lib.hid rfl⟩
    obtain ⟨pb, HPB⟩ : ∃ u, Hid (nthN bs k = u) := ⟨_, Lib.hid rfl⟩
    rw [HPV.out] at x4
    rw [HPB.out] at x3
    have e2 := ext_cell w2 (a := ⟨b, 2, none⟩) (by show b < _; omega) k2
    have e3 := ext_cell w2 (a := ⟨b, 3, none⟩) (by show b < _; omega) k3
    have e4 := ext_cell w2 (a := ⟨bp, op + k, none⟩) (by show bp < _; omega) x3
    have e5 := ext_cell w2 (a := ⟨bq, oq + k, none⟩) (by show bq < _; omega) x4
    have hout : chlOk s (k : Int) = true ∧ chlS s (k : Int) = txtS 80 (nthT t.parts k) ∧ chlI s (k : Int) = pv := by
      have := chl_yes HY.out HX.out
      rw [Int.toNat_natCast, HPV.out] at this
      exact this
    have HO := Lib.hid hout
    clear hout
    obtain ⟨PT, HPT⟩ : ∃ u, Hid (nthT t.parts k = u) := ⟨_, Lib.hid rfl⟩
    rw [HPT.out] at HO
    have HK := Lib.hid (HPT.out ▸ OkT.kid HV.out (j := k) (by rw [HM.out]; exact hlt) 80)
    have HTP := Lib.hid (HPB.out ▸ HPT.out ▸ HTS.out k (by rw [HM.out]; exact hlt))
    go_wp2_with (go_at_call 46; refine (within_any _ _ _ _).mono ?_; rw [hxb]; rintro e w' ⟨rfl, rfl⟩)
    clear x3 x4 k2 k3
    refine wp_region_ext (by kernel_rfl) (by kernel_rfl) ?_
    repeat (go_big_quiet_step ((go_at_call 47; exact ext_call (textTo_any 80 PT pb _ _ _ (by omega) HK.out.1 HK.out.2 (TreeAt.keep (fun k h1 h2 => (ext_below w2 _).block k h2) (Nat.le_refl _) (Nat.le_refl _) _ _ HTP.out) (ext_size _ _)))))
    refine wpQuiet_nil ?_
    intro _ hw'
    obtain ⟨px, hw''⟩ := hw'
    subst hw''
    go_wp2_with fail
    go_ret3
    exact ⟨ret_sib HO.out, HB.out.trans ((ext_below _ _).mono HB.out.size)⟩

end Go.Proofs.Ytlignkgfclenkaa
