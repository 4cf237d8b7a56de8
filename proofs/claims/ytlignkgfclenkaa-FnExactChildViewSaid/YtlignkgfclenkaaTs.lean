/-
  CutView and ChildView: the reference's side; with the program's side, all that the laws need.
-/
import Derived.Test.YtlignkgfclenkaaTy
import Derived.Test.YtlignkgfclenkaaTz
namespace Go.Proofs.Ytlignkgfclenkaa
open Go.ChangeShapes Go.WideShapes Go.ChangeAt Go.RowKit
set_option linter.unusedVariables false

set_option maxHeartbeats 4000000 in
set_option maxRecDepth 100000 in
theorem CutView_spec (s : ByteArray) (x : Int) (w : World) (hi : s.size ≤ maxLen) (hx : I64 x) : Calls Try.prog 11 #[.string s, .int .i64 x] w (fun e w' => e = .returned (.tuple #[.string (cutS s x), .bool (cutOk s x)]) ∧ Below w.heap.size w w') := by
  go_enter Try.func11, Try.ntmps11
  go_wp2_with fail
  refine (viParse_any s w).mono ?_
  rintro e w2 ⟨hb, v, rfl, ht⟩
  have HB := Lib.hid hb; clear hb
  cases hv : vread s with
  | none =>
    have HN := Lib.hid hv
    clear hv ht
    go_wp2_with fail
    go_ret2
    exact ⟨ret_sb (cut_none HN.out).2 (cut_none HN.out).1, HB.out⟩
  | some t =>
    obtain ⟨b, rfl, hta⟩ := ht t hv
    clear ht
    have ht := hta
    clear hta
    have hy := hv
    have HY := Lib.hid hy; have HT := Lib.hid ht
    have HV := Lib.hid (vread_ok hy)
    clear hy hv ht
    cases hxb : inB x 0 80 with
    | false =>
      have HX := Lib.hid hxb
      go_wp2_with (go_at_call 48; refine (viDepth_any _ _).mono ?_; rw [hxb]; rintro e w' ⟨rfl, rfl⟩)
      go_ret2
      exact ⟨ret_sb (cut_out HY.out HX.out).2 (cut_out HY.out HX.out).1, HB.out⟩
    | true =>
      have HX := Lib.hid hxb
      obtain ⟨x1, x2⟩ := inB_iff.1 hxb
      obtain ⟨n, HN⟩ : ∃ n : Nat, Hid (x = n) := ⟨x.toNat, Lib.hid (by omega)⟩
      have HCALL := Lib.hid (show Calls Try.prog 44 #[.pointer (some ⟨b, 0, none⟩), .int .i64 x] w2 (fun e w' => e = .returned (.string (txtS x.toNat t)) ∧ Below w2.heap.size w2 w') by rw [HN.out]; exact viPrint_any n t b _ _ w2 (by have := HN.out; omega) (HV.out n).1 (HV.out n).2 HT.out (Nat.le_refl _))
      go_wp2_with (first | (go_at_call 48; refine (viDepth_any _ _).mono ?_; rw [hxb]; rintro e w' ⟨rfl, rfl⟩) | (go_at_call 44; refine HCALL.out.mono ?_; rintro e w3 ⟨rfl, hb3⟩))
      go_ret2
      exact ⟨ret_sb (cut_yes HY.out HX.out).2 (cut_yes HY.out HX.out).1, HB.out.trans (hb3.mono HB.out.size)⟩

set_option maxHeartbeats 4000000 in
set_option maxRecDepth 100000 in
theorem ChildView_spec (s : ByteArray) (x : Int) (w : World) (hi : s.size ≤ maxLen) (hx : I64 x) : Calls Try.prog 9 #[.string s, .int .i64 x] w (fun e w' => e = .returned (.tuple #[.string (chlS s x), .int .i64 (chlI s x), .bool (chlOk s x)]) ∧ Below w.heap.size w w') := by
  go_enter Try.func9, Try.ntmps9
  go_wp2_with fail
  refine (viParse_any s w).mono ?_
  rintro e w2 ⟨hb, v, rfl, ht⟩
  have HB := Lib.hid hb; clear hb
  cases hv : vread s with
  | none =>
    have HN := Lib.hid hv
    clear hv ht
    go_wp2_with fail
    go_ret3
    exact ⟨ret_sib (chl_none HN.out), HB.out⟩
  | some t =>
    obtain ⟨b, rfl, hta⟩ := ht t hv
    clear ht
    have ht := hta
    clear hta
    have hy := hv
    have HY := Lib.hid hy; have HT := Lib.hid ht
    have HV := Lib.hid (vread_ok hy)
    obtain ⟨vp, vq, bs, hlo, hbt, hbx, hip, hsl, hts⟩ := ht.opened
    obtain ⟨hd, hi9, hpl, hp6⟩ := (vread_ok hy 0).1.deg
    have HTS := Lib.hid hts
    obtain ⟨A, c, rfl, hc1, hc2, hcell⟩ := hsl
    have HC := Lib.hid hcell
    obtain ⟨A2, c2, rfl, hc3, hc4, hpc⟩ := hip.form
    have HPC := Lib.hid hpc
    have k3 : w2.cell? ⟨b, 3, none⟩ = some (.slice A t.parts.length c) := hbx.cell 3 (by simp)
    have k2 : w2.cell? ⟨b, 2, none⟩ = some (.slice A2 t.ports.length c2) := hbx.cell 2 (by simp)
    clear hy hv ht hip hcell hpc hts hbx
    obtain ⟨m, HM⟩ : ∃ m, Hid (t.parts.length = m) := ⟨_, Lib.hid rfl⟩
    have HPL := Lib.hid (hpl.trans HM.out)
    rw [HM.out] at k3 hc1 hp6
    rw [HPL.out] at k2 hc3
    clear hpl
    unfold maxLen at hc2 hc4
    have hw1 : IntKind.i64.wrap ((m : Int) - 1) = (m : Int) - 1 := IntWalk.i64_in _ (by omega)
    cases hxb : inB x 0 ((m : Int) - 1) with
    | false =>
      have HX := Lib.hid (show inB x 0 ((t.parts.length : Int) - 1) = false by rw [HM.out]; exact hxb)
      go_wp2_with (go_at_call 43; refine (l1In_any _ _ _ _).mono ?_; rw [hxb]; rintro e w' ⟨rfl, rfl⟩)
      go_ret3
      exact ⟨ret_sib (chl_out HY.out HX.out), HB.out⟩
    | true =>
      have HX := Lib.hid (show inB x 0 ((t.parts.length : Int) - 1) = true by rw [HM.out]; exact hxb)
      obtain ⟨x1, x2⟩ := inB_iff.1 hxb
      obtain ⟨k, rfl⟩ : ∃ n : Nat, x = n := ⟨x.toNat, by omega⟩
      have hlt : k < m := by omega
      obtain ⟨bp, op, hA, hbp1, hbp2, hcp⟩ := HC.out (by rw [HM.out]; omega)
      have x3 : w2.cell? ⟨bp, op + k, none⟩ = some (.pointer (some ⟨nthN bs k, 0, none⟩)) := (hcp k (by rw [HM.out]; omega)).1
      clear hcp
      subst hA
      obtain ⟨bq, oq, hA, hbq1, hbq2, hcq⟩ := HPC.out (by rw [HPL.out]; omega)
      have x4 := (hcq k (by rw [HPL.out]; omega)).1
      clear hcq
      subst hA
      have hsz2 := HB.out.size
      obtain ⟨pv, HPV⟩ : ∃ u, Hid (nth t.ports k = u) := ⟨_, Lib.hid rfl⟩
      obtain ⟨pb, HPB⟩ : ∃ u, Hid (nthN bs k = u) := ⟨_, Lib.hid rfl⟩
      rw [HPV.out] at x4
      rw [HPB.out] at x3
      have e2 := ext_cell w2 (a := ⟨b, 2, none⟩) (by show b < _; omega) k2
      have e3 := ext_cell w2 (a := ⟨b, 3, none⟩) (by show b < _; omega) k3
      have e4 := ext_cell w2 (a := ⟨bp, op + k, none⟩) (by show bp < _; omega) x3
      have e5 := ext_cell w2 (a := ⟨bq, oq + k, none⟩) (by show bq < _; omega) x4
      have hout : chlOk s (k : Int) = true ∧ chlS s (k : Int) = txtS 80 (nthT t.parts k) ∧ chlI s (k : Int) = pv := by
        have := chl_yes HY.out HX.out
        rw [Int.toNat_natCast, HPV.out] at this
        exact this
      have HO := Lib.hid hout
      clear hout
      obtain ⟨PT, HPT⟩ : ∃ u, Hid (nthT t.parts k = u) := ⟨_, Lib.hid rfl⟩
      rw [HPT.out] at HO
      have HK := Lib.hid (HPT.out ▸ OkT.kid HV.out (j := k) (by rw [HM.out]; exact hlt) 80)
      have HTP := Lib.hid (HPB.out ▸ HPT.out ▸ HTS.out k (by rw [HM.out]; exact hlt))
      go_wp2_with (go_at_call 43; refine (l1In_any _ _ _ _).mono ?_; rw [hxb]; rintro e w' ⟨rfl, rfl⟩)
      clear x3 x4 k2 k3
      refine wp_region_ext (by kernel_rfl) (by kernel_rfl) ?_
      repeat (go_big_quiet_step ((go_at_call 44; exact ext_call (viPrint_any 80 PT pb _ _ _ (by omega) HK.out.1 HK.out.2 (TreeAt.keep (fun k h1 h2 => (ext_below w2 _).block k h2) (Nat.le_refl _) (Nat.le_refl _) _ _ HTP.out) (ext_size _ _)))))
      refine wpQuiet_nil ?_
      intro _ hw'
      obtain ⟨px, hw''⟩ := hw'
      subst hw''
      go_wp2_with fail
      go_ret3
      exact ⟨ret_sib HO.out, HB.out.trans ((ext_below _ _).mono HB.out.size)⟩

end Go.Proofs.Ytlignkgfclenkaa
