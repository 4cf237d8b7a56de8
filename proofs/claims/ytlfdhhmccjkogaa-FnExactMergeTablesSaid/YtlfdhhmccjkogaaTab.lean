/-
  Contracts: IsTable, and the reference's taGood and IsTable.
-/
import Derived.Test.YtlfdhhmccjkogaaTabLaw
import Derived.Test.YtlfdhhmccjkogaaVz
import Derived.Test.YtlfdhhmccjkogaaExt
namespace Go.Proofs.Ytlfdhhmccjkogaa
open Go.ChangeShapes Go.WideShapes Go.ChangeAt Go.RowKit
set_option linter.unusedVariables false

/-- text a comes ahead of text b -/
def sLt (a b : ByteArray) : Bool := Op.bytesLess a.toList b.toList
theorem str_geq {P : Program} {a b : ByteArray} {r : Bool} (h : sLt a b = !r) (w : World) : (Op.stringOp .geq a b).run P w = .ok (.bool r) w := by
  have : (Op.stringOp .geq a b).run P w = .ok (.bool (!sLt a b)) w := rfl
  rw [this, h, Bool.not_not]
theorem bin_geq {P : Program} {a b : ByteArray} {r : Bool} (h : sLt a b = !r) (t : TypeId) (w : World) : (binOp .geq t (.string a) (.string b)).run P w = .ok (.bool r) w := str_geq h w
/-- row j goes with the table -/
def rowGood (T : TabD) (j : Nat) : Bool := match vread (nthR T.rows j).1 with
  | none => false
  | some t => !(((t.depth : Int) != T.depth) && decide (0 < (t.degree : Int))) && inB (nthR T.rows j).2 0 99 && (j == 0 || sLt (nthR T.rows (j - 1)).1 (nthR T.rows j).1)
def tabGood (T : TabD) : Bool := inB T.depth 0 4 && decide (T.rows.length ≤ 60) && (List.range T.rows.length).all (rowGood T)
section
variable {T : TabD} {j : Nat}
theorem tab_d (h : inB T.depth 0 4 = false) : tabGood T = false := by unfold tabGood; rw [h]; rfl
theorem tab_n (h : ¬ T.rows.length ≤ 60) : tabGood T = false := by unfold tabGood; rw [decide_eq_false h]; simp
theorem tab_r (hj : j < T.rows.length) (h : rowGood T j = false) : tabGood T = false := by
  unfold tabGood
  rw [Bool.and_eq_false_iff]
  right
  rw [List.all_eq_false]
  exact ⟨j, List.mem_range.2 hj, by rw [h]; simp⟩
theorem tab_y (h1 : inB T.depth 0 4 = true) (h2 : T.rows.length ≤ 60) (h3 : ∀ j, j < T.rows.length → rowGood T j = true) : tabGood T = true := by
  unfold tabGood
  rw [h1, decide_eq_true h2]
  simp only [Bool.true_and, List.all_eq_true]
  intro j hj
  exact h3 j (List.mem_range.1 hj)
variable {s : ByteArray} {o : Int} {t : VT}
theorem row_is (hs : (nthR T.rows j).1 = s) (ho : (nthR T.rows j).2 = o) : rowGood T j = match vread s with
  | none => false
  | some t => !(((t.depth : Int) != T.depth) && decide (0 < (t.degree : Int))) && inB o 0 99 && (j == 0 || sLt (nthR T.rows (j - 1)).1 s) := by unfold rowGood; rw [hs, ho]
end
set_option maxHeartbeats 8000000 in
set_option maxRecDepth 100000 in
theorem isTable_any (v : Value) (T : TabD) (lo hi : Nat) (w : World) (h : Tab w lo hi v T) (hhi : hi ≤ w.heap.size) : Calls Try.prog 16 #[v] w (fun e w' => e = .returned (.bool (tabGood T)) ∧ Below w.heap.size w w') := by
  obtain ⟨A, c, rfl, hr⟩ := h
  obtain ⟨A', c', he, hc1, hc2, hcell⟩ := hr.form
  obtain ⟨rfl, rfl⟩ : A = A' ∧ c = c' := by injection he with h1 _ h2; exact ⟨h1, h2⟩
  have HC := Lib.hid hcell
  clear hcell hr he
  unfold maxLen at hc2
  obtain ⟨n, HN⟩ : ∃ n, Hid (T.rows.length = n) := ⟨_, Lib.hid rfl⟩
  obtain ⟨dd, HD⟩ : ∃ n, Hid (T.depth = n) := ⟨_, Lib.hid rfl⟩
  rw [HN.out] at hc1 ⊢
  rw [HD.out]
  cases hg : inB dd 0 4 with
  | false =>
    have HG := Lib.hid (tab_d (T := T) (by rw [HD.out]; exact hg))
    go_enter Try.func16, Try.ntmps16
    go_wp2_with (go_at_call 27; refine (within_any _ _ _ _).mono ?_; rw [hg]; rintro e w' ⟨rfl, rfl⟩)
    go_ret
    exact ⟨ret_bool HG.out.symm, (Below.refl _ _).alloc (Nat.le_refl _) _⟩
  | true =>
  have HG := Lib.hid hg
  by_cases hn : n ≤ 60
  case neg =>
    have hn' : decide ((60 : Int) < (n : Int)) = true := decide_eq_true (by omega)
    have HT := Lib.hid (tab_n (T := T) (by rw [HN.out]; exact hn))
    go_enter Try.func16, Try.ntmps16
    go_wp2_with (go_at_call 27; refine (within_any _ _ _ _).mono ?_; rw [hg]; rintro e w' ⟨rfl, rfl⟩)
    go_ret
    exact ⟨ret_bool HT.out.symm, (Below.refl _ _).alloc (Nat.le_refl _) _⟩
  have hn' : decide ((60 : Int) < (n : Int)) = false := decide_eq_false (by omega)
  go_enter Try.func16, Try.ntmps16
  go_upto_region 3 with (go_at_call 27; refine (within_any _ _ _ _).mono ?_; rw [hg]; rintro e w' ⟨rfl, rfl⟩)
  refine nameC ?_
  intro W HW
  have HBX := Lib.hid (show BoxN W w.heap.size #[.int .i64 dd, .slice A n c] 28 by rw [HW.out]; exact BoxN.new _ _ _)
  have hbW : Below w.heap.size w W := by rw [HW.out]; exact (Below.refl _ _).alloc (Nat.le_refl _) _
  have hsW : w.heap.size + 1 ≤ W.heap.size := by rw [HW.out]; simp
  have HBW := Lib.hid hbW
  have kx1 : W.cell? ⟨w.heap.size, 1, none⟩ = some (.slice A n c) := HBX.out.cell 1 (by simp)
  clear HW hg hn' hbW
  go_wp2_with fail
  clear kx1
  go_loopw [19] (fun i' wr => ∃ k : Nat, k ≤ n ∧ i' = .int .i64 k ∧ Hid (Below W.heap.size W wr) ∧ Hid (∀ j, j < k → rowGood T j = true)) (fun i' _ => n - (intOf i').toNat)
  case atStart => exact ⟨0, Nat.zero_le _, rfl, Lib.hid (Below.refl _ _), Lib.hid (fun j hj => absurd hj (by omega))⟩
  case round =>
    obtain ⟨k, hk, rfl, HB, HU⟩ := hrel
    have hsr := HB.out.size
    by_cases hlt : k < n
    case neg =>
      obtain rfl : k = n := by omega
      go_wp2_with fail
      go_ret
      exact ⟨ret_bool (tab_y (by rw [HD.out]; exact HG.out) (by rw [HN.out]; exact hn) (by rw [HN.out]; exact HU.out)).symm, HBW.out.trans (HB.out.mono HBW.out.size)⟩
    obtain ⟨b, off, rfl, hb1, hb2, hcs⟩ := HC.out (by rw [HN.out]; omega)
    have HCS := Lib.hid hcs; clear hcs
    obtain ⟨s, HS⟩ : ∃ s, Hid ((nthR T.rows k).1 = s) := ⟨_, Lib.hid rfl⟩
    obtain ⟨o, HO⟩ : ∃ o, Hid ((nthR T.rows k).2 = o) := ⟨_, Lib.hid rfl⟩
    have hbr : Below w.heap.size w wr := HBW.out.trans (HB.out.mono HBW.out.size)
    have p1 := (hbr.cell (p := ⟨b, off + k * 2, none⟩) (by show b < _; omega)).trans (HCS.out k (by rw [HN.out]; exact hlt)).1
    have p2 := (hbr.cell (p := ⟨b, off + k * 2 + 1, none⟩) (by show b < _; omega)).trans (HCS.out k (by rw [HN.out]; exact hlt)).2
    rw [HS.out] at p1
    rw [HO.out] at p2
    have HBR := Lib.hid hbr; clear hbr
    go_upto_region 6 with fail
    clear p1 p2
    refine nameC ?_
    intro V HV
    have hbx := (show BoxN V wr.heap.size #[.string s, .int .i64 o] 38 by rw [HV.out]; exact BoxN.new _ _ _)
    have hbV : Below wr.heap.size wr V := by rw [HV.out]; exact (Below.refl _ _).alloc (Nat.le_refl _) _
    have hsV : wr.heap.size + 1 ≤ V.heap.size := by rw [HV.out]; simp
    have r0 : V.cell? ⟨wr.heap.size, 0, none⟩ = some (.string s) := hbx.cell 0 (by simp)
    clear HV
    go_wp2_with fail
    clear r0
    refine (readView_any s V).mono ?_
    rintro e V2 ⟨hb, hm⟩
    have hs2 := hb.size
    have r0 : V2.cell? ⟨wr.heap.size, 0, none⟩ = some (.string s) := (hb.cell (p := ⟨wr.heap.size, 0, none⟩) (by show wr.heap.size < V.heap.size; omega)).trans (hbx.cell 0 (by simp))
    have r1 : V2.cell? ⟨wr.heap.size, 1, none⟩ = some (.int .i64 o) := (hb.cell (p := ⟨wr.heap.size, 1, none⟩) (by show wr.heap.size < V.heap.size; omega)).trans (hbx.cell 1 (by simp))
    have hB2 := HB.out.trans ((hbV.trans (hb.mono (by omega))).mono hsr)
    have HB2 := Lib.hid hB2
    have t0 : V2.cell? ⟨w.heap.size, 0, none⟩ = some (.int .i64 dd) := (hB2.cell (p := ⟨w.heap.size, 0, none⟩) (by show w.heap.size < W.heap.size; omega)).trans (HBX.out.cell 0 (by simp))
    have t1 : V2.cell? ⟨w.heap.size, 1, none⟩ = some (.slice (some ⟨b, off, none⟩) n c) := (hB2.cell (p := ⟨w.heap.size, 1, none⟩) (by show w.heap.size < W.heap.size; omega)).trans (HBX.out.cell 1 (by simp))
    have hb0 : Below w.heap.size w V2 := HBW.out.trans (hB2.mono HBW.out.size)
    have HB0 := Lib.hid hb0
    have HRI := Lib.hid (row_is (T := T) (j := k) HS.out HO.out)
    have hs0 := hb0.size
    have hsB := hB2.size
    have R0 := ext_cell V2 (a := ⟨wr.heap.size, 0, none⟩) (by show wr.heap.size < _; omega) r0
    have R1 := ext_cell V2 (a := ⟨wr.heap.size, 1, none⟩) (by show wr.heap.size < _; omega) r1
    have T0 := ext_cell V2 (a := ⟨w.heap.size, 0, none⟩) (by show w.heap.size < _; omega) t0
    have T1 := ext_cell V2 (a := ⟨w.heap.size, 1, none⟩) (by show w.heap.size < _; omega) t1
    clear hbx hbV hb hB2 HB HBR r0 r1 t0 t1
    cases hv : vread s with
    | none =>
      have HV := Lib.hid hv
      have hF := HRI.out
      rw [hv] at hF
      have HF := Lib.hid hF
      have hm' : e = .returned (.pointer none) := by
        rcases hm with ⟨_, h⟩ | ⟨t, b, hy, _⟩
        · exact h
        · rw [hv] at hy; cases hy
      clear hm
      subst hm'
      clear hv hF
      go_wp2_with fail
      refine wp_region_ext (by kernel_rfl) (by kernel_rfl) ?_
      repeat (go_big_quiet_step ((fail)))
      refine wpQuiet_nil ?_
      intro _ hw'
      obtain ⟨px, hw''⟩ := hw'
      subst hw''
      go_wp2_with fail
      go_ret
      exact ⟨ret_bool (tab_r (by rw [HN.out]; exact hlt) (HF.out)).symm, HB0.out.trans ((ext_below _ _).mono hs0)⟩
    | some t =>
      have hF := HRI.out
      rw [hv] at hF
      dsimp only at hF
      rcases hm with ⟨hn2, rfl⟩ | ⟨t', bt, hy, rfl, ht⟩
      · rw [hv] at hn2; cases hn2
      obtain rfl : t' = t := by rw [hv] at hy; injection hy with hy; exact hy.symm
      clear hy
      skip
      obtain ⟨_, _, _, hl1, hl2, hbt, _, _, _⟩ := ht.opened
      have q0 := hbt.cell 0 (by simp)
      have q4 := hbt.cell 4 (by simp)
      simp only [List.getElem_toArray, List.getElem_cons_zero, List.getElem_cons_succ] at q0 q4
      have Q0 := ext_cell V2 (a := ⟨bt, 0, none⟩) (by show bt < _; omega) q0
      have Q4 := ext_cell V2 (a := ⟨bt, 4, none⟩) (by show bt < _; omega) q4
      clear q0 q4
      clear hbt ht hl1 hl2 hv
      obtain ⟨dt, HDT⟩ : ∃ d, Hid (t'.depth = d) := ⟨_, Lib.hid rfl⟩
      obtain ⟨dg, HDG⟩ : ∃ d, Hid (t'.degree = d) := ⟨_, Lib.hid rfl⟩
      rw [HDT.out, HDG.out, HD.out] at hF
      rw [HDG.out] at Q0
      rw [HDT.out] at Q4
      have HF := Lib.hid hF; clear hF
      cases h1 : ((dt : Int) != dd) with
      | false =>
        have HF1 := Lib.hid (HF.out.trans (by rw [h1]; rfl : _ = (true && inB o 0 99 && (k == 0 || sLt (nthR T.rows (k - 1)).1 s))))
        cases h3 : inB o 0 99 with
        | false =>
          have H3 := Lib.hid h3; clear h3
          go_wp2_with fail
          refine wp_region_ext (by kernel_rfl) (by kernel_rfl) ?_
          repeat (go_big_quiet_step ((go_at_call 27; exact ext_call_same ((within_any _ _ _ _).mono fun e w' ⟨he, hw⟩ => ⟨by rw [he, H3.out], hw⟩))))
          refine wpQuiet_nil ?_
          intro _ hw'
          obtain ⟨px, hw''⟩ := hw'
          subst hw''
          go_wp2_with fail
          go_ret
          exact ⟨ret_bool (tab_r (by rw [HN.out]; exact hlt) (by rw [HF1.out, H3.out]; rfl)).symm, HB0.out.trans ((ext_below _ _).mono hs0)⟩
        | true =>
          have H3 := Lib.hid h3; clear h3
          by_cases hk0 : k = 0
          case pos =>
            have hk1 : decide ((0 : Int) < (k : Int)) = false := decide_eq_false (by omega)
            have hk2 : decide (0 < k) = false := decide_eq_false (by omega)
            have HK := Lib.hid hk0; clear hk0
            go_wp2_with fail
            refine wp_region_ext (by kernel_rfl) (by kernel_rfl) ?_
            repeat (go_big_quiet_step ((go_at_call 27; exact ext_call_same ((within_any _ _ _ _).mono fun e w' ⟨he, hw⟩ => ⟨by rw [he, H3.out], hw⟩))))
            refine wpQuiet_nil ?_
            intro _ hw'
            obtain ⟨px, hw''⟩ := hw'
            subst hw''
            go_wp2_with fail
            go_roundw
            case rel =>
              refine ⟨k + 1, by omega, by go_num, Lib.hid (HB2.out.trans ((ext_below _ _).mono hsB)), Lib.hid fun j hj => ?_⟩
              by_cases e : j = k
              · rw [e]; rw [HF1.out, H3.out, HK.out]; rfl
              · exact HU.out j (by omega)
            case measure => simp [intOf]; omega
          have hk1 : decide ((0 : Int) < (k : Int)) = true := decide_eq_true (by omega)
          have hk2 : decide (0 < k) = true := decide_eq_true (by omega)
          obtain ⟨s1, HS1⟩ : ∃ s, Hid ((nthR T.rows (k - 1)).1 = s) := ⟨_, Lib.hid rfl⟩
          have p3 := (HB0.out.cell (p := ⟨b, off + (k - 1) * 2, none⟩) (by show b < _; omega)).trans (HCS.out (k - 1) (by rw [HN.out]; omega)).1
          rw [HS1.out] at p3
          obtain ⟨k1, HK1⟩ : ∃ q, Hid (k = q + 1) := ⟨k - 1, Lib.hid (by omega)⟩
          have HKE := Lib.hid (show k - 1 = k1 by rw [HK1.out]; omega)
          rw [HKE.out] at p3
          have P3 := ext_cell V2 (a := ⟨b, off + k1 * 2, none⟩) (by show b < _; omega) p3
          clear p3
          have hks : IntKind.i64.wrap ((k : Int) - 1) = (k1 : Int) := by rw [IntWalk.i64_in _ (by omega), HK1.out]; omega
          have hk1n : k1 < n := by have := HK1.out; omega
          have HKZ := Lib.hid (show (k == 0) = false by simp; exact hk0); clear hk0
          cases h4 : sLt s1 s with
          | true =>
            have hge := fun t w => bin_geq (P := Try.prog) (a := s1) (b := s) (r := false) h4 t w
            have hge2 := fun w => str_geq (P := Try.prog) (a := s1) (b := s) (r := false) h4 w
            have H4 := Lib.hid h4; clear h4
            go_wp2_with fail
            refine wp_region_ext (by kernel_rfl) (by kernel_rfl) ?_
            repeat (go_big_quiet_step ((go_at_call 27; exact ext_call_same ((within_any _ _ _ _).mono fun e w' ⟨he, hw⟩ => ⟨by rw [he, H3.out], hw⟩))))
            refine wpQuiet_nil ?_
            intro _ hw'
            obtain ⟨px, hw''⟩ := hw'
            subst hw''
            go_wp2_with fail
            go_roundw
            case rel =>
              refine ⟨k + 1, by omega, by go_num, Lib.hid (HB2.out.trans ((ext_below _ _).mono hsB)), Lib.hid fun j hj => ?_⟩
              by_cases e : j = k
              · rw [e]; rw [HF1.out, H3.out, HKZ.out, HS1.out, H4.out]; rfl
              · exact HU.out j (by omega)
            case measure => simp [intOf]; omega
          | false =>
            have hge := fun t w => bin_geq (P := Try.prog) (a := s1) (b := s) (r := true) h4 t w
            have hge2 := fun w => str_geq (P := Try.prog) (a := s1) (b := s) (r := true) h4 w
            have H4 := Lib.hid h4; clear h4
            go_wp2_with fail
            refine wp_region_ext (by kernel_rfl) (by kernel_rfl) ?_
            repeat (go_big_quiet_step ((go_at_call 27; exact ext_call_same ((within_any _ _ _ _).mono fun e w' ⟨he, hw⟩ => ⟨by rw [he, H3.out], hw⟩))))
            refine wpQuiet_nil ?_
            intro _ hw'
            obtain ⟨px, hw''⟩ := hw'
            subst hw''
            go_wp2_with fail
            go_ret
            exact ⟨ret_bool (tab_r (by rw [HN.out]; exact hlt) (by rw [HF1.out, H3.out, HKZ.out, HS1.out, H4.out]; rfl)).symm, HB0.out.trans ((ext_below _ _).mono hs0)⟩
      | true =>
        by_cases h2 : 0 < dg
        case pos =>
          have h2' : decide ((0 : Int) < (dg : Int)) = true := decide_eq_true (by omega)
          have h2n : decide (0 < dg) = true := decide_eq_true (by omega)
          have HF1 := Lib.hid (HF.out.trans (by rw [h1, h2']; rfl : _ = false))
          clear h2
          go_wp2_with fail
          refine wp_region_ext (by kernel_rfl) (by kernel_rfl) ?_
          repeat (go_big_quiet_step ((fail)))
          refine wpQuiet_nil ?_
          intro _ hw'
          obtain ⟨px, hw''⟩ := hw'
          subst hw''
          go_wp2_with fail
          go_ret
          exact ⟨ret_bool (tab_r (by rw [HN.out]; exact hlt) (HF1.out)).symm, HB0.out.trans ((ext_below _ _).mono hs0)⟩
        have h2' : decide ((0 : Int) < (dg : Int)) = false := decide_eq_false (by omega)
        have h2n : decide (0 < dg) = false := decide_eq_false (by omega)
        have HF1 := Lib.hid (HF.out.trans (by rw [h1, h2']; rfl : _ = (true && inB o 0 99 && (k == 0 || sLt (nthR T.rows (k - 1)).1 s))))
        cases h3 : inB o 0 99 with
        | false =>
          have H3 := Lib.hid h3; clear h3
          go_wp2_with fail
          refine wp_region_ext (by kernel_rfl) (by kernel_rfl) ?_
          repeat (go_big_quiet_step ((go_at_call 27; exact ext_call_same ((within_any _ _ _ _).mono fun e w' ⟨he, hw⟩ => ⟨by rw [he, H3.out], hw⟩))))
          refine wpQuiet_nil ?_
          intro _ hw'
          obtain ⟨px, hw''⟩ := hw'
          subst hw''
          go_wp2_with fail
          go_ret
          exact ⟨ret_bool (tab_r (by rw [HN.out]; exact hlt) (by rw [HF1.out, H3.out]; rfl)).symm, HB0.out.trans ((ext_below _ _).mono hs0)⟩
        | true =>
          have H3 := Lib.hid h3; clear h3
          by_cases hk0 : k = 0
          case pos =>
            have hk1 : decide ((0 : Int) < (k : Int)) = false := decide_eq_false (by omega)
            have hk2 : decide (0 < k) = false := decide_eq_false (by omega)
            have HK := Lib.hid hk0; clear hk0
            go_wp2_with fail
            refine wp_region_ext (by kernel_rfl) (by kernel_rfl) ?_
            repeat (go_big_quiet_step ((go_at_call 27; exact ext_call_same ((within_any _ _ _ _).mono fun e w' ⟨he, hw⟩ => ⟨by rw [he, H3.out], hw⟩))))
            refine wpQuiet_nil ?_
            intro _ hw'
            obtain ⟨px, hw''⟩ := hw'
            subst hw''
            go_wp2_with fail
            go_roundw
            case rel =>
              refine ⟨k + 1, by omega, by go_num, Lib.hid (HB2.out.trans ((ext_below _ _).mono hsB)), Lib.hid fun j hj => ?_⟩
              by_cases e : j = k
              · rw [e]; rw [HF1.out, H3.out, HK.out]; rfl
              · exact HU.out j (by omega)
            case measure => simp [intOf]; omega
          have hk1 : decide ((0 : Int) < (k : Int)) = true := decide_eq_true (by omega)
          have hk2 : decide (0 < k) = true := decide_eq_true (by omega)
          obtain ⟨s1, HS1⟩ : ∃ s, Hid ((nthR T.rows (k - 1)).1 = s) := ⟨_, Lib.hid rfl⟩
          have p3 := (HB0.out.cell (p := ⟨b, off + (k - 1) * 2, none⟩) (by show b < _; omega)).trans (HCS.out (k - 1) (by rw [HN.out]; omega)).1
          rw [HS1.out] at p3
          obtain ⟨k1, HK1⟩ : ∃ q, Hid (k = q + 1) := ⟨k - 1, Lib.hid (by omega)⟩
          have HKE := Lib.hid (show k - 1 = k1 by rw [HK1.out]; omega)
          rw [HKE.out] at p3
          have P3 := ext_cell V2 (a := ⟨b, off + k1 * 2, none⟩) (by show b < _; omega) p3
          clear p3
          have hks : IntKind.i64.wrap ((k : Int) - 1) = (k1 : Int) := by rw [IntWalk.i64_in _ (by omega), HK1.out]; omega
          have hk1n : k1 < n := by have := HK1.out; omega
          have HKZ := Lib.hid (show (k == 0) = false by simp; exact hk0); clear hk0
          cases h4 : sLt s1 s with
          | true =>
            have hge := fun t w => bin_geq (P := Try.prog) (a := s1) (b := s) (r := false) h4 t w
            have hge2 := fun w => str_geq (P := Try.prog) (a := s1) (b := s) (r := false) h4 w
            have H4 := Lib.hid h4; clear h4
            go_wp2_with fail
            refine wp_region_ext (by kernel_rfl) (by kernel_rfl) ?_
            repeat (go_big_quiet_step ((go_at_call 27; exact ext_call_same ((within_any _ _ _ _).mono fun e w' ⟨he, hw⟩ => ⟨by rw [he, H3.out], hw⟩))))
            refine wpQuiet_nil ?_
            intro _ hw'
            obtain ⟨px, hw''⟩ := hw'
            subst hw''
            go_wp2_with fail
            go_roundw
            case rel =>
              refine ⟨k + 1, by omega, by go_num, Lib.hid (HB2.out.trans ((ext_below _ _).mono hsB)), Lib.hid fun j hj => ?_⟩
              by_cases e : j = k
              · rw [e]; rw [HF1.out, H3.out, HKZ.out, HS1.out, H4.out]; rfl
              · exact HU.out j (by omega)
            case measure => simp [intOf]; omega
          | false =>
            have hge := fun t w => bin_geq (P := Try.prog) (a := s1) (b := s) (r := true) h4 t w
            have hge2 := fun w => str_geq (P := Try.prog) (a := s1) (b := s) (r := true) h4 w
            have H4 := Lib.hid h4; clear h4
            go_wp2_with fail
            refine wp_region_ext (by kernel_rfl) (by kernel_rfl) ?_
            repeat (go_big_quiet_step ((go_at_call 27; exact ext_call_same ((within_any _ _ _ _).mono fun e w' ⟨he, hw⟩ => ⟨by rw [he, H3.out], hw⟩))))
            refine wpQuiet_nil ?_
            intro _ hw'
            obtain ⟨px, hw''⟩ := hw'
            subst hw''
            go_wp2_with fail
            go_ret
            exact ⟨ret_bool (tab_r (by rw [HN.out]; exact hlt) (by rw [HF1.out, H3.out, HKZ.out, HS1.out, H4.out]; rfl)).symm, HB0.out.trans ((ext_below _ _).mono hs0)⟩

end Go.Proofs.Ytlfdhhmccjkogaa
