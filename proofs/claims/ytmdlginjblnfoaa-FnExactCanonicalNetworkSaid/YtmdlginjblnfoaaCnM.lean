/-
  Several texts in one: Rn2, Rn3, Rn4, Rn5, DistC, CompP, PartP, KpP, SimP, CanP, Cnw, NetZ, Held. No condition on any program.
-/
import Derived.Test.YtmdlginjblnfoaaCnA
import Derived.Test.YtmdlginjblnfoaaPut
import Derived.Test.YtmdlginjblnfoaaDistP
import Derived.Test.YtmdlginjblnfoaaCorM
import Derived.Test.YtmdlginjblnfoaaCoL
import Derived.Test.YtmdlginjblnfoaaNet

/- Contract: renumber (program). -/
namespace Go.Proofs.Ytmdlginjblnfoaa
open Go.ChangeShapes Go.WideShapes Go.ChangeAt Go.RowKit
set_option linter.unusedVariables false

/-- a row whose first i ends have other numbers -/
def mixE (p : List Int) (row : List (Int × Int)) (i : Nat) : List (Int × Int) := (mapEnds p row).take i ++ row.drop i
theorem mixE_zero (p : List Int) (row : List (Int × Int)) : mixE p row 0 = row := by simp [mixE]
theorem mixE_all (p : List Int) (row : List (Int × Int)) : mixE p row row.length = mapEnds p row := by
  unfold mixE
  rw [List.drop_eq_nil_of_le (Nat.le_refl _), List.append_nil, List.take_of_length_le (by rw [mapEnds_len]; exact Nat.le_refl _)]
theorem mixE_len (p : List Int) (row : List (Int × Int)) {i : Nat} (h : i ≤ row.length) : (mixE p row i).length = row.length := by simp [mixE, mapEnds]; omega
theorem nthE_mixE (p : List Int) {row : List (Int × Int)} {i : Nat} (h : i < row.length) : nthE (mixE p row i) i = nthE row i := by
  have h2 : ((mapEnds p row).take i).length = i := by simp [mapEnds]; omega
  unfold nthE mixE
  simp only [List.getD_eq_getElem?_getD]
  rw [List.getElem?_append_right (by omega), h2, List.getElem?_drop]
  simp
theorem mixE_set (p : List Int) {row : List (Int × Int)} {i : Nat} (h : i < row.length) : (mixE p row i).set i (nth p (nthE row i).1.toNat, (nthE row i).2) = mixE p row (i + 1) := by
  have h2 : ((mapEnds p row).take i).length = i := by simp [mapEnds]; omega
  have hm : i < (mapEnds p row).length := by simp [mapEnds]; exact h
  unfold mixE
  rw [List.set_append, if_neg (by omega), h2, Nat.sub_self, List.drop_eq_getElem_cons h, List.set_cons_zero, List.take_succ_eq_append_getElem hm, List.append_assoc]
  congr 1
  simp [mapEnds, nthE, h]
theorem EndS.setFst {w : World} {lo hi b off n c : Nat} {es : List (Int × Int)} (h : EndS w lo hi (.slice (some ⟨b, off, none⟩) n c) es) {j : Nat} (hj : j < es.length) (z : Int) :
    EndS (w.setCell ⟨b, off + j * 2, none⟩ (.int .i64 z)) lo hi (.slice (some ⟨b, off, none⟩) n c) (es.set j (z, (nthE es j).2)) := by
  obtain ⟨A, c', e, _⟩ := h.form
  injection e with e1 e2 e3
  subst e2
  have := Sl.set h (j := j * 2) (by omega) (.int .i64 z)
  unfold EndS
  rw [List.length_set]
  refine this.congr fun i hi => ?_
  have hset : ∀ k, nthE (es.set j (z, (nthE es j).2)) k = if k = j then (z, (nthE es j).2) else nthE es k := fun k => by
    unfold nthE
    simp only [List.getD_eq_getElem?_getD, List.getElem?_set]
    by_cases e : j = k
    · subst e; simp [hj]
    · rw [if_neg e, if_neg (fun h => e h.symm)]
  by_cases e : i = j * 2
  · rw [if_pos e, e, endCell_fst, hset, if_pos rfl]
  · rw [if_neg e]
    unfold endCell
    rw [hset]
    by_cases e2 : i / 2 = j
    · have : i % 2 ≠ 0 := by omega
      rw [if_pos e2, if_neg this, if_neg this, e2]
    · rw [if_neg e2]
theorem EndS.still {w w' : World} {lo hi : Nat} {v : Value} {es : List (Int × Int)} (h : EndS w lo hi v es) (hg : w.grownBy w' none) (hB : hi ≤ w.heap.size) : EndS w' lo hi v es := EndS.far h hg hB (no_row _ _)
theorem EndS.at2 {w : World} {lo hi b off n c : Nat} {es : List (Int × Int)} (h : EndS w lo hi (.slice (some ⟨b, off, none⟩) n c) es) {j : Nat} (hj : j < es.length) : w.cell? ⟨b, off + j * 2, none⟩ = some (.int .i64 (nthE es j).1) ∧ w.frozen? ⟨b, off + j * 2, none⟩ = false := by
  obtain ⟨A, c', e, _⟩ := h.form
  injection e with e1 e2 e3
  subst e2
  have := Sl.at_ h (j := j * 2) (by omega)
  rw [endCell_fst] at this
  exact this

set_option maxHeartbeats 16000000 in
set_option maxRecDepth 100000 in
theorem renumber_any (v1 : Value) (N : NetD) (lo1 hi1 : Nat) (v2 : Value) (p : List Int) (lo2 hi2 : Nat) (w : World) (h1 : Net w lo1 hi1 v1 N) (hh1 : hi1 ≤ w.heap.size) (h2 : IntS w lo2 hi2 v2 p) (hh2 : hi2 ≤ w.heap.size) (hg : N.good = true) (hp : p.length = N.ends.length) (hpv : ∀ j, j < N.ends.length → ∃ t : Nat, nth p j = t ∧ t < N.ends.length) :
    Calls Try.prog 28 #[v1, v2] w fun e w' => ∃ r, e = .returned (r) ∧ NetZ w' w.heap.size w'.heap.size r (renN N p) ∧ Below w.heap.size w w' := by
  obtain ⟨n1, n40⟩ := good_n hg
  have HG := Lib.hid hg; clear hg
  have HNN := Lib.hid (good_insl HG.out); have HNI := Lib.hid (good_idsl HG.out); have HPV := Lib.hid hpv; have HPL := Lib.hid hp; clear hpv hp
  have F1 := Lib.hid h1
  obtain ⟨A1, c1, A1', c1', A1'', c1'', rfl, hc1, hd1, _⟩ := h1.parts
  obtain ⟨b1, o1, _, _, rfl, _⟩ := Net.rowAt F1.out (u := 0) (by omega)
  clear h1
  have F2 := Lib.hid h2
  obtain ⟨A2, c2, rfl, hc2, hd2⟩ := h2.dims
  clear h2
  obtain ⟨WA, HWA⟩ : ∃ W, Hid (W = ((w.alloc (.cells #[.slice (some ⟨b1, o1, none⟩) N.ends.length c1, .slice A1' N.ids.length c1', .slice A1'' N.inputs.length c1''] 31)).alloc (.cells #[.slice none 0 0, .slice none 0 0, .slice none 0 0] 31))) := ⟨_, Lib.hid rfl⟩
  have hbA : Below w.heap.size w WA := by rw [HWA.out]; exact (((Below.refl _ _).alloc (Nat.le_refl _) _).alloc (by simp; try omega) _)
  have hsA : w.heap.size + 2 ≤ WA.heap.size := by rw [HWA.out]; simp; try omega
  have bx1 : BoxN WA (w.heap.size) #[.slice (some ⟨b1, o1, none⟩) N.ends.length c1, .slice A1' N.ids.length c1', .slice A1'' N.inputs.length c1''] 31 := by rw [HWA.out]; exact ((BoxN.new' _ _ _ (by simp)).still (grown_alloc _ _))
  have bxx0 : BoxN WA (w.heap.size + 1) #[.slice none 0 0, .slice none 0 0, .slice none 0 0] 31 := by rw [HWA.out]; exact (BoxN.new' _ _ _ (by simp))
  have G1 := Lib.hid (Net.below F1.out hbA hh1); clear F1
  have G2 := Lib.hid (IntS.below F2.out hbA hh2); clear F2
  go_enter Try.func28, Try.ntmps28
  go_upto_region 1 with (fail)
  rw [← HWA.out]; clear HWA
  have kbx1_0 : WA.cell? ⟨w.heap.size, 0, none⟩ = some (.slice (some ⟨b1, o1, none⟩) N.ends.length c1) := bx1.cell 0 (by simp)
  have kbx1_1 : WA.cell? ⟨w.heap.size, 1, none⟩ = some (.slice A1' N.ids.length c1') := bx1.cell 1 (by simp)
  have kbx1_2 : WA.cell? ⟨w.heap.size, 2, none⟩ = some (.slice A1'' N.inputs.length c1'') := bx1.cell 2 (by simp)
  go_wp2_with fail
  clear kbx1_0 kbx1_1 kbx1_2
  refine (copyNet_any _ N lo1 hi1 _ G1.out (by omega) HG.out).mono ?_
  rintro e W1 ⟨d1, d2, d3, i2, gT, c8, c9, A8, A9, rfl, hR1, hb1⟩
  have hg1 := grown_below hb1; clear hb1
  have hs1 := hg1.size
  have HF1 := Lib.hid ((Turned.refl WA.heap.size WA.heap.size WA).still hg1)
  have HR1 := Lib.hid hR1; clear hR1
  obtain ⟨b9, o9, e9, hb9, hb9', _, _⟩ := HR1.out.ins.opened (j := 0) (by have := HNN.out; omega)
  subst e9
  have hgTO := HR1.out.g2; have hi2O := HR1.out.o4
  go_upto_region 2 with (fail)
  refine nameC ?_
  intro W2 HW2
  have hg2 : W1.grownBy W2 none := by rw [HW2.out]; exact grown_alloc _ _
  have hs2 := hg2.size
  have HF2 := Lib.hid (HF1.out.still hg2); clear HF1
  have R2 := Lib.hid (RN.still HR1.out hg2); clear HR1
  have OUT2 := Lib.hid (show BoxN W2 W1.heap.size #[.slice (some ⟨gT, 0, none⟩) N.ends.length N.ends.length, .slice A8 N.ids.length c8, .slice (some ⟨b9, o9, none⟩) N.inputs.length c9] 31 by rw [HW2.out]; exact BoxN.new _ _ _)
  clear HW2
  obtain ⟨gO, hgO⟩ : ∃ g : Nat, g = W1.heap.size := ⟨_, rfl⟩
  rw [← hgO] at OUT2 hgTO hi2O ⊢
  have hgOl : gO < W2.heap.size := OUT2.out.lt
  have hgOb : WA.heap.size ≤ gO := by omega
  clear hgO
  have kbx1_0 : W2.cell? ⟨w.heap.size, 0, none⟩ = some (.slice (some ⟨b1, o1, none⟩) N.ends.length c1) := (HF2.out.boxN bx1 (by omega)).cell 0 (by simp)
  have kbx1_1 : W2.cell? ⟨w.heap.size, 1, none⟩ = some (.slice A1' N.ids.length c1') := (HF2.out.boxN bx1 (by omega)).cell 1 (by simp)
  have kbx1_2 : W2.cell? ⟨w.heap.size, 2, none⟩ = some (.slice A1'' N.inputs.length c1'') := (HF2.out.boxN bx1 (by omega)).cell 2 (by simp)
  go_wp2_with fail
  clear kbx1_0 kbx1_1 kbx1_2
  go_loopw [15] (fun kv wr => ∃ (k : Nat), k ≤ N.ends.length ∧ kv = .int .i64 k ∧ Hid (BoxN wr gO #[.slice (some ⟨gT, 0, none⟩) N.ends.length N.ends.length, .slice A8 N.ids.length c8, .slice (some ⟨b9, o9, none⟩) N.inputs.length c9] 31) ∧ Hid (RN wr WA.heap.size d1 d2 d3 i2 wr.heap.size gT (.slice (some ⟨gT, 0, none⟩) N.ends.length N.ends.length) (.slice A8 N.ids.length c8) (.slice (some ⟨b9, o9, none⟩) N.inputs.length c9) (renTo N p k)) ∧ Hid (Turned WA.heap.size WA.heap.size WA wr)) (fun kv _ => N.ends.length - (intOf kv).toNat)
  case atStart => exact ⟨0, Nat.zero_le _, rfl, OUT2, Lib.hid (RN.up R2.out (by omega) (Nat.le_refl _)), HF2⟩
  case round =>
    clear HF2
    obtain ⟨k, hk, rfl, HB, HR, HF3⟩ := hrel
    have hs3 := HF3.out.size
    obtain ⟨wt, rfl⟩ : ∃ wt : World, wt = wr := ⟨_, rfl⟩
    by_cases hkn : k < N.ends.length
    case neg =>
      obtain rfl : k = N.ends.length := by omega
      have ko0 : wt.cell? ⟨gO, 0, none⟩ = some (.slice (some ⟨gT, 0, none⟩) N.ends.length N.ends.length) := HB.out.cell 0 (by simp)
      have ko1 : wt.cell? ⟨gO, 1, none⟩ = some (.slice A8 N.ids.length c8) := HB.out.cell 1 (by simp)
      have ko2 : wt.cell? ⟨gO, 2, none⟩ = some (.slice (some ⟨b9, o9, none⟩) N.inputs.length c9) := HB.out.cell 2 (by simp)
      have HBR := Lib.hid (HF3.out.boxN bxx0 (by omega))
      have kr0 : wt.cell? ⟨w.heap.size + 1, 0, none⟩ = some (.slice none 0 0) := HBR.out.cell 0 (by simp)
      have kr1 : wt.cell? ⟨w.heap.size + 1, 1, none⟩ = some (.slice none 0 0) := HBR.out.cell 1 (by simp)
      have kr2 : wt.cell? ⟨w.heap.size + 1, 2, none⟩ = some (.slice none 0 0) := HBR.out.cell 2 (by simp)
      have kf0 := HBR.out.frozen 0
      have kf1 := HBR.out.frozen 1
      have kf2 := HBR.out.frozen 2
      go_wp2_with fail
      ((try simp only [Exit.inBlock, Exit.then]); refine bodyPost_ret (results_cell1 rfl _ _ _ rfl (load_net (((HBR.out.set 0 (.slice (some ⟨gT, 0, none⟩) N.ends.length N.ends.length)).set 1 (.slice A8 N.ids.length c8)).set 2 (.slice (some ⟨b9, o9, none⟩) N.inputs.length c9)))) rfl ?_)
      have hg9 : wt.grownBy (((wt.setCell ⟨w.heap.size + 1, 0, none⟩ (.slice (some ⟨gT, 0, none⟩) N.ends.length N.ends.length)).setCell ⟨w.heap.size + 1, 1, none⟩ (.slice A8 N.ids.length c8)).setCell ⟨w.heap.size + 1, 2, none⟩ (.slice (some ⟨b9, o9, none⟩) N.inputs.length c9)) (some (w.heap.size + 1)) := grownBy_setCell (p := ⟨w.heap.size + 1, 2, none⟩) (grownBy_setCell (p := ⟨w.heap.size + 1, 1, none⟩) (grown_set wt ⟨w.heap.size + 1, 0, none⟩ _) rfl _) rfl _
      refine ⟨_, rfl, ?_, ((HF3.out.below_of hbA (by omega) (by omega)).grown hg9 (by omega) fun g e => by cases e; omega)⟩
      exact ⟨_, _, _, _, _, _, _, _, rfl, RN.up (RN.weak (RN.far HR.out hg9 (fun k e => by cases e; omega)) (by omega)) hg9.size (Nat.le_refl _)⟩
    have hki : (k : Int) < N.ends.length := by omega
    have hd6 := good_deg HG.out hkn
    obtain ⟨q, hq, hqn⟩ := HPV.out k hkn
    have HQ := Lib.hid hq; clear hq
    have HGT := Lib.hid HR.out.g2; have HGA := Lib.hid HR.out.g1; have hi2w := HR.out.o4; have hd1w := HR.out.o1; have hd2w := HR.out.o2; have hd3w := HR.out.o3; have hd5w := HR.out.o5
    have hgtw := HGT.out; have hgaw := HGA.out
    obtain ⟨bP, oP, eP, _, hbP, xP, _⟩ := ((IntS.turned G2.out HF3.out (by omega) (by omega))).opened (j := k) (by rw [HPL.out]; exact hkn)
    subst eP
    rw [HQ.out] at xP
    clear xP
    obtain ⟨Aa, ca, hba, qa, hca, hda, hRa⟩ := Net.rowIn G1.out hkn
    replace qa := (HF3.out.cell (by omega) (by omega)).trans qa
    have Ra := Lib.hid hRa; clear hRa
    go_wp2_with fail
    clear qa
    refine (cloneE_any _ (nthL N.ends k) _ _ _ (EndS.turned Ra.out HF3.out (by omega) (by omega)) (by omega) (by omega)).mono ?_
    rintro e W4 ⟨rc, rfl, hrc, hb4⟩
    have hs4 := hb4.size
    obtain ⟨AC, cC, rfl, hcC, hdC⟩ := hrc.dims
    have HC := Lib.hid (show EndS W4 wt.heap.size W4.heap.size (.slice AC (nthL N.ends k).length cC) (mixE p (nthL N.ends k) 0) by rw [mixE_zero]; exact hrc)
    have HBW0 := Lib.hid hb4
    clear hrc hb4
    go_wp2_with fail
    go_loopw [24] (fun iv wr => ∃ (i : Nat), i ≤ (nthL N.ends k).length ∧ iv = .int .i64 i ∧ Hid (EndS wr wt.heap.size W4.heap.size (.slice AC (nthL N.ends k).length cC) (mixE p (nthL N.ends k) i)) ∧ Hid (Below wt.heap.size wt wr) ∧ W4.heap.size ≤ wr.heap.size) (fun iv _ => (nthL N.ends k).length - (intOf iv).toNat)
    case atStart => exact ⟨0, Nat.zero_le _, rfl, HC, HBW0, Nat.le_refl _⟩
    case round =>
      obtain ⟨i, hi, rfl, HL, HBW, hz5⟩ := hrel
      obtain ⟨wu, rfl⟩ : ∃ wu : World, wu = wr := ⟨_, rfl⟩
      have hsu := HBW.out.size
      by_cases hil : i < (nthL N.ends k).length
      case pos =>
        have hii : (i : Int) < (nthL N.ends k).length := by omega
        have hml := mixE_len p (nthL N.ends k) hi
        obtain ⟨t, r, et, ht, hr, _⟩ := good_end HG.out hkn hil
        obtain ⟨bL, oL, eL, hbL, hbL2, zz1, zz2⟩ := HL.out.opened (j := i) (by rw [hml]; exact hil)
        clear zz1 zz2
        subst eL
        obtain ⟨y1, y2⟩ := EndS.at2 HL.out (j := i) (by rw [hml]; exact hil)
        have HSF := Lib.hid (EndS.setFst HL.out (j := i) (by rw [hml]; exact hil) (nth p t))
        rw [nthE_mixE p hil, et] at y1
        rw [show (t : Nat) = ((nthE (nthL N.ends k) i).1).toNat by rw [et, Int.toNat_natCast], nthE_mixE p hil, mixE_set p hil] at HSF
        rw [et, Int.toNat_natCast] at HSF
        obtain ⟨q2, hq2, _⟩ := HPV.out t ht
        rw [hq2] at HSF
        have y3 := (IntS.at_ (IntS.below (IntS.turned G2.out HF3.out (by omega) (by omega)) HBW.out (by omega)) (j := t) (by rw [HPL.out]; exact ht)).1
        rw [hq2] at y3
        have htp : (t : Int) < p.length := by rw [HPL.out]; omega
        dsimp only at y1
        clear hq2 et hml
        go_wp2_with fail
        go_roundw
        case rel =>
          have hg9 : wu.grownBy (wu.setCell ⟨bL, oL + i * 2, none⟩ (.int .i64 (q2 : Nat))) (some bL) := grown_set _ _ _
          have hs9 := hg9.size
          exact ⟨i + 1, by omega, by go_num, HSF, Lib.hid (HBW.out.grown hg9 (by omega) fun g e => by cases e; omega), by omega⟩
        case measure => simp [intOf]; omega
      obtain rfl : i = (nthL N.ends k).length := by omega
      rw [mixE_all] at HL
      have HLV := Lib.hid HL.out
      have HRL9 := Lib.hid (show rowOf (mapEnds p (nthL N.ends k)).length (.slice AC (nthL N.ends k).length cC) = none ∨ rowOf (mapEnds p (nthL N.ends k)).length (.slice AC (nthL N.ends k).length cC) ≠ some gT by
        rcases Sl.row HL.out with h | ⟨b, h, h1, h2⟩
        · exact .inl h
        · right; rw [h]; intro e; injection e with e; omega)
      clear HL
      have HF20 := Lib.hid (HF3.out.still (grown_below HBW.out))
      have OUT20 := Lib.hid (BoxN.still HB.out (grown_below HBW.out))
      have R20 := Lib.hid (RN.below HR.out (HBW.out.mono (by omega)))
      have xP := ((IntS.below (IntS.turned G2.out HF3.out (by omega) (by omega)) HBW.out (by omega)).at_ (j := k) (by rw [HPL.out]; exact hkn)).1
      rw [HQ.out] at xP
      have PC20 := Lib.hid (show CellH wu ⟨bP, oP + k, none⟩ (.int .i64 (q : Nat)) from ⟨xP, by show bP < _; omega⟩)
      clear xP HB HR HF3
      go_wp2_with fail
      have hqi : (q : Int) < N.ends.length := by omega
      have hkp : (k : Int) < p.length := by rw [HPL.out]; exact hki
      obtain ⟨rl1, rl2, rl3⟩ := renTo_len N p k
      have HRL1 := Lib.hid rl1; have HRL2 := Lib.hid rl2; have HRL3 := Lib.hid rl3; clear rl1 rl2 rl3
      refine wp_region_U (fun w' => w'.cell? ⟨gO, 0, none⟩ = some (.slice (some ⟨gT, 0, none⟩) N.ends.length N.ends.length) ∧ w'.cell? ⟨gO, 1, none⟩ = some (.slice A8 N.ids.length c8) ∧ w'.cell? ⟨gO, 2, none⟩ = some (.slice (some ⟨b9, o9, none⟩) N.inputs.length c9) ∧ w'.cell? ⟨bP, oP + k, none⟩ = some (.int .i64 (q : Nat))) [8] (by kernel_rfl) ?_
      refine nameU ?_
      intro W31 HW31
      have hg31 : wu.grownBy W31 none := by rw [HW31.out]; exact grown_drew _
      clear HW31
      have hs31 := hg31.size
      have HF31 := Lib.hid (HF20.out.still hg31); clear HF20
      have OUT31 := Lib.hid (BoxN.still OUT20.out hg31); clear OUT20
      have R31 := Lib.hid (RN.still R20.out hg31); clear R20
      have PC31 := Lib.hid (CellH.still PC20.out hg31); clear PC20
      have LV31 := Lib.hid (EndS.still HLV.out hg31 (by omega)); clear HLV
      have hS32 : W31.cell? ⟨gO, 0, none⟩ = some (.slice (some ⟨gT, 0, none⟩) N.ends.length N.ends.length) ∧ W31.cell? ⟨gO, 1, none⟩ = some (.slice A8 N.ids.length c8) ∧ W31.cell? ⟨gO, 2, none⟩ = some (.slice (some ⟨b9, o9, none⟩) N.inputs.length c9) ∧ W31.cell? ⟨bP, oP + k, none⟩ = some (.int .i64 (q : Nat)) := ⟨OUT31.out.cell 0 (by simp), OUT31.out.cell 1 (by simp), OUT31.out.cell 2 (by simp), PC31.out.cell⟩
      refine anyU_take (i := 0) (v := .pointer (some ⟨gO, 0, none⟩)) rfl (by kernel_rfl) (by kernel_rfl) (by kernel_rfl) (fun _ _ _ h => h) ⟨by rfl, fun w' hS' => (by obtain ⟨s1, s2, s3, s4⟩ := hS'; go_simp)⟩ hS32 ?_
      simp only [List.getElem_toArray, List.getElem_cons_zero, Act.put, List.setIfInBounds_toArray, List.set_cons_zero, List.set_cons_succ]
      refine anyU_take (i := 1) (v := .slice (some ⟨gT, 0, none⟩) N.ends.length N.ends.length) rfl (by kernel_rfl) (by kernel_rfl) (by kernel_rfl) (fun _ _ _ h => h) ⟨by rfl, fun w' hS' => (by obtain ⟨s1, s2, s3, s4⟩ := hS'; go_simp)⟩ hS32 ?_
      simp only [List.getElem_toArray, List.getElem_cons_succ, List.getElem_cons_zero, Act.put, List.setIfInBounds_toArray, List.set_cons_zero, List.set_cons_succ]
      refine anyU_take (i := 2) (v := .slice (some ⟨bP, oP, none⟩) p.length c2) rfl (by kernel_rfl) (by kernel_rfl) (by kernel_rfl) (fun _ _ _ h => h) ⟨by rfl, fun w' hS' => (by obtain ⟨s1, s2, s3, s4⟩ := hS'; go_simp)⟩ hS32 ?_
      simp only [List.getElem_toArray, List.getElem_cons_succ, List.getElem_cons_zero, Act.put, List.setIfInBounds_toArray, List.set_cons_zero, List.set_cons_succ]
      refine anyU_take (i := 3) (v := .int .i64 k) rfl (by kernel_rfl) (by kernel_rfl) (by kernel_rfl) (fun _ _ _ h => h) ⟨by rfl, fun w' hS' => (by obtain ⟨s1, s2, s3, s4⟩ := hS'; go_simp)⟩ hS32 ?_
      simp only [List.getElem_toArray, List.getElem_cons_succ, List.getElem_cons_zero, Act.put, List.setIfInBounds_toArray, List.set_cons_zero, List.set_cons_succ]
      refine anyU_take (i := 4) (v := .pointer (some ⟨bP, oP + k, none⟩)) rfl (by kernel_rfl) (by kernel_rfl) (by kernel_rfl) (fun _ _ _ h => h) ⟨by rfl, fun w' hS' => (by obtain ⟨s1, s2, s3, s4⟩ := hS'; simp [go_sem, hkp])⟩ hS32 ?_
      simp only [List.getElem_toArray, List.getElem_cons_succ, List.getElem_cons_zero, Act.put, List.setIfInBounds_toArray, List.set_cons_zero, List.set_cons_succ]
      refine anyU_take (i := 5) (v := .int .i64 (q : Nat)) rfl (by kernel_rfl) (by kernel_rfl) (by kernel_rfl) (fun _ _ _ h => h) ⟨by rfl, fun w' hS' => (by obtain ⟨s1, s2, s3, s4⟩ := hS'; go_simp)⟩ hS32 ?_
      simp only [List.getElem_toArray, List.getElem_cons_succ, List.getElem_cons_zero, Act.put, List.setIfInBounds_toArray, List.set_cons_zero, List.set_cons_succ]
      refine anyU_take (i := 6) (v := .slice AC (nthL N.ends k).length cC) rfl (by kernel_rfl) (by kernel_rfl) (by kernel_rfl) (fun _ _ _ h => h) ⟨by rfl, fun w' hS' => (by obtain ⟨s1, s2, s3, s4⟩ := hS'; go_simp)⟩ hS32 ?_
      simp only [List.getElem_toArray, List.getElem_cons_succ, List.getElem_cons_zero, Act.put, List.setIfInBounds_toArray, List.set_cons_zero, List.set_cons_succ]
      refine anyU_take (i := 7) (v := .pointer (some ⟨gT, q, none⟩)) rfl (by kernel_rfl) (by kernel_rfl) (by kernel_rfl) (fun _ _ _ h => h) ⟨by rfl, fun w' hS' => (by obtain ⟨s1, s2, s3, s4⟩ := hS'; simp [go_sem, hqi])⟩ hS32 ?_
      simp only [List.getElem_toArray, List.getElem_cons_succ, List.getElem_cons_zero, Act.put, List.setIfInBounds_toArray, List.set_cons_zero, List.set_cons_succ]
      obtain ⟨xv, z1, z2, z3⟩ := RN.topAt R31.out (a := q) (by rw [HRL1.out]; exact hqn)
      rw [Nat.zero_add] at z1 z3
      obtain ⟨Ax, nx, cx, rfl⟩ := RN.topForm R31.out (a := q) (by rw [HRL1.out]; exact hqn) (by rw [Nat.zero_add]; exact z1)
      have HSE := Lib.hid (RN.setE (a := q) R31.out (by rw [HRL1.out]; exact hqn) (u := .slice AC (nthL N.ends k).length cC) (xs := mapEnds p (nthL N.ends k)) (EndS.mono LV31.out (by omega) (by omega)) HRL9.out)
      rw [Nat.zero_add] at HSE
      refine anyU_ready (rs := [8]) (by kernel_rfl) (by simp) ?_
      refine ReadyU.cons (i := 8) rfl (fun K hK => ?_) ReadyU.nil
      simp only [List.getElem_toArray, List.getElem_cons_succ, List.getElem_cons_zero]
      refine ite_is (by rfl) ?_
      simp [go_sem, z1, z3]
      refine hK.out _ _ ⟨fun h => absurd h (by decide), ?_⟩
      clear hK K
      try simp only [List.getElem_toArray, List.getElem_cons_succ, List.getElem_cons_zero, Act.put, List.setIfInBounds_toArray, List.set_cons_zero, List.set_cons_succ]
      refine nameU ?_
      intro W33 HW33
      have hg33 : W31.grownBy W33 (some gT) := by rw [HW33.out]; exact grown_set _ ⟨gT, _, none⟩ _
      have hs33 := hg33.size
      have HF33 := Lib.hid (HF31.out.grown hg33 (fun g e => .inr (by cases e; omega)))
      have OUT33 := Lib.hid (BoxN.far OUT31.out hg33 (fun g e => by cases e; omega))
      have PC33 := Lib.hid (CellH.far PC31.out hg33 (fun g e => by cases e; show gT ≠ bP; omega))
      have R33 := Lib.hid (show RN W33 WA.heap.size d1 d2 d3 i2 W33.heap.size gT (.slice (some ⟨gT, 0, none⟩) N.ends.length N.ends.length) (.slice A8 N.ids.length c8) (.slice (some ⟨b9, o9, none⟩) N.inputs.length c9) ⟨(renTo N p k).ends.set q (mapEnds p (nthL N.ends k)), (renTo N p k).ids, (renTo N p k).inputs⟩ by rw [HW33.out]; exact HSE.out)
      clear HW33 z1 z3 HSE
      clear hS32
      refine anyU_done (by kernel_rfl) ?_ _
      go_wp2_with fail
      have hqin : q < N.inputs.length := by rw [HNN.out]; exact hqn
      have hqii : (q : Int) < N.inputs.length := by omega
      have hkin : k < N.inputs.length := by rw [HNN.out]; exact hkn
      have hkii : (k : Int) < N.inputs.length := by omega
      obtain ⟨bI, oI, eI, _, hbI, xI, _⟩ := (netIns (Net.turned G1.out HF33.out (by omega) (by omega))).opened (j := k) hkin
      subst eI
      obtain ⟨x, HX⟩ : ∃ x, Hid (nth N.inputs k = x) := ⟨_, Lib.hid rfl⟩
      rw [HX.out] at xI
      have XC0 := Lib.hid (show CellH W33 ⟨bI, oI + k, none⟩ (.int .i64 x) from ⟨xI, by show bI < _; omega⟩)
      have hqiin := hqin
      refine wp_region_U (fun w' => w'.cell? ⟨gO, 0, none⟩ = some (.slice (some ⟨gT, 0, none⟩) N.ends.length N.ends.length) ∧ w'.cell? ⟨gO, 1, none⟩ = some (.slice A8 N.ids.length c8) ∧ w'.cell? ⟨gO, 2, none⟩ = some (.slice (some ⟨b9, o9, none⟩) N.inputs.length c9) ∧ w'.cell? ⟨w.heap.size, 0, none⟩ = some (.slice (some ⟨b1, o1, none⟩) N.ends.length c1) ∧ w'.cell? ⟨w.heap.size, 1, none⟩ = some (.slice A1' N.ids.length c1') ∧ w'.cell? ⟨w.heap.size, 2, none⟩ = some (.slice (some ⟨bI, oI, none⟩) N.inputs.length c1'') ∧ w'.cell? ⟨bP, oP + k, none⟩ = some (.int .i64 (q : Nat)) ∧ w'.cell? ⟨bI, oI + k, none⟩ = some (.int .i64 x)) [12] (by kernel_rfl) ?_
      refine nameU ?_
      intro W34 HW34
      have hg34 : W33.grownBy W34 none := by rw [HW34.out]; exact grown_drew _
      clear HW34
      have hs34 := hg34.size
      have HF34 := Lib.hid (HF33.out.still hg34); clear HF33
      have OUT34 := Lib.hid (BoxN.still OUT33.out hg34); clear OUT33
      have PC34 := Lib.hid (CellH.still PC33.out hg34); clear PC33
      have R34 := Lib.hid (RN.still R33.out hg34); clear R33
      have XC34 := Lib.hid (CellH.still XC0.out hg34); clear XC0
      have hS35 : W34.cell? ⟨gO, 0, none⟩ = some (.slice (some ⟨gT, 0, none⟩) N.ends.length N.ends.length) ∧ W34.cell? ⟨gO, 1, none⟩ = some (.slice A8 N.ids.length c8) ∧ W34.cell? ⟨gO, 2, none⟩ = some (.slice (some ⟨b9, o9, none⟩) N.inputs.length c9) ∧ W34.cell? ⟨w.heap.size, 0, none⟩ = some (.slice (some ⟨b1, o1, none⟩) N.ends.length c1) ∧ W34.cell? ⟨w.heap.size, 1, none⟩ = some (.slice A1' N.ids.length c1') ∧ W34.cell? ⟨w.heap.size, 2, none⟩ = some (.slice (some ⟨bI, oI, none⟩) N.inputs.length c1'') ∧ W34.cell? ⟨bP, oP + k, none⟩ = some (.int .i64 (q : Nat)) ∧ W34.cell? ⟨bI, oI + k, none⟩ = some (.int .i64 x) := ⟨OUT34.out.cell 0 (by simp), OUT34.out.cell 1 (by simp), OUT34.out.cell 2 (by simp), (HF34.out.boxN bx1 (by omega)).cell 0 (by simp), (HF34.out.boxN bx1 (by omega)).cell 1 (by simp), (HF34.out.boxN bx1 (by omega)).cell 2 (by simp), PC34.out.cell, XC34.out.cell⟩
      refine anyU_take (i := 0) (v := .pointer (some ⟨gO, 2, none⟩)) rfl (by kernel_rfl) (by kernel_rfl) (by kernel_rfl) (fun _ _ _ h => h) ⟨by rfl, fun w' hS' => (by obtain ⟨s1, s2, s3, s4, s5, s6, s7, s8⟩ := hS'; go_simp)⟩ hS35 ?_
      simp only [List.getElem_toArray, List.getElem_cons_zero, Act.put, List.setIfInBounds_toArray, List.set_cons_zero, List.set_cons_succ]
      refine anyU_take (i := 1) (v := .slice (some ⟨b9, o9, none⟩) N.inputs.length c9) rfl (by kernel_rfl) (by kernel_rfl) (by kernel_rfl) (fun _ _ _ h => h) ⟨by rfl, fun w' hS' => (by obtain ⟨s1, s2, s3, s4, s5, s6, s7, s8⟩ := hS'; go_simp)⟩ hS35 ?_
      simp only [List.getElem_toArray, List.getElem_cons_succ, List.getElem_cons_zero, Act.put, List.setIfInBounds_toArray, List.set_cons_zero, List.set_cons_succ]
      refine anyU_take (i := 2) (v := .slice (some ⟨bP, oP, none⟩) p.length c2) rfl (by kernel_rfl) (by kernel_rfl) (by kernel_rfl) (fun _ _ _ h => h) ⟨by rfl, fun w' hS' => (by obtain ⟨s1, s2, s3, s4, s5, s6, s7, s8⟩ := hS'; go_simp)⟩ hS35 ?_
      simp only [List.getElem_toArray, List.getElem_cons_succ, List.getElem_cons_zero, Act.put, List.setIfInBounds_toArray, List.set_cons_zero, List.set_cons_succ]
      refine anyU_take (i := 3) (v := .int .i64 k) rfl (by kernel_rfl) (by kernel_rfl) (by kernel_rfl) (fun _ _ _ h => h) ⟨by rfl, fun w' hS' => (by obtain ⟨s1, s2, s3, s4, s5, s6, s7, s8⟩ := hS'; go_simp)⟩ hS35 ?_
      simp only [List.getElem_toArray, List.getElem_cons_succ, List.getElem_cons_zero, Act.put, List.setIfInBounds_toArray, List.set_cons_zero, List.set_cons_succ]
      refine anyU_take (i := 4) (v := .pointer (some ⟨bP, oP + k, none⟩)) rfl (by kernel_rfl) (by kernel_rfl) (by kernel_rfl) (fun _ _ _ h => h) ⟨by rfl, fun w' hS' => (by obtain ⟨s1, s2, s3, s4, s5, s6, s7, s8⟩ := hS'; simp [go_sem, hkp])⟩ hS35 ?_
      simp only [List.getElem_toArray, List.getElem_cons_succ, List.getElem_cons_zero, Act.put, List.setIfInBounds_toArray, List.set_cons_zero, List.set_cons_succ]
      refine anyU_take (i := 5) (v := .int .i64 (q : Nat)) rfl (by kernel_rfl) (by kernel_rfl) (by kernel_rfl) (fun _ _ _ h => h) ⟨by rfl, fun w' hS' => (by obtain ⟨s1, s2, s3, s4, s5, s6, s7, s8⟩ := hS'; go_simp)⟩ hS35 ?_
      simp only [List.getElem_toArray, List.getElem_cons_succ, List.getElem_cons_zero, Act.put, List.setIfInBounds_toArray, List.set_cons_zero, List.set_cons_succ]
      refine anyU_take (i := 6) (v := .pointer (some ⟨w.heap.size, 2, none⟩)) rfl (by kernel_rfl) (by kernel_rfl) (by kernel_rfl) (fun _ _ _ h => h) ⟨by rfl, fun w' hS' => (by obtain ⟨s1, s2, s3, s4, s5, s6, s7, s8⟩ := hS'; go_simp)⟩ hS35 ?_
      simp only [List.getElem_toArray, List.getElem_cons_succ, List.getElem_cons_zero, Act.put, List.setIfInBounds_toArray, List.set_cons_zero, List.set_cons_succ]
      refine anyU_take (i := 7) (v := .slice (some ⟨bI, oI, none⟩) N.inputs.length c1'') rfl (by kernel_rfl) (by kernel_rfl) (by kernel_rfl) (fun _ _ _ h => h) ⟨by rfl, fun w' hS' => (by obtain ⟨s1, s2, s3, s4, s5, s6, s7, s8⟩ := hS'; go_simp)⟩ hS35 ?_
      simp only [List.getElem_toArray, List.getElem_cons_succ, List.getElem_cons_zero, Act.put, List.setIfInBounds_toArray, List.set_cons_zero, List.set_cons_succ]
      refine anyU_take (i := 8) (v := .int .i64 k) rfl (by kernel_rfl) (by kernel_rfl) (by kernel_rfl) (fun _ _ _ h => h) ⟨by rfl, fun w' hS' => (by obtain ⟨s1, s2, s3, s4, s5, s6, s7, s8⟩ := hS'; go_simp)⟩ hS35 ?_
      simp only [List.getElem_toArray, List.getElem_cons_succ, List.getElem_cons_zero, Act.put, List.setIfInBounds_toArray, List.set_cons_zero, List.set_cons_succ]
      refine anyU_take (i := 9) (v := .pointer (some ⟨bI, oI + k, none⟩)) rfl (by kernel_rfl) (by kernel_rfl) (by kernel_rfl) (fun _ _ _ h => h) ⟨by rfl, fun w' hS' => (by obtain ⟨s1, s2, s3, s4, s5, s6, s7, s8⟩ := hS'; simp [go_sem, hkii])⟩ hS35 ?_
      simp only [List.getElem_toArray, List.getElem_cons_succ, List.getElem_cons_zero, Act.put, List.setIfInBounds_toArray, List.set_cons_zero, List.set_cons_succ]
      refine anyU_take (i := 10) (v := .int .i64 x) rfl (by kernel_rfl) (by kernel_rfl) (by kernel_rfl) (fun _ _ _ h => h) ⟨by rfl, fun w' hS' => (by obtain ⟨s1, s2, s3, s4, s5, s6, s7, s8⟩ := hS'; go_simp)⟩ hS35 ?_
      simp only [List.getElem_toArray, List.getElem_cons_succ, List.getElem_cons_zero, Act.put, List.setIfInBounds_toArray, List.set_cons_zero, List.set_cons_succ]
      refine anyU_take (i := 11) (v := .pointer (some ⟨b9, o9 + q, none⟩)) rfl (by kernel_rfl) (by kernel_rfl) (by kernel_rfl) (fun _ _ _ h => h) ⟨by rfl, fun w' hS' => (by obtain ⟨s1, s2, s3, s4, s5, s6, s7, s8⟩ := hS'; simp [go_sem, hqii])⟩ hS35 ?_
      simp only [List.getElem_toArray, List.getElem_cons_succ, List.getElem_cons_zero, Act.put, List.setIfInBounds_toArray, List.set_cons_zero, List.set_cons_succ]
      obtain ⟨z1, z3⟩ := (R34.out.ins).at_ (j := q) (by show q < (renTo N p k).inputs.length; rw [HRL3.out]; exact hqiin)
      obtain ⟨zv, HZV⟩ : ∃ z, Hid (nth (renTo N p k).inputs q = z) := ⟨_, Lib.hid rfl⟩
      have z1' : W34.cell? ⟨b9, o9 + q, none⟩ = some (.int .i64 zv) := by rw [← HZV.out]; exact z1
      have HSE := Lib.hid (RN.setI (a := q) R34.out hb9 hb9' (by show q < (renTo N p k).inputs.length; rw [HRL3.out]; exact hqiin) x)
      clear z1
      refine anyU_ready (rs := [12]) (by kernel_rfl) (by simp) ?_
      refine ReadyU.cons (i := 12) rfl (fun K hK => ?_) ReadyU.nil
      simp only [List.getElem_toArray, List.getElem_cons_succ, List.getElem_cons_zero]
      refine ite_is (by rfl) ?_
      simp [go_sem, z1', z3]
      refine hK.out _ _ ⟨fun h => absurd h (by decide), ?_⟩
      clear hK K
      try simp only [List.getElem_toArray, List.getElem_cons_succ, List.getElem_cons_zero, Act.put, List.setIfInBounds_toArray, List.set_cons_zero, List.set_cons_succ]
      refine nameU ?_
      intro W36 HW36
      have hg36 : W34.grownBy W36 (some b9) := by rw [HW36.out]; exact grown_set _ ⟨b9, _, none⟩ _
      have hs36 := hg36.size
      have HF36 := Lib.hid (HF34.out.grown hg36 (fun g e => .inr (by cases e; omega)))
      have OUT36 := Lib.hid (BoxN.far OUT34.out hg36 (fun g e => by cases e; omega))
      have PC36 := Lib.hid (CellH.far PC34.out hg36 (fun g e => by cases e; show b9 ≠ bP; omega))
      have R36 := Lib.hid (show RN W36 WA.heap.size d1 d2 d3 i2 W36.heap.size gT (.slice (some ⟨gT, 0, none⟩) N.ends.length N.ends.length) (.slice A8 N.ids.length c8) (.slice (some ⟨b9, o9, none⟩) N.inputs.length c9) ⟨(renTo N p k).ends.set q (mapEnds p (nthL N.ends k)), (renTo N p k).ids, (renTo N p k).inputs.set q x⟩ by rw [HW36.out]; exact HSE.out)
      clear HW36 z1' z3 HSE
      clear hS35
      refine anyU_done (by kernel_rfl) ?_ _
      by_cases hid : 0 < N.ids.length
      case neg =>
        have kbx1_0 : W36.cell? ⟨w.heap.size, 0, none⟩ = some (.slice (some ⟨b1, o1, none⟩) N.ends.length c1) := (HF36.out.boxN bx1 (by omega)).cell 0 (by simp)
        have kbx1_1 : W36.cell? ⟨w.heap.size, 1, none⟩ = some (.slice A1' N.ids.length c1') := (HF36.out.boxN bx1 (by omega)).cell 1 (by simp)
        have kbx1_2 : W36.cell? ⟨w.heap.size, 2, none⟩ = some (.slice (some ⟨bI, oI, none⟩) N.inputs.length c1'') := (HF36.out.boxN bx1 (by omega)).cell 2 (by simp)
        have hidi : ¬ (0 : Int) < N.ids.length := by omega
        go_wp2_with fail
        go_roundw
        case rel =>
          have HRR := R36.out
          refine ⟨k + 1, by omega, by go_num, OUT36, Lib.hid ?_, HF36⟩
          rw [show renTo N p (k + 1) = ⟨(renTo N p k).ends.set q (mapEnds p (nthL N.ends k)), (renTo N p k).ids, (renTo N p k).inputs.set q x⟩ from by simp only [renTo, HQ.out, Int.toNat_natCast, HX.out]; rw [if_neg hid]]
          exact HRR
        case measure => simp [intOf]; omega
      have hidi : (0 : Int) < N.ids.length := by omega
      have hidn : N.ids.length = N.ends.length := by have := HNI.out; omega
      have HIDN := Lib.hid hidn; clear hidn
      obtain ⟨b8, o8, e8, hb8, hb8', _, _⟩ := R36.out.ids.opened (j := 0) (by show 0 < (renTo N p k).ids.length; rw [HRL2.out]; exact hid)
      subst e8
      have hqdn : q < N.ids.length := by rw [HIDN.out]; exact hqn
      have hqdi : (q : Int) < N.ids.length := by omega
      have hqdin := hqdn
      have hkdn : k < N.ids.length := by rw [HIDN.out]; exact hkn
      have hkdi : (k : Int) < N.ids.length := by omega
      obtain ⟨bD, oD, eD, _, hbD, xD, _⟩ := (netIds (Net.turned G1.out HF36.out (by omega) (by omega))).opened (j := k) hkdn
      subst eD
      obtain ⟨xd, HXD⟩ : ∃ x, Hid (nth N.ids k = x) := ⟨_, Lib.hid rfl⟩
      rw [HXD.out] at xD
      have XC1 := Lib.hid (show CellH W36 ⟨bD, oD + k, none⟩ (.int .i64 xd) from ⟨xD, by show bD < _; omega⟩)
      have kbx1_0 : W36.cell? ⟨w.heap.size, 0, none⟩ = some (.slice (some ⟨b1, o1, none⟩) N.ends.length c1) := (HF36.out.boxN bx1 (by omega)).cell 0 (by simp)
      have kbx1_1 : W36.cell? ⟨w.heap.size, 1, none⟩ = some (.slice (some ⟨bD, oD, none⟩) N.ids.length c1') := (HF36.out.boxN bx1 (by omega)).cell 1 (by simp)
      have kbx1_2 : W36.cell? ⟨w.heap.size, 2, none⟩ = some (.slice (some ⟨bI, oI, none⟩) N.inputs.length c1'') := (HF36.out.boxN bx1 (by omega)).cell 2 (by simp)
      go_wp2_with fail
      clear kbx1_0 kbx1_1 kbx1_2
      refine wp_region_U (fun w' => w'.cell? ⟨gO, 0, none⟩ = some (.slice (some ⟨gT, 0, none⟩) N.ends.length N.ends.length) ∧ w'.cell? ⟨gO, 1, none⟩ = some (.slice (some ⟨b8, o8, none⟩) N.ids.length c8) ∧ w'.cell? ⟨gO, 2, none⟩ = some (.slice (some ⟨b9, o9, none⟩) N.inputs.length c9) ∧ w'.cell? ⟨w.heap.size, 0, none⟩ = some (.slice (some ⟨b1, o1, none⟩) N.ends.length c1) ∧ w'.cell? ⟨w.heap.size, 1, none⟩ = some (.slice (some ⟨bD, oD, none⟩) N.ids.length c1') ∧ w'.cell? ⟨w.heap.size, 2, none⟩ = some (.slice (some ⟨bI, oI, none⟩) N.inputs.length c1'') ∧ w'.cell? ⟨bP, oP + k, none⟩ = some (.int .i64 (q : Nat)) ∧ w'.cell? ⟨bD, oD + k, none⟩ = some (.int .i64 xd)) [12] (by kernel_rfl) ?_
      refine nameU ?_
      intro W37 HW37
      have hg37 : W36.grownBy W37 none := by rw [HW37.out]; exact grown_drew _
      clear HW37
      have hs37 := hg37.size
      have HF37 := Lib.hid (HF36.out.still hg37); clear HF36
      have OUT37 := Lib.hid (BoxN.still OUT36.out hg37); clear OUT36
      have PC37 := Lib.hid (CellH.still PC36.out hg37); clear PC36
      have R37 := Lib.hid (RN.still R36.out hg37); clear R36
      have XC37 := Lib.hid (CellH.still XC1.out hg37); clear XC1
      have hS38 : W37.cell? ⟨gO, 0, none⟩ = some (.slice (some ⟨gT, 0, none⟩) N.ends.length N.ends.length) ∧ W37.cell? ⟨gO, 1, none⟩ = some (.slice (some ⟨b8, o8, none⟩) N.ids.length c8) ∧ W37.cell? ⟨gO, 2, none⟩ = some (.slice (some ⟨b9, o9, none⟩) N.inputs.length c9) ∧ W37.cell? ⟨w.heap.size, 0, none⟩ = some (.slice (some ⟨b1, o1, none⟩) N.ends.length c1) ∧ W37.cell? ⟨w.heap.size, 1, none⟩ = some (.slice (some ⟨bD, oD, none⟩) N.ids.length c1') ∧ W37.cell? ⟨w.heap.size, 2, none⟩ = some (.slice (some ⟨bI, oI, none⟩) N.inputs.length c1'') ∧ W37.cell? ⟨bP, oP + k, none⟩ = some (.int .i64 (q : Nat)) ∧ W37.cell? ⟨bD, oD + k, none⟩ = some (.int .i64 xd) := ⟨OUT37.out.cell 0 (by simp), OUT37.out.cell 1 (by simp), OUT37.out.cell 2 (by simp), (HF37.out.boxN bx1 (by omega)).cell 0 (by simp), (HF37.out.boxN bx1 (by omega)).cell 1 (by simp), (HF37.out.boxN bx1 (by omega)).cell 2 (by simp), PC37.out.cell, XC37.out.cell⟩
      refine anyU_take (i := 0) (v := .pointer (some ⟨gO, 1, none⟩)) rfl (by kernel_rfl) (by kernel_rfl) (by kernel_rfl) (fun _ _ _ h => h) ⟨by rfl, fun w' hS' => (by obtain ⟨s1, s2, s3, s4, s5, s6, s7, s8⟩ := hS'; go_simp)⟩ hS38 ?_
      simp only [List.getElem_toArray, List.getElem_cons_zero, Act.put, List.setIfInBounds_toArray, List.set_cons_zero, List.set_cons_succ]
      refine anyU_take (i := 1) (v := .slice (some ⟨b8, o8, none⟩) N.ids.length c8) rfl (by kernel_rfl) (by kernel_rfl) (by kernel_rfl) (fun _ _ _ h => h) ⟨by rfl, fun w' hS' => (by obtain ⟨s1, s2, s3, s4, s5, s6, s7, s8⟩ := hS'; go_simp)⟩ hS38 ?_
      simp only [List.getElem_toArray, List.getElem_cons_succ, List.getElem_cons_zero, Act.put, List.setIfInBounds_toArray, List.set_cons_zero, List.set_cons_succ]
      refine anyU_take (i := 2) (v := .slice (some ⟨bP, oP, none⟩) p.length c2) rfl (by kernel_rfl) (by kernel_rfl) (by kernel_rfl) (fun _ _ _ h => h) ⟨by rfl, fun w' hS' => (by obtain ⟨s1, s2, s3, s4, s5, s6, s7, s8⟩ := hS'; go_simp)⟩ hS38 ?_
      simp only [List.getElem_toArray, List.getElem_cons_succ, List.getElem_cons_zero, Act.put, List.setIfInBounds_toArray, List.set_cons_zero, List.set_cons_succ]
      refine anyU_take (i := 3) (v := .int .i64 k) rfl (by kernel_rfl) (by kernel_rfl) (by kernel_rfl) (fun _ _ _ h => h) ⟨by rfl, fun w' hS' => (by obtain ⟨s1, s2, s3, s4, s5, s6, s7, s8⟩ := hS'; go_simp)⟩ hS38 ?_
      simp only [List.getElem_toArray, List.getElem_cons_succ, List.getElem_cons_zero, Act.put, List.setIfInBounds_toArray, List.set_cons_zero, List.set_cons_succ]
      refine anyU_take (i := 4) (v := .pointer (some ⟨bP, oP + k, none⟩)) rfl (by kernel_rfl) (by kernel_rfl) (by kernel_rfl) (fun _ _ _ h => h) ⟨by rfl, fun w' hS' => (by obtain ⟨s1, s2, s3, s4, s5, s6, s7, s8⟩ := hS'; simp [go_sem, hkp])⟩ hS38 ?_
      simp only [List.getElem_toArray, List.getElem_cons_succ, List.getElem_cons_zero, Act.put, List.setIfInBounds_toArray, List.set_cons_zero, List.set_cons_succ]
      refine anyU_take (i := 5) (v := .int .i64 (q : Nat)) rfl (by kernel_rfl) (by kernel_rfl) (by kernel_rfl) (fun _ _ _ h => h) ⟨by rfl, fun w' hS' => (by obtain ⟨s1, s2, s3, s4, s5, s6, s7, s8⟩ := hS'; go_simp)⟩ hS38 ?_
      simp only [List.getElem_toArray, List.getElem_cons_succ, List.getElem_cons_zero, Act.put, List.setIfInBounds_toArray, List.set_cons_zero, List.set_cons_succ]
      refine anyU_take (i := 6) (v := .pointer (some ⟨w.heap.size, 1, none⟩)) rfl (by kernel_rfl) (by kernel_rfl) (by kernel_rfl) (fun _ _ _ h => h) ⟨by rfl, fun w' hS' => (by obtain ⟨s1, s2, s3, s4, s5, s6, s7, s8⟩ := hS'; go_simp)⟩ hS38 ?_
      simp only [List.getElem_toArray, List.getElem_cons_succ, List.getElem_cons_zero, Act.put, List.setIfInBounds_toArray, List.set_cons_zero, List.set_cons_succ]
      refine anyU_take (i := 7) (v := .slice (some ⟨bD, oD, none⟩) N.ids.length c1') rfl (by kernel_rfl) (by kernel_rfl) (by kernel_rfl) (fun _ _ _ h => h) ⟨by rfl, fun w' hS' => (by obtain ⟨s1, s2, s3, s4, s5, s6, s7, s8⟩ := hS'; go_simp)⟩ hS38 ?_
      simp only [List.getElem_toArray, List.getElem_cons_succ, List.getElem_cons_zero, Act.put, List.setIfInBounds_toArray, List.set_cons_zero, List.set_cons_succ]
      refine anyU_take (i := 8) (v := .int .i64 k) rfl (by kernel_rfl) (by kernel_rfl) (by kernel_rfl) (fun _ _ _ h => h) ⟨by rfl, fun w' hS' => (by obtain ⟨s1, s2, s3, s4, s5, s6, s7, s8⟩ := hS'; go_simp)⟩ hS38 ?_
      simp only [List.getElem_toArray, List.getElem_cons_succ, List.getElem_cons_zero, Act.put, List.setIfInBounds_toArray, List.set_cons_zero, List.set_cons_succ]
      refine anyU_take (i := 9) (v := .pointer (some ⟨bD, oD + k, none⟩)) rfl (by kernel_rfl) (by kernel_rfl) (by kernel_rfl) (fun _ _ _ h => h) ⟨by rfl, fun w' hS' => (by obtain ⟨s1, s2, s3, s4, s5, s6, s7, s8⟩ := hS'; simp [go_sem, hkdi])⟩ hS38 ?_
      simp only [List.getElem_toArray, List.getElem_cons_succ, List.getElem_cons_zero, Act.put, List.setIfInBounds_toArray, List.set_cons_zero, List.set_cons_succ]
      refine anyU_take (i := 10) (v := .int .i64 xd) rfl (by kernel_rfl) (by kernel_rfl) (by kernel_rfl) (fun _ _ _ h => h) ⟨by rfl, fun w' hS' => (by obtain ⟨s1, s2, s3, s4, s5, s6, s7, s8⟩ := hS'; go_simp)⟩ hS38 ?_
      simp only [List.getElem_toArray, List.getElem_cons_succ, List.getElem_cons_zero, Act.put, List.setIfInBounds_toArray, List.set_cons_zero, List.set_cons_succ]
      refine anyU_take (i := 11) (v := .pointer (some ⟨b8, o8 + q, none⟩)) rfl (by kernel_rfl) (by kernel_rfl) (by kernel_rfl) (fun _ _ _ h => h) ⟨by rfl, fun w' hS' => (by obtain ⟨s1, s2, s3, s4, s5, s6, s7, s8⟩ := hS'; simp [go_sem, hqdi])⟩ hS38 ?_
      simp only [List.getElem_toArray, List.getElem_cons_succ, List.getElem_cons_zero, Act.put, List.setIfInBounds_toArray, List.set_cons_zero, List.set_cons_succ]
      obtain ⟨z1, z3⟩ := (R37.out.ids).at_ (j := q) (by show q < (renTo N p k).ids.length; rw [HRL2.out]; exact hqdin)
      obtain ⟨zv, HZV⟩ : ∃ z, Hid (nth (renTo N p k).ids q = z) := ⟨_, Lib.hid rfl⟩
      have z1' : W37.cell? ⟨b8, o8 + q, none⟩ = some (.int .i64 zv) := by rw [← HZV.out]; exact z1
      have HSE := Lib.hid (RN.setD (a := q) R37.out hb8 hb8' (by show q < (renTo N p k).ids.length; rw [HRL2.out]; exact hqdin) xd)
      clear z1
      refine anyU_ready (rs := [12]) (by kernel_rfl) (by simp) ?_
      refine ReadyU.cons (i := 12) rfl (fun K hK => ?_) ReadyU.nil
      simp only [List.getElem_toArray, List.getElem_cons_succ, List.getElem_cons_zero]
      refine ite_is (by rfl) ?_
      simp [go_sem, z1', z3]
      refine hK.out _ _ ⟨fun h => absurd h (by decide), ?_⟩
      clear hK K
      try simp only [List.getElem_toArray, List.getElem_cons_succ, List.getElem_cons_zero, Act.put, List.setIfInBounds_toArray, List.set_cons_zero, List.set_cons_succ]
      refine nameU ?_
      intro W39 HW39
      have hg39 : W37.grownBy W39 (some b8) := by rw [HW39.out]; exact grown_set _ ⟨b8, _, none⟩ _
      have hs39 := hg39.size
      have HF39 := Lib.hid (HF37.out.grown hg39 (fun g e => .inr (by cases e; omega)))
      have OUT39 := Lib.hid (BoxN.far OUT37.out hg39 (fun g e => by cases e; omega))
      have PC39 := Lib.hid (CellH.far PC37.out hg39 (fun g e => by cases e; show b8 ≠ bP; omega))
      have R39 := Lib.hid (show RN W39 WA.heap.size d1 d2 d3 i2 W39.heap.size gT (.slice (some ⟨gT, 0, none⟩) N.ends.length N.ends.length) (.slice (some ⟨b8, o8, none⟩) N.ids.length c8) (.slice (some ⟨b9, o9, none⟩) N.inputs.length c9) ⟨(renTo N p k).ends.set q (mapEnds p (nthL N.ends k)), (renTo N p k).ids.set q xd, (renTo N p k).inputs.set q x⟩ by rw [HW39.out]; exact HSE.out)
      clear HW39 z1' z3 HSE
      clear hS38
      refine anyU_done (by kernel_rfl) ?_ _
      go_wp2_with fail
      go_roundw
      case rel =>
        have HRR := R39.out
        refine ⟨k + 1, by omega, by go_num, OUT39, Lib.hid ?_, HF39⟩
        rw [show renTo N p (k + 1) = ⟨(renTo N p k).ends.set q (mapEnds p (nthL N.ends k)), (renTo N p k).ids.set q xd, (renTo N p k).inputs.set q x⟩ from by simp only [renTo, HQ.out, Int.toNat_natCast, HX.out, HXD.out]; rw [if_pos hid]]
        exact HRR
      case measure => simp [intOf]; omega

end Go.Proofs.Ytmdlginjblnfoaa

/- Contracts: neOwn, neRenumber (reference). -/
namespace Go.Proofs.Ytmdlginjblnfoaa
open Go.ChangeShapes Go.WideShapes Go.ChangeAt Go.RowKit
set_option linter.unusedVariables false

set_option maxHeartbeats 1000000 in
theorem l1OwnR (v : Value) (zs : List Int) (lo hi : Nat) (w : World) (h : IntS w lo hi v zs) (hhi : hi ≤ w.heap.size) (hl : zs.length ≤ 1048576) :
    Calls Try.prog 74 #[v] w fun e w' => ∃ r, e = .returned r ∧ IntS w' w.heap.size w'.heap.size r zs ∧ Below w.heap.size w w' := by
  have F := Lib.hid h
  obtain ⟨A, c, rfl, hc, hd⟩ := h.dims
  have HE := Lib.hid (OwnI.empty w w.heap.size 3 rfl (Nat.le_refl _))
  obtain ⟨i0, hi0, _⟩ := Option.map_eq_some_iff.1 Try.info3
  have HI0 := Lib.hid hi0; clear hi0
  by_cases h0 : 0 < zs.length
  · obtain ⟨b, off, rfl, _, hb, _, _⟩ := h.opened (j := 0) h0
    have HC := Lib.hid (show ∀ j, j < zs.length → (w.alloc (.cells #[] 3)).cell? ⟨b, off + j, none⟩ = some (.int .i64 (nth zs j)) from fun j hj => (IntS.at_ (F.out.alloc hhi _) hj).1)
    clear h
    go_enter Try.func74, Try.ntmps74
    go_wp2_with (at_builtin; refine append_ints (s := .tmp 3) Try.underlying23 Try.info3 (by decide) (w.alloc (.cells #[] 3)) rfl (.tmp 4) rfl HE.out rfl (g := b) (off := off) zs rfl rfl HC.out (by simp; omega) (by simp) ?_; intro v1 w1 ho1 hg1; have HO := Lib.hid ho1; have HG1 := Lib.hid hg1; clear ho1 hg1)
    go_ret
    refine ⟨_, rfl, ?_, ((Below.refl _ _).alloc (Nat.le_refl _) _).grown HG1.out (by simp) (fun g hg => by have := HE.out.lt g hg; omega)⟩
    have := HO.out.ints; simpa using this
  · have hz0 : zs.length = 0 := by omega
    have hz : zs = [] := List.eq_nil_of_length_eq_zero hz0
    subst hz
    clear h h0 hz0
    go_enter Try.func74, Try.ntmps74
    go_wp2_with (at_builtin; refine append_zero (s := .tmp 3) Try.underlying23 HI0.out (w.alloc (.cells #[] 3)) rfl (.tmp 4) rfl HE.out rfl rfl ?_)
    go_ret
    exact ⟨_, rfl, HE.out.ints, below_a1 w _⟩

/-- append, at a step of a region that draws its order, of cells that are known -/
theorem step_append_src {P : Program} {ops : Array Oper} {o : Oper} {a : Act} {K : Act → World → Prop} {Q : Exit → Act → World → Prop} {E : Prop} {t e : TypeId} {z : Value} {sz bytes : Nat}
    (ht : P.underlying t = some (.slice e)) (hinfo : (P.info? e).map (fun i => (i.zero, i.size, i.bytes)) = some (some z, sz, bytes)) (hz1 : z.cells.size = sz) (hsz : 0 < sz) (hby : bytes ≤ 64)
    (w : World) (hgd : o.guard = none) {s : Operand} (x : Operand) (ho : o.op = .call { callee := .builtin .append, args := #[s, x], argTypes := #[t, t] })
    {base : Nat} {v : Value} {n : Nat} {xs : List Value} (hown : w.ownsRow base e sz v n xs) (hs : a.eval s = v) {v2 : Value} {m : Nat} (news : List Value) (hl : news.length = m * sz)
    (hv2 : (∃ A c, v2 = .slice A 0 c ∧ m = 0) ∨ ∃ ad c, v2 = .slice (some ad) m c ∧ ∀ j u, news[j]? = some u → w.cell? (ad.add j) = some u) (hx : a.eval x = v2)
    (h1 : ∀ u ∈ news, u.oneCell' = true) (hlen : n + m ≤ 1099511627776) (hbase : base ≤ w.heap.size)
    (h : ∀ v' w', w'.ownsRow base e sz v' (n + m) (xs ++ news) → w.grownBy w' v.ownBlock → (v'.ownBlock = v.ownBlock ∨ ∃ g, v'.ownBlock = some g ∧ w.heap.size ≤ g) → K (a.put o.dst v') w') :
    if Region.wanted o (yielded ops a.tmps) = true then Oper.wp P o a w K Q else E := by
  have hw : Region.wanted o (yielded ops a.tmps) = true := by simp [Region.wanted, hgd]
  rw [if_pos hw]
  obtain ⟨i, hi, hzz⟩ := Option.map_eq_some_iff.1 hinfo
  simp only [Prod.mk.injEq] at hzz
  obtain ⟨hz, hsz2, hb⟩ := hzz
  rcases hv2 with ⟨A, c, rfl, rfl⟩ | ⟨ad, c, rfl, hnews⟩
  · have hnil : news = [] := List.eq_nil_of_length_eq_zero (by rw [hl, Nat.zero_mul])
    subst hnil
    have hrun := run_append_zero (P := P) (w := w) base t o.type e i sz ht hi v n xs hown A c
    have h3 := h v w (by simpa using hown) ⟨rfl, rfl, rfl, Nat.le_refl _, fun _ _ _ => rfl⟩ (.inl rfl)
    unfold Oper.wp
    simp [execOp, ho, resolve, invoke, builtin, hs, hx, hrun, Result.andThen]
    exact h3
  · obtain ⟨v', w', hr, a1, a2, _, a4⟩ := run_append_own_at (P := P) w base t o.type e i z sz bytes ht hi hz hsz2 hb hz1 hsz v n xs hown ad m c news hl hnews h1 (by unfold maxLen; omega) (by
      have : (n + m) * bytes ≤ 1099511627776 * 64 := Nat.mul_le_mul hlen hby
      omega) hbase
    have h3 := h v' w' a1 a2 (a4.imp id fun e => ⟨_, e, Nat.le_refl _⟩)
    unfold Oper.wp execOp
    simp only [ho, resolve, invoke, builtin, Sem.run_bind, Sem.run_pure, Result.andThen_ok, List.map_toArray, List.map_cons, List.map_nil, hs, hx, hr]
    exact h3
theorem EndS.src {w : World} {lo hi : Nat} {A : Option Addr} {n c : Nat} {es : List (Int × Int)} (h : EndS w lo hi (.slice A n c) es) (hn : es.length = n) : (∃ A' c', Value.slice A n c = .slice A' 0 c' ∧ n = 0) ∨ ∃ ad c', Value.slice A n c = .slice (some ad) n c' ∧ ∀ j u, (flatZ es)[j]? = some u → w.cell? (ad.add j) = some u := by
  by_cases h0 : n = 0
  · subst h0; exact .inl ⟨A, c, rfl, rfl⟩
  · right
    obtain ⟨b, off, rfl, _, _, _, _⟩ := h.opened (j := 0) (by omega)
    refine ⟨⟨b, off, none⟩, c, rfl, fun j u hj => ?_⟩
    have hj2 : j < es.length * 2 := by rw [← flatZ_length]; exact (List.getElem?_eq_some_iff.1 hj).1
    rw [flatZ_get es hj2] at hj
    injection hj with hj
    subst hj
    subst hn
    rw [Go.WideShapes.add_plain]
    exact (Sl.at_ h hj2).1
theorem flatZ_one (es : List (Int × Int)) : ∀ u ∈ flatZ es, u.oneCell' = true := fun u hu => by
  obtain ⟨j, _, rfl⟩ := List.mem_map.1 hu
  rfl
/-- the row of slices, and what an append of one more leaves -/
theorem OwnES.open_ {w : World} {base top : Nat} {e : TypeId} {v : Value} {xss : List (List (Int × Int))} (h : OwnES w base top e v xss) : ∃ vs : List Value, vs.length = xss.length ∧ w.ownsRow base e 1 v vs.length vs ∧
    ∀ (w' : World) (v' u : Value) (xs : List (Int × Int)) (lo hi : Nat), EndS w lo hi u xs → top ≤ lo → hi ≤ w.heap.size → lo ≤ hi → (∀ g, v.ownBlock = some g → g < lo ∨ hi ≤ g) → w'.ownsRow base e 1 v' (vs.length + 1) (vs ++ [u]) → w.grownBy w' v.ownBlock → (v'.ownBlock = v.ownBlock ∨ ∃ g, v'.ownBlock = some g ∧ w.heap.size ≤ g) → OwnES w' base hi e v' (xss ++ [xs]) := by
  obtain ⟨vs, los, his, h1, h2, h3, h4, h5, h6⟩ := h
  refine ⟨vs, h1, h2, fun w' v' u xs lo hi hu hlo hhi hlh hfar ho' hg' hat' => ?_⟩
  have hgs := hg'.size
  have hnew : ∀ a b : Nat, b ≤ w.heap.size → (∀ g, v.ownBlock = some g → g < a ∨ b ≤ g) → ∀ g, v'.ownBlock = some g → g < a ∨ b ≤ g := fun a b hb hv g hg => by
    rcases hat' with e1 | ⟨g', e1, h1⟩
    · exact hv g (by rw [← e1]; exact hg)
    · rw [e1] at hg; injection hg with hg; omega
  have hold : ∀ j, j < xss.length → ∃ u, vs[j]? = some u ∧ base ≤ los j ∧ his j ≤ top ∧ EndS w' (los j) (his j) u (nthL xss j) ∧ ∀ g, v'.ownBlock = some g → g < los j ∨ his j ≤ g := fun j hj => by
    obtain ⟨u, a1, a2, a3, a4, a5⟩ := h5 j hj
    exact ⟨u, a1, a2, a3, a4.far hg' (by omega) a5, hnew _ _ (by omega) a5⟩
  refine ⟨vs ++ [u], fun j => if j < xss.length then los j else lo, fun j => if j < xss.length then his j else hi, by simp [h1], (by unfold Own; simpa using ho'), by omega, by omega, fun j hj => ?_, fun i j hij hj => ?_⟩
  · dsimp only
    by_cases e1 : j < xss.length
    · obtain ⟨u, a1, a2, a3, a4, a5⟩ := hold j e1
      rw [if_pos e1, if_pos e1, nthL_append_left e1]
      exact ⟨u, by rw [List.getElem?_append_left (by omega)]; exact a1, a2, by omega, a4, a5⟩
    · obtain rfl : j = xss.length := by simp at hj; omega
      rw [if_neg e1, if_neg e1, nthL_append_at]
      exact ⟨u, by rw [← h1]; simp, by omega, Nat.le_refl _, hu.far hg' hhi hfar, hnew _ _ hhi hfar⟩
  · dsimp only
    rw [if_pos (by simp at hj; omega)]
    by_cases e1 : j < xss.length
    · rw [if_pos e1]; exact h6 i j hij e1
    · rw [if_neg e1]
      obtain ⟨u, _, _, a3, _⟩ := h5 i (by simp at hj; omega)
      omega
theorem OwnES.weakB {w : World} {base base' top : Nat} {e : TypeId} {v : Value} {xss : List (List (Int × Int))} (h : OwnES w base top e v xss) (hb : base' ≤ base) : OwnES w base' top e v xss := by
  obtain ⟨vs, lo, hi, h1, ⟨k1, k2⟩, h3, h4, h5, h6⟩ := h
  refine ⟨vs, lo, hi, h1, ⟨k1, ?_⟩, by omega, h4, fun j hj => ?_, h6⟩
  · rcases k2 with h2 | ⟨g, cap, cur, e1, hg, hh, hn, hm, hs, ht⟩
    · exact .inl h2
    · exact .inr ⟨g, cap, cur, e1, Nat.le_trans hb hg, hh, hn, hm, hs, ht⟩
  · obtain ⟨u, a1, a2, a3, a4, a5⟩ := h5 j hj
    exact ⟨u, a1, by omega, a3, a4, a5⟩
theorem OwnES.farT {w w' : World} {base top : Nat} {e : TypeId} {v : Value} {xss : List (List (Int × Int))} {row : Option Nat} (h : OwnES w base top e v xss) (hg : w.grownBy w' row) (hr : ∀ g, row = some g → top ≤ g ∧ v.ownBlock ≠ some g) : OwnES w' base top e v xss := by
  obtain ⟨vs, lo, hi, h1, h2, h3, h4, h5, h6⟩ := h
  refine ⟨vs, lo, hi, h1, h2.kept hg ?_, h3, Nat.le_trans h4 hg.size, fun j hj => ?_, h6⟩
  · cases hv : v.ownBlock with
    | none => exact .inl rfl
    | some g => right; intro e; exact (hr g e.symm).2 hv
  · obtain ⟨u, a1, a2, a3, a4, a5⟩ := h5 j hj
    exact ⟨u, a1, a2, a3, a4.far hg (by omega) (fun g e => .inr (by have := (hr g e).1; omega)), a5⟩
theorem OwnES.still {w w' : World} {base top : Nat} {e : TypeId} {v : Value} {xss : List (List (Int × Int))} (h : OwnES w base top e v xss) (hg : w.grownBy w' none) : OwnES w' base top e v xss := h.farT hg (fun g e => by cases e)
/-- whole, it is a network that is written -/
theorem OwnES.rn {w : World} {base top d1 d2 d3 i2 : Nat} {e : TypeId} {v vD vI : Value} {N : NetD} (h : OwnES w i2 top e v N.ends) (h0 : 0 < N.ends.length) (o1 : base ≤ d1) (o2 : d1 ≤ d2) (o3 : d2 ≤ d3) (o5 : d3 ≤ i2) (hD : IntS w d1 d2 vD N.ids) (hI : IntS w d3 i2 vI N.inputs) :
    ∃ g c, v = .slice (some ⟨g, 0, none⟩) N.ends.length c ∧ RN w base d1 d2 d3 i2 w.heap.size g v vD vI N := by
  obtain ⟨vs, los, his, h1, h2, h3, h4, h5, h6⟩ := h
  have h2' := h2
  obtain ⟨hl, hr⟩ := h2
  rcases hr with ⟨_, hn⟩ | ⟨g, cap, cur, rfl, hg, hh, hn, hm, hs, ht⟩
  · rw [h1] at hn; omega
  · have hgl : g < w.heap.size := (Array.getElem?_eq_some_iff.1 hh).1
    rw [h1] at hn
    refine ⟨g, cap, by rw [h1], ?_⟩
    refine ⟨o1, o2, o3, o5, by omega, Nat.le_refl _, by omega, hgl, .inr (by omega), .inr (by omega), hD, hI, ⟨0, cap, by rw [h1]⟩, fun j => vs.getD j undef, ?_, fun i hi => ?_, fun i j hij hj => ?_⟩
    · have hsl : Sl w i2 w.heap.size 1 (.slice (some ⟨g, 0, none⟩) vs.length cap) vs.length (fun j => vs.getD j undef) := Sl.of_own (f := fun j => vs.getD j undef) h2' (fun j hj => by simp at hj; simp [hj])
      rw [h1] at hsl ⊢
      obtain ⟨A, c', e, k1, k2, k3⟩ := hsl
      injection e with e1 _ e3
      subst e1 e3
      refine ⟨_, _, rfl, k1, k2, fun hn => ?_⟩
      obtain ⟨b, off, e4, _, _, k6⟩ := k3 hn
      injection e4 with e4
      injection e4 with e5 e6
      subst e5 e6
      exact ⟨_, _, rfl, Nat.le_refl _, by omega, k6⟩
    · obtain ⟨u, a1, a2, a3, a4, a5⟩ := h5 i hi
      have : vs.getD i undef = u := by simp [a1]
      dsimp only
      rw [this]
      refine ⟨a4.mono a2 (by omega), ?_⟩
      rcases Sl.row a4 with k | ⟨b, k, k1, k2⟩
      · exact .inl k
      · right; rw [k]; intro e; injection e with e
        have := a5 g rfl
        omega
    · obtain ⟨u, a1, a2, a3, a4, a5⟩ := h5 i (by omega)
      obtain ⟨u2, b1, b2, b3, b4, b5⟩ := h5 j hj
      have e1 : vs.getD i undef = u := by simp [a1]
      have e2 : vs.getD j undef = u2 := by simp [b1]
      dsimp only
      rw [e1, e2]
      rcases Sl.row a4 with k | ⟨b, k, k1, k2⟩
      · exact .inl k
      · rcases Sl.row b4 with k' | ⟨b', k', k1', k2'⟩
        · right; rw [k, k']; simp
        · right; rw [k, k']; intro e; injection e with e
          have := h6 i j hij hj
          omega
/-- the ends of a row with other numbers, as pairs -/
def renP (N : NetD) (p : List Int) (k m : Nat) : List Po := ((nthL N.ends k).take m).map fun e => ((nth p e.1.toNat).toNat, e.2.toNat)
theorem renP_succ {N : NetD} {p : List Int} {k m t r q : Nat} (h : m < (nthL N.ends k).length) (he : nthE (nthL N.ends k) m = ((t : Int), (r : Int))) (hq : nth p t = (q : Int)) : renP N p k (m + 1) = renP N p k m ++ [(q, r)] := by
  unfold renP
  rw [List.take_succ_eq_append_getElem h, List.map_append, ← nthE_eq h, he]
  simp [hq]
theorem renP_len (N : NetD) (p : List Int) (k m : Nat) : (renP N p k m).length ≤ m := by unfold renP; rw [List.length_map, List.length_take]; omega
theorem renP_all {N : NetD} {p : List Int} (hg : N.good = true) (hp : ∀ j, j < N.ends.length → ∃ t : Nat, nth p j = t ∧ t < N.ends.length) {k : Nat} (hk : k < N.ends.length) : castL (renP N p k (nthL N.ends k).length) = mapEnds p (nthL N.ends k) := by
  unfold renP mapEnds castL
  rw [List.take_length, List.map_map]
  apply List.map_congr_left
  intro e he
  obtain ⟨i, hi, e2⟩ := List.mem_iff_getElem.1 he
  obtain ⟨t, r, et, ht, _, _⟩ := good_end hg hk hi
  rw [nthE_eq hi, e2] at et
  obtain ⟨q, hq, _⟩ := hp t ht
  rw [et]
  simp [castP, hq]

end Go.Proofs.Ytmdlginjblnfoaa

/- Contracts: neOwn, neRenumber (reference): the walks. -/
namespace Go.Proofs.Ytmdlginjblnfoaa
open Go.ChangeShapes Go.WideShapes Go.ChangeAt Go.RowKit
set_option linter.unusedVariables false

set_option maxHeartbeats 8000000 in
set_option maxRecDepth 100000 in
theorem neOwn_any (v1 : Value) (N : NetD) (lo1 hi1 : Nat) (w : World) (h1 : Net w lo1 hi1 v1 N) (hh1 : hi1 ≤ w.heap.size) (hg : N.good = true) :
    Calls Try.prog 66 #[v1] w fun e w' => ∃ (d1 d2 d3 i2 g c8 c9 cE : Nat) (A8 A9 : Option Addr), e = .returned (.agg #[.slice (some ⟨g, 0, none⟩) N.ends.length cE, .slice A8 N.ids.length c8, .slice A9 N.inputs.length c9]) ∧ N.ends.length ≤ cE ∧ cE ≤ maxLen ∧ RN w' w.heap.size d1 d2 d3 i2 w'.heap.size g (.slice (some ⟨g, 0, none⟩) N.ends.length cE) (.slice A8 N.ids.length c8) (.slice A9 N.inputs.length c9) N ∧ Below w.heap.size w w' := by
  obtain ⟨n1, n40⟩ := good_n hg
  have HG := Lib.hid hg; clear hg
  have HNN := Lib.hid (good_insl HG.out); have HNI := Lib.hid (good_idsl HG.out)
  have F1 := Lib.hid h1
  obtain ⟨A1, c1, A1', c1', A1'', c1'', rfl, hc1, hd1, _⟩ := h1.parts
  obtain ⟨b1, o1, _, _, rfl, _⟩ := Net.rowAt F1.out (u := 0) (by omega)
  clear h1
  obtain ⟨WA, HWA⟩ : ∃ W, Hid (W = ((w.alloc (.cells #[.slice (some ⟨b1, o1, none⟩) N.ends.length c1, .slice A1' N.ids.length c1', .slice A1'' N.inputs.length c1''] 31)).alloc (.cells #[.slice none 0 0, .slice none 0 0, .slice none 0 0] 31))) := ⟨_, Lib.hid rfl⟩
  have hbA : Below w.heap.size w WA := by rw [HWA.out]; exact (((Below.refl _ _).alloc (Nat.le_refl _) _).alloc (by simp; try omega) _)
  have hsA : w.heap.size + 2 ≤ WA.heap.size := by rw [HWA.out]; simp; try omega
  have bx1 : BoxN WA (w.heap.size) #[.slice (some ⟨b1, o1, none⟩) N.ends.length c1, .slice A1' N.ids.length c1', .slice A1'' N.inputs.length c1''] 31 := by rw [HWA.out]; exact ((BoxN.new' _ _ _ (by simp)).still (grown_alloc _ _))
  have bxx0 : BoxN WA (w.heap.size + 1) #[.slice none 0 0, .slice none 0 0, .slice none 0 0] 31 := by rw [HWA.out]; exact (BoxN.new' _ _ _ (by simp))
  have G1 := Lib.hid (Net.below F1.out hbA hh1); clear F1
  go_enter Try.func66, Try.ntmps66
  go_upto_region 1 with (fail)
  rw [← HWA.out]; clear HWA
  go_wp2_with fail
  refine region_cut [6, 7, 8, 9, 10, 11, 12, 3] (fun vs W => ∃ (gO d1 d2 d3 i2 c8 c9 : Nat) (A8 A9 : Option Addr), vs = [.pointer (some ⟨w.heap.size, 1, none⟩), .slice A1' N.ids.length c1', .slice A8 N.ids.length c8, .pointer (some ⟨w.heap.size, 2, none⟩), .slice A1'' N.inputs.length c1'', .slice A9 N.inputs.length c9, .agg #[.slice none 0 0, .slice A8 N.ids.length c8, .slice A9 N.inputs.length c9], .pointer (some ⟨gO, 0, none⟩)] ∧ Hid (BoxN W gO #[.slice none 0 0, .slice A8 N.ids.length c8, .slice A9 N.inputs.length c9] 31) ∧ Hid (IntS W d1 d2 (.slice A8 N.ids.length c8) N.ids) ∧ Hid (IntS W d3 i2 (.slice A9 N.inputs.length c9) N.inputs) ∧ WA.heap.size ≤ d1 ∧ d1 ≤ d2 ∧ d2 ≤ d3 ∧ d3 ≤ i2 ∧ i2 ≤ W.heap.size ∧ WA.heap.size ≤ gO ∧ (gO < d1 ∨ d2 ≤ gO) ∧ (gO < d3 ∨ i2 ≤ gO) ∧ Hid (Turned WA.heap.size WA.heap.size WA W)) ?_ ?_
  case refine_1 =>
    refine wp_region_U (fun w' => w'.cell? ⟨w.heap.size, 0, none⟩ = some (.slice (some ⟨b1, o1, none⟩) N.ends.length c1) ∧ w'.cell? ⟨w.heap.size, 1, none⟩ = some (.slice A1' N.ids.length c1') ∧ w'.cell? ⟨w.heap.size, 2, none⟩ = some (.slice A1'' N.inputs.length c1'')) [] (by kernel_rfl) ?_
    refine nameU ?_
    intro W1 HW1
    have hg1 : WA.grownBy W1 none := by rw [HW1.out]; exact grown_drew _
    clear HW1
    have hs1 := hg1.size
    have HF1 := Lib.hid ((Turned.refl WA.heap.size WA.heap.size WA).still hg1)
    have hS2 : W1.cell? ⟨w.heap.size, 0, none⟩ = some (.slice (some ⟨b1, o1, none⟩) N.ends.length c1) ∧ W1.cell? ⟨w.heap.size, 1, none⟩ = some (.slice A1' N.ids.length c1') ∧ W1.cell? ⟨w.heap.size, 2, none⟩ = some (.slice A1'' N.inputs.length c1'') := ⟨(HF1.out.boxN bx1 (by omega)).cell 0 (by simp), (HF1.out.boxN bx1 (by omega)).cell 1 (by simp), (HF1.out.boxN bx1 (by omega)).cell 2 (by simp)⟩
    refine anyU_take (i := 0) (v := .pointer (some ⟨w.heap.size, 1, none⟩)) rfl (by kernel_rfl) (by kernel_rfl) (by kernel_rfl) (fun _ _ _ ⟨_, _, h, _⟩ => by cases h) ⟨by rfl, fun w' hS' => (by obtain ⟨s1, s2, s3⟩ := hS'; go_simp)⟩ hS2 ?_
    simp only [List.getElem_toArray, List.getElem_cons_zero, Act.put, List.setIfInBounds_toArray, List.set_cons_zero, List.set_cons_succ]
    refine anyU_take (i := 1) (v := .slice A1' N.ids.length c1') rfl (by kernel_rfl) (by kernel_rfl) (by kernel_rfl) (fun _ _ _ ⟨_, _, h, _⟩ => by cases h) ⟨by rfl, fun w' hS' => (by obtain ⟨s1, s2, s3⟩ := hS'; go_simp)⟩ hS2 ?_
    simp only [List.getElem_toArray, List.getElem_cons_succ, List.getElem_cons_zero, Act.put, List.setIfInBounds_toArray, List.set_cons_zero, List.set_cons_succ]
    refine anyU_take (i := 3) (v := .pointer (some ⟨w.heap.size, 2, none⟩)) rfl (by kernel_rfl) (by kernel_rfl) (by kernel_rfl) (fun _ _ _ ⟨_, _, h, _⟩ => by cases h) ⟨by rfl, fun w' hS' => (by obtain ⟨s1, s2, s3⟩ := hS'; go_simp)⟩ hS2 ?_
    simp only [List.getElem_toArray, List.getElem_cons_succ, List.getElem_cons_zero, Act.put, List.setIfInBounds_toArray, List.set_cons_zero, List.set_cons_succ]
    refine anyU_take (i := 4) (v := .slice A1'' N.inputs.length c1'') rfl (by kernel_rfl) (by kernel_rfl) (by kernel_rfl) (fun _ _ _ ⟨_, _, h, _⟩ => by cases h) ⟨by rfl, fun w' hS' => (by obtain ⟨s1, s2, s3⟩ := hS'; go_simp)⟩ hS2 ?_
    simp only [List.getElem_toArray, List.getElem_cons_succ, List.getElem_cons_zero, Act.put, List.setIfInBounds_toArray, List.set_cons_zero, List.set_cons_succ]
    refine anyU_ready (rs := [2, 7]) (by kernel_rfl) (by simp) ?_
    refine ReadyU.cons (i := 2) rfl (fun K hK => ?_) ?_
    case refine_1 =>
      simp only [List.getElem_toArray, List.getElem_cons_succ, List.getElem_cons_zero]
      refine ite_is (by rfl) ?_
      simp [go_sem]
      refine (l1OwnR _ N.ids _ _ _ (netIds (Net.turned G1.out HF1.out (by omega) (by omega))) (by omega) (by have := HNN.out; rcases HNI.out with h | h <;> omega)).mono ?_
      rintro e W3 ⟨r3, rfl, hr3, hb3⟩
      have hg3 := grown_below hb3; clear hb3
      have hs3 := hg3.size
      have HF3 := Lib.hid (HF1.out.still hg3); clear HF1
      obtain ⟨AVD, cVD, rfl, _, _⟩ := hr3.dims
      have VD3 := Lib.hid hr3; clear hr3
      have hS4 : W3.cell? ⟨w.heap.size, 0, none⟩ = some (.slice (some ⟨b1, o1, none⟩) N.ends.length c1) ∧ W3.cell? ⟨w.heap.size, 1, none⟩ = some (.slice A1' N.ids.length c1') ∧ W3.cell? ⟨w.heap.size, 2, none⟩ = some (.slice A1'' N.inputs.length c1'') := ⟨(HF3.out.boxN bx1 (by omega)).cell 0 (by simp), (HF3.out.boxN bx1 (by omega)).cell 1 (by simp), (HF3.out.boxN bx1 (by omega)).cell 2 (by simp)⟩
      refine hK.out _ _ ⟨fun _ => hS4, ?_⟩
      clear hK K hS2
      try simp only [List.getElem_toArray, List.getElem_cons_succ, List.getElem_cons_zero, Act.put, List.setIfInBounds_toArray, List.set_cons_zero, List.set_cons_succ]
      refine anyU_ready (rs := [5, 7]) (by kernel_rfl) (by simp) ?_
      refine ReadyU.cons (i := 5) rfl (fun K hK => ?_) ?_
      case refine_1 =>
        simp only [List.getElem_toArray, List.getElem_cons_succ, List.getElem_cons_zero]
        refine ite_is (by rfl) ?_
        simp [go_sem]
        refine (l1OwnR _ N.inputs _ _ _ (netIns (Net.turned G1.out HF3.out (by omega) (by omega))) (by omega) (by have := HNN.out; rcases HNI.out with h | h <;> omega)).mono ?_
        rintro e W5 ⟨r5, rfl, hr5, hb5⟩
        have hg5 := grown_below hb5; clear hb5
        have hs5 := hg5.size
        have HF5 := Lib.hid (HF3.out.still hg5); clear HF3
        have VD5 := Lib.hid (IntS.still VD3.out hg5 (by omega)); clear VD3
        obtain ⟨AVI, cVI, rfl, _, _⟩ := hr5.dims
        have VI5 := Lib.hid hr5; clear hr5
        have hS6 : W5.cell? ⟨w.heap.size, 0, none⟩ = some (.slice (some ⟨b1, o1, none⟩) N.ends.length c1) ∧ W5.cell? ⟨w.heap.size, 1, none⟩ = some (.slice A1' N.ids.length c1') ∧ W5.cell? ⟨w.heap.size, 2, none⟩ = some (.slice A1'' N.inputs.length c1'') := ⟨(HF5.out.boxN bx1 (by omega)).cell 0 (by simp), (HF5.out.boxN bx1 (by omega)).cell 1 (by simp), (HF5.out.boxN bx1 (by omega)).cell 2 (by simp)⟩
        refine hK.out _ _ ⟨fun _ => hS6, ?_⟩
        clear hK K hS4
        try simp only [List.getElem_toArray, List.getElem_cons_succ, List.getElem_cons_zero, Act.put, List.setIfInBounds_toArray, List.set_cons_zero, List.set_cons_succ]
        refine anyU_take (i := 6) (v := .agg #[.slice none 0 0, .slice AVD N.ids.length cVD, .slice AVI N.inputs.length cVI]) rfl (by kernel_rfl) (by kernel_rfl) (by kernel_rfl) (fun _ _ _ ⟨_, _, h, _⟩ => by cases h) ⟨by rfl, fun w' hS' => (by obtain ⟨s1, s2, s3⟩ := hS'; go_simp)⟩ hS6 ?_
        simp only [List.getElem_toArray, List.getElem_cons_succ, List.getElem_cons_zero, Act.put, List.setIfInBounds_toArray, List.set_cons_zero, List.set_cons_succ]
        refine anyU_ready (rs := [7]) (by kernel_rfl) (by simp) ?_
        refine ReadyU.cons (i := 7) rfl (fun K hK => ?_) ?_
        case refine_1 =>
          simp only [List.getElem_toArray, List.getElem_cons_succ, List.getElem_cons_zero]
          refine ite_is (by rfl) ?_
          simp [go_sem]
          refine nameA ?_
          intro W7 HW7
          have hg7 : W5.grownBy W7 none := by rw [HW7.out]; exact grown_alloc _ _
          have OUT7 := Lib.hid (show BoxN W7 W5.heap.size #[.slice none 0 0, .slice none 0 0, .slice none 0 0] 31 by rw [HW7.out]; exact BoxN.new _ _ _)
          have hz7 : W5.heap.size < W7.heap.size := OUT7.out.lt
          clear HW7
          have hs7 := hg7.size
          have HF7 := Lib.hid (HF5.out.still hg7); clear HF5
          have VD7 := Lib.hid (IntS.still VD5.out hg7 (by omega)); clear VD5
          have VI7 := Lib.hid (IntS.still VI5.out hg7 (by omega)); clear VI5
          have hS8 : W7.cell? ⟨w.heap.size, 0, none⟩ = some (.slice (some ⟨b1, o1, none⟩) N.ends.length c1) ∧ W7.cell? ⟨w.heap.size, 1, none⟩ = some (.slice A1' N.ids.length c1') ∧ W7.cell? ⟨w.heap.size, 2, none⟩ = some (.slice A1'' N.inputs.length c1'') := ⟨(HF7.out.boxN bx1 (by omega)).cell 0 (by simp), (HF7.out.boxN bx1 (by omega)).cell 1 (by simp), (HF7.out.boxN bx1 (by omega)).cell 2 (by simp)⟩
          refine hK.out _ _ ⟨fun _ => hS8, ?_⟩
          clear hK K hS6
          try simp only [List.getElem_toArray, List.getElem_cons_succ, List.getElem_cons_zero, Act.put, List.setIfInBounds_toArray, List.set_cons_zero, List.set_cons_succ]
          refine anyU_ready (rs := [8]) (by kernel_rfl) (by simp) ?_
          refine ReadyU.cons (i := 8) rfl (fun K hK => ?_) ?_
          case refine_1 =>
            simp only [List.getElem_toArray, List.getElem_cons_succ, List.getElem_cons_zero]
            refine ite_is (by rfl) ?_
            have kd0 : W7.cell? ⟨W5.heap.size, 0, none⟩ = some (.slice none 0 0) := OUT7.out.cell 0 (by simp)
            have kf0 := OUT7.out.frozen 0
            have kd1 : W7.cell? ⟨W5.heap.size, 1, none⟩ = some (.slice none 0 0) := OUT7.out.cell 1 (by simp)
            have kf1 := OUT7.out.frozen 1
            have kd2 : W7.cell? ⟨W5.heap.size, 2, none⟩ = some (.slice none 0 0) := OUT7.out.cell 2 (by simp)
            have kf2 := OUT7.out.frozen 2
            simp [go_sem, kd0, kf0, kd1, kf1, kd2, kf2]
            refine nameA ?_
            intro W9 HW9
            have hg9 : W7.grownBy W9 (some (W5.heap.size)) := by rw [HW9.out]; exact grownBy_setCell (p := ⟨W5.heap.size, 2, none⟩) (grownBy_setCell (p := ⟨W5.heap.size, 1, none⟩) (grown_set _ ⟨W5.heap.size, 0, none⟩ _) rfl _) rfl _
            have hs9 := hg9.size
            have HF9 := Lib.hid (HF7.out.grown hg9 (fun g e => .inr (by cases e; omega)))
            have VD9 := Lib.hid (IntS.far VD7.out hg9 (by omega) (fun g e => by cases e; omega)); clear VD7
            have VI9 := Lib.hid (IntS.far VI7.out hg9 (by omega) (fun g e => by cases e; omega)); clear VI7
            have OUT9 := Lib.hid (show BoxN W9 (W5.heap.size) #[.slice none 0 0, .slice AVD N.ids.length cVD, .slice AVI N.inputs.length cVI] 31 by rw [HW9.out]; exact ((OUT7.out.set 0 _).set 1 _).set 2 _)
            clear HW9 kd0 kf0 kd1 kf1 kd2 kf2 OUT7
            have hS10 : W9.cell? ⟨w.heap.size, 0, none⟩ = some (.slice (some ⟨b1, o1, none⟩) N.ends.length c1) ∧ W9.cell? ⟨w.heap.size, 1, none⟩ = some (.slice A1' N.ids.length c1') ∧ W9.cell? ⟨w.heap.size, 2, none⟩ = some (.slice A1'' N.inputs.length c1'') := ⟨(HF9.out.boxN bx1 (by omega)).cell 0 (by simp), (HF9.out.boxN bx1 (by omega)).cell 1 (by simp), (HF9.out.boxN bx1 (by omega)).cell 2 (by simp)⟩
            refine hK.out _ _ ⟨fun _ => hS10, ?_⟩
            clear hK K hS8
            try simp only [List.getElem_toArray, List.getElem_cons_succ, List.getElem_cons_zero, Act.put, List.setIfInBounds_toArray, List.set_cons_zero, List.set_cons_succ]
            clear hS10
            refine anyU_done (by kernel_rfl) ?_ _
            exact ⟨[.pointer (some ⟨w.heap.size, 1, none⟩), .slice A1' N.ids.length c1', .slice AVD N.ids.length cVD, .pointer (some ⟨w.heap.size, 2, none⟩), .slice A1'' N.inputs.length c1'', .slice AVI N.inputs.length cVI, .agg #[.slice none 0 0, .slice AVD N.ids.length cVD, .slice AVI N.inputs.length cVI], .pointer (some ⟨W5.heap.size, 0, none⟩)], ⟨_, W1.heap.size, W3.heap.size, W3.heap.size, W5.heap.size, _, _, _, _, rfl, OUT9, VD9, VI9, by omega, by omega, by omega, by omega, by omega, by omega, by omega, by omega, HF9⟩, rfl, by simp only [puts, Act.put, List.setIfInBounds_toArray, List.set_cons_zero, List.set_cons_succ]⟩
          exact ReadyU.nil
        exact ReadyU.nil
      refine ReadyU.cons (i := 7) rfl (fun K hK => ?_) ?_
      case refine_1 =>
        simp only [List.getElem_toArray, List.getElem_cons_succ, List.getElem_cons_zero]
        refine ite_is (by rfl) ?_
        simp [go_sem]
        refine nameA ?_
        intro W11 HW11
        have hg11 : W3.grownBy W11 none := by rw [HW11.out]; exact grown_alloc _ _
        have OUT11 := Lib.hid (show BoxN W11 W3.heap.size #[.slice none 0 0, .slice none 0 0, .slice none 0 0] 31 by rw [HW11.out]; exact BoxN.new _ _ _)
        have hz11 : W3.heap.size < W11.heap.size := OUT11.out.lt
        clear HW11
        have hs11 := hg11.size
        have HF11 := Lib.hid (HF3.out.still hg11); clear HF3
        have VD11 := Lib.hid (IntS.still VD3.out hg11 (by omega)); clear VD3
        have hS12 : W11.cell? ⟨w.heap.size, 0, none⟩ = some (.slice (some ⟨b1, o1, none⟩) N.ends.length c1) ∧ W11.cell? ⟨w.heap.size, 1, none⟩ = some (.slice A1' N.ids.length c1') ∧ W11.cell? ⟨w.heap.size, 2, none⟩ = some (.slice A1'' N.inputs.length c1'') := ⟨(HF11.out.boxN bx1 (by omega)).cell 0 (by simp), (HF11.out.boxN bx1 (by omega)).cell 1 (by simp), (HF11.out.boxN bx1 (by omega)).cell 2 (by simp)⟩
        refine hK.out _ _ ⟨fun _ => hS12, ?_⟩
        clear hK K hS4
        try simp only [List.getElem_toArray, List.getElem_cons_succ, List.getElem_cons_zero, Act.put, List.setIfInBounds_toArray, List.set_cons_zero, List.set_cons_succ]
        refine anyU_ready (rs := [5]) (by kernel_rfl) (by simp) ?_
        refine ReadyU.cons (i := 5) rfl (fun K hK => ?_) ?_
        case refine_1 =>
          simp only [List.getElem_toArray, List.getElem_cons_succ, List.getElem_cons_zero]
          refine ite_is (by rfl) ?_
          simp [go_sem]
          refine (l1OwnR _ N.inputs _ _ _ (netIns (Net.turned G1.out HF11.out (by omega) (by omega))) (by omega) (by have := HNN.out; rcases HNI.out with h | h <;> omega)).mono ?_
          rintro e W13 ⟨r13, rfl, hr13, hb13⟩
          have hg13 := grown_below hb13; clear hb13
          have hs13 := hg13.size
          have HF13 := Lib.hid (HF11.out.still hg13); clear HF11
          have VD13 := Lib.hid (IntS.still VD11.out hg13 (by omega)); clear VD11
          have OUT13 := Lib.hid (BoxN.still OUT11.out hg13); clear OUT11
          obtain ⟨AVI, cVI, rfl, _, _⟩ := hr13.dims
          have VI13 := Lib.hid hr13; clear hr13
          have hS14 : W13.cell? ⟨w.heap.size, 0, none⟩ = some (.slice (some ⟨b1, o1, none⟩) N.ends.length c1) ∧ W13.cell? ⟨w.heap.size, 1, none⟩ = some (.slice A1' N.ids.length c1') ∧ W13.cell? ⟨w.heap.size, 2, none⟩ = some (.slice A1'' N.inputs.length c1'') := ⟨(HF13.out.boxN bx1 (by omega)).cell 0 (by simp), (HF13.out.boxN bx1 (by omega)).cell 1 (by simp), (HF13.out.boxN bx1 (by omega)).cell 2 (by simp)⟩
          refine hK.out _ _ ⟨fun _ => hS14, ?_⟩
          clear hK K hS12
          try simp only [List.getElem_toArray, List.getElem_cons_succ, List.getElem_cons_zero, Act.put, List.setIfInBounds_toArray, List.set_cons_zero, List.set_cons_succ]
          refine anyU_take (i := 6) (v := .agg #[.slice none 0 0, .slice AVD N.ids.length cVD, .slice AVI N.inputs.length cVI]) rfl (by kernel_rfl) (by kernel_rfl) (by kernel_rfl) (fun _ _ _ ⟨_, _, h, _⟩ => by cases h) ⟨by rfl, fun w' hS' => (by obtain ⟨s1, s2, s3⟩ := hS'; go_simp)⟩ hS14 ?_
          simp only [List.getElem_toArray, List.getElem_cons_succ, List.getElem_cons_zero, Act.put, List.setIfInBounds_toArray, List.set_cons_zero, List.set_cons_succ]
          refine anyU_ready (rs := [8]) (by kernel_rfl) (by simp) ?_
          refine ReadyU.cons (i := 8) rfl (fun K hK => ?_) ?_
          case refine_1 =>
            simp only [List.getElem_toArray, List.getElem_cons_succ, List.getElem_cons_zero]
            refine ite_is (by rfl) ?_
            have kd0 : W13.cell? ⟨W3.heap.size, 0, none⟩ = some (.slice none 0 0) := OUT13.out.cell 0 (by simp)
            have kf0 := OUT13.out.frozen 0
            have kd1 : W13.cell? ⟨W3.heap.size, 1, none⟩ = some (.slice none 0 0) := OUT13.out.cell 1 (by simp)
            have kf1 := OUT13.out.frozen 1
            have kd2 : W13.cell? ⟨W3.heap.size, 2, none⟩ = some (.slice none 0 0) := OUT13.out.cell 2 (by simp)
            have kf2 := OUT13.out.frozen 2
            simp [go_sem, kd0, kf0, kd1, kf1, kd2, kf2]
            refine nameA ?_
            intro W15 HW15
            have hg15 : W13.grownBy W15 (some (W3.heap.size)) := by rw [HW15.out]; exact grownBy_setCell (p := ⟨W3.heap.size, 2, none⟩) (grownBy_setCell (p := ⟨W3.heap.size, 1, none⟩) (grown_set _ ⟨W3.heap.size, 0, none⟩ _) rfl _) rfl _
            have hs15 := hg15.size
            have HF15 := Lib.hid (HF13.out.grown hg15 (fun g e => .inr (by cases e; omega)))
            have VD15 := Lib.hid (IntS.far VD13.out hg15 (by omega) (fun g e => by cases e; omega)); clear VD13
            have VI15 := Lib.hid (IntS.far VI13.out hg15 (by omega) (fun g e => by cases e; omega)); clear VI13
            have OUT15 := Lib.hid (show BoxN W15 (W3.heap.size) #[.slice none 0 0, .slice AVD N.ids.length cVD, .slice AVI N.inputs.length cVI] 31 by rw [HW15.out]; exact ((OUT13.out.set 0 _).set 1 _).set 2 _)
            clear HW15 kd0 kf0 kd1 kf1 kd2 kf2 OUT13
            have hS16 : W15.cell? ⟨w.heap.size, 0, none⟩ = some (.slice (some ⟨b1, o1, none⟩) N.ends.length c1) ∧ W15.cell? ⟨w.heap.size, 1, none⟩ = some (.slice A1' N.ids.length c1') ∧ W15.cell? ⟨w.heap.size, 2, none⟩ = some (.slice A1'' N.inputs.length c1'') := ⟨(HF15.out.boxN bx1 (by omega)).cell 0 (by simp), (HF15.out.boxN bx1 (by omega)).cell 1 (by simp), (HF15.out.boxN bx1 (by omega)).cell 2 (by simp)⟩
            refine hK.out _ _ ⟨fun _ => hS16, ?_⟩
            clear hK K hS14
            try simp only [List.getElem_toArray, List.getElem_cons_succ, List.getElem_cons_zero, Act.put, List.setIfInBounds_toArray, List.set_cons_zero, List.set_cons_succ]
            clear hS16
            refine anyU_done (by kernel_rfl) ?_ _
            exact ⟨[.pointer (some ⟨w.heap.size, 1, none⟩), .slice A1' N.ids.length c1', .slice AVD N.ids.length cVD, .pointer (some ⟨w.heap.size, 2, none⟩), .slice A1'' N.inputs.length c1'', .slice AVI N.inputs.length cVI, .agg #[.slice none 0 0, .slice AVD N.ids.length cVD, .slice AVI N.inputs.length cVI], .pointer (some ⟨W3.heap.size, 0, none⟩)], ⟨_, W1.heap.size, W3.heap.size, W11.heap.size, W13.heap.size, _, _, _, _, rfl, OUT15, VD15, VI15, by omega, by omega, by omega, by omega, by omega, by omega, by omega, by omega, HF15⟩, rfl, by simp only [puts, Act.put, List.setIfInBounds_toArray, List.set_cons_zero, List.set_cons_succ]⟩
          exact ReadyU.nil
        exact ReadyU.nil
      exact ReadyU.nil
    refine ReadyU.cons (i := 7) rfl (fun K hK => ?_) ?_
    case refine_1 =>
      simp only [List.getElem_toArray, List.getElem_cons_succ, List.getElem_cons_zero]
      refine ite_is (by rfl) ?_
      simp [go_sem]
      refine nameA ?_
      intro W17 HW17
      have hg17 : W1.grownBy W17 none := by rw [HW17.out]; exact grown_alloc _ _
      have OUT17 := Lib.hid (show BoxN W17 W1.heap.size #[.slice none 0 0, .slice none 0 0, .slice none 0 0] 31 by rw [HW17.out]; exact BoxN.new _ _ _)
      have hz17 : W1.heap.size < W17.heap.size := OUT17.out.lt
      clear HW17
      have hs17 := hg17.size
      have HF17 := Lib.hid (HF1.out.still hg17); clear HF1
      have hS18 : W17.cell? ⟨w.heap.size, 0, none⟩ = some (.slice (some ⟨b1, o1, none⟩) N.ends.length c1) ∧ W17.cell? ⟨w.heap.size, 1, none⟩ = some (.slice A1' N.ids.length c1') ∧ W17.cell? ⟨w.heap.size, 2, none⟩ = some (.slice A1'' N.inputs.length c1'') := ⟨(HF17.out.boxN bx1 (by omega)).cell 0 (by simp), (HF17.out.boxN bx1 (by omega)).cell 1 (by simp), (HF17.out.boxN bx1 (by omega)).cell 2 (by simp)⟩
      refine hK.out _ _ ⟨fun _ => hS18, ?_⟩
      clear hK K hS2
      try simp only [List.getElem_toArray, List.getElem_cons_succ, List.getElem_cons_zero, Act.put, List.setIfInBounds_toArray, List.set_cons_zero, List.set_cons_succ]
      refine anyU_ready (rs := [2]) (by kernel_rfl) (by simp) ?_
      refine ReadyU.cons (i := 2) rfl (fun K hK => ?_) ?_
      case refine_1 =>
        simp only [List.getElem_toArray, List.getElem_cons_succ, List.getElem_cons_zero]
        refine ite_is (by rfl) ?_
        simp [go_sem]
        refine (l1OwnR _ N.ids _ _ _ (netIds (Net.turned G1.out HF17.out (by omega) (by omega))) (by omega) (by have := HNN.out; rcases HNI.out with h | h <;> omega)).mono ?_
        rintro e W19 ⟨r19, rfl, hr19, hb19⟩
        have hg19 := grown_below hb19; clear hb19
        have hs19 := hg19.size
        have HF19 := Lib.hid (HF17.out.still hg19); clear HF17
        have OUT19 := Lib.hid (BoxN.still OUT17.out hg19); clear OUT17
        obtain ⟨AVD, cVD, rfl, _, _⟩ := hr19.dims
        have VD19 := Lib.hid hr19; clear hr19
        have hS20 : W19.cell? ⟨w.heap.size, 0, none⟩ = some (.slice (some ⟨b1, o1, none⟩) N.ends.length c1) ∧ W19.cell? ⟨w.heap.size, 1, none⟩ = some (.slice A1' N.ids.length c1') ∧ W19.cell? ⟨w.heap.size, 2, none⟩ = some (.slice A1'' N.inputs.length c1'') := ⟨(HF19.out.boxN bx1 (by omega)).cell 0 (by simp), (HF19.out.boxN bx1 (by omega)).cell 1 (by simp), (HF19.out.boxN bx1 (by omega)).cell 2 (by simp)⟩
        refine hK.out _ _ ⟨fun _ => hS20, ?_⟩
        clear hK K hS18
        try simp only [List.getElem_toArray, List.getElem_cons_succ, List.getElem_cons_zero, Act.put, List.setIfInBounds_toArray, List.set_cons_zero, List.set_cons_succ]
        refine anyU_ready (rs := [5]) (by kernel_rfl) (by simp) ?_
        refine ReadyU.cons (i := 5) rfl (fun K hK => ?_) ?_
        case refine_1 =>
          simp only [List.getElem_toArray, List.getElem_cons_succ, List.getElem_cons_zero]
          refine ite_is (by rfl) ?_
          simp [go_sem]
          refine (l1OwnR _ N.inputs _ _ _ (netIns (Net.turned G1.out HF19.out (by omega) (by omega))) (by omega) (by have := HNN.out; rcases HNI.out with h | h <;> omega)).mono ?_
          rintro e W21 ⟨r21, rfl, hr21, hb21⟩
          have hg21 := grown_below hb21; clear hb21
          have hs21 := hg21.size
          have HF21 := Lib.hid (HF19.out.still hg21); clear HF19
          have OUT21 := Lib.hid (BoxN.still OUT19.out hg21); clear OUT19
          have VD21 := Lib.hid (IntS.still VD19.out hg21 (by omega)); clear VD19
          obtain ⟨AVI, cVI, rfl, _, _⟩ := hr21.dims
          have VI21 := Lib.hid hr21; clear hr21
          have hS22 : W21.cell? ⟨w.heap.size, 0, none⟩ = some (.slice (some ⟨b1, o1, none⟩) N.ends.length c1) ∧ W21.cell? ⟨w.heap.size, 1, none⟩ = some (.slice A1' N.ids.length c1') ∧ W21.cell? ⟨w.heap.size, 2, none⟩ = some (.slice A1'' N.inputs.length c1'') := ⟨(HF21.out.boxN bx1 (by omega)).cell 0 (by simp), (HF21.out.boxN bx1 (by omega)).cell 1 (by simp), (HF21.out.boxN bx1 (by omega)).cell 2 (by simp)⟩
          refine hK.out _ _ ⟨fun _ => hS22, ?_⟩
          clear hK K hS20
          try simp only [List.getElem_toArray, List.getElem_cons_succ, List.getElem_cons_zero, Act.put, List.setIfInBounds_toArray, List.set_cons_zero, List.set_cons_succ]
          refine anyU_take (i := 6) (v := .agg #[.slice none 0 0, .slice AVD N.ids.length cVD, .slice AVI N.inputs.length cVI]) rfl (by kernel_rfl) (by kernel_rfl) (by kernel_rfl) (fun _ _ _ ⟨_, _, h, _⟩ => by cases h) ⟨by rfl, fun w' hS' => (by obtain ⟨s1, s2, s3⟩ := hS'; go_simp)⟩ hS22 ?_
          simp only [List.getElem_toArray, List.getElem_cons_succ, List.getElem_cons_zero, Act.put, List.setIfInBounds_toArray, List.set_cons_zero, List.set_cons_succ]
          refine anyU_ready (rs := [8]) (by kernel_rfl) (by simp) ?_
          refine ReadyU.cons (i := 8) rfl (fun K hK => ?_) ?_
          case refine_1 =>
            simp only [List.getElem_toArray, List.getElem_cons_succ, List.getElem_cons_zero]
            refine ite_is (by rfl) ?_
            have kd0 : W21.cell? ⟨W1.heap.size, 0, none⟩ = some (.slice none 0 0) := OUT21.out.cell 0 (by simp)
            have kf0 := OUT21.out.frozen 0
            have kd1 : W21.cell? ⟨W1.heap.size, 1, none⟩ = some (.slice none 0 0) := OUT21.out.cell 1 (by simp)
            have kf1 := OUT21.out.frozen 1
            have kd2 : W21.cell? ⟨W1.heap.size, 2, none⟩ = some (.slice none 0 0) := OUT21.out.cell 2 (by simp)
            have kf2 := OUT21.out.frozen 2
            simp [go_sem, kd0, kf0, kd1, kf1, kd2, kf2]
            refine nameA ?_
            intro W23 HW23
            have hg23 : W21.grownBy W23 (some (W1.heap.size)) := by rw [HW23.out]; exact grownBy_setCell (p := ⟨W1.heap.size, 2, none⟩) (grownBy_setCell (p := ⟨W1.heap.size, 1, none⟩) (grown_set _ ⟨W1.heap.size, 0, none⟩ _) rfl _) rfl _
            have hs23 := hg23.size
            have HF23 := Lib.hid (HF21.out.grown hg23 (fun g e => .inr (by cases e; omega)))
            have VD23 := Lib.hid (IntS.far VD21.out hg23 (by omega) (fun g e => by cases e; omega)); clear VD21
            have VI23 := Lib.hid (IntS.far VI21.out hg23 (by omega) (fun g e => by cases e; omega)); clear VI21
            have OUT23 := Lib.hid (show BoxN W23 (W1.heap.size) #[.slice none 0 0, .slice AVD N.ids.length cVD, .slice AVI N.inputs.length cVI] 31 by rw [HW23.out]; exact ((OUT21.out.set 0 _).set 1 _).set 2 _)
            clear HW23 kd0 kf0 kd1 kf1 kd2 kf2 OUT21
            have hS24 : W23.cell? ⟨w.heap.size, 0, none⟩ = some (.slice (some ⟨b1, o1, none⟩) N.ends.length c1) ∧ W23.cell? ⟨w.heap.size, 1, none⟩ = some (.slice A1' N.ids.length c1') ∧ W23.cell? ⟨w.heap.size, 2, none⟩ = some (.slice A1'' N.inputs.length c1'') := ⟨(HF23.out.boxN bx1 (by omega)).cell 0 (by simp), (HF23.out.boxN bx1 (by omega)).cell 1 (by simp), (HF23.out.boxN bx1 (by omega)).cell 2 (by simp)⟩
            refine hK.out _ _ ⟨fun _ => hS24, ?_⟩
            clear hK K hS22
            try simp only [List.getElem_toArray, List.getElem_cons_succ, List.getElem_cons_zero, Act.put, List.setIfInBounds_toArray, List.set_cons_zero, List.set_cons_succ]
            clear hS24
            refine anyU_done (by kernel_rfl) ?_ _
            exact ⟨[.pointer (some ⟨w.heap.size, 1, none⟩), .slice A1' N.ids.length c1', .slice AVD N.ids.length cVD, .pointer (some ⟨w.heap.size, 2, none⟩), .slice A1'' N.inputs.length c1'', .slice AVI N.inputs.length cVI, .agg #[.slice none 0 0, .slice AVD N.ids.length cVD, .slice AVI N.inputs.length cVI], .pointer (some ⟨W1.heap.size, 0, none⟩)], ⟨_, W17.heap.size, W19.heap.size, W19.heap.size, W21.heap.size, _, _, _, _, rfl, OUT23, VD23, VI23, by omega, by omega, by omega, by omega, by omega, by omega, by omega, by omega, HF23⟩, rfl, by simp only [puts, Act.put, List.setIfInBounds_toArray, List.set_cons_zero, List.set_cons_succ]⟩
          exact ReadyU.nil
        exact ReadyU.nil
      exact ReadyU.nil
    exact ReadyU.nil
  case refine_2 =>
    rintro vs W25 ⟨gO, d1, d2, d3, i2, c8, c9, A8, A9, rfl, HB, HD8, HI9, ho1, ho2, ho3, ho5, ho4, hgO, hgo1, hgo2, HF25⟩
    simp only [puts, Act.put, List.setIfInBounds_toArray, List.set_cons_zero, List.set_cons_succ]
    have hs25 := HF25.out.size
    have hgl := HB.out.lt
    have kbx1_0 : W25.cell? ⟨w.heap.size, 0, none⟩ = some (.slice (some ⟨b1, o1, none⟩) N.ends.length c1) := (HF25.out.boxN bx1 (by omega)).cell 0 (by simp)
    have kbx1_1 : W25.cell? ⟨w.heap.size, 1, none⟩ = some (.slice A1' N.ids.length c1') := (HF25.out.boxN bx1 (by omega)).cell 1 (by simp)
    have kbx1_2 : W25.cell? ⟨w.heap.size, 2, none⟩ = some (.slice A1'' N.inputs.length c1'') := (HF25.out.boxN bx1 (by omega)).cell 2 (by simp)
    go_wp2_with fail
    clear kbx1_0 kbx1_1 kbx1_2
    go_loopw [16] (fun kv wr => ∃ (k : Nat) (vE : Value) (top : Nat), k ≤ N.ends.length ∧ kv = .int .i64 k ∧ Hid (BoxN wr gO #[vE, .slice A8 N.ids.length c8, .slice A9 N.inputs.length c9] 31) ∧ Hid (OwnES wr W25.heap.size top 54 vE (N.ends.take k)) ∧ Hid (IntS wr d1 d2 (.slice A8 N.ids.length c8) N.ids) ∧ Hid (IntS wr d3 i2 (.slice A9 N.inputs.length c9) N.inputs) ∧ W25.heap.size ≤ wr.heap.size ∧ Hid (Turned WA.heap.size WA.heap.size WA wr)) (fun kv _ => N.ends.length - (intOf kv).toNat)
    case atStart => exact ⟨0, .slice none 0 0, W25.heap.size, Nat.zero_le _, rfl, HB, Lib.hid (OwnES.nil _ _ _ _ (Nat.le_refl _) (Nat.le_refl _)), HD8, HI9, Nat.le_refl _, HF25⟩
    case round =>
      clear HF25
      obtain ⟨k, vE, top, hk, rfl, HB, HO, HD8, HI9, hzc, HF26⟩ := hrel
      have hs26 := HF26.out.size
      obtain ⟨wt, rfl⟩ : ∃ wt : World, wt = wr := ⟨_, rfl⟩
      have htop : top ≤ wt.heap.size := let ⟨_, _, _, _, _, _, h, _⟩ := HO.out; h
      have htop2 : _ ≤ top := let ⟨_, _, _, _, _, h, _⟩ := HO.out; h
      have HLE := Lib.hid HO.out.lt
      have hcr : (N.ends.take k).length = k := by rw [List.length_take]; omega
      have HCR := Lib.hid hcr
      obtain ⟨rows, HRS⟩ : ∃ l, Hid (N.ends.take k = l) := ⟨_, Lib.hid rfl⟩
      rw [HRS.out] at HO hcr
      have HCR := Lib.hid hcr; clear hcr
      by_cases hkn : k < N.ends.length
      case neg =>
        obtain rfl : k = N.ends.length := by omega
        have HRW := Lib.hid (show rows = N.ends by rw [← HRS.out]; simp)
        have HO2 := HO.out
        rw [HRW.out] at HO2
        obtain ⟨gT, cE, rfl, HRN⟩ := OwnES.rn (base := WA.heap.size) (OwnES.mono (base := W25.heap.size) HO2 htop (Nat.le_refl _) |>.weakB (show i2 ≤ W25.heap.size by omega)) (by omega) ho1 ho2 ho3 ho5 HD8.out HI9.out
        obtain ⟨A9', c9', e9, hcE, hcE2⟩ := HO2.len
        injection e9 with e9a e9b e9
        subst e9
        subst e9a
        clear e9b
        have ko0 : wt.cell? ⟨gO, 0, none⟩ = some (.slice (some ⟨gT, 0, none⟩) N.ends.length cE) := HB.out.cell 0 (by simp)
        have ko1 : wt.cell? ⟨gO, 1, none⟩ = some (.slice A8 N.ids.length c8) := HB.out.cell 1 (by simp)
        have ko2 : wt.cell? ⟨gO, 2, none⟩ = some (.slice A9 N.inputs.length c9) := HB.out.cell 2 (by simp)
        have HBR := Lib.hid (HF26.out.boxN bxx0 (by omega))
        have kr0 : wt.cell? ⟨w.heap.size + 1, 0, none⟩ = some (.slice none 0 0) := HBR.out.cell 0 (by simp)
        have kr1 : wt.cell? ⟨w.heap.size + 1, 1, none⟩ = some (.slice none 0 0) := HBR.out.cell 1 (by simp)
        have kr2 : wt.cell? ⟨w.heap.size + 1, 2, none⟩ = some (.slice none 0 0) := HBR.out.cell 2 (by simp)
        have kf0 := HBR.out.frozen 0
        have kf1 := HBR.out.frozen 1
        have kf2 := HBR.out.frozen 2
        have HRN9 := Lib.hid HRN; clear HRN HO2
        go_wp2_with fail
        ((try simp only [Exit.inBlock, Exit.then]); refine bodyPost_ret (results_cell1 rfl _ _ _ rfl (load_net (((HBR.out.set 0 (.slice (some ⟨gT, 0, none⟩) N.ends.length cE)).set 1 (.slice A8 N.ids.length c8)).set 2 (.slice A9 N.inputs.length c9)))) rfl ?_)
        have hg9 : wt.grownBy (((wt.setCell ⟨w.heap.size + 1, 0, none⟩ (.slice (some ⟨gT, 0, none⟩) N.ends.length cE)).setCell ⟨w.heap.size + 1, 1, none⟩ (.slice A8 N.ids.length c8)).setCell ⟨w.heap.size + 1, 2, none⟩ (.slice A9 N.inputs.length c9)) (some (w.heap.size + 1)) := grownBy_setCell (p := ⟨w.heap.size + 1, 2, none⟩) (grownBy_setCell (p := ⟨w.heap.size + 1, 1, none⟩) (grown_set wt ⟨w.heap.size + 1, 0, none⟩ _) rfl _) rfl _
        exact ⟨d1, d2, d3, i2, gT, _, _, _, _, _, rfl, hcE, hcE2, RN.up (RN.weak (RN.far HRN9.out hg9 (fun k e => by cases e; omega)) (by omega)) hg9.size (Nat.le_refl _), ((HF26.out.below_of hbA (by omega) (by omega)).grown hg9 (by omega) fun g e => by cases e; omega)⟩
      have hki : (k : Int) < N.ends.length := by omega
      have hd6 := good_deg HG.out hkn
      have HTK := Lib.hid (show N.ends.take (k + 1) = rows ++ [nthL N.ends k] by rw [List.take_succ_eq_append_getElem hkn, HRS.out, nthL_eq hkn])
      obtain ⟨AE, cE, rfl, hcE, hdE⟩ := HO.out.len
      obtain ⟨Aa, ca, hba, qa, hca, hda, hRa⟩ := Net.rowIn G1.out hkn
      replace qa := (HF26.out.cell (by omega) (by omega)).trans qa
      have Ra := Lib.hid hRa; clear hRa
      go_wp2_with fail
      clear qa
      have HROW := Lib.hid (EndS.turned Ra.out HF26.out (by omega) (by omega))
      have HES := Lib.hid HO.out; clear HO
      refine wp_region_U (fun w' => w'.cell? ⟨gO, 0, none⟩ = some (.slice AE rows.length cE) ∧ w'.cell? ⟨gO, 1, none⟩ = some (.slice A8 N.ids.length c8) ∧ w'.cell? ⟨gO, 2, none⟩ = some (.slice A9 N.inputs.length c9)) [8] (by kernel_rfl) ?_
      refine nameU ?_
      intro W27 HW27
      have hg27 : wt.grownBy W27 none := by rw [HW27.out]; exact grown_drew _
      clear HW27
      have hs27 := hg27.size
      have HF27 := Lib.hid (HF26.out.still hg27); clear HF26
      have OUT27 := Lib.hid (BoxN.still HB.out hg27); clear HB
      have VD27 := Lib.hid (IntS.still HD8.out hg27 (by omega)); clear HD8
      have VI27 := Lib.hid (IntS.still HI9.out hg27 (by omega)); clear HI9
      have ROW27 := Lib.hid (EndS.still HROW.out hg27 (by omega)); clear HROW
      have ES27 := Lib.hid (OwnES.still HES.out hg27); clear HES
      have hS28 : W27.cell? ⟨gO, 0, none⟩ = some (.slice AE rows.length cE) ∧ W27.cell? ⟨gO, 1, none⟩ = some (.slice A8 N.ids.length c8) ∧ W27.cell? ⟨gO, 2, none⟩ = some (.slice A9 N.inputs.length c9) := ⟨OUT27.out.cell 0 (by simp), OUT27.out.cell 1 (by simp), OUT27.out.cell 2 (by simp)⟩
      refine anyU_take (i := 0) (v := .pointer (some ⟨gO, 0, none⟩)) rfl (by kernel_rfl) (by kernel_rfl) (by kernel_rfl) (fun _ _ _ h => h) ⟨by rfl, fun w' hS' => (by obtain ⟨s1, s2, s3⟩ := hS'; go_simp)⟩ hS28 ?_
      simp only [List.getElem_toArray, List.getElem_cons_zero, Act.put, List.setIfInBounds_toArray, List.set_cons_zero, List.set_cons_succ]
      refine anyU_take (i := 1) (v := .slice AE rows.length cE) rfl (by kernel_rfl) (by kernel_rfl) (by kernel_rfl) (fun _ _ _ h => h) ⟨by rfl, fun w' hS' => (by obtain ⟨s1, s2, s3⟩ := hS'; go_simp)⟩ hS28 ?_
      simp only [List.getElem_toArray, List.getElem_cons_succ, List.getElem_cons_zero, Act.put, List.setIfInBounds_toArray, List.set_cons_zero, List.set_cons_succ]
      refine anyU_take (i := 3) (v := .slice Aa (nthL N.ends k).length ca) rfl (by kernel_rfl) (by kernel_rfl) (by kernel_rfl) (fun _ _ _ h => h) ⟨by rfl, fun w' hS' => (by obtain ⟨s1, s2, s3⟩ := hS'; go_simp)⟩ hS28 ?_
      simp only [List.getElem_toArray, List.getElem_cons_succ, List.getElem_cons_zero, Act.put, List.setIfInBounds_toArray, List.set_cons_zero, List.set_cons_succ]
      refine anyU_ready (rs := [2]) (by kernel_rfl) (by simp) ?_
      refine ReadyU.cons (i := 2) rfl (fun K hK => ?_) ReadyU.nil
      simp only [List.getElem_toArray, List.getElem_cons_succ, List.getElem_cons_zero]
      refine ite_is (by rfl) ?_
      simp [go_sem]
      refine nameA ?_
      intro W29 HW29
      have hg29 : W27.grownBy W29 none := by rw [HW29.out]; exact grown_alloc _ _
      have hz29 : W27.heap.size < W29.heap.size := by rw [HW29.out]; simp
      have HE1 := Lib.hid (show W29.ownsRow W27.heap.size 56 2 (.slice (some ⟨W27.heap.size, 0, none⟩) 0 0) 0 [] by rw [HW29.out]; exact owns_empty _ _ _ _ rfl (Nat.le_refl _))
      clear HW29
      have hs29 := hg29.size
      have HF29 := Lib.hid (HF27.out.still hg29); clear HF27
      have OUT29 := Lib.hid (BoxN.still OUT27.out hg29); clear OUT27
      have VD29 := Lib.hid (IntS.still VD27.out hg29 (by omega)); clear VD27
      have VI29 := Lib.hid (IntS.still VI27.out hg29 (by omega)); clear VI27
      have ROW29 := Lib.hid (EndS.still ROW27.out hg29 (by omega)); clear ROW27
      have ES29 := Lib.hid (OwnES.still ES27.out hg29); clear ES27
      have hS30 : W29.cell? ⟨gO, 0, none⟩ = some (.slice AE rows.length cE) ∧ W29.cell? ⟨gO, 1, none⟩ = some (.slice A8 N.ids.length c8) ∧ W29.cell? ⟨gO, 2, none⟩ = some (.slice A9 N.inputs.length c9) := ⟨OUT29.out.cell 0 (by simp), OUT29.out.cell 1 (by simp), OUT29.out.cell 2 (by simp)⟩
      refine hK.out _ _ ⟨fun _ => hS30, ?_⟩
      clear hK K hS28
      try simp only [List.getElem_toArray, List.getElem_cons_succ, List.getElem_cons_zero, Act.put, List.setIfInBounds_toArray, List.set_cons_zero, List.set_cons_succ]
      refine anyU_ready (rs := [4]) (by kernel_rfl) (by simp) ?_
      refine ReadyU.cons (i := 4) rfl (fun K hK => ?_) ReadyU.nil
      refine step_append_src Try.underlying54 infoEndR rfl (by omega) (by omega) W29 (by rfl) _ (by rfl) HE1.out (by rfl) (flatZ (nthL N.ends k)) (flatZ_length _) (EndS.src ROW29.out rfl) (by rfl) (flatZ_one _) (by omega) (by omega) ?_
      intro v4 W31 ho4 hg31 hat4
      have HEL := Lib.hid HE1.out.lt
      have hs31 := hg31.size
      have HF31 := Lib.hid (HF29.out.grown hg31 (fun g e => by have := HEL.out g e; omega)); clear HF29
      have OUT31 := Lib.hid (BoxN.far OUT29.out hg31 (fun g e => by have := HEL.out g e; omega)); clear OUT29
      have VD31 := Lib.hid (IntS.far VD29.out hg31 (by omega) (fun g e => by have := HEL.out g e; omega)); clear VD29
      have VI31 := Lib.hid (IntS.far VI29.out hg31 (by omega) (fun g e => by have := HEL.out g e; omega)); clear VI29
      have ROW31 := Lib.hid (EndS.far ROW29.out hg31 (by omega) (fun g e => by have := HEL.out g e; omega)); clear ROW29
      have ES31 := Lib.hid (OwnES.farT ES29.out hg31 (fun g e => ⟨by have := HEL.out g e; omega, fun h => by have := HEL.out g e; have := HLE.out g h; omega⟩)); clear ES29
      have HN4 := Lib.hid (EndS.ofOwn (show W31.ownsRow W27.heap.size 56 2 v4 (nthL N.ends k).length (flatZ (nthL N.ends k)) by have h := ho4; rw [Nat.zero_add] at h; exact h))
      have h4s := hg31.size
      clear ho4 hat4 HE1
      obtain ⟨A4, c4, rfl, _, _⟩ := HN4.out.dims
      have hS32 : W31.cell? ⟨gO, 0, none⟩ = some (.slice AE rows.length cE) ∧ W31.cell? ⟨gO, 1, none⟩ = some (.slice A8 N.ids.length c8) ∧ W31.cell? ⟨gO, 2, none⟩ = some (.slice A9 N.inputs.length c9) := ⟨OUT31.out.cell 0 (by simp), OUT31.out.cell 1 (by simp), OUT31.out.cell 2 (by simp)⟩
      refine hK.out _ _ ⟨fun _ => hS32, ?_⟩
      clear hK K hS30
      try simp only [List.getElem_toArray, List.getElem_cons_succ, List.getElem_cons_zero, Act.put, List.setIfInBounds_toArray, List.set_cons_zero, List.set_cons_succ]
      refine anyU_ready (rs := [5]) (by kernel_rfl) (by simp) ?_
      refine ReadyU.cons (i := 5) rfl (fun K hK => ?_) ReadyU.nil
      simp only [List.getElem_toArray, List.getElem_cons_succ, List.getElem_cons_zero]
      refine ite_is (by rfl) ?_
      simp [go_sem]
      refine nameA ?_
      intro W33 HW33
      have hg33 : W31.grownBy W33 none := by rw [HW33.out]; exact grown_alloc _ _
      have hz33 : W31.heap.size < W33.heap.size := by rw [HW33.out]; simp
      have BV := Lib.hid (show BoxN W33 W31.heap.size #[.slice A4 (nthL N.ends k).length c4] 54 by rw [HW33.out]; exact BoxN.new _ _ _)
      clear HW33
      have hs33 := hg33.size
      have HF33 := Lib.hid (HF31.out.still hg33); clear HF31
      have OUT33 := Lib.hid (BoxN.still OUT31.out hg33); clear OUT31
      have VD33 := Lib.hid (IntS.still VD31.out hg33 (by omega)); clear VD31
      have VI33 := Lib.hid (IntS.still VI31.out hg33 (by omega)); clear VI31
      have ES33 := Lib.hid (OwnES.still ES31.out hg33); clear ES31
      have N433 := Lib.hid (EndS.still HN4.out hg33 (by omega)); clear HN4
      have hS34 : W33.cell? ⟨gO, 0, none⟩ = some (.slice AE rows.length cE) ∧ W33.cell? ⟨gO, 1, none⟩ = some (.slice A8 N.ids.length c8) ∧ W33.cell? ⟨gO, 2, none⟩ = some (.slice A9 N.inputs.length c9) := ⟨OUT33.out.cell 0 (by simp), OUT33.out.cell 1 (by simp), OUT33.out.cell 2 (by simp)⟩
      refine hK.out _ _ ⟨fun _ => hS34, ?_⟩
      clear hK K hS32
      try simp only [List.getElem_toArray, List.getElem_cons_succ, List.getElem_cons_zero, Act.put, List.setIfInBounds_toArray, List.set_cons_zero, List.set_cons_succ]
      obtain ⟨vs9, hv9, HOV, HOP⟩ := OwnES.open_ ES33.out
      have hvr : vs9.length ≤ 40 := by have := HCR.out; omega
      have HOV1 := Lib.hid (show W33.ownsRow W25.heap.size 54 1 (.slice AE rows.length cE) vs9.length vs9 from HOV)
      have HOP1 := Lib.hid HOP; clear HOV HOP hv9
      refine anyU_ready (rs := [6]) (by kernel_rfl) (by simp) ?_
      refine ReadyU.cons (i := 6) rfl (fun K hK => ?_) ReadyU.nil
      refine step_append_own2 Try.underlying29 infoRowR rfl (by omega) (by omega) W33 (by rfl) _ (by rfl) HOV1.out (by rfl) _ (owns_box BV.out rfl 0 (Nat.zero_le _)) (by rfl) (by intro u hu; simp only [List.mem_cons, List.not_mem_nil, or_false] at hu; rcases hu with rfl; rfl) (by omega) (by omega) ?_
      intro v6 W35 ho6 hg35 hat6
      have hs35 := hg35.size
      have HF35 := Lib.hid (HF33.out.grown hg35 (fun g e => by have := HLE.out g e; omega)); clear HF33
      have OUT35 := Lib.hid (BoxN.far OUT33.out hg35 (fun g e => by have := HLE.out g e; omega)); clear OUT33
      have VD35 := Lib.hid (IntS.far VD33.out hg35 (by omega) (fun g e => by have := HLE.out g e; omega)); clear VD33
      have VI35 := Lib.hid (IntS.far VI33.out hg35 (by omega) (fun g e => by have := HLE.out g e; omega)); clear VI33
      have h6s := hg35.size
      have HO6 := Lib.hid (HOP1.out W35 v6 (.slice A4 (nthL N.ends k).length c4) (nthL N.ends k) W27.heap.size W31.heap.size N433.out (by omega) (by omega) (by omega) (fun g e => .inl (by have := HLE.out g e; omega)) ho6 hg35 hat6)
      rw [← HTK.out] at HO6
      obtain ⟨A6, c6, hq6, _⟩ := HO6.out.len
      have hl6 : (N.ends.take (k + 1)).length = k + 1 := by rw [List.length_take]; omega
      rw [hl6] at hq6
      subst hq6
      clear hl6 ho6 hat6 HOV1 HOP1 BV
      have hS36 : W35.cell? ⟨gO, 0, none⟩ = some (.slice AE rows.length cE) ∧ W35.cell? ⟨gO, 1, none⟩ = some (.slice A8 N.ids.length c8) ∧ W35.cell? ⟨gO, 2, none⟩ = some (.slice A9 N.inputs.length c9) := ⟨OUT35.out.cell 0 (by simp), OUT35.out.cell 1 (by simp), OUT35.out.cell 2 (by simp)⟩
      refine hK.out _ _ ⟨fun _ => hS36, ?_⟩
      clear hK K hS34
      try simp only [List.getElem_toArray, List.getElem_cons_succ, List.getElem_cons_zero, Act.put, List.setIfInBounds_toArray, List.set_cons_zero, List.set_cons_succ]
      refine anyU_take (i := 7) (v := .pointer (some ⟨gO, 0, none⟩)) rfl (by kernel_rfl) (by kernel_rfl) (by kernel_rfl) (fun _ _ _ h => h) ⟨by rfl, fun w' hS' => (by obtain ⟨s1, s2, s3⟩ := hS'; go_simp)⟩ hS36 ?_
      simp only [List.getElem_toArray, List.getElem_cons_succ, List.getElem_cons_zero, Act.put, List.setIfInBounds_toArray, List.set_cons_zero, List.set_cons_succ]
      have kd1 : W35.cell? ⟨gO, 0, none⟩ = some (.slice AE rows.length cE) := OUT35.out.cell 0 (by simp)
      have kdf := OUT35.out.frozen 0
      refine anyU_ready (rs := [8]) (by kernel_rfl) (by simp) ?_
      refine ReadyU.cons (i := 8) rfl (fun K hK => ?_) ReadyU.nil
      simp only [List.getElem_toArray, List.getElem_cons_succ, List.getElem_cons_zero]
      refine ite_is (by rfl) ?_
      simp [go_sem, kd1, kdf]
      refine hK.out _ _ ⟨fun h => absurd h (by decide), ?_⟩
      clear hK K
      try simp only [List.getElem_toArray, List.getElem_cons_succ, List.getElem_cons_zero, Act.put, List.setIfInBounds_toArray, List.set_cons_zero, List.set_cons_succ]
      refine nameU ?_
      intro W37 HW37
      have hg37 : W35.grownBy W37 (some gO) := by rw [HW37.out]; exact grown_set _ ⟨gO, 0, none⟩ _
      have hs37 := hg37.size
      have HF37 := Lib.hid (HF35.out.grown hg37 (fun g e => by cases e; omega)); clear HF35
      have VD37 := Lib.hid (IntS.far VD35.out hg37 (by omega) (fun g e => by cases e; omega)); clear VD35
      have VI37 := Lib.hid (IntS.far VI35.out hg37 (by omega) (fun g e => by cases e; omega)); clear VI35
      have OUT37 := Lib.hid (show BoxN W37 gO #[.slice A6 (k + 1) c6, .slice A8 N.ids.length c8, .slice A9 N.inputs.length c9] 31 by rw [HW37.out]; exact OUT35.out.set 0 _)
      have HO8 := Lib.hid (OwnES.far HO6.out hg37 (fun g e => by cases e; omega))
      clear HW37 kd1 kdf OUT35 HO6
      clear hS36
      refine anyU_done (by kernel_rfl) ?_ _
      go_wp2_with fail
      go_roundw
      case rel => exact ⟨k + 1, .slice A6 (k + 1) c6, W31.heap.size, by omega, by go_num, OUT37, HO8, VD37, VI37, by omega, HF37⟩
      case measure => simp [intOf]; omega

end Go.Proofs.Ytmdlginjblnfoaa

/- Contract: neRenumber (reference). -/
namespace Go.Proofs.Ytmdlginjblnfoaa
open Go.ChangeShapes Go.WideShapes Go.ChangeAt Go.RowKit
set_option linter.unusedVariables false

set_option maxHeartbeats 16000000 in
set_option maxRecDepth 100000 in
theorem neRenumber_any (v1 : Value) (N : NetD) (lo1 hi1 : Nat) (v2 : Value) (p : List Int) (lo2 hi2 : Nat) (w : World) (h1 : Net w lo1 hi1 v1 N) (hh1 : hi1 ≤ w.heap.size) (h2 : IntS w lo2 hi2 v2 p) (hh2 : hi2 ≤ w.heap.size) (hg : N.good = true) (hp : p.length = N.ends.length) (hpv : ∀ j, j < N.ends.length → ∃ t : Nat, nth p j = t ∧ t < N.ends.length) :
    Calls Try.prog 43 #[v1, v2] w fun e w' => ∃ r, e = .returned (r) ∧ NetZ w' w.heap.size w'.heap.size r (renN N p) ∧ Below w.heap.size w w' := by
  obtain ⟨n1, n40⟩ := good_n hg
  have HG := Lib.hid hg; clear hg
  have HNN := Lib.hid (good_insl HG.out); have HNI := Lib.hid (good_idsl HG.out); have HPV := Lib.hid hpv; have HPL := Lib.hid hp; clear hpv hp
  have F1 := Lib.hid h1
  obtain ⟨A1, c1, A1', c1', A1'', c1'', rfl, hc1, hd1, _⟩ := h1.parts
  obtain ⟨b1, o1, _, _, rfl, _⟩ := Net.rowAt F1.out (u := 0) (by omega)
  clear h1
  have F2 := Lib.hid h2
  obtain ⟨A2, c2, rfl, hc2, hd2⟩ := h2.dims
  clear h2
  obtain ⟨WA, HWA⟩ : ∃ W, Hid (W = ((w.alloc (.cells #[.slice (some ⟨b1, o1, none⟩) N.ends.length c1, .slice A1' N.ids.length c1', .slice A1'' N.inputs.length c1''] 31)).alloc (.cells #[.slice none 0 0, .slice none 0 0, .slice none 0 0] 31))) := ⟨_, Lib.hid rfl⟩
  have hbA : Below w.heap.size w WA := by rw [HWA.out]; exact (((Below.refl _ _).alloc (Nat.le_refl _) _).alloc (by simp; try omega) _)
  have hsA : w.heap.size + 2 ≤ WA.heap.size := by rw [HWA.out]; simp; try omega
  have bx1 : BoxN WA (w.heap.size) #[.slice (some ⟨b1, o1, none⟩) N.ends.length c1, .slice A1' N.ids.length c1', .slice A1'' N.inputs.length c1''] 31 := by rw [HWA.out]; exact ((BoxN.new' _ _ _ (by simp)).still (grown_alloc _ _))
  have bxx0 : BoxN WA (w.heap.size + 1) #[.slice none 0 0, .slice none 0 0, .slice none 0 0] 31 := by rw [HWA.out]; exact (BoxN.new' _ _ _ (by simp))
  have G1 := Lib.hid (Net.below F1.out hbA hh1); clear F1
  have G2 := Lib.hid (IntS.below F2.out hbA hh2); clear F2
  go_enter Try.func43, Try.ntmps43
  go_upto_region 1 with (fail)
  rw [← HWA.out]; clear HWA
  have kbx1_0 : WA.cell? ⟨w.heap.size, 0, none⟩ = some (.slice (some ⟨b1, o1, none⟩) N.ends.length c1) := bx1.cell 0 (by simp)
  have kbx1_1 : WA.cell? ⟨w.heap.size, 1, none⟩ = some (.slice A1' N.ids.length c1') := bx1.cell 1 (by simp)
  have kbx1_2 : WA.cell? ⟨w.heap.size, 2, none⟩ = some (.slice A1'' N.inputs.length c1'') := bx1.cell 2 (by simp)
  go_wp2_with fail
  clear kbx1_0 kbx1_1 kbx1_2
  refine (neOwn_any _ N lo1 hi1 _ G1.out (by omega) HG.out).mono ?_
  rintro e W1 ⟨d1, d2, d3, i2, gT, c8, c9, cE, A8, A9, rfl, hcE, hcE2, hR1, hb1⟩
  have hg1 := grown_below hb1; clear hb1
  have hs1 := hg1.size
  have HF1 := Lib.hid ((Turned.refl WA.heap.size WA.heap.size WA).still hg1)
  have HR1 := Lib.hid hR1; clear hR1
  obtain ⟨b9, o9, e9, hb9, hb9', _, _⟩ := HR1.out.ins.opened (j := 0) (by have := HNN.out; omega)
  subst e9
  unfold maxLen at hcE2
  have hgTO := HR1.out.g2; have hi2O := HR1.out.o4
  go_upto_region 2 with (fail)
  refine nameC ?_
  intro W2 HW2
  have hg2 : W1.grownBy W2 none := by rw [HW2.out]; exact grown_alloc _ _
  have hs2 := hg2.size
  have HF2 := Lib.hid (HF1.out.still hg2); clear HF1
  have R2 := Lib.hid (RN.still HR1.out hg2); clear HR1
  have OUT2 := Lib.hid (show BoxN W2 W1.heap.size #[.slice (some ⟨gT, 0, none⟩) N.ends.length cE, .slice A8 N.ids.length c8, .slice (some ⟨b9, o9, none⟩) N.inputs.length c9] 31 by rw [HW2.out]; exact BoxN.new _ _ _)
  clear HW2
  obtain ⟨gO, hgO⟩ : ∃ g : Nat, g = W1.heap.size := ⟨_, rfl⟩
  rw [← hgO] at OUT2 hgTO hi2O ⊢
  have hgOl : gO < W2.heap.size := OUT2.out.lt
  have hgOb : WA.heap.size ≤ gO := by omega
  clear hgO
  have kbx1_0 : W2.cell? ⟨w.heap.size, 0, none⟩ = some (.slice (some ⟨b1, o1, none⟩) N.ends.length c1) := (HF2.out.boxN bx1 (by omega)).cell 0 (by simp)
  have kbx1_1 : W2.cell? ⟨w.heap.size, 1, none⟩ = some (.slice A1' N.ids.length c1') := (HF2.out.boxN bx1 (by omega)).cell 1 (by simp)
  have kbx1_2 : W2.cell? ⟨w.heap.size, 2, none⟩ = some (.slice A1'' N.inputs.length c1'') := (HF2.out.boxN bx1 (by omega)).cell 2 (by simp)
  go_wp2_with fail
  clear kbx1_0 kbx1_1 kbx1_2
  go_loopw [16] (fun kv wr => ∃ (k : Nat), k ≤ N.ends.length ∧ kv = .int .i64 k ∧ Hid (BoxN wr gO #[.slice (some ⟨gT, 0, none⟩) N.ends.length cE, .slice A8 N.ids.length c8, .slice (some ⟨b9, o9, none⟩) N.inputs.length c9] 31) ∧ Hid (RN wr WA.heap.size d1 d2 d3 i2 wr.heap.size gT (.slice (some ⟨gT, 0, none⟩) N.ends.length cE) (.slice A8 N.ids.length c8) (.slice (some ⟨b9, o9, none⟩) N.inputs.length c9) (renTo N p k)) ∧ Hid (Turned WA.heap.size WA.heap.size WA wr)) (fun kv _ => N.ends.length - (intOf kv).toNat)
  case atStart => exact ⟨0, Nat.zero_le _, rfl, OUT2, Lib.hid (RN.up R2.out (by omega) (Nat.le_refl _)), HF2⟩
  case round =>
    clear HF2
    obtain ⟨k, hk, rfl, HB, HR, HF3⟩ := hrel
    have hs3 := HF3.out.size
    obtain ⟨wt, rfl⟩ : ∃ wt : World, wt = wr := ⟨_, rfl⟩
    by_cases hkn : k < N.ends.length
    case neg =>
      obtain rfl : k = N.ends.length := by omega
      have ko0 : wt.cell? ⟨gO, 0, none⟩ = some (.slice (some ⟨gT, 0, none⟩) N.ends.length cE) := HB.out.cell 0 (by simp)
      have ko1 : wt.cell? ⟨gO, 1, none⟩ = some (.slice A8 N.ids.length c8) := HB.out.cell 1 (by simp)
      have ko2 : wt.cell? ⟨gO, 2, none⟩ = some (.slice (some ⟨b9, o9, none⟩) N.inputs.length c9) := HB.out.cell 2 (by simp)
      have HBR := Lib.hid (HF3.out.boxN bxx0 (by omega))
      have kr0 : wt.cell? ⟨w.heap.size + 1, 0, none⟩ = some (.slice none 0 0) := HBR.out.cell 0 (by simp)
      have kr1 : wt.cell? ⟨w.heap.size + 1, 1, none⟩ = some (.slice none 0 0) := HBR.out.cell 1 (by simp)
      have kr2 : wt.cell? ⟨w.heap.size + 1, 2, none⟩ = some (.slice none 0 0) := HBR.out.cell 2 (by simp)
      have kf0 := HBR.out.frozen 0
      have kf1 := HBR.out.frozen 1
      have kf2 := HBR.out.frozen 2
      go_wp2_with fail
      ((try simp only [Exit.inBlock, Exit.then]); refine bodyPost_ret (results_cell1 rfl _ _ _ rfl (load_net (((HBR.out.set 0 (.slice (some ⟨gT, 0, none⟩) N.ends.length cE)).set 1 (.slice A8 N.ids.length c8)).set 2 (.slice (some ⟨b9, o9, none⟩) N.inputs.length c9)))) rfl ?_)
      have hg9 : wt.grownBy (((wt.setCell ⟨w.heap.size + 1, 0, none⟩ (.slice (some ⟨gT, 0, none⟩) N.ends.length cE)).setCell ⟨w.heap.size + 1, 1, none⟩ (.slice A8 N.ids.length c8)).setCell ⟨w.heap.size + 1, 2, none⟩ (.slice (some ⟨b9, o9, none⟩) N.inputs.length c9)) (some (w.heap.size + 1)) := grownBy_setCell (p := ⟨w.heap.size + 1, 2, none⟩) (grownBy_setCell (p := ⟨w.heap.size + 1, 1, none⟩) (grown_set wt ⟨w.heap.size + 1, 0, none⟩ _) rfl _) rfl _
      refine ⟨_, rfl, ?_, ((HF3.out.below_of hbA (by omega) (by omega)).grown hg9 (by omega) fun g e => by cases e; omega)⟩
      exact ⟨_, _, _, _, _, _, _, _, rfl, RN.up (RN.weak (RN.far HR.out hg9 (fun k e => by cases e; omega)) (by omega)) hg9.size (Nat.le_refl _)⟩
    have hki : (k : Int) < N.ends.length := by omega
    have hd6 := good_deg HG.out hkn
    obtain ⟨q, hq, hqn⟩ := HPV.out k hkn
    have HQ := Lib.hid hq; clear hq
    have HGT := Lib.hid HR.out.g2; have HGA := Lib.hid HR.out.g1; have hi2w := HR.out.o4; have hd1w := HR.out.o1; have hd2w := HR.out.o2; have hd3w := HR.out.o3; have hd5w := HR.out.o5
    have hgtw := HGT.out; have hgaw := HGA.out
    obtain ⟨bP, oP, eP, _, hbP, xP, _⟩ := ((IntS.turned G2.out HF3.out (by omega) (by omega))).opened (j := k) (by rw [HPL.out]; exact hkn)
    subst eP
    rw [HQ.out] at xP
    clear xP
    obtain ⟨Aa, ca, hba, qa, hca, hda, hRa⟩ := Net.rowIn G1.out hkn
    replace qa := (HF3.out.cell (by omega) (by omega)).trans qa
    have Ra := Lib.hid hRa; clear hRa
    go_wp2_with fail
    clear qa
    have HRA := Lib.hid (EndS.turned Ra.out HF3.out (by omega) (by omega))
    go_loopw [23, 8] (fun mv ov wr => ∃ (m : Nat), m ≤ (nthL N.ends k).length ∧ mv = .int .i64 m ∧ Hid (OwnE wr wt.heap.size 56 ov (renP N p k m)) ∧ Hid (Below wt.heap.size wt wr)) (fun mv ov _ => (nthL N.ends k).length - (intOf mv).toNat)
    case atStart => exact ⟨0, Nat.zero_le _, rfl, Lib.hid (by simp only [renP, List.take_zero, List.map_nil]; exact OwnE.nil _ _ _), Lib.hid (Below.refl _ _)⟩
    case round =>
      obtain ⟨m, hm, rfl, HOE, HBW⟩ := hrel
      obtain ⟨wu, rfl⟩ : ∃ wu : World, wu = wr := ⟨_, rfl⟩
      have hsu := HBW.out.size
      have hpl := renP_len N p k m
      obtain ⟨Au, cu, rfl, hcu, hdu⟩ := HOE.out.len
      by_cases hml : m < (nthL N.ends k).length
      case pos =>
        have hmi : (m : Int) < (nthL N.ends k).length := by omega
        obtain ⟨be, oe, rfl, _, _, xe, xe'⟩ := (EndS.below HRA.out HBW.out (by omega)).opened hml
        obtain ⟨t, r, et, ht, hr, eu⟩ := good_end HG.out hkn hml
        rw [et] at xe xe'
        dsimp only at xe xe'
        obtain ⟨s, hs0, hsn⟩ := HPV.out t ht
        have HKS := Lib.hid (renP_succ hml et hs0)
        have HSV := Lib.hid hs0; clear hs0 et eu
        have hrd := good_deg HG.out ht
        have hapE := Lib.hid HOE.out.lt
        go_upto_region 9 with (fail)
        refine nameC ?_
        intro W5 HW5
        have hg5 : wu.grownBy W5 none := by rw [HW5.out]; exact grown_alloc _ _
        have hs5 := hg5.size
        have BE := Lib.hid (show BoxN W5 wu.heap.size #[.int .i64 t, .int .i64 r] 56 by rw [HW5.out]; exact BoxN.new _ _ _)
        clear HW5 xe xe'
        have HB2 := Lib.hid (HBW.out.trans ((grown_to_below hg5).mono (by omega)))
        have HO2 := Lib.hid (OwnE.still HOE.out hg5)
        clear HOE hg5 HBW
        have z4 := (IntS.at_ (IntS.below (IntS.turned G2.out HF3.out (by omega) (by omega)) HB2.out (by omega)) (j := t) (by rw [HPL.out]; exact ht)).1
        rw [HSV.out] at z4
        have T2 := Lib.hid (show CellH W5 ⟨bP, oP + t, none⟩ (.int .i64 (s : Nat)) from ⟨z4, by show bP < _; omega⟩)
        have htp : (t : Int) < p.length := by rw [HPL.out]; omega
        clear z4
        obtain ⟨l, HLL⟩ : ∃ l, Hid (renP N p k m = l) := ⟨_, Lib.hid rfl⟩
        rw [HLL.out] at HO2 HKS hpl hapE hcu
        rw [HLL.out]
        refine wp_region_U (fun w' => w'.cell? ⟨wu.heap.size, 0, none⟩ = some (.int .i64 t) ∧ w'.cell? ⟨wu.heap.size, 1, none⟩ = some (.int .i64 r) ∧ w'.cell? ⟨bP, oP + t, none⟩ = some (.int .i64 (s : Nat))) [] (by kernel_rfl) ?_
        refine nameU ?_
        intro W6 HW6
        have hg6 : W5.grownBy W6 none := by rw [HW6.out]; exact grown_drew _
        clear HW6
        have hs6 := hg6.size
        have HF6 := Lib.hid ((Turned.refl W5.heap.size W5.heap.size W5).still hg6)
        have BE6 := Lib.hid (BoxN.still BE.out hg6); clear BE
        have T26 := Lib.hid (CellH.still T2.out hg6); clear T2
        have OW6 := Lib.hid (OwnE.still HO2.out hg6); clear HO2
        have hS7 : W6.cell? ⟨wu.heap.size, 0, none⟩ = some (.int .i64 t) ∧ W6.cell? ⟨wu.heap.size, 1, none⟩ = some (.int .i64 r) ∧ W6.cell? ⟨bP, oP + t, none⟩ = some (.int .i64 (s : Nat)) := ⟨BE6.out.cell 0 (by simp), BE6.out.cell 1 (by simp), T26.out.cell⟩
        refine anyU_take (i := 0) (v := .slice Au l.length cu) rfl (by kernel_rfl) (by kernel_rfl) (by kernel_rfl) (fun _ _ _ h => h) ⟨by rfl, fun w' hS' => (by obtain ⟨s1, s2, s3⟩ := hS'; go_simp)⟩ hS7 ?_
        simp only [List.getElem_toArray, List.getElem_cons_zero, Act.put, List.setIfInBounds_toArray, List.set_cons_zero, List.set_cons_succ]
        refine anyU_take (i := 1) (v := .slice (some ⟨bP, oP, none⟩) p.length c2) rfl (by kernel_rfl) (by kernel_rfl) (by kernel_rfl) (fun _ _ _ h => h) ⟨by rfl, fun w' hS' => (by obtain ⟨s1, s2, s3⟩ := hS'; go_simp)⟩ hS7 ?_
        simp only [List.getElem_toArray, List.getElem_cons_succ, List.getElem_cons_zero, Act.put, List.setIfInBounds_toArray, List.set_cons_zero, List.set_cons_succ]
        refine anyU_take (i := 2) (v := .pointer (some ⟨wu.heap.size, 0, none⟩)) rfl (by kernel_rfl) (by kernel_rfl) (by kernel_rfl) (fun _ _ _ h => h) ⟨by rfl, fun w' hS' => (by obtain ⟨s1, s2, s3⟩ := hS'; go_simp)⟩ hS7 ?_
        simp only [List.getElem_toArray, List.getElem_cons_succ, List.getElem_cons_zero, Act.put, List.setIfInBounds_toArray, List.set_cons_zero, List.set_cons_succ]
        refine anyU_take (i := 3) (v := .int .i64 t) rfl (by kernel_rfl) (by kernel_rfl) (by kernel_rfl) (fun _ _ _ h => h) ⟨by rfl, fun w' hS' => (by obtain ⟨s1, s2, s3⟩ := hS'; go_simp)⟩ hS7 ?_
        simp only [List.getElem_toArray, List.getElem_cons_succ, List.getElem_cons_zero, Act.put, List.setIfInBounds_toArray, List.set_cons_zero, List.set_cons_succ]
        refine anyU_take (i := 4) (v := .pointer (some ⟨bP, oP + t, none⟩)) rfl (by kernel_rfl) (by kernel_rfl) (by kernel_rfl) (fun _ _ _ h => h) ⟨by rfl, fun w' hS' => (by obtain ⟨s1, s2, s3⟩ := hS'; simp [go_sem, htp])⟩ hS7 ?_
        simp only [List.getElem_toArray, List.getElem_cons_succ, List.getElem_cons_zero, Act.put, List.setIfInBounds_toArray, List.set_cons_zero, List.set_cons_succ]
        refine anyU_take (i := 5) (v := .int .i64 (s : Nat)) rfl (by kernel_rfl) (by kernel_rfl) (by kernel_rfl) (fun _ _ _ h => h) ⟨by rfl, fun w' hS' => (by obtain ⟨s1, s2, s3⟩ := hS'; go_simp)⟩ hS7 ?_
        simp only [List.getElem_toArray, List.getElem_cons_succ, List.getElem_cons_zero, Act.put, List.setIfInBounds_toArray, List.set_cons_zero, List.set_cons_succ]
        refine anyU_take (i := 6) (v := .pointer (some ⟨wu.heap.size, 1, none⟩)) rfl (by kernel_rfl) (by kernel_rfl) (by kernel_rfl) (fun _ _ _ h => h) ⟨by rfl, fun w' hS' => (by obtain ⟨s1, s2, s3⟩ := hS'; go_simp)⟩ hS7 ?_
        simp only [List.getElem_toArray, List.getElem_cons_succ, List.getElem_cons_zero, Act.put, List.setIfInBounds_toArray, List.set_cons_zero, List.set_cons_succ]
        refine anyU_take (i := 7) (v := .int .i64 r) rfl (by kernel_rfl) (by kernel_rfl) (by kernel_rfl) (fun _ _ _ h => h) ⟨by rfl, fun w' hS' => (by obtain ⟨s1, s2, s3⟩ := hS'; go_simp)⟩ hS7 ?_
        simp only [List.getElem_toArray, List.getElem_cons_succ, List.getElem_cons_zero, Act.put, List.setIfInBounds_toArray, List.set_cons_zero, List.set_cons_succ]
        refine anyU_take (i := 8) (v := .agg #[.int .i64 (s : Nat), .int .i64 r]) rfl (by kernel_rfl) (by kernel_rfl) (by kernel_rfl) (fun _ _ _ h => h) ⟨by rfl, fun w' hS' => (by obtain ⟨s1, s2, s3⟩ := hS'; go_simp)⟩ hS7 ?_
        simp only [List.getElem_toArray, List.getElem_cons_succ, List.getElem_cons_zero, Act.put, List.setIfInBounds_toArray, List.set_cons_zero, List.set_cons_succ]
        refine anyU_ready (rs := [9]) (by kernel_rfl) (by simp) ?_
        refine ReadyU.cons (i := 9) rfl (fun K hK => ?_) ReadyU.nil
        simp only [List.getElem_toArray, List.getElem_cons_succ, List.getElem_cons_zero]
        refine ite_is (by rfl) ?_
        simp [go_sem]
        refine nameA ?_
        intro W8 HW8
        have hg8 : W6.grownBy W8 none := by rw [HW8.out]; exact grown_alloc _ _
        have BV := Lib.hid (show BoxN W8 W6.heap.size #[.int .i64 (s : Nat), .int .i64 r] 56 by rw [HW8.out]; exact BoxN.new _ _ _)
        have hz8 : W6.heap.size < W8.heap.size := BV.out.lt
        clear HW8
        have hs8 := hg8.size
        have HF8 := Lib.hid (HF6.out.still hg8); clear HF6
        have BE8 := Lib.hid (BoxN.still BE6.out hg8); clear BE6
        have T28 := Lib.hid (CellH.still T26.out hg8); clear T26
        have OW8 := Lib.hid (OwnE.still OW6.out hg8); clear OW6
        have hS9 : W8.cell? ⟨wu.heap.size, 0, none⟩ = some (.int .i64 t) ∧ W8.cell? ⟨wu.heap.size, 1, none⟩ = some (.int .i64 r) ∧ W8.cell? ⟨bP, oP + t, none⟩ = some (.int .i64 (s : Nat)) := ⟨BE8.out.cell 0 (by simp), BE8.out.cell 1 (by simp), T28.out.cell⟩
        refine hK.out _ _ ⟨fun _ => hS9, ?_⟩
        clear hK K hS7
        try simp only [List.getElem_toArray, List.getElem_cons_succ, List.getElem_cons_zero, Act.put, List.setIfInBounds_toArray, List.set_cons_zero, List.set_cons_succ]
        refine anyU_ready (rs := [10]) (by kernel_rfl) (by simp) ?_
        refine ReadyU.cons (i := 10) rfl (fun K hK => ?_) ReadyU.nil
        refine step_append_own2 Try.underlying54 infoEndR rfl (by omega) (by omega) W8 (by rfl) _ (by rfl) OW8.out (by rfl) _ (owns_box BV.out rfl 0 (Nat.zero_le _)) (by rfl) (by intro u hu; simp only [List.mem_cons, List.not_mem_nil, or_false] at hu; rcases hu with rfl | rfl <;> rfl) (by omega) (by omega) ?_
        intro v5 W10 ho5 hg10 hat5
        have hs10 := hg10.size
        have BE10 := Lib.hid (BoxN.far BE8.out hg10 (fun g e => by have := hapE.out g e; omega))
        have T210 := Lib.hid (CellH.far T28.out hg10 (fun g e => by have := hapE.out g e; show g ≠ bP; omega))
        have HO5 := Lib.hid (show OwnE W10 wt.heap.size 56 v5 (l ++ [(s, r)]) by unfold OwnE; rw [flatP_snoc, List.length_append]; exact ho5)
        have HB5 := Lib.hid ((HF8.out.below_of HB2.out (by omega) (by omega)).grown hg10 (by omega) fun g e => by have := hapE.out g e; omega)
        clear ho5 hat5
        have hS11 : W10.cell? ⟨wu.heap.size, 0, none⟩ = some (.int .i64 t) ∧ W10.cell? ⟨wu.heap.size, 1, none⟩ = some (.int .i64 r) ∧ W10.cell? ⟨bP, oP + t, none⟩ = some (.int .i64 (s : Nat)) := ⟨BE10.out.cell 0 (by simp), BE10.out.cell 1 (by simp), T210.out.cell⟩
        refine hK.out _ _ ⟨fun _ => hS11, ?_⟩
        clear hK K hS9
        try simp only [List.getElem_toArray, List.getElem_cons_succ, List.getElem_cons_zero, Act.put, List.setIfInBounds_toArray, List.set_cons_zero, List.set_cons_succ]
        refine anyU_ready (rs := [11]) (by kernel_rfl) (by simp) ?_
        refine ReadyU.cons (i := 11) rfl (fun K hK => ?_) ReadyU.nil
        simp only [List.getElem_toArray, List.getElem_cons_succ, List.getElem_cons_zero]
        refine ite_is (by rfl) ?_
        simp [go_sem]
        refine hK.out _ _ ⟨fun _ => hS11, ?_⟩
        clear hK K
        try simp only [List.getElem_toArray, List.getElem_cons_succ, List.getElem_cons_zero, Act.put, List.setIfInBounds_toArray, List.set_cons_zero, List.set_cons_succ]
        clear hS11
        refine anyU_done (by kernel_rfl) ?_ _
        go_wp2_with fail
        go_roundw
        case rel => exact ⟨m + 1, by omega, by go_num, Lib.hid (by rw [HKS.out]; exact HO5.out), HB5⟩
        case measure => simp [intOf]; omega
      obtain rfl : m = (nthL N.ends k).length := by omega
      have HRPA := Lib.hid (renP_all (p := p) HG.out HPV.out hkn)
      have HRPL := Lib.hid (show (renP N p k (nthL N.ends k).length).length = (nthL N.ends k).length by rw [← castL_length, HRPA.out, mapEnds_len])
      have HLV := Lib.hid (show EndS wu wt.heap.size wu.heap.size (.slice Au (renP N p k (nthL N.ends k).length).length cu) (mapEnds p (nthL N.ends k)) by rw [← HRPA.out]; exact HOE.out.ends)
      rw [HRPL.out] at HLV hcu ⊢
      clear HOE HRPA
      have HRL9 := Lib.hid (show rowOf (mapEnds p (nthL N.ends k)).length (.slice Au (nthL N.ends k).length cu) = none ∨ rowOf (mapEnds p (nthL N.ends k)).length (.slice Au (nthL N.ends k).length cu) ≠ some gT by
        rcases Sl.row HLV.out with h | ⟨b, h, h1, h2⟩
        · exact .inl h
        · right; rw [h]; intro e; injection e with e; omega)
      have HF20 := Lib.hid (HF3.out.still (grown_below HBW.out))
      have OUT20 := Lib.hid (BoxN.still HB.out (grown_below HBW.out))
      have R20 := Lib.hid (RN.below HR.out (HBW.out.mono (by omega)))
      have xP := ((IntS.below (IntS.turned G2.out HF3.out (by omega) (by omega)) HBW.out (by omega)).at_ (j := k) (by rw [HPL.out]; exact hkn)).1
      rw [HQ.out] at xP
      have PC20 := Lib.hid (show CellH wu ⟨bP, oP + k, none⟩ (.int .i64 (q : Nat)) from ⟨xP, by show bP < _; omega⟩)
      clear xP HB HR HF3
      go_wp2_with fail
      have hqi : (q : Int) < N.ends.length := by omega
      have hkp : (k : Int) < p.length := by rw [HPL.out]; exact hki
      obtain ⟨rl1, rl2, rl3⟩ := renTo_len N p k
      have HRL1 := Lib.hid rl1; have HRL2 := Lib.hid rl2; have HRL3 := Lib.hid rl3; clear rl1 rl2 rl3
      refine wp_region_U (fun w' => w'.cell? ⟨gO, 0, none⟩ = some (.slice (some ⟨gT, 0, none⟩) N.ends.length cE) ∧ w'.cell? ⟨gO, 1, none⟩ = some (.slice A8 N.ids.length c8) ∧ w'.cell? ⟨gO, 2, none⟩ = some (.slice (some ⟨b9, o9, none⟩) N.inputs.length c9) ∧ w'.cell? ⟨bP, oP + k, none⟩ = some (.int .i64 (q : Nat))) [8] (by kernel_rfl) ?_
      refine nameU ?_
      intro W31 HW31
      have hg31 : wu.grownBy W31 none := by rw [HW31.out]; exact grown_drew _
      clear HW31
      have hs31 := hg31.size
      have HF31 := Lib.hid (HF20.out.still hg31); clear HF20
      have OUT31 := Lib.hid (BoxN.still OUT20.out hg31); clear OUT20
      have R31 := Lib.hid (RN.still R20.out hg31); clear R20
      have PC31 := Lib.hid (CellH.still PC20.out hg31); clear PC20
      have LV31 := Lib.hid (EndS.still HLV.out hg31 (by omega)); clear HLV
      have hS32 : W31.cell? ⟨gO, 0, none⟩ = some (.slice (some ⟨gT, 0, none⟩) N.ends.length cE) ∧ W31.cell? ⟨gO, 1, none⟩ = some (.slice A8 N.ids.length c8) ∧ W31.cell? ⟨gO, 2, none⟩ = some (.slice (some ⟨b9, o9, none⟩) N.inputs.length c9) ∧ W31.cell? ⟨bP, oP + k, none⟩ = some (.int .i64 (q : Nat)) := ⟨OUT31.out.cell 0 (by simp), OUT31.out.cell 1 (by simp), OUT31.out.cell 2 (by simp), PC31.out.cell⟩
      refine anyU_take (i := 0) (v := .pointer (some ⟨gO, 0, none⟩)) rfl (by kernel_rfl) (by kernel_rfl) (by kernel_rfl) (fun _ _ _ h => h) ⟨by rfl, fun w' hS' => (by obtain ⟨s1, s2, s3, s4⟩ := hS'; go_simp)⟩ hS32 ?_
      simp only [List.getElem_toArray, List.getElem_cons_zero, Act.put, List.setIfInBounds_toArray, List.set_cons_zero, List.set_cons_succ]
      refine anyU_take (i := 1) (v := .slice (some ⟨gT, 0, none⟩) N.ends.length cE) rfl (by kernel_rfl) (by kernel_rfl) (by kernel_rfl) (fun _ _ _ h => h) ⟨by rfl, fun w' hS' => (by obtain ⟨s1, s2, s3, s4⟩ := hS'; go_simp)⟩ hS32 ?_
      simp only [List.getElem_toArray, List.getElem_cons_succ, List.getElem_cons_zero, Act.put, List.setIfInBounds_toArray, List.set_cons_zero, List.set_cons_succ]
      refine anyU_take (i := 2) (v := .slice (some ⟨bP, oP, none⟩) p.length c2) rfl (by kernel_rfl) (by kernel_rfl) (by kernel_rfl) (fun _ _ _ h => h) ⟨by rfl, fun w' hS' => (by obtain ⟨s1, s2, s3, s4⟩ := hS'; go_simp)⟩ hS32 ?_
      simp only [List.getElem_toArray, List.getElem_cons_succ, List.getElem_cons_zero, Act.put, List.setIfInBounds_toArray, List.set_cons_zero, List.set_cons_succ]
      refine anyU_take (i := 3) (v := .int .i64 k) rfl (by kernel_rfl) (by kernel_rfl) (by kernel_rfl) (fun _ _ _ h => h) ⟨by rfl, fun w' hS' => (by obtain ⟨s1, s2, s3, s4⟩ := hS'; go_simp)⟩ hS32 ?_
      simp only [List.getElem_toArray, List.getElem_cons_succ, List.getElem_cons_zero, Act.put, List.setIfInBounds_toArray, List.set_cons_zero, List.set_cons_succ]
      refine anyU_take (i := 4) (v := .pointer (some ⟨bP, oP + k, none⟩)) rfl (by kernel_rfl) (by kernel_rfl) (by kernel_rfl) (fun _ _ _ h => h) ⟨by rfl, fun w' hS' => (by obtain ⟨s1, s2, s3, s4⟩ := hS'; simp [go_sem, hkp])⟩ hS32 ?_
      simp only [List.getElem_toArray, List.getElem_cons_succ, List.getElem_cons_zero, Act.put, List.setIfInBounds_toArray, List.set_cons_zero, List.set_cons_succ]
      refine anyU_take (i := 5) (v := .int .i64 (q : Nat)) rfl (by kernel_rfl) (by kernel_rfl) (by kernel_rfl) (fun _ _ _ h => h) ⟨by rfl, fun w' hS' => (by obtain ⟨s1, s2, s3, s4⟩ := hS'; go_simp)⟩ hS32 ?_
      simp only [List.getElem_toArray, List.getElem_cons_succ, List.getElem_cons_zero, Act.put, List.setIfInBounds_toArray, List.set_cons_zero, List.set_cons_succ]
      refine anyU_take (i := 6) (v := .slice Au (nthL N.ends k).length cu) rfl (by kernel_rfl) (by kernel_rfl) (by kernel_rfl) (fun _ _ _ h => h) ⟨by rfl, fun w' hS' => (by obtain ⟨s1, s2, s3, s4⟩ := hS'; go_simp)⟩ hS32 ?_
      simp only [List.getElem_toArray, List.getElem_cons_succ, List.getElem_cons_zero, Act.put, List.setIfInBounds_toArray, List.set_cons_zero, List.set_cons_succ]
      refine anyU_take (i := 7) (v := .pointer (some ⟨gT, q, none⟩)) rfl (by kernel_rfl) (by kernel_rfl) (by kernel_rfl) (fun _ _ _ h => h) ⟨by rfl, fun w' hS' => (by obtain ⟨s1, s2, s3, s4⟩ := hS'; simp [go_sem, hqi])⟩ hS32 ?_
      simp only [List.getElem_toArray, List.getElem_cons_succ, List.getElem_cons_zero, Act.put, List.setIfInBounds_toArray, List.set_cons_zero, List.set_cons_succ]
      obtain ⟨xv, z1, z2, z3⟩ := RN.topAt R31.out (a := q) (by rw [HRL1.out]; exact hqn)
      rw [Nat.zero_add] at z1 z3
      obtain ⟨Ax, nx, cx, rfl⟩ := RN.topForm R31.out (a := q) (by rw [HRL1.out]; exact hqn) (by rw [Nat.zero_add]; exact z1)
      have HSE := Lib.hid (RN.setE (a := q) R31.out (by rw [HRL1.out]; exact hqn) (u := .slice Au (nthL N.ends k).length cu) (xs := mapEnds p (nthL N.ends k)) (EndS.mono LV31.out (by omega) (by omega)) HRL9.out)
      rw [Nat.zero_add] at HSE
      refine anyU_ready (rs := [8]) (by kernel_rfl) (by simp) ?_
      refine ReadyU.cons (i := 8) rfl (fun K hK => ?_) ReadyU.nil
      simp only [List.getElem_toArray, List.getElem_cons_succ, List.getElem_cons_zero]
      refine ite_is (by rfl) ?_
      simp [go_sem, z1, z3]
      refine hK.out _ _ ⟨fun h => absurd h (by decide), ?_⟩
      clear hK K
      try simp only [List.getElem_toArray, List.getElem_cons_succ, List.getElem_cons_zero, Act.put, List.setIfInBounds_toArray, List.set_cons_zero, List.set_cons_succ]
      refine nameU ?_
      intro W33 HW33
      have hg33 : W31.grownBy W33 (some gT) := by rw [HW33.out]; exact grown_set _ ⟨gT, _, none⟩ _
      have hs33 := hg33.size
      have HF33 := Lib.hid (HF31.out.grown hg33 (fun g e => .inr (by cases e; omega)))
      have OUT33 := Lib.hid (BoxN.far OUT31.out hg33 (fun g e => by cases e; omega))
      have PC33 := Lib.hid (CellH.far PC31.out hg33 (fun g e => by cases e; show gT ≠ bP; omega))
      have R33 := Lib.hid (show RN W33 WA.heap.size d1 d2 d3 i2 W33.heap.size gT (.slice (some ⟨gT, 0, none⟩) N.ends.length cE) (.slice A8 N.ids.length c8) (.slice (some ⟨b9, o9, none⟩) N.inputs.length c9) ⟨(renTo N p k).ends.set q (mapEnds p (nthL N.ends k)), (renTo N p k).ids, (renTo N p k).inputs⟩ by rw [HW33.out]; exact HSE.out)
      clear HW33 z1 z3 HSE
      clear hS32
      refine anyU_done (by kernel_rfl) ?_ _
      go_wp2_with fail
      have hqin : q < N.inputs.length := by rw [HNN.out]; exact hqn
      have hqii : (q : Int) < N.inputs.length := by omega
      have hkin : k < N.inputs.length := by rw [HNN.out]; exact hkn
      have hkii : (k : Int) < N.inputs.length := by omega
      obtain ⟨bI, oI, eI, _, hbI, xI, _⟩ := (netIns (Net.turned G1.out HF33.out (by omega) (by omega))).opened (j := k) hkin
      subst eI
      obtain ⟨x, HX⟩ : ∃ x, Hid (nth N.inputs k = x) := ⟨_, Lib.hid rfl⟩
      rw [HX.out] at xI
      have XC0 := Lib.hid (show CellH W33 ⟨bI, oI + k, none⟩ (.int .i64 x) from ⟨xI, by show bI < _; omega⟩)
      have hqiin := hqin
      refine wp_region_U (fun w' => w'.cell? ⟨gO, 0, none⟩ = some (.slice (some ⟨gT, 0, none⟩) N.ends.length cE) ∧ w'.cell? ⟨gO, 1, none⟩ = some (.slice A8 N.ids.length c8) ∧ w'.cell? ⟨gO, 2, none⟩ = some (.slice (some ⟨b9, o9, none⟩) N.inputs.length c9) ∧ w'.cell? ⟨w.heap.size, 0, none⟩ = some (.slice (some ⟨b1, o1, none⟩) N.ends.length c1) ∧ w'.cell? ⟨w.heap.size, 1, none⟩ = some (.slice A1' N.ids.length c1') ∧ w'.cell? ⟨w.heap.size, 2, none⟩ = some (.slice (some ⟨bI, oI, none⟩) N.inputs.length c1'') ∧ w'.cell? ⟨bP, oP + k, none⟩ = some (.int .i64 (q : Nat)) ∧ w'.cell? ⟨bI, oI + k, none⟩ = some (.int .i64 x)) [12] (by kernel_rfl) ?_
      refine nameU ?_
      intro W34 HW34
      have hg34 : W33.grownBy W34 none := by rw [HW34.out]; exact grown_drew _
      clear HW34
      have hs34 := hg34.size
      have HF34 := Lib.hid (HF33.out.still hg34); clear HF33
      have OUT34 := Lib.hid (BoxN.still OUT33.out hg34); clear OUT33
      have PC34 := Lib.hid (CellH.still PC33.out hg34); clear PC33
      have R34 := Lib.hid (RN.still R33.out hg34); clear R33
      have XC34 := Lib.hid (CellH.still XC0.out hg34); clear XC0
      have hS35 : W34.cell? ⟨gO, 0, none⟩ = some (.slice (some ⟨gT, 0, none⟩) N.ends.length cE) ∧ W34.cell? ⟨gO, 1, none⟩ = some (.slice A8 N.ids.length c8) ∧ W34.cell? ⟨gO, 2, none⟩ = some (.slice (some ⟨b9, o9, none⟩) N.inputs.length c9) ∧ W34.cell? ⟨w.heap.size, 0, none⟩ = some (.slice (some ⟨b1, o1, none⟩) N.ends.length c1) ∧ W34.cell? ⟨w.heap.size, 1, none⟩ = some (.slice A1' N.ids.length c1') ∧ W34.cell? ⟨w.heap.size, 2, none⟩ = some (.slice (some ⟨bI, oI, none⟩) N.inputs.length c1'') ∧ W34.cell? ⟨bP, oP + k, none⟩ = some (.int .i64 (q : Nat)) ∧ W34.cell? ⟨bI, oI + k, none⟩ = some (.int .i64 x) := ⟨OUT34.out.cell 0 (by simp), OUT34.out.cell 1 (by simp), OUT34.out.cell 2 (by simp), (HF34.out.boxN bx1 (by omega)).cell 0 (by simp), (HF34.out.boxN bx1 (by omega)).cell 1 (by simp), (HF34.out.boxN bx1 (by omega)).cell 2 (by simp), PC34.out.cell, XC34.out.cell⟩
      refine anyU_take (i := 0) (v := .pointer (some ⟨gO, 2, none⟩)) rfl (by kernel_rfl) (by kernel_rfl) (by kernel_rfl) (fun _ _ _ h => h) ⟨by rfl, fun w' hS' => (by obtain ⟨s1, s2, s3, s4, s5, s6, s7, s8⟩ := hS'; go_simp)⟩ hS35 ?_
      simp only [List.getElem_toArray, List.getElem_cons_zero, Act.put, List.setIfInBounds_toArray, List.set_cons_zero, List.set_cons_succ]
      refine anyU_take (i := 1) (v := .slice (some ⟨b9, o9, none⟩) N.inputs.length c9) rfl (by kernel_rfl) (by kernel_rfl) (by kernel_rfl) (fun _ _ _ h => h) ⟨by rfl, fun w' hS' => (by obtain ⟨s1, s2, s3, s4, s5, s6, s7, s8⟩ := hS'; go_simp)⟩ hS35 ?_
      simp only [List.getElem_toArray, List.getElem_cons_succ, List.getElem_cons_zero, Act.put, List.setIfInBounds_toArray, List.set_cons_zero, List.set_cons_succ]
      refine anyU_take (i := 2) (v := .slice (some ⟨bP, oP, none⟩) p.length c2) rfl (by kernel_rfl) (by kernel_rfl) (by kernel_rfl) (fun _ _ _ h => h) ⟨by rfl, fun w' hS' => (by obtain ⟨s1, s2, s3, s4, s5, s6, s7, s8⟩ := hS'; go_simp)⟩ hS35 ?_
      simp only [List.getElem_toArray, List.getElem_cons_succ, List.getElem_cons_zero, Act.put, List.setIfInBounds_toArray, List.set_cons_zero, List.set_cons_succ]
      refine anyU_take (i := 3) (v := .int .i64 k) rfl (by kernel_rfl) (by kernel_rfl) (by kernel_rfl) (fun _ _ _ h => h) ⟨by rfl, fun w' hS' => (by obtain ⟨s1, s2, s3, s4, s5, s6, s7, s8⟩ := hS'; go_simp)⟩ hS35 ?_
      simp only [List.getElem_toArray, List.getElem_cons_succ, List.getElem_cons_zero, Act.put, List.setIfInBounds_toArray, List.set_cons_zero, List.set_cons_succ]
      refine anyU_take (i := 4) (v := .pointer (some ⟨bP, oP + k, none⟩)) rfl (by kernel_rfl) (by kernel_rfl) (by kernel_rfl) (fun _ _ _ h => h) ⟨by rfl, fun w' hS' => (by obtain ⟨s1, s2, s3, s4, s5, s6, s7, s8⟩ := hS'; simp [go_sem, hkp])⟩ hS35 ?_
      simp only [List.getElem_toArray, List.getElem_cons_succ, List.getElem_cons_zero, Act.put, List.setIfInBounds_toArray, List.set_cons_zero, List.set_cons_succ]
      refine anyU_take (i := 5) (v := .int .i64 (q : Nat)) rfl (by kernel_rfl) (by kernel_rfl) (by kernel_rfl) (fun _ _ _ h => h) ⟨by rfl, fun w' hS' => (by obtain ⟨s1, s2, s3, s4, s5, s6, s7, s8⟩ := hS'; go_simp)⟩ hS35 ?_
      simp only [List.getElem_toArray, List.getElem_cons_succ, List.getElem_cons_zero, Act.put, List.setIfInBounds_toArray, List.set_cons_zero, List.set_cons_succ]
      refine anyU_take (i := 6) (v := .pointer (some ⟨w.heap.size, 2, none⟩)) rfl (by kernel_rfl) (by kernel_rfl) (by kernel_rfl) (fun _ _ _ h => h) ⟨by rfl, fun w' hS' => (by obtain ⟨s1, s2, s3, s4, s5, s6, s7, s8⟩ := hS'; go_simp)⟩ hS35 ?_
      simp only [List.getElem_toArray, List.getElem_cons_succ, List.getElem_cons_zero, Act.put, List.setIfInBounds_toArray, List.set_cons_zero, List.set_cons_succ]
      refine anyU_take (i := 7) (v := .slice (some ⟨bI, oI, none⟩) N.inputs.length c1'') rfl (by kernel_rfl) (by kernel_rfl) (by kernel_rfl) (fun _ _ _ h => h) ⟨by rfl, fun w' hS' => (by obtain ⟨s1, s2, s3, s4, s5, s6, s7, s8⟩ := hS'; go_simp)⟩ hS35 ?_
      simp only [List.getElem_toArray, List.getElem_cons_succ, List.getElem_cons_zero, Act.put, List.setIfInBounds_toArray, List.set_cons_zero, List.set_cons_succ]
      refine anyU_take (i := 8) (v := .int .i64 k) rfl (by kernel_rfl) (by kernel_rfl) (by kernel_rfl) (fun _ _ _ h => h) ⟨by rfl, fun w' hS' => (by obtain ⟨s1, s2, s3, s4, s5, s6, s7, s8⟩ := hS'; go_simp)⟩ hS35 ?_
      simp only [List.getElem_toArray, List.getElem_cons_succ, List.getElem_cons_zero, Act.put, List.setIfInBounds_toArray, List.set_cons_zero, List.set_cons_succ]
      refine anyU_take (i := 9) (v := .pointer (some ⟨bI, oI + k, none⟩)) rfl (by kernel_rfl) (by kernel_rfl) (by kernel_rfl) (fun _ _ _ h => h) ⟨by rfl, fun w' hS' => (by obtain ⟨s1, s2, s3, s4, s5, s6, s7, s8⟩ := hS'; simp [go_sem, hkii])⟩ hS35 ?_
      simp only [List.getElem_toArray, List.getElem_cons_succ, List.getElem_cons_zero, Act.put, List.setIfInBounds_toArray, List.set_cons_zero, List.set_cons_succ]
      refine anyU_take (i := 10) (v := .int .i64 x) rfl (by kernel_rfl) (by kernel_rfl) (by kernel_rfl) (fun _ _ _ h => h) ⟨by rfl, fun w' hS' => (by obtain ⟨s1, s2, s3, s4, s5, s6, s7, s8⟩ := hS'; go_simp)⟩ hS35 ?_
      simp only [List.getElem_toArray, List.getElem_cons_succ, List.getElem_cons_zero, Act.put, List.setIfInBounds_toArray, List.set_cons_zero, List.set_cons_succ]
      refine anyU_take (i := 11) (v := .pointer (some ⟨b9, o9 + q, none⟩)) rfl (by kernel_rfl) (by kernel_rfl) (by kernel_rfl) (fun _ _ _ h => h) ⟨by rfl, fun w' hS' => (by obtain ⟨s1, s2, s3, s4, s5, s6, s7, s8⟩ := hS'; simp [go_sem, hqii])⟩ hS35 ?_
      simp only [List.getElem_toArray, List.getElem_cons_succ, List.getElem_cons_zero, Act.put, List.setIfInBounds_toArray, List.set_cons_zero, List.set_cons_succ]
      obtain ⟨z1, z3⟩ := (R34.out.ins).at_ (j := q) (by show q < (renTo N p k).inputs.length; rw [HRL3.out]; exact hqiin)
      obtain ⟨zv, HZV⟩ : ∃ z, Hid (nth (renTo N p k).inputs q = z) := ⟨_, Lib.hid rfl⟩
      have z1' : W34.cell? ⟨b9, o9 + q, none⟩ = some (.int .i64 zv) := by rw [← HZV.out]; exact z1
      have HSE := Lib.hid (RN.setI (a := q) R34.out hb9 hb9' (by show q < (renTo N p k).inputs.length; rw [HRL3.out]; exact hqiin) x)
      clear z1
      refine anyU_ready (rs := [12]) (by kernel_rfl) (by simp) ?_
      refine ReadyU.cons (i := 12) rfl (fun K hK => ?_) ReadyU.nil
      simp only [List.getElem_toArray, List.getElem_cons_succ, List.getElem_cons_zero]
      refine ite_is (by rfl) ?_
      simp [go_sem, z1', z3]
      refine hK.out _ _ ⟨fun h => absurd h (by decide), ?_⟩
      clear hK K
      try simp only [List.getElem_toArray, List.getElem_cons_succ, List.getElem_cons_zero, Act.put, List.setIfInBounds_toArray, List.set_cons_zero, List.set_cons_succ]
      refine nameU ?_
      intro W36 HW36
      have hg36 : W34.grownBy W36 (some b9) := by rw [HW36.out]; exact grown_set _ ⟨b9, _, none⟩ _
      have hs36 := hg36.size
      have HF36 := Lib.hid (HF34.out.grown hg36 (fun g e => .inr (by cases e; omega)))
      have OUT36 := Lib.hid (BoxN.far OUT34.out hg36 (fun g e => by cases e; omega))
      have PC36 := Lib.hid (CellH.far PC34.out hg36 (fun g e => by cases e; show b9 ≠ bP; omega))
      have R36 := Lib.hid (show RN W36 WA.heap.size d1 d2 d3 i2 W36.heap.size gT (.slice (some ⟨gT, 0, none⟩) N.ends.length cE) (.slice A8 N.ids.length c8) (.slice (some ⟨b9, o9, none⟩) N.inputs.length c9) ⟨(renTo N p k).ends.set q (mapEnds p (nthL N.ends k)), (renTo N p k).ids, (renTo N p k).inputs.set q x⟩ by rw [HW36.out]; exact HSE.out)
      clear HW36 z1' z3 HSE
      clear hS35
      refine anyU_done (by kernel_rfl) ?_ _
      by_cases hid : 0 < N.ids.length
      case neg =>
        have kbx1_0 : W36.cell? ⟨w.heap.size, 0, none⟩ = some (.slice (some ⟨b1, o1, none⟩) N.ends.length c1) := (HF36.out.boxN bx1 (by omega)).cell 0 (by simp)
        have kbx1_1 : W36.cell? ⟨w.heap.size, 1, none⟩ = some (.slice A1' N.ids.length c1') := (HF36.out.boxN bx1 (by omega)).cell 1 (by simp)
        have kbx1_2 : W36.cell? ⟨w.heap.size, 2, none⟩ = some (.slice (some ⟨bI, oI, none⟩) N.inputs.length c1'') := (HF36.out.boxN bx1 (by omega)).cell 2 (by simp)
        have hidi : ¬ (0 : Int) < N.ids.length := by omega
        go_wp2_with fail
        go_roundw
        case rel =>
          have HRR := R36.out
          refine ⟨k + 1, by omega, by go_num, OUT36, Lib.hid ?_, HF36⟩
          rw [show renTo N p (k + 1) = ⟨(renTo N p k).ends.set q (mapEnds p (nthL N.ends k)), (renTo N p k).ids, (renTo N p k).inputs.set q x⟩ from by simp only [renTo, HQ.out, Int.toNat_natCast, HX.out]; rw [if_neg hid]]
          exact HRR
        case measure => simp [intOf]; omega
      have hidi : (0 : Int) < N.ids.length := by omega
      have hidn : N.ids.length = N.ends.length := by have := HNI.out; omega
      have HIDN := Lib.hid hidn; clear hidn
      obtain ⟨b8, o8, e8, hb8, hb8', _, _⟩ := R36.out.ids.opened (j := 0) (by show 0 < (renTo N p k).ids.length; rw [HRL2.out]; exact hid)
      subst e8
      have hqdn : q < N.ids.length := by rw [HIDN.out]; exact hqn
      have hqdi : (q : Int) < N.ids.length := by omega
      have hqdin := hqdn
      have hkdn : k < N.ids.length := by rw [HIDN.out]; exact hkn
      have hkdi : (k : Int) < N.ids.length := by omega
      obtain ⟨bD, oD, eD, _, hbD, xD, _⟩ := (netIds (Net.turned G1.out HF36.out (by omega) (by omega))).opened (j := k) hkdn
      subst eD
      obtain ⟨xd, HXD⟩ : ∃ x, Hid (nth N.ids k = x) := ⟨_, Lib.hid rfl⟩
      rw [HXD.out] at xD
      have XC1 := Lib.hid (show CellH W36 ⟨bD, oD + k, none⟩ (.int .i64 xd) from ⟨xD, by show bD < _; omega⟩)
      have kbx1_0 : W36.cell? ⟨w.heap.size, 0, none⟩ = some (.slice (some ⟨b1, o1, none⟩) N.ends.length c1) := (HF36.out.boxN bx1 (by omega)).cell 0 (by simp)
      have kbx1_1 : W36.cell? ⟨w.heap.size, 1, none⟩ = some (.slice (some ⟨bD, oD, none⟩) N.ids.length c1') := (HF36.out.boxN bx1 (by omega)).cell 1 (by simp)
      have kbx1_2 : W36.cell? ⟨w.heap.size, 2, none⟩ = some (.slice (some ⟨bI, oI, none⟩) N.inputs.length c1'') := (HF36.out.boxN bx1 (by omega)).cell 2 (by simp)
      go_wp2_with fail
      clear kbx1_0 kbx1_1 kbx1_2
      refine wp_region_U (fun w' => w'.cell? ⟨gO, 0, none⟩ = some (.slice (some ⟨gT, 0, none⟩) N.ends.length cE) ∧ w'.cell? ⟨gO, 1, none⟩ = some (.slice (some ⟨b8, o8, none⟩) N.ids.length c8) ∧ w'.cell? ⟨gO, 2, none⟩ = some (.slice (some ⟨b9, o9, none⟩) N.inputs.length c9) ∧ w'.cell? ⟨w.heap.size, 0, none⟩ = some (.slice (some ⟨b1, o1, none⟩) N.ends.length c1) ∧ w'.cell? ⟨w.heap.size, 1, none⟩ = some (.slice (some ⟨bD, oD, none⟩) N.ids.length c1') ∧ w'.cell? ⟨w.heap.size, 2, none⟩ = some (.slice (some ⟨bI, oI, none⟩) N.inputs.length c1'') ∧ w'.cell? ⟨bP, oP + k, none⟩ = some (.int .i64 (q : Nat)) ∧ w'.cell? ⟨bD, oD + k, none⟩ = some (.int .i64 xd)) [12] (by kernel_rfl) ?_
      refine nameU ?_
      intro W37 HW37
      have hg37 : W36.grownBy W37 none := by rw [HW37.out]; exact grown_drew _
      clear HW37
      have hs37 := hg37.size
      have HF37 := Lib.hid (HF36.out.still hg37); clear HF36
      have OUT37 := Lib.hid (BoxN.still OUT36.out hg37); clear OUT36
      have PC37 := Lib.hid (CellH.still PC36.out hg37); clear PC36
      have R37 := Lib.hid (RN.still R36.out hg37); clear R36
      have XC37 := Lib.hid (CellH.still XC1.out hg37); clear XC1
      have hS38 : W37.cell? ⟨gO, 0, none⟩ = some (.slice (some ⟨gT, 0, none⟩) N.ends.length cE) ∧ W37.cell? ⟨gO, 1, none⟩ = some (.slice (some ⟨b8, o8, none⟩) N.ids.length c8) ∧ W37.cell? ⟨gO, 2, none⟩ = some (.slice (some ⟨b9, o9, none⟩) N.inputs.length c9) ∧ W37.cell? ⟨w.heap.size, 0, none⟩ = some (.slice (some ⟨b1, o1, none⟩) N.ends.length c1) ∧ W37.cell? ⟨w.heap.size, 1, none⟩ = some (.slice (some ⟨bD, oD, none⟩) N.ids.length c1') ∧ W37.cell? ⟨w.heap.size, 2, none⟩ = some (.slice (some ⟨bI, oI, none⟩) N.inputs.length c1'') ∧ W37.cell? ⟨bP, oP + k, none⟩ = some (.int .i64 (q : Nat)) ∧ W37.cell? ⟨bD, oD + k, none⟩ = some (.int .i64 xd) := ⟨OUT37.out.cell 0 (by simp), OUT37.out.cell 1 (by simp), OUT37.out.cell 2 (by simp), (HF37.out.boxN bx1 (by omega)).cell 0 (by simp), (HF37.out.boxN bx1 (by omega)).cell 1 (by simp), (HF37.out.boxN bx1 (by omega)).cell 2 (by simp), PC37.out.cell, XC37.out.cell⟩
      refine anyU_take (i := 0) (v := .pointer (some ⟨gO, 1, none⟩)) rfl (by kernel_rfl) (by kernel_rfl) (by kernel_rfl) (fun _ _ _ h => h) ⟨by rfl, fun w' hS' => (by obtain ⟨s1, s2, s3, s4, s5, s6, s7, s8⟩ := hS'; go_simp)⟩ hS38 ?_
      simp only [List.getElem_toArray, List.getElem_cons_zero, Act.put, List.setIfInBounds_toArray, List.set_cons_zero, List.set_cons_succ]
      refine anyU_take (i := 1) (v := .slice (some ⟨b8, o8, none⟩) N.ids.length c8) rfl (by kernel_rfl) (by kernel_rfl) (by kernel_rfl) (fun _ _ _ h => h) ⟨by rfl, fun w' hS' => (by obtain ⟨s1, s2, s3, s4, s5, s6, s7, s8⟩ := hS'; go_simp)⟩ hS38 ?_
      simp only [List.getElem_toArray, List.getElem_cons_succ, List.getElem_cons_zero, Act.put, List.setIfInBounds_toArray, List.set_cons_zero, List.set_cons_succ]
      refine anyU_take (i := 2) (v := .slice (some ⟨bP, oP, none⟩) p.length c2) rfl (by kernel_rfl) (by kernel_rfl) (by kernel_rfl) (fun _ _ _ h => h) ⟨by rfl, fun w' hS' => (by obtain ⟨s1, s2, s3, s4, s5, s6, s7, s8⟩ := hS'; go_simp)⟩ hS38 ?_
      simp only [List.getElem_toArray, List.getElem_cons_succ, List.getElem_cons_zero, Act.put, List.setIfInBounds_toArray, List.set_cons_zero, List.set_cons_succ]
      refine anyU_take (i := 3) (v := .int .i64 k) rfl (by kernel_rfl) (by kernel_rfl) (by kernel_rfl) (fun _ _ _ h => h) ⟨by rfl, fun w' hS' => (by obtain ⟨s1, s2, s3, s4, s5, s6, s7, s8⟩ := hS'; go_simp)⟩ hS38 ?_
      simp only [List.getElem_toArray, List.getElem_cons_succ, List.getElem_cons_zero, Act.put, List.setIfInBounds_toArray, List.set_cons_zero, List.set_cons_succ]
      refine anyU_take (i := 4) (v := .pointer (some ⟨bP, oP + k, none⟩)) rfl (by kernel_rfl) (by kernel_rfl) (by kernel_rfl) (fun _ _ _ h => h) ⟨by rfl, fun w' hS' => (by obtain ⟨s1, s2, s3, s4, s5, s6, s7, s8⟩ := hS'; simp [go_sem, hkp])⟩ hS38 ?_
      simp only [List.getElem_toArray, List.getElem_cons_succ, List.getElem_cons_zero, Act.put, List.setIfInBounds_toArray, List.set_cons_zero, List.set_cons_succ]
      refine anyU_take (i := 5) (v := .int .i64 (q : Nat)) rfl (by kernel_rfl) (by kernel_rfl) (by kernel_rfl) (fun _ _ _ h => h) ⟨by rfl, fun w' hS' => (by obtain ⟨s1, s2, s3, s4, s5, s6, s7, s8⟩ := hS'; go_simp)⟩ hS38 ?_
      simp only [List.getElem_toArray, List.getElem_cons_succ, List.getElem_cons_zero, Act.put, List.setIfInBounds_toArray, List.set_cons_zero, List.set_cons_succ]
      refine anyU_take (i := 6) (v := .pointer (some ⟨w.heap.size, 1, none⟩)) rfl (by kernel_rfl) (by kernel_rfl) (by kernel_rfl) (fun _ _ _ h => h) ⟨by rfl, fun w' hS' => (by obtain ⟨s1, s2, s3, s4, s5, s6, s7, s8⟩ := hS'; go_simp)⟩ hS38 ?_
      simp only [List.getElem_toArray, List.getElem_cons_succ, List.getElem_cons_zero, Act.put, List.setIfInBounds_toArray, List.set_cons_zero, List.set_cons_succ]
      refine anyU_take (i := 7) (v := .slice (some ⟨bD, oD, none⟩) N.ids.length c1') rfl (by kernel_rfl) (by kernel_rfl) (by kernel_rfl) (fun _ _ _ h => h) ⟨by rfl, fun w' hS' => (by obtain ⟨s1, s2, s3, s4, s5, s6, s7, s8⟩ := hS'; go_simp)⟩ hS38 ?_
      simp only [List.getElem_toArray, List.getElem_cons_succ, List.getElem_cons_zero, Act.put, List.setIfInBounds_toArray, List.set_cons_zero, List.set_cons_succ]
      refine anyU_take (i := 8) (v := .int .i64 k) rfl (by kernel_rfl) (by kernel_rfl) (by kernel_rfl) (fun _ _ _ h => h) ⟨by rfl, fun w' hS' => (by obtain ⟨s1, s2, s3, s4, s5, s6, s7, s8⟩ := hS'; go_simp)⟩ hS38 ?_
      simp only [List.getElem_toArray, List.getElem_cons_succ, List.getElem_cons_zero, Act.put, List.setIfInBounds_toArray, List.set_cons_zero, List.set_cons_succ]
      refine anyU_take (i := 9) (v := .pointer (some ⟨bD, oD + k, none⟩)) rfl (by kernel_rfl) (by kernel_rfl) (by kernel_rfl) (fun _ _ _ h => h) ⟨by rfl, fun w' hS' => (by obtain ⟨s1, s2, s3, s4, s5, s6, s7, s8⟩ := hS'; simp [go_sem, hkdi])⟩ hS38 ?_
      simp only [List.getElem_toArray, List.getElem_cons_succ, List.getElem_cons_zero, Act.put, List.setIfInBounds_toArray, List.set_cons_zero, List.set_cons_succ]
      refine anyU_take (i := 10) (v := .int .i64 xd) rfl (by kernel_rfl) (by kernel_rfl) (by kernel_rfl) (fun _ _ _ h => h) ⟨by rfl, fun w' hS' => (by obtain ⟨s1, s2, s3, s4, s5, s6, s7, s8⟩ := hS'; go_simp)⟩ hS38 ?_
      simp only [List.getElem_toArray, List.getElem_cons_succ, List.getElem_cons_zero, Act.put, List.setIfInBounds_toArray, List.set_cons_zero, List.set_cons_succ]
      refine anyU_take (i := 11) (v := .pointer (some ⟨b8, o8 + q, none⟩)) rfl (by kernel_rfl) (by kernel_rfl) (by kernel_rfl) (fun _ _ _ h => h) ⟨by rfl, fun w' hS' => (by obtain ⟨s1, s2, s3, s4, s5, s6, s7, s8⟩ := hS'; simp [go_sem, hqdi])⟩ hS38 ?_
      simp only [List.getElem_toArray, List.getElem_cons_succ, List.getElem_cons_zero, Act.put, List.setIfInBounds_toArray, List.set_cons_zero, List.set_cons_succ]
      obtain ⟨z1, z3⟩ := (R37.out.ids).at_ (j := q) (by show q < (renTo N p k).ids.length; rw [HRL2.out]; exact hqdin)
      obtain ⟨zv, HZV⟩ : ∃ z, Hid (nth (renTo N p k).ids q = z) := ⟨_, Lib.hid rfl⟩
      have z1' : W37.cell? ⟨b8, o8 + q, none⟩ = some (.int .i64 zv) := by rw [← HZV.out]; exact z1
      have HSE := Lib.hid (RN.setD (a := q) R37.out hb8 hb8' (by show q < (renTo N p k).ids.length; rw [HRL2.out]; exact hqdin) xd)
      clear z1
      refine anyU_ready (rs := [12]) (by kernel_rfl) (by simp) ?_
      refine ReadyU.cons (i := 12) rfl (fun K hK => ?_) ReadyU.nil
      simp only [List.getElem_toArray, List.getElem_cons_succ, List.getElem_cons_zero]
      refine ite_is (by rfl) ?_
      simp [go_sem, z1', z3]
      refine hK.out _ _ ⟨fun h => absurd h (by decide), ?_⟩
      clear hK K
      try simp only [List.getElem_toArray, List.getElem_cons_succ, List.getElem_cons_zero, Act.put, List.setIfInBounds_toArray, List.set_cons_zero, List.set_cons_succ]
      refine nameU ?_
      intro W39 HW39
      have hg39 : W37.grownBy W39 (some b8) := by rw [HW39.out]; exact grown_set _ ⟨b8, _, none⟩ _
      have hs39 := hg39.size
      have HF39 := Lib.hid (HF37.out.grown hg39 (fun g e => .inr (by cases e; omega)))
      have OUT39 := Lib.hid (BoxN.far OUT37.out hg39 (fun g e => by cases e; omega))
      have PC39 := Lib.hid (CellH.far PC37.out hg39 (fun g e => by cases e; show b8 ≠ bP; omega))
      have R39 := Lib.hid (show RN W39 WA.heap.size d1 d2 d3 i2 W39.heap.size gT (.slice (some ⟨gT, 0, none⟩) N.ends.length cE) (.slice (some ⟨b8, o8, none⟩) N.ids.length c8) (.slice (some ⟨b9, o9, none⟩) N.inputs.length c9) ⟨(renTo N p k).ends.set q (mapEnds p (nthL N.ends k)), (renTo N p k).ids.set q xd, (renTo N p k).inputs.set q x⟩ by rw [HW39.out]; exact HSE.out)
      clear HW39 z1' z3 HSE
      clear hS38
      refine anyU_done (by kernel_rfl) ?_ _
      go_wp2_with fail
      go_roundw
      case rel =>
        have HRR := R39.out
        refine ⟨k + 1, by omega, by go_num, OUT39, Lib.hid ?_, HF39⟩
        rw [show renTo N p (k + 1) = ⟨(renTo N p k).ends.set q (mapEnds p (nthL N.ends k)), (renTo N p k).ids.set q xd, (renTo N p k).inputs.set q x⟩ from by simp only [renTo, HQ.out, Int.toNat_natCast, HX.out, HXD.out]; rw [if_pos hid]]
        exact HRR
      case measure => simp [intOf]; omega

end Go.Proofs.Ytmdlginjblnfoaa

/- Plain: the walk's distances are the lengths of shortest ways; in a good network they do not hang on the direction. -/
namespace Go.Proofs.Ytmdlginjblnfoaa
set_option linter.unusedVariables false

/-- an edge leads from u to s -/
def Adj (N : NetD) (u s : Nat) : Prop := u < N.ends.length ∧ s < N.ends.length ∧ ∃ i, i < (nthL N.ends u).length ∧ (nthE (nthL N.ends u) i).1 = s
def way (N : NetD) : Nat → Nat → Nat → Prop
  | 0, u, t => u = t
  | k + 1, u, t => ∃ s, way N k u s ∧ Adj N s t
theorem Adj.symm {N : NetD} (hg : N.good = true) {u s : Nat} (h : Adj N u s) : Adj N s u := by
  obtain ⟨h1, h2, i, hi, he⟩ := h
  obtain ⟨t, r, e, e1, e2, e3⟩ := good_end hg h1 hi
  rw [e] at he
  obtain rfl : t = s := by have he' : (t : Int) = s := he
                           omega
  exact ⟨h2, h1, r, e2, by rw [e3]⟩
theorem way_step {N : NetD} : ∀ {k u s t : Nat}, Adj N u s → way N k s t → way N (k + 1) u t
  | 0, u, s, t, h, e => ⟨u, rfl, by rw [← (show s = t from e)]; exact h⟩
  | k + 1, u, s, t, h, ⟨r, h1, h2⟩ => ⟨r, way_step h h1, h2⟩
theorem way_symm {N : NetD} (hg : N.good = true) : ∀ {k u t : Nat}, way N k u t → way N k t u
  | 0, u, t, e => Eq.symm e
  | k + 1, u, t, ⟨s, h1, h2⟩ => way_step (h2.symm hg) (way_symm hg h1)

/-- how the found nodes lie: by distance, and each behind one that was found before -/
structure BC (N : NetD) (v : Nat) (st : BSt) : Prop where
  sorted : ∀ i j, i ≤ j → j < st.2.length → nth st.1 (nth st.2 i).toNat ≤ nth st.1 (nth st.2 j).toNat
  found : ∀ j, j < N.ends.length → 0 ≤ nth st.1 j → way N (nth st.1 j).toNat v j
  inw : ∀ j, j < N.ends.length → 0 ≤ nth st.1 j → ∃ i, i < st.2.length ∧ nth st.2 i = j
/-- nodes before place a have found their neighbours -/
def BDone (N : NetD) (a : Nat) (st : BSt) : Prop := ∀ i, i < a → ∀ t, Adj N (nth st.2 i).toNat t → 0 ≤ nth st.1 t ∧ nth st.1 t ≤ nth st.1 (nth st.2 i).toNat + 1

theorem BC.start {N : NetD} {v : Nat} (hv : v < N.ends.length) : BC N v (bfs0 N v) := by
  have hz : nth (bfs0 N v).1 v = 0 := by simp only [bfs0]; rw [nth_set _ _ _ _ (by simpa using hv), if_pos rfl]
  have ho : ∀ j, j < N.ends.length → 0 ≤ nth (bfs0 N v).1 j → j = v := fun j hj h => by
    simp only [bfs0] at h
    rw [nth_set _ _ _ _ (by simpa using hv)] at h
    by_cases e : j = v
    · exact e
    · rw [if_neg e, nth_replicate _ _ hj] at h; omega
  refine ⟨fun i j hij hj => ?_, fun j hj h => ?_, fun j hj h => ?_⟩
  · have : j = 0 := by simp [bfs0] at hj; exact hj
    obtain rfl : i = 0 := by omega
    subst this; exact Int.le_refl _
  · obtain rfl := ho j hj h
    rw [hz]; rfl
  · obtain rfl := ho j hj h
    exact ⟨0, by simp [bfs0], rfl⟩

/-- what is known in the middle: the states between, and that no found node lies farther than one step behind -/
structure BCMid (N : NetD) (v a : Nat) (st : BSt) (u : Nat) (d : Int) (k : Nat) (sk : BSt) : Prop where
  mid : BMid N a st u d k sk
  bc : BC N v sk
  far : ∀ j, j < sk.2.length → nth sk.1 (nth sk.2 j).toNat ≤ d + 1
  done : BDone N a sk
  seen : ∀ i, i < k → ∀ t : Nat, (nthE (nthL N.ends u) i).1 = t → 0 ≤ nth sk.1 t ∧ nth sk.1 t ≤ d + 1
theorem BCMid.next {N : NetD} {v a : Nat} {st : BSt} {u : Nat} {d : Int} {k : Nat} {sk : BSt} (h : BCMid N v a st u d k sk) (hu : u < N.ends.length) (hk : k < (nthL N.ends u).length) {t : Nat} (ht : (nthE (nthL N.ends u) k).1 = t) (htl : t < N.ends.length) :
    BCMid N v a st u d (k + 1) (see (d + 1) sk t) := by
  have hm := h.mid.next hk ht htl
  have hle : sk.1.length = N.ends.length := h.mid.inv.len
  have hadj : Adj N u t := ⟨hu, htl, k, hk, ht⟩
  by_cases hn : nth sk.1 t < 0
  · rw [see_neg hn] at hm ⊢
    have hs : ∀ j, nth (sk.1.set t (d + 1)) j = if j = t then d + 1 else nth sk.1 j := fun j => nth_set _ _ _ _ (by omega)
    have hold : ∀ i, i < sk.2.length → nth (sk.2 ++ [(t : Int)]) i = nth sk.2 i ∧ nth (sk.1.set t (d + 1)) (nth sk.2 i).toNat = nth sk.1 (nth sk.2 i).toNat := fun i hi => by
      obtain ⟨x, e1, e2, e3, e4⟩ := h.mid.inv.node i hi
      refine ⟨nth_append_left hi, ?_⟩
      rw [e1, Int.toNat_natCast, hs, if_neg (by rintro rfl; omega)]
    refine ⟨hm, ⟨fun i j hij hj => ?_, fun j hj h0 => ?_, fun j hj h0 => ?_⟩, fun j hj => ?_, fun i hi s hadj2 => ?_, fun i hi s hs2 => ?_⟩
    · simp only [List.length_append, List.length_singleton] at hj
      dsimp only
      by_cases e2 : j < sk.2.length
      · rw [(hold i (by omega)).1, (hold i (by omega)).2, (hold j e2).1, (hold j e2).2]
        exact h.bc.sorted i j hij e2
      · obtain rfl : j = sk.2.length := by omega
        rw [nth_append_at, Int.toNat_natCast, hs t, if_pos rfl]
        by_cases e1 : i < sk.2.length
        · rw [(hold i e1).1, (hold i e1).2]; exact h.far i e1
        · obtain rfl : i = sk.2.length := by omega
          rw [nth_append_at, Int.toNat_natCast, hs t, if_pos rfl]; exact Int.le_refl _
    · dsimp only at h0 ⊢
      rw [hs] at h0 ⊢
      by_cases e : j = t
      · subst e
        rw [if_pos rfl]
        have hd0 := h.mid.d0
        have hw := h.bc.found u hu (by rw [h.mid.here]; exact hd0)
        rw [h.mid.here] at hw
        rw [show (d + 1).toNat = d.toNat + 1 by omega]
        exact ⟨u, hw, hadj⟩
      · rw [if_neg e] at h0 ⊢; exact h.bc.found j hj h0
    · dsimp only at h0 ⊢
      rw [hs] at h0
      by_cases e : j = t
      · subst e; exact ⟨sk.2.length, by simp, nth_append_at _ _⟩
      · rw [if_neg e] at h0
        obtain ⟨i, hi, e1⟩ := h.bc.inw j hj h0
        exact ⟨i, by simp; omega, by rw [nth_append_left hi]; exact e1⟩
    · simp only [List.length_append, List.length_singleton] at hj
      dsimp only
      by_cases e2 : j < sk.2.length
      · rw [(hold j e2).1, (hold j e2).2]; exact h.far j e2
      · obtain rfl : j = sk.2.length := by omega
        rw [nth_append_at, Int.toNat_natCast, hs, if_pos rfl]; exact Int.le_refl _
    · dsimp only at hadj2 ⊢
      have hil : i < sk.2.length := by have := h.mid.alt; omega
      rw [(hold i hil).1] at hadj2 ⊢
      rw [(hold i hil).2]
      have := h.done i hi s hadj2
      rw [hs, if_neg (by rintro rfl; omega)]
      exact this
    · dsimp only
      by_cases e : i = k
      · subst e
        rw [ht] at hs2
        obtain rfl : t = s := by omega
        rw [hs, if_pos rfl]
        have := h.mid.d0
        omega
      · have := h.seen i (by omega) s hs2
        rw [hs, if_neg (by rintro rfl; omega)]
        exact this
  · rw [see_pos hn] at hm ⊢
    refine ⟨hm, h.bc, h.far, h.done, fun i hi s hs2 => ?_⟩
    by_cases e : i = k
    · subst e
      rw [ht] at hs2
      obtain rfl : t = s := by omega
      obtain ⟨j, hj, e1⟩ := h.bc.inw t htl (by omega)
      have := h.far j hj
      rw [e1, Int.toNat_natCast] at this
      exact ⟨by omega, this⟩
    · exact h.seen i (by omega) s hs2

theorem dist_full {N : NetD} (hN : N.nodes) {v : Nat} (hv : v < N.ends.length) : ∃ st, BInv N.ends.length st ∧ BC N v st ∧ BDone N st.2.length st ∧ dist N v = st.1 := by
  have key : ∀ f a st, f = N.ends.length + 1 - a → BTop N v a st → BC N v st → BDone N a st → (∀ j, a < st.2.length → j < st.2.length → nth st.1 (nth st.2 j).toNat ≤ nth st.1 (nth st.2 a).toNat + 1) → ∃ st, BInv N.ends.length st ∧ BC N v st ∧ BDone N st.2.length st ∧ dist N v = st.1 := by
    intro f
    induction f with
    | zero => intro a st hf h; have := h.inv.le; have := h.le; omega
    | succ f ih =>
      intro a st hf h hc hd hfar
      by_cases ha : a < st.2.length
      · obtain ⟨u, e1, e2, e3, e4⟩ := h.inv.node a ha
        have mid : ∀ k, k ≤ (nthL N.ends u).length → ∃ sk, BCMid N v a st u (nth st.1 u) k sk := by
          intro k
          induction k with
          | zero => intro _; exact ⟨st, BMid.start h.inv ha e1 rfl, hc, fun j hj => by have := hfar j ha hj; rwa [e1, Int.toNat_natCast] at this, hd, fun i hi => absurd hi (by omega)⟩
          | succ k ihk =>
            intro hk
            obtain ⟨sk, hsk⟩ := ihk (by omega)
            obtain ⟨t, ht, htl⟩ := hN u e2 k (by omega)
            exact ⟨_, hsk.next e2 (by omega) ht htl⟩
        obtain ⟨sk, hsk⟩ := mid _ (Nat.le_refl _)
        have hat : nth sk.2 a = u := hsk.mid.at_
        refine ih (a + 1) sk (by omega) (h.next ha hsk.mid e1 rfl) hsk.bc (fun i hi t hadj => ?_) (fun j ha1 hj => ?_)
        · by_cases e : i = a
          · subst e
            rw [hat, Int.toNat_natCast] at hadj ⊢
            obtain ⟨_, _, p, hp, he⟩ := hadj
            rw [hsk.mid.here]
            exact hsk.seen p hp t he
          · exact hsk.done i (by omega) t hadj
        · have := hsk.far j hj
          have h2 := hsk.bc.sorted a (a + 1) (by omega) ha1
          rw [hat, Int.toNat_natCast, hsk.mid.here] at h2
          omega
      · have := h.le
        obtain rfl : a = st.2.length := by omega
        exact ⟨st, h.inv, hc, hd, h.stop⟩
  refine key _ 0 _ rfl (BTop.start hv) (BC.start hv) (fun i hi => absurd hi (by omega)) (fun j h0 hj => ?_)
  have : j = 0 := by simp [bfs0] at hj; exact hj
  subst this
  omega
theorem dist_way {N : NetD} (hN : N.nodes) {v : Nat} (hv : v < N.ends.length) {t : Nat} (ht : t < N.ends.length) (h0 : 0 ≤ nth (dist N v) t) : way N (nth (dist N v) t).toNat v t := by
  obtain ⟨st, h1, h2, h3, e⟩ := dist_full hN hv
  rw [e] at h0 ⊢
  exact h2.found t ht h0
theorem dist_self {N : NetD} (hN : N.nodes) {v : Nat} (hv : v < N.ends.length) : nth (dist N v) v = 0 := by
  have key : ∀ f a st, f = N.ends.length + 1 - a → BTop N v a st → nth st.1 v = 0 → nth (dist N v) v = 0 := by
    intro f
    induction f with
    | zero => intro a st hf h; have := h.inv.le; have := h.le; omega
    | succ f ih =>
      intro a st hf h hz
      by_cases ha : a < st.2.length
      · obtain ⟨u, e1, e2, e3, e4⟩ := h.inv.node a ha
        have mid : ∀ k, k ≤ (nthL N.ends u).length → ∃ sk, BMid N a st u (nth st.1 u) k sk := by
          intro k
          induction k with
          | zero => intro _; exact ⟨st, BMid.start h.inv ha e1 rfl⟩
          | succ k ihk =>
            intro hk
            obtain ⟨sk, hsk⟩ := ihk (by omega)
            obtain ⟨t, ht, htl⟩ := hN u e2 k (by omega)
            exact ⟨_, hsk.next (by omega) ht htl⟩
        obtain ⟨sk, hsk⟩ := mid _ (Nat.le_refl _)
        exact ih (a + 1) sk (by omega) (h.next ha hsk e1 rfl) (by rw [hsk.kept.out v (by omega)]; exact hz)
      · have := h.le
        obtain rfl : a = st.2.length := by omega
        rw [h.stop]; exact hz
  refine key _ 0 _ rfl (BTop.start hv) ?_
  simp only [bfs0]; rw [nth_set _ _ _ _ (by simpa using hv), if_pos rfl]
theorem dist_le {N : NetD} (hN : N.nodes) {v : Nat} (hv : v < N.ends.length) : ∀ {k t : Nat}, way N k v t → 0 ≤ nth (dist N v) t ∧ nth (dist N v) t ≤ k
  | 0, t, e => by rw [← (show v = t from e), dist_self hN hv]; omega
  | k + 1, t, ⟨s, h1, h2⟩ => by
    have hi := dist_le hN hv h1
    obtain ⟨st, a1, a2, a3, e⟩ := dist_full hN hv
    rw [e] at hi ⊢
    obtain ⟨i, hil, e1⟩ := a2.inw s h2.1 hi.1
    have := a3 i hil t (by rw [e1, Int.toNat_natCast]; exact h2)
    rw [e1, Int.toNat_natCast] at this
    omega
theorem dist_symm {N : NetD} (hg : N.good = true) {u v : Nat} (hu : u < N.ends.length) (hv : v < N.ends.length) : nth (dist N u) v = nth (dist N v) u := by
  have hN := good_nodes hg
  have h1 := dist_low hN hu hv
  have h2 := dist_low hN hv hu
  by_cases e1 : 0 ≤ nth (dist N u) v
  · have := dist_le hN hv (way_symm hg (dist_way hN hu hv e1))
    have := dist_le hN hu (way_symm hg (dist_way hN hv hu (by omega)))
    omega
  · by_cases e2 : 0 ≤ nth (dist N v) u
    · have := dist_le hN hu (way_symm hg (dist_way hN hv hu e2))
      omega
    · omega

end Go.Proofs.Ytmdlginjblnfoaa

/- Plain: the least node of each component; clusterings; decompositions. No condition on any program. -/
namespace Go.Proofs.Ytmdlginjblnfoaa
set_option linter.unusedVariables false

theorem way_trans {N : NetD} : ∀ {k m u s t : Nat}, way N k u s → way N m s t → way N (k + m) u t
  | k, 0, u, s, t, h, e => by rw [← (show s = t from e)]; exact h
  | k, m + 1, u, s, t, h, ⟨r, h1, h2⟩ => ⟨r, way_trans h h1, h2⟩
/-- a way leads from v to t -/
def Reach (N : NetD) (v t : Nat) : Prop := 0 ≤ nth (dist N v) t
instance (N : NetD) (v t : Nat) : Decidable (Reach N v t) := by unfold Reach; infer_instance
theorem Reach.self {N : NetD} (hg : N.good = true) {v : Nat} (hv : v < N.ends.length) : Reach N v v := by unfold Reach; rw [dist_self (good_nodes hg) hv]; omega
theorem Reach.symm {N : NetD} (hg : N.good = true) {u v : Nat} (hu : u < N.ends.length) (hv : v < N.ends.length) (h : Reach N u v) : Reach N v u := by unfold Reach at *; rw [dist_symm hg hv hu]; exact h
theorem Reach.trans {N : NetD} (hg : N.good = true) {u v t : Nat} (hu : u < N.ends.length) (hv : v < N.ends.length) (ht : t < N.ends.length) (h : Reach N u v) (k : Reach N v t) : Reach N u t :=
  (dist_le (good_nodes hg) hu (way_trans (dist_way (good_nodes hg) hu hv h) (dist_way (good_nodes hg) hv ht k))).1
/-- the least node of v's component -/
def comp (N : NetD) (v : Nat) : Nat := (List.range N.ends.length).findIdx fun t => decide (0 ≤ nth (dist N v) t)
theorem comp_is {N : NetD} {v c : Nat} (hc : c < N.ends.length) (h : Reach N v c) (hb : ∀ j, j < c → ¬ Reach N v j) : comp N v = c := by
  unfold comp
  unfold Reach at h hb
  rw [List.findIdx_eq (by simp; omega)]
  refine ⟨by simpa using h, fun j hj => ?_⟩
  simpa using hb j hj
theorem comp_spec {N : NetD} (hg : N.good = true) {v : Nat} (hv : v < N.ends.length) : comp N v < N.ends.length ∧ Reach N v (comp N v) ∧ ∀ j, j < comp N v → ¬ Reach N v j := by
  have key : ∀ c : Nat, c < N.ends.length → Reach N v c → ∃ d, d < N.ends.length ∧ Reach N v d ∧ ∀ j, j < d → ¬ Reach N v j := by
    intro c
    induction c using Nat.strongRecOn with
    | _ c ih =>
      intro hc hr
      by_cases h : ∃ j, j < c ∧ Reach N v j
      · obtain ⟨j, hj, hn⟩ := h; exact ih j hj (by omega) hn
      · exact ⟨c, hc, hr, fun j hj hn => h ⟨j, hj, hn⟩⟩
  obtain ⟨d, h1, h2, h3⟩ := key v hv (Reach.self hg hv)
  rw [comp_is h1 h2 h3]
  exact ⟨h1, h2, h3⟩
theorem comp_le {N : NetD} (hg : N.good = true) {v t : Nat} (hv : v < N.ends.length) (h : Reach N v t) : comp N v ≤ t := by
  have := (comp_spec hg hv).2.2 t
  by_cases e : comp N v ≤ t
  · exact e
  · exact absurd h (this (by omega))
theorem comp_reach {N : NetD} (hg : N.good = true) {v t : Nat} (hv : v < N.ends.length) (ht : t < N.ends.length) : Reach N v t ↔ comp N v = comp N t := by
  obtain ⟨a1, a2, a3⟩ := comp_spec hg hv
  obtain ⟨b1, b2, b3⟩ := comp_spec hg ht
  constructor
  · intro h
    have h1 := comp_le hg hv (h.trans hg hv ht b1 b2)
    have h2 := comp_le hg ht ((h.symm hg hv ht).trans hg ht hv a1 a2)
    omega
  · intro e
    rw [e] at a2
    exact a2.trans hg hv b1 ht (b2.symm hg ht b1)
def compAll (N : NetD) : List Int := (List.range N.ends.length).map fun v => (comp N v : Int)
theorem compAll_length (N : NetD) : (compAll N).length = N.ends.length := by simp [compAll]
theorem nth_compAll {N : NetD} {v : Nat} (hv : v < N.ends.length) : nth (compAll N) v = comp N v := by simp [nth, compAll, hv]
/-- the loop over the nodes: components whose least node lies before k are written -/
def CompAt (N : NetD) (k : Nat) (zs : List Int) : Prop := zs.length = N.ends.length ∧ ∀ w, w < N.ends.length → nth zs w = if comp N w < k then (comp N w : Int) else -1
theorem CompAt.start (N : NetD) : CompAt N 0 (List.replicate N.ends.length (-1)) := ⟨by simp, fun w hw => by rw [nth_replicate _ _ hw, if_neg (by omega)]⟩
theorem CompAt.skip {N : NetD} (hg : N.good = true) {k : Nat} {zs : List Int} (h : CompAt N k zs) (hk : k < N.ends.length) (h0 : 0 ≤ nth zs k) : CompAt N (k + 1) zs := by
  refine ⟨h.1, fun w hw => ?_⟩
  rw [h.2 w hw]
  have hck : comp N k < k := by
    have := h.2 k hk
    by_cases e : comp N k < k
    · exact e
    · rw [if_neg e] at this; omega
  by_cases e : comp N w < k
  · rw [if_pos e, if_pos (by omega)]
  · rw [if_neg e, if_neg]
    intro e2
    have e3 : comp N w = k := by omega
    have := (comp_spec hg hw).2.1
    rw [e3] at this
    have := (comp_reach hg hw hk).1 this
    omega
/-- the inner loop: nodes before m are written -/
def CompMid (N : NetD) (k m : Nat) (zs : List Int) : Prop := zs.length = N.ends.length ∧ ∀ w, w < N.ends.length → nth zs w = if w < m ∧ Reach N k w then (k : Int) else if comp N w < k then (comp N w : Int) else -1
theorem CompAt.mid {N : NetD} {k : Nat} {zs : List Int} (h : CompAt N k zs) : CompMid N k 0 zs := ⟨h.1, fun w hw => by rw [h.2 w hw, if_neg (by omega : ¬ (w < 0 ∧ _))]⟩
theorem CompMid.yes {N : NetD} {k m : Nat} {zs : List Int} (h : CompMid N k m zs) (hm : m < N.ends.length) (hr : 0 ≤ nth (dist N k) m) : CompMid N k (m + 1) (zs.set m k) := by
  refine ⟨by rw [List.length_set]; exact h.1, fun w hw => ?_⟩
  rw [nth_set _ _ _ _ (by rw [h.1]; exact hm)]
  by_cases e : w = m
  · subst e; rw [if_pos rfl, if_pos ⟨by omega, hr⟩]
  · rw [if_neg e, h.2 w hw]
    by_cases e2 : w < m ∧ Reach N k w
    · rw [if_pos e2, if_pos ⟨by omega, e2.2⟩]
    · rw [if_neg e2, if_neg (c := w < m + 1 ∧ Reach N k w) (fun h => e2 ⟨by omega, h.2⟩)]
theorem CompMid.no {N : NetD} {k m : Nat} {zs : List Int} (h : CompMid N k m zs) (hr : ¬ 0 ≤ nth (dist N k) m) : CompMid N k (m + 1) zs := by
  refine ⟨h.1, fun w hw => ?_⟩
  rw [h.2 w hw]
  by_cases e2 : w < m ∧ Reach N k w
  · rw [if_pos e2, if_pos ⟨by omega, e2.2⟩]
  · rw [if_neg e2, if_neg (c := w < m + 1 ∧ Reach N k w) (fun h => by
      by_cases e : w = m
      · subst e; exact hr h.2
      · exact e2 ⟨by omega, h.2⟩)]
theorem CompMid.done {N : NetD} (hg : N.good = true) {k : Nat} {zs : List Int} (h : CompMid N k N.ends.length zs) (hk : k < N.ends.length) (hc : ¬ comp N k < k) : CompAt N (k + 1) zs := by
  refine ⟨h.1, fun w hw => ?_⟩
  rw [h.2 w hw]
  have hck : comp N k = k := by have := comp_le hg hk (Reach.self hg hk); omega
  by_cases e : Reach N k w
  · have := (comp_reach hg hk hw).1 e
    rw [if_pos ⟨hw, e⟩, if_pos (by omega)]; omega
  · rw [if_neg (c := w < N.ends.length ∧ Reach N k w) (fun h => e h.2)]
    have : comp N w ≠ k := by
      intro e3
      have := (comp_spec hg hw).2.1
      rw [e3] at this
      exact e (this.symm hg hw hk)
    by_cases e2 : comp N w < k
    · rw [if_pos e2, if_pos (by omega)]
    · rw [if_neg e2, if_neg (by omega)]
theorem CompAt.all {N : NetD} (hg : N.good = true) {zs : List Int} (h : CompAt N N.ends.length zs) : zs = compAll N :=
  ext_nth (by rw [h.1, compAll_length]) fun i hi => by
    rw [h.1] at hi
    rw [h.2 i hi, nth_compAll hi, if_pos (comp_spec hg hi).1]
theorem CompAt.neg {N : NetD} {k : Nat} {zs : List Int} (h : CompAt N k zs) (hk : k < N.ends.length) (h0 : ¬ 0 ≤ nth zs k) : ¬ comp N k < k := by
  intro e
  rw [h.2 k hk, if_pos e] at h0
  omega

/-- the greatest of some numbers, at least 0 -/
def mostI (zs : List Int) : Int := zs.foldl (fun a x => if x < a then a else x) 0
theorem mostI_snoc (zs : List Int) (x : Int) : mostI (zs ++ [x]) = if x < mostI zs then mostI zs else x := by unfold mostI; rw [List.foldl_append]; rfl
theorem mostI_take {zs : List Int} {k : Nat} (hk : k < zs.length) : mostI (zs.take (k + 1)) = if nth zs k < mostI (zs.take k) then mostI (zs.take k) else nth zs k := by
  rw [List.take_succ_eq_append_getElem hk, mostI_snoc, nth_eq hk]
theorem mostI_spec (zs : List Int) : 0 ≤ mostI zs ∧ (∀ x ∈ zs, x ≤ mostI zs) ∧ (mostI zs = 0 ∨ mostI zs ∈ zs) := by
  suffices h : ∀ l : List Int, 0 ≤ mostI l.reverse ∧ (∀ x ∈ l, x ≤ mostI l.reverse) ∧ (mostI l.reverse = 0 ∨ mostI l.reverse ∈ l) by
    have := h zs.reverse
    simpa using this
  intro l
  induction l with
  | nil => exact ⟨by simp [mostI], (fun x hx => by cases hx), .inl rfl⟩
  | cons x l ih =>
    rw [List.reverse_cons, mostI_snoc]
    obtain ⟨h1, h2, h3⟩ := ih
    by_cases e : x < mostI l.reverse
    · rw [if_pos e]
      refine ⟨h1, fun y hy => ?_, ?_⟩
      · rcases List.mem_cons.1 hy with rfl | hy
        · omega
        · exact h2 y hy
      · rcases h3 with h3 | h3
        · exact .inl h3
        · exact .inr (List.mem_cons_of_mem _ h3)
    · rw [if_neg e]
      refine ⟨by omega, fun y hy => ?_, .inr (List.mem_cons_self ..)⟩
      rcases List.mem_cons.1 hy with rfl | hy
      · omega
      · have := h2 y hy; omega
theorem mostI_eq {zs : List Int} {m : Int} (h0 : 0 ≤ m) (h1 : ∀ x ∈ zs, x ≤ m) (h2 : m = 0 ∨ m ∈ zs) : mostI zs = m := by
  obtain ⟨a, b, c⟩ := mostI_spec zs
  have : mostI zs ≤ m := by
    rcases c with c | c
    · omega
    · exact h1 _ c
  have : m ≤ mostI zs := by
    rcases h2 with h2 | h2
    · omega
    · exact b _ h2
  omega

/-- l numbers the clusters of the nodes -/
structure Clus (N : NetD) (l : List Int) : Prop where
  len : l.length = N.ends.length
  low : ∀ x ∈ l, 0 ≤ x ∧ x < N.ends.length
  full : ∀ k : Nat, (k : Int) ≤ mostI l → (k : Int) ∈ l
  one : ∀ v w, v < N.ends.length → w < N.ends.length → nth l v = nth l w → comp N v = comp N w
def clusB (N : NetD) (l : List Int) : Bool := decide (l.length = N.ends.length) && (l.all (fun x => decide (0 ≤ x ∧ x < N.ends.length)) && ((List.range ((mostI l).toNat + 1)).all (fun (k : Nat) => decide ((k : Int) ∈ l)) &&
  (List.range N.ends.length).all (fun v => (List.range N.ends.length).all fun w => !decide (nth l v = nth l w) || decide (comp N v = comp N w))))
theorem clusB_iff (N : NetD) (l : List Int) : clusB N l = true ↔ Clus N l := by
  unfold clusB
  simp only [Bool.and_eq_true, decide_eq_true_eq, List.all_eq_true, List.mem_range, Bool.or_eq_true, Bool.not_eq_true', decide_eq_false_iff_not]
  have h0 := (mostI_spec l).1
  constructor
  · rintro ⟨a, b, c, d⟩
    exact ⟨a, b, fun k hk => c k (by omega), fun v w hv hw e => (d v hv w hw).resolve_left fun h => h e⟩
  · rintro ⟨a, b, c, d⟩
    refine ⟨a, b, fun k hk => c k (by omega), fun v hv w hw => ?_⟩
    by_cases e : nth l v = nth l w
    · exact .inr (d v w hv hw e)
    · exact .inl e
theorem clusB_yes {N : NetD} {l : List Int} (h : Clus N l) : clusB N l = true := (clusB_iff N l).2 h
theorem clusB_is {N : NetD} {l : List Int} (h : clusB N l = true) : Clus N l := (clusB_iff N l).1 h
theorem clusB_no {N : NetD} {l : List Int} (h : ¬ Clus N l) : clusB N l = false := by rw [Bool.eq_false_iff]; intro e; exact h (clusB_is e)
theorem clusB_not {N : NetD} {l : List Int} (h : clusB N l = false) : ¬ Clus N l := fun k => by rw [clusB_yes k] at h; cases h
theorem Clus.nat {N : NetD} {l : List Int} (h : Clus N l) {v : Nat} (hv : v < N.ends.length) : ∃ t : Nat, nth l v = t ∧ t < N.ends.length := by
  have := h.low _ (nth_mem (by rw [h.len]; exact hv))
  exact ⟨(nth l v).toNat, by omega, by omega⟩
theorem Clus.most {N : NetD} {l : List Int} (hg : N.good = true) (h : Clus N l) : ∃ m : Nat, mostI l = m ∧ m < N.ends.length := by
  obtain ⟨a, b, c⟩ := mostI_spec l
  obtain ⟨n1, _⟩ := good_n hg
  refine ⟨(mostI l).toNat, by omega, ?_⟩
  rcases c with c | c
  · omega
  · have := h.low _ c; omega

end Go.Proofs.Ytmdlginjblnfoaa

/- Plain: the network of kept ports is a network; its ends are those of the network, with other numbers. No condition on any program. -/
namespace Go.Proofs.Ytmdlginjblnfoaa
set_option linter.unusedVariables false

theorem cntK_mono (kp : Nat → Nat → Bool) (v : Nat) {m k : Nat} (h : m ≤ k) : cntK kp v m ≤ cntK kp v k := by
  induction k with
  | zero => rw [Nat.le_zero.1 h]; exact Nat.le_refl _
  | succ k ih =>
    rcases Nat.lt_or_eq_of_le h with h1 | rfl
    · have := ih (by omega); rw [cntK_succ]; omega
    · exact Nat.le_refl _
theorem cntK_lt (kp : Nat → Nat → Bool) (v : Nat) {m k : Nat} (h : m < k) (hk : kp v m = true) : cntK kp v m < cntK kp v k := by
  have h1 := cntK_succ kp v m
  rw [if_pos hk] at h1
  have := cntK_mono kp v (show m + 1 ≤ k by omega)
  omega
theorem cntK_inj {kp : Nat → Nat → Bool} {v i j : Nat} (hi : kp v i = true) (hj : kp v j = true) (h : cntK kp v i = cntK kp v j) : i = j := by
  rcases Nat.lt_trichotomy i j with e | e | e
  · have := cntK_lt kp v e hi; omega
  · exact e
  · have := cntK_lt kp v e hj; omega
/-- each new port is a port -/
theorem cntK_port (kp : Nat → Nat → Bool) (v : Nat) : ∀ (d c : Nat), c < cntK kp v d → ∃ i, i < d ∧ kp v i = true ∧ cntK kp v i = c
  | 0, c, h => by simp [cntK] at h
  | d + 1, c, h => by
    rw [cntK_succ] at h
    by_cases hd : kp v d = true
    · rw [if_pos hd] at h
      by_cases hc : c < cntK kp v d
      · obtain ⟨i, h1, h2⟩ := cntK_port kp v d c hc; exact ⟨i, by omega, h2⟩
      · exact ⟨d, by omega, hd, by omega⟩
    · rw [if_neg hd] at h
      obtain ⟨i, h1, h2⟩ := cntK_port kp v d c (by omega); exact ⟨i, by omega, h2⟩
theorem rowU_other (kp : Nat → Nat → Bool) (U : Int → Int → Po) {v k : Nat} {x y : Int} (hx : x ≠ (v : Int)) : ∀ m, rowU kp U v k m x y = U x y
  | 0 => rfl
  | m + 1 => by
    simp only [rowU]
    split
    · rw [setUE_ne (fun e => hx e.1)]; exact rowU_other kp U hx m
    · exact rowU_other kp U hx m
theorem rowU_at (kp : Nat → Nat → Bool) (U : Int → Int → Po) (v k : Nat) {i : Nat} (hi : kp v i = true) : ∀ m, i < m → rowU kp U v k m v i = (k, cntK kp v i)
  | 0, h => absurd h (by omega)
  | m + 1, h => by
    simp only [rowU]
    by_cases e : m = i
    · rw [e, if_pos hi, setUE_at]
    · have ih := rowU_at kp U v k hi m (by omega)
      split
      · rw [setUE_ne (fun e2 => e (by omega))]; exact ih
      · exact ih
/-- the elements are nodes, each once -/
structure PickOk (N : NetD) (zs : List Int) : Prop where
  node : ∀ k, k < zs.length → ∃ t : Nat, nth zs k = t ∧ t < N.ends.length
  once : ∀ a b, a < zs.length → b < zs.length → nth zs a = nth zs b → a = b
/-- kept ports come in pairs, and lead to picked nodes -/
structure KeepOk (N : NetD) (zs : List Int) (kp : Nat → Nat → Bool) : Prop where
  pair : ∀ k v i w j : Nat, k < zs.length → nth zs k = (v : Int) → i < (nthL N.ends v).length → kp v i = true → nthE (nthL N.ends v) i = ((w : Int), (j : Int)) → kp w j = true ∧ ∃ q, q < zs.length ∧ nth zs q = (w : Int)
section
variable {N : NetD} {kp : Nat → Nat → Bool} {zs : List Int}
theorem part_place (hz : PickOk N zs) {k v i : Nat} (hv : nth zs k = (v : Int)) (hi : i < (nthL N.ends v).length) (hk : kp v i = true) : ∀ K, K ≤ zs.length → k < K → allU N kp zs K v i = (k, cntK kp v i)
  | 0, _, h => absurd h (by omega)
  | K + 1, h1, h2 => by
    show rowU kp (allU N kp zs K) (nth zs K).toNat K (nthL N.ends (nth zs K).toNat).length v i = _
    by_cases e : K = k
    · rw [e, hv, Int.toNat_natCast]; exact rowU_at kp _ v k hk _ hi
    · obtain ⟨t, et, _⟩ := hz.node K (by omega)
      have e2 : (v : Int) ≠ ((nth zs K).toNat : Nat) := fun h => e (hz.once K k (by omega) (by omega) (by rw [hv, et]; rw [et] at h; omega))
      rw [rowU_other kp _ e2]; exact part_place hz hv hi hk K (by omega) (by omega)
theorem partRow_pre (N : NetD) (kp : Nat → Nat → Bool) (U : Int → Int → Po) (v m : Nat) : ∀ d, m ≤ d → partRow N kp U v m <+: partRow N kp U v d
  | 0, h => by rw [Nat.le_zero.1 h]; exact List.prefix_refl _
  | d + 1, h => by
    rcases Nat.lt_or_eq_of_le h with h1 | rfl
    · have ih := partRow_pre N kp U v m d (by omega)
      cases hk : kp v d with
      | true => rw [partRow_yes hk]; exact ih.trans (List.prefix_append _ _)
      | false => rw [partRow_no hk]; exact ih
    · exact List.prefix_refl _
theorem partRow_get {U : Int → Int → Po} {v i d : Nat} (hi : i < d) (hk : kp v i = true) : nthP (partRow N kp U v d) (cntK kp v i) = U (nthE (nthL N.ends v) i).1 (nthE (nthL N.ends v) i).2 := by
  obtain ⟨r, hr⟩ := partRow_pre N kp U v (i + 1) d (by omega)
  rw [← hr, partRow_yes hk]
  have hl := partRow_len N kp U v i
  unfold nthP
  rw [List.append_assoc, List.getD_eq_getElem?_getD, List.getElem?_append_right (by omega), hl]
  simp
theorem part_n (N : NetD) (zs : List Int) (kp : Nat → Nat → Bool) : (partN N zs kp).ends.length = zs.length := by simp [partN, partRows]
theorem part_row {k v : Nat} (hk : k < zs.length) (hv : nth zs k = (v : Int)) : nthL (partN N zs kp).ends k = castL (partRow N kp (allU N kp zs zs.length) v (nthL N.ends v).length) := by
  have hv' : zs[k] = (v : Int) := by rw [← nth_eq hk]; exact hv
  have e : (partN N zs kp).ends = zs.map fun z => castL (partRow N kp (allU N kp zs zs.length) z.toNat (nthL N.ends z.toNat).length) := by
    unfold partN partRows
    rw [List.map_map]; rfl
  rw [e]
  unfold nthL
  rw [List.getD_eq_getElem?_getD, List.getElem?_map, List.getElem?_eq_getElem hk, hv']
  simp
theorem part_deg {k v : Nat} (hk : k < zs.length) (hv : nth zs k = (v : Int)) : (nthL (partN N zs kp).ends k).length = cntK kp v (nthL N.ends v).length := by rw [part_row hk hv, castL_length, partRow_len]
theorem part_end (hz : PickOk N zs) (hK : KeepOk N zs kp) (hg : N.good = true) {k v i w j q : Nat} (hk : k < zs.length) (hv : nth zs k = (v : Int)) (hi : i < (nthL N.ends v).length) (hkp : kp v i = true) (he : nthE (nthL N.ends v) i = ((w : Int), (j : Int))) (hq : q < zs.length) (hw : nth zs q = (w : Int)) :
    nthE (nthL (partN N zs kp).ends k) (cntK kp v i) = ((q : Int), (cntK kp w j : Int)) := by
  obtain ⟨t, et, ht⟩ := hz.node k hk
  have hvn : v < N.ends.length := by rw [hv] at et; omega
  obtain ⟨w', j', e1, h1, h2, h3⟩ := good_end hg hvn hi
  rw [he] at e1
  simp only [Prod.mk.injEq] at e1
  have ew : w = w' := by omega
  have ej : j = j' := by omega
  subst ew ej
  rw [part_row hk hv, nthE_castL (by rw [partRow_len]; exact cntK_lt kp v hi hkp), partRow_get hi hkp, he]
  rw [part_place hz hw h2 (hK.pair k v i w j hk hv hi hkp he).1 zs.length (Nat.le_refl _) hq]
theorem nth_pickL {l : List Int} {k : Nat} (hk : k < zs.length) : nth (pickL l zs) k = nth l (nth zs k).toNat := by
  rw [nth_eq (by rw [pickL_len]; exact hk)]
  unfold pickL
  rw [List.getElem_map, ← nth_eq hk]
theorem ids_inj {ids : List Int} {n : Int} (h : idsGood ids n = true) {a b : Nat} (ha : a < ids.length) (hb : b < ids.length) (e : nth ids a = nth ids b) : a = b := by
  unfold idsGood at h
  rw [Bool.and_eq_true] at h
  have key : ∀ x y : Nat, x < y → y < ids.length → nth ids x ≠ nth ids y := fun x y hxy hy e => by
    have := rangeAll_at h.1 hy
    unfold idAt at this
    rw [Bool.and_eq_true, Bool.not_eq_true', decide_eq_false_iff_not] at this
    apply this.2
    rw [← e, nth_eq (show x < ids.length by omega)]
    exact List.mem_iff_getElem.2 ⟨x, by rw [List.length_take]; omega, by rw [List.getElem_take]⟩
  rcases Nat.lt_trichotomy a b with h1 | h1 | h1
  · exact absurd e (key a b h1 hb)
  · exact h1
  · exact absurd e.symm (key b a h1 ha)
/-- THE NETWORK OF KEPT PORTS IS A NETWORK -/
theorem part_good (hg : N.good = true) (hz : PickOk N zs) (hK : KeepOk N zs kp) (h1 : 1 ≤ zs.length) (h40 : zs.length ≤ 40) : (partN N zs kp).good = true := by
  have hhead : (partN N zs kp).headOk = true := by
    have hgh := hg
    unfold NetD.good NetD.headOk at hgh
    simp only [Bool.and_eq_true] at hgh
    obtain ⟨⟨_, hids, hins⟩, _⟩ := hgh
    unfold NetD.headOk
    rw [part_n]
    simp only [Bool.and_eq_true]
    refine ⟨by unfold inB; simp; omega, ?_, ?_⟩
    · show idsGood (if 0 < N.ids.length then pickL N.ids zs else []) _ = true
      split
      · rename_i h0
        have hidl : N.ids.length = N.ends.length := by rcases good_idsl hg with h | h <;> omega
        rw [idsGood_ok]
        · rw [pickL_len]; simp
        · intro k hk
          rw [pickL_len] at hk
          obtain ⟨t, et, ht⟩ := hz.node k hk
          unfold idAt
          rw [nth_pickL hk, et, Int.toNat_natCast, Bool.and_eq_true]
          have hat : idAt N.ids t = true := by
            unfold idsGood at hids
            rw [Bool.and_eq_true] at hids
            exact rangeAll_at hids.1 (by omega)
          unfold idAt at hat
          rw [Bool.and_eq_true] at hat
          refine ⟨hat.1, ?_⟩
          rw [Bool.not_eq_true', decide_eq_false_iff_not]
          intro hm
          obtain ⟨a, ha, e⟩ := List.mem_iff_getElem.1 hm
          rw [List.length_take, pickL_len] at ha
          rw [List.getElem_take, ← nth_eq (by rw [pickL_len]; omega), nth_pickL (by omega)] at e
          obtain ⟨s, es, hs⟩ := hz.node a (by omega)
          rw [es, Int.toNat_natCast] at e
          have := ids_inj hids (by omega) (by omega) e
          have := hz.once a k (by omega) hk (by rw [es, et, this])
          omega
      · rw [idsGood_ok (fun j hj => absurd hj (by simp))]; simp
    · show insGood (pickL N.inputs zs) _ = true
      unfold insGood at hins ⊢
      rw [pickL_len]
      simp only [Bool.and_eq_true, decide_eq_true_eq, List.all_eq_true] at hins ⊢
      refine ⟨trivial, fun x hx => ?_⟩
      unfold pickL at hx
      obtain ⟨z, hzm, rfl⟩ := List.mem_map.1 hx
      obtain ⟨a, ha, e⟩ := List.mem_iff_getElem.1 hzm
      obtain ⟨t, et, ht⟩ := hz.node a ha
      rw [nth_eq ha, e] at et
      rw [et, Int.toNat_natCast]
      exact hins.2 _ (nth_mem (by have := good_insl hg; omega))
  refine good_yes hhead fun k hk => ?_
  rw [part_n] at hk
  obtain ⟨v, hv, hvn⟩ := hz.node k hk
  have hd6 := good_deg hg hvn
  have hle := cntK_le kp v (nthL N.ends v).length
  refine row_yes (by rw [part_deg hk hv]; omega) fun c hc => ?_
  rw [part_deg hk hv] at hc
  obtain ⟨i, hi, hkp, rfl⟩ := cntK_port kp v _ c hc
  obtain ⟨w, j, he, hw, hj, hback⟩ := good_end hg hvn hi
  obtain ⟨hkw, q, hq, hqw⟩ := hK.pair k v i w j hk hv hi hkp he
  unfold NetD.endOk NetD.port
  rw [part_end hz hK hg hk hv hi hkp he hq hqw]
  have hb := part_end hz hK hg hq hqw hj hkw hback hk hv
  have hlt := cntK_lt kp w hj hkw
  simp only [Int.toNat_natCast, Bool.and_eq_true, decide_eq_true_eq]
  rw [part_n, part_deg hq hqw]
  refine ⟨⟨?_, ?_⟩, hb⟩
  · unfold inB; simp; omega
  · unfold inB; simp; omega
end
end Go.Proofs.Ytmdlginjblnfoaa

/- Plain: the network of some nodes, as the reference makes it, is the program's. No condition on any program. -/
namespace Go.Proofs.Ytmdlginjblnfoaa
set_option linter.unusedVariables false

/-- the ports that lie between two of the nodes -/
def kpB (N : NetD) (zs : List Int) (v i : Nat) : Bool := decide ((v : Int) ∈ zs) && decide ((nthE (nthL N.ends v) i).1 ∈ zs)
/-- the kept ends of a node, the ports numbered anew -/
def cutRow (N : NetD) (kp : Nat → Nat → Bool) (v m : Nat) : List (Int × Int) := ((List.range m).filter (kp v)).map fun i => ((nthE (nthL N.ends v) i).1, ((cntK kp (nthE (nthL N.ends v) i).1.toNat (nthE (nthL N.ends v) i).2.toNat : Nat) : Int))
theorem cutRow_len (N : NetD) (kp : Nat → Nat → Bool) (v m : Nat) : (cutRow N kp v m).length = cntK kp v m := by simp [cutRow, cntK]
theorem cutRow_yes {N : NetD} {kp : Nat → Nat → Bool} {v m : Nat} (h : kp v m = true) : cutRow N kp v (m + 1) = cutRow N kp v m ++ [((nthE (nthL N.ends v) m).1, ((cntK kp (nthE (nthL N.ends v) m).1.toNat (nthE (nthL N.ends v) m).2.toNat : Nat) : Int))] := by simp [cutRow, List.range_succ, h]
theorem cutRow_no {N : NetD} {kp : Nat → Nat → Bool} {v m : Nat} (h : kp v m = false) : cutRow N kp v (m + 1) = cutRow N kp v m := by simp [cutRow, List.range_succ, h]
/-- where each node goes -/
def toOf (n : Nat) (zs : List Int) : List Int := numL (List.replicate n 0) 0 zs
section
variable {N : NetD} {zs : List Int}
theorem pick_mem (hz : PickOk N zs) {w : Nat} : (w : Int) ∈ zs ↔ ∃ q, q < zs.length ∧ nth zs q = (w : Int) := by
  constructor
  · intro h
    obtain ⟨q, hq, e⟩ := List.mem_iff_getElem.1 h
    exact ⟨q, hq, by rw [nth_eq hq, e]⟩
  · rintro ⟨q, hq, e⟩; rw [← e]; exact nth_mem hq
theorem toOf_at (hz : PickOk N zs) {k w : Nat} (hk : k < zs.length) (hw : nth zs k = (w : Int)) : nth (toOf N.ends.length zs) w = (k : Int) := by
  have h := numL_at zs (List.replicate N.ends.length 0) 0 k hk (fun i j hi hj e => by
    obtain ⟨a, ea, _⟩ := hz.node i hi
    obtain ⟨b, eb, _⟩ := hz.node j hj
    rw [ea, eb, Int.toNat_natCast, Int.toNat_natCast] at e
    exact hz.once i j hi hj (by rw [ea, eb, e])) (fun z hzm => by
    obtain ⟨i, hi, e⟩ := List.mem_iff_getElem.1 hzm
    obtain ⟨a, ea, ha⟩ := hz.node i hi
    rw [nth_eq hi, e] at ea
    rw [ea, Int.toNat_natCast, List.length_replicate]; exact ha)
  rw [hw, Int.toNat_natCast, Nat.zero_add] at h
  exact h
theorem kpB_ok (hg : N.good = true) (hz : PickOk N zs) : KeepOk N zs (kpB N zs) := by
  refine ⟨fun k v i w j hk hv hi hkp he => ?_⟩
  unfold kpB at hkp
  rw [he, Bool.and_eq_true, decide_eq_true_eq, decide_eq_true_eq] at hkp
  obtain ⟨t, et, ht⟩ := hz.node k hk
  have hvn : v < N.ends.length := by rw [hv] at et; omega
  obtain ⟨w', j', e1, h1, h2, h3⟩ := good_end hg hvn hi
  rw [he] at e1
  simp only [Prod.mk.injEq] at e1
  have ew : w = w' := by omega
  have ej : j = j' := by omega
  subst ew ej
  refine ⟨?_, (pick_mem hz).1 hkp.2⟩
  unfold kpB
  rw [h3, Bool.and_eq_true, decide_eq_true_eq, decide_eq_true_eq]
  exact ⟨hkp.2, hkp.1⟩
/-- THE REFERENCE'S ROWS ARE THE PROGRAM'S -/
theorem cut_part {kp : Nat → Nat → Bool} (hg : N.good = true) (hz : PickOk N zs) (hK : KeepOk N zs kp) {k v : Nat} (hk : k < zs.length) (hv : nth zs k = (v : Int)) : ∀ m, m ≤ (nthL N.ends v).length → mapEnds (toOf N.ends.length zs) (cutRow N kp v m) = castL (partRow N kp (allU N kp zs zs.length) v m)
  | 0, _ => by simp [cutRow, mapEnds, partRow, castL]
  | m + 1, hm => by
    have ih := cut_part hg hz hK hk hv m (by omega)
    cases hb : kp v m with
    | false => rw [cutRow_no hb, partRow_no hb]; exact ih
    | true =>
      have hi : m < (nthL N.ends v).length := by omega
      obtain ⟨t, et, ht⟩ := hz.node k hk
      have hvn : v < N.ends.length := by rw [hv] at et; omega
      obtain ⟨w, j, he, h1, h2, h3⟩ := good_end hg hvn hi
      obtain ⟨hkw, q, hq, hqw⟩ := hK.pair k v m w j hk hv hi hb he
      rw [cutRow_yes hb, partRow_yes hb, castL_snoc, he]
      have hp := part_place hz hqw h2 hkw zs.length (Nat.le_refl _) hq
      dsimp only
      rw [hp]
      unfold mapEnds at ih ⊢
      rw [List.map_append, ih]
      simp only [List.map_cons, List.map_nil, Int.toNat_natCast, castP]
      rw [toOf_at hz hq hqw]
/-- the network that the reference makes of some nodes -/
theorem keep_rows {kp : Nat → Nat → Bool} (hg : N.good = true) (hz : PickOk N zs) (hK : KeepOk N zs kp) : (zs.map fun z => mapEnds (toOf N.ends.length zs) (cutRow N kp z.toNat (nthL N.ends z.toNat).length)) = (partN N zs kp).ends := by
  unfold partN partRows
  rw [List.map_map]
  apply List.map_congr_left
  intro z hzm
  obtain ⟨k, hk, e⟩ := List.mem_iff_getElem.1 hzm
  obtain ⟨t, et, ht⟩ := hz.node k hk
  rw [nth_eq hk, e] at et
  rw [et, Int.toNat_natCast]
  exact cut_part hg hz hK hk (by rw [nth_eq hk, e, et]) _ (Nat.le_refl _)
end
end Go.Proofs.Ytmdlginjblnfoaa

/- Plain: distances in a network of kept ports; networks of the same nodes have the same distances. No condition on any program. -/
namespace Go.Proofs.Ytmdlginjblnfoaa
set_option linter.unusedVariables false

/-- the nodes of two networks correspond, and so do their edges -/
structure Corr (P Q : NetD) (R : Nat → Nat → Prop) : Prop where
  go : ∀ u a s, R u a → Adj P u s → ∃ b, R s b ∧ Adj Q a b
  back : ∀ u a b, R u a → Adj Q a b → ∃ s, R s b ∧ Adj P u s
  one : ∀ u a b, R u a → R u b → a = b
  own : ∀ u v a, R u a → R v a → u = v
  inP : ∀ u a, R u a → u < P.ends.length
  inQ : ∀ u a, R u a → a < Q.ends.length
section
variable {P Q : NetD} {R : Nat → Nat → Prop}
theorem Corr.way (h : Corr P Q R) {u a : Nat} (hr : R u a) : ∀ {k t : Nat}, way P k u t → ∃ b, R t b ∧ way Q k a b
  | 0, t, e => by
    have e : u = t := e
    subst e
    exact ⟨a, hr, rfl⟩
  | k + 1, t, ⟨s, h1, h2⟩ => by
    obtain ⟨b, hb, hw⟩ := Corr.way h hr h1
    obtain ⟨c, hc, ha⟩ := h.go s b t hb h2
    exact ⟨c, hc, b, hw, ha⟩
theorem Corr.wayB (h : Corr P Q R) {u a : Nat} (hr : R u a) : ∀ {k b : Nat}, Go.Proofs.Ytmdlginjblnfoaa.way Q k a b → ∃ t, R t b ∧ Go.Proofs.Ytmdlginjblnfoaa.way P k u t
  | 0, b, e => by
    have e : a = b := e
    subst e
    exact ⟨u, hr, rfl⟩
  | k + 1, b, ⟨c, h1, h2⟩ => by
    obtain ⟨s, hs, hw⟩ := Corr.wayB h hr h1
    obtain ⟨t, ht, ha⟩ := h.back s c b hs h2
    exact ⟨t, ht, s, hw, ha⟩
/-- what is reached corresponds to something, at the same distance -/
theorem Corr.dist (h : Corr P Q R) (hP : P.nodes) (hQ : Q.nodes) {u a t : Nat} (hr : R u a) (ht : t < P.ends.length) (h0 : 0 ≤ nth (dist P u) t) : ∃ b, R t b ∧ nth (Go.Proofs.Ytmdlginjblnfoaa.dist Q a) b = nth (Go.Proofs.Ytmdlginjblnfoaa.dist P u) t := by
  obtain ⟨b, hb, hw⟩ := h.way hr (dist_way hP (h.inP _ _ hr) ht h0)
  obtain ⟨k1, k2⟩ := dist_le hQ (h.inQ _ _ hr) hw
  obtain ⟨s, hs, hw2⟩ := h.wayB hr (dist_way hQ (h.inQ _ _ hr) (h.inQ _ _ hb) k1)
  obtain rfl := h.own _ _ _ hs hb
  obtain ⟨k3, k4⟩ := dist_le hP (h.inP _ _ hr) hw2
  exact ⟨b, hb, by omega⟩
theorem Corr.eq (h : Corr P Q R) (hP : P.nodes) (hQ : Q.nodes) {u a t b : Nat} (hr : R u a) (hs : R t b) : nth (Go.Proofs.Ytmdlginjblnfoaa.dist Q a) b = nth (Go.Proofs.Ytmdlginjblnfoaa.dist P u) t := by
  by_cases h0 : 0 ≤ nth (Go.Proofs.Ytmdlginjblnfoaa.dist P u) t
  · obtain ⟨c, hc, e⟩ := h.dist hP hQ hr (h.inP _ _ hs) h0
    rw [h.one _ _ _ hs hc]; exact e
  · have l1 := (dist_low hP (h.inP _ _ hr) (h.inP _ _ hs)).1
    have l2 := (dist_low hQ (h.inQ _ _ hr) (h.inQ _ _ hs)).1
    by_cases h1 : 0 ≤ nth (Go.Proofs.Ytmdlginjblnfoaa.dist Q a) b
    · obtain ⟨s, hs2, hw⟩ := h.wayB hr (dist_way hQ (h.inQ _ _ hr) (h.inQ _ _ hs) h1)
      obtain rfl := h.own _ _ _ hs2 hs
      exact absurd (dist_le hP (h.inP _ _ hr) hw).1 h0
    · omega
end
section
variable {N : NetD} {kp : Nat → Nat → Bool} {zs : List Int}
/-- the edges of the network of kept ports -/
theorem part_adj (hg : N.good = true) (hz : PickOk N zs) (hK : KeepOk N zs kp) {a b v w : Nat} (ha : a < zs.length) (hb : b < zs.length) (hv : nth zs a = (v : Int)) (hw : nth zs b = (w : Int)) :
    Adj (partN N zs kp) a b ↔ ∃ i, i < (nthL N.ends v).length ∧ kp v i = true ∧ (nthE (nthL N.ends v) i).1 = (w : Int) := by
  obtain ⟨v', ev, hvn⟩ := hz.node a ha
  rw [hv] at ev
  obtain rfl : v = v' := by omega
  constructor
  · rintro ⟨_, _, c, hc, e⟩
    rw [part_deg ha hv] at hc
    obtain ⟨i, hi, hkp, rfl⟩ := cntK_port kp v _ c hc
    obtain ⟨x, j, he, hx, hj, _⟩ := good_end hg hvn hi
    obtain ⟨_, q, hq, hqx⟩ := hK.pair a v i x j ha hv hi hkp he
    rw [part_end hz hK hg ha hv hi hkp he hq hqx] at e
    have e : (q : Int) = (b : Int) := e
    have eq : q = b := by omega
    subst eq
    rw [hw] at hqx
    exact ⟨i, hi, hkp, by rw [he]; exact hqx.symm⟩
  · rintro ⟨i, hi, hkp, e⟩
    obtain ⟨x, j, he, hx, hj, _⟩ := good_end hg hvn hi
    rw [he] at e
    have e : (x : Int) = (w : Int) := e
    have e2 : x = w := by omega
    subst e2
    refine ⟨by rw [part_n]; exact ha, by rw [part_n]; exact hb, cntK kp v i, by rw [part_deg ha hv]; exact cntK_lt kp v hi hkp, ?_⟩
    rw [part_end hz hK hg ha hv hi hkp he hb hw]
theorem part_adj_lt {a b : Nat} (h : Adj (partN N zs kp) a b) : a < zs.length ∧ b < zs.length := by
  obtain ⟨h1, h2, _⟩ := h
  rw [part_n] at h1 h2
  exact ⟨h1, h2⟩
/-- all nodes in order -/
def allV (n : Nat) : List Int := (List.range n).map fun (v : Nat) => (v : Int)
theorem allV_len (n : Nat) : (allV n).length = n := by simp [allV]
theorem nth_allV {n v : Nat} (h : v < n) : nth (allV n) v = (v : Int) := by simp [nth, allV, h]
theorem allV_pick (N : NetD) : PickOk N (allV N.ends.length) := by
  refine ⟨fun k hk => ?_, fun a b ha hb e => ?_⟩
  · rw [allV_len] at hk; exact ⟨k, nth_allV hk, hk⟩
  · rw [allV_len] at ha hb
    rw [nth_allV ha, nth_allV hb] at e
    omega
/-- ports kept between nodes that satisfy something -/
structure KeepS (N : NetD) (S : Nat → Nat → Prop) (kp : Nat → Nat → Bool) : Prop where
  is : ∀ v i w : Nat, v < N.ends.length → i < (nthL N.ends v).length → (nthE (nthL N.ends v) i).1 = (w : Int) → (kp v i = true ↔ S v w)
theorem KeepS.ok {S : Nat → Nat → Prop} (hg : N.good = true) (h : KeepS N S kp) (hs : ∀ v w, S v w → S w v) : KeepOk N (allV N.ends.length) kp := by
  refine ⟨fun k v i w j hk hv hi hkp he => ?_⟩
  rw [allV_len] at hk
  rw [nth_allV hk] at hv
  obtain rfl : k = v := by omega
  obtain ⟨w', j', e1, h1, h2, h3⟩ := good_end hg hk hi
  rw [he] at e1
  simp only [Prod.mk.injEq] at e1
  have ew : w = w' := by omega
  have ej : j = j' := by omega
  subst ew ej
  have := (h.is k i w hk hi (by rw [he])).1 hkp
  exact ⟨(h.is w j k h1 h2 (by rw [h3])).2 (hs _ _ this), w, by rw [allV_len]; exact h1, nth_allV h1⟩
/-- THE SAME NODES, THE SAME DISTANCES: all nodes, with the ports between nodes of zs kept (and others that do not touch them), against the network of zs -/
theorem corr_part {S : Nat → Nat → Prop} (hg : N.good = true) (hS : KeepS N S kp) (hs : ∀ v w, S v w → S w v) (hz : PickOk N zs) (hzs : ∀ v w : Nat, w < N.ends.length → (v : Int) ∈ zs → (S v w ↔ (w : Int) ∈ zs)) :
    Corr (partN N (allV N.ends.length) kp) (partN N zs (kpB N zs)) (fun u a => a < zs.length ∧ nth zs a = (u : Int)) := by
  have hA := hS.ok hg hs
  have hK := kpB_ok hg hz
  have hin : ∀ u a : Nat, a < zs.length → nth zs a = (u : Int) → u < N.ends.length := fun u a ha e => by
    obtain ⟨t, et, ht⟩ := hz.node a ha
    rw [e] at et; omega
  refine ⟨fun u a s ⟨ha, hu⟩ hadj => ?_, fun u a b ⟨ha, hu⟩ hadj => ?_, fun u a b ⟨ha, hu⟩ ⟨hb, hv⟩ => hz.once a b ha hb (by rw [hu, hv]), fun u v a ⟨ha, hu⟩ ⟨_, hv⟩ => by rw [hu] at hv; omega, fun u a ⟨ha, hu⟩ => by rw [part_n, allV_len]; exact hin u a ha hu, fun u a ⟨ha, hu⟩ => by rw [part_n]; exact ha⟩
  · obtain ⟨hul, hsl⟩ := part_adj_lt hadj
    have hun := hin u a ha hu
    rw [allV_len] at hul hsl
    obtain ⟨i, hi, hkp, he⟩ := (part_adj hg (allV_pick N) hA (by rw [allV_len]; exact hul) (by rw [allV_len]; exact hsl) (nth_allV hul) (nth_allV hsl)).1 hadj
    have hm : (u : Int) ∈ zs := by rw [← hu]; exact nth_mem ha
    have hsm := (hzs u s hsl hm).1 ((hS.is u i s hun hi he).1 hkp)
    obtain ⟨b, hb, hbs⟩ := (pick_mem hz).1 hsm
    refine ⟨b, ⟨hb, hbs⟩, (part_adj hg hz hK ha hb hu hbs).2 ⟨i, hi, ?_, he⟩⟩
    unfold kpB
    rw [he, Bool.and_eq_true, decide_eq_true_eq, decide_eq_true_eq]
    exact ⟨hm, hsm⟩
  · obtain ⟨_, hb⟩ := part_adj_lt hadj
    obtain ⟨s, es, hsn⟩ := hz.node b hb
    have hun := hin u a ha hu
    obtain ⟨i, hi, hkp, he⟩ := (part_adj hg hz hK ha hb hu es).1 hadj
    have hm : (u : Int) ∈ zs := by rw [← hu]; exact nth_mem ha
    have hsm : (s : Int) ∈ zs := by rw [← es]; exact nth_mem hb
    exact ⟨s, ⟨hb, es⟩, (part_adj hg (allV_pick N) hA (by rw [allV_len]; exact hun) (by rw [allV_len]; exact hsn) (nth_allV hun) (nth_allV hsn)).2 ⟨i, hi, (hS.is u i s hun hi he).2 ((hzs u s hsn hm).2 hsm), he⟩⟩
end
end Go.Proofs.Ytmdlginjblnfoaa

/- Plain: the canonical order lists each node once; the canonical network and its components as networks of kept ports. No condition on any program. -/
namespace Go.Proofs.Ytmdlginjblnfoaa
set_option linter.unusedVariables false

theorem mem_wkStep {L : List Int} {x y : Int} : x ∈ wkStep L y ↔ x ∈ L ∨ x = y := by
  unfold wkStep
  split
  · rename_i h
    exact ⟨.inl, fun e => e.elim id fun e => by rw [e]; exact h⟩
  · simp
theorem mem_wkRow {N : NetD} {L : List Int} {u : Nat} {x : Int} : ∀ m, m ≤ (nbs N u).length → (x ∈ wkRow N L u m ↔ x ∈ L ∨ ∃ i, i < m ∧ x = nth (nbs N u) i)
  | 0, _ => by rw [wkRow_zero]; exact ⟨.inl, fun h => h.elim id fun ⟨i, hi, _⟩ => absurd hi (by omega)⟩
  | m + 1, hm => by
    rw [wkRow_succ _ _ _ (by omega), mem_wkStep, mem_wkRow m (by omega)]
    constructor
    · rintro ((h | ⟨i, hi, e⟩) | e)
      · exact .inl h
      · exact .inr ⟨i, by omega, e⟩
      · exact .inr ⟨m, by omega, e⟩
    · rintro (h | ⟨i, hi, e⟩)
      · exact .inl (.inl h)
      · by_cases e2 : i = m
        · subst e2; exact .inr e
        · exact .inl (.inr ⟨i, by omega, e⟩)
/-- what was found is reached; the neighbours of the first a have been found -/
structure WkIn (N : NetD) (v a : Nat) (L : List Int) : Prop where
  way : ∀ t : Nat, (t : Int) ∈ L → ∃ k, way N k v t
  near : ∀ i u j, i < a → nth L i = ((u : Nat) : Int) → j < (nbs N u).length → nth (nbs N u) j ∈ L
theorem start_eq {N : NetD} {v t : Nat} (h : (t : Int) ∈ [(v : Int)]) : way N 0 v t := by
  have : (t : Int) = v := by simpa using h
  show v = t
  omega
theorem nodup_inj {l : List Int} (h : l.Nodup) {a b : Nat} (ha : a < l.length) (hb : b < l.length) (e : l[a] = l[b]) : a = b := by
  have key := List.pairwise_iff_getElem.1 h
  rcases Nat.lt_trichotomy a b with h1 | h1 | h1
  · exact absurd e (key a b ha hb h1)
  · exact h1
  · exact absurd e.symm (key b a hb ha h1)
theorem walk_in {N : NetD} (hN : N.nodes) {v : Nat} (hv : v < N.ends.length) : WkIn N v (walkN N v).length (walkN N v) := by
  have key : ∀ f a L, WkTop N v a L → WkIn N v a L → N.ends.length - a = f → ∃ L', WkTop N v L'.length L' ∧ WkIn N v L'.length L' := by
    intro f
    induction f with
    | zero =>
      intro a L h hi e
      have := h.ok.len; have := h.le
      have e2 : L.length = a := by omega
      exact ⟨L, by rw [e2]; exact h, by rw [e2]; exact hi⟩
    | succ f ih =>
      intro a L h hi e
      by_cases ha : a < L.length
      · obtain ⟨u, hu, hun⟩ := h.ok.at_ ha
        have hp := wkRow_pre N L u _ (Nat.le_refl _)
        refine ih (a + 1) _ (h.next hN ha hu hun) ⟨fun t ht => ?_, fun i s j hia hs hj => ?_⟩ (by omega)
        · rcases (mem_wkRow _ (Nat.le_refl _)).1 ht with ht | ⟨i, hil, e2⟩
          · exact hi.way t ht
          · obtain ⟨k, hk⟩ := hi.way u (by rw [← hu]; exact nth_mem ha)
            rw [nbs_length] at hil
            obtain ⟨s, es, hs⟩ := hN u hun i hil
            rw [nth_nbs N u hil, es] at e2
            have : t = s := by omega
            subst this
            exact ⟨k + 1, u, hk, hun, hs, i, hil, es⟩
        · by_cases e2 : i = a
          · subst e2
            rw [nth_pre hp ha, hu] at hs
            have : u = s := by omega
            subst this
            exact (mem_wkRow _ (Nat.le_refl _)).2 (.inr ⟨j, hj, rfl⟩)
          · rw [nth_pre hp (by omega)] at hs
            exact hp.subset (hi.near i s j (by omega) hs hj)
      · have e2 : L.length = a := by have := h.le; omega
        exact ⟨L, by rw [e2]; exact h, by rw [e2]; exact hi⟩
  obtain ⟨L, h, hi⟩ := key _ 0 _ (WkTop.start hv) ⟨fun t ht => ⟨0, start_eq ht⟩, fun i u j hi => absurd hi (by omega)⟩ rfl
  rw [h.stop]; exact hi
theorem walk_closed {N : NetD} (hN : N.nodes) {v : Nat} (hv : v < N.ends.length) {s t : Nat} (hs : (s : Int) ∈ walkN N v) (ha : Adj N s t) : (t : Int) ∈ walkN N v := by
  obtain ⟨i, hi, e⟩ := List.mem_iff_getElem.1 hs
  obtain ⟨h1, h2, j, hj, e2⟩ := ha
  have := (walk_in hN hv).near i s j hi (by rw [nth_eq hi, e]) (by rw [nbs_length]; exact hj)
  rw [nth_nbs N s hj, e2] at this
  exact this
/-- the walk finds what is reached -/
theorem walk_reach {N : NetD} (hN : N.nodes) {v t : Nat} (hv : v < N.ends.length) (ht : t < N.ends.length) : (t : Int) ∈ walkN N v ↔ Reach N v t := by
  constructor
  · intro h
    obtain ⟨k, hk⟩ := (walk_in hN hv).way t h
    exact (dist_le hN hv hk).1
  · intro h
    have key : ∀ k s, way N k v s → (s : Int) ∈ walkN N v := by
      intro k
      induction k with
      | zero => intro s e; have e : v = s := e
                rw [← e]; exact walk_pos hN hv
      | succ k ih => intro s ⟨r, h1, h2⟩; exact walk_closed hN hv (ih r h1) h2
    exact key _ _ (dist_way hN hv ht h)
theorem walk_perm {N : NetD} (hg : N.good = true) {u v : Nat} (hu : u < N.ends.length) (hv : v < N.ends.length) (h : (u : Int) ∈ walkN N v) : (walkN N u).Perm (walkN N v) := by
  have hN := good_nodes hg
  have hr := (walk_reach hN hv hu).1 h
  refine (List.perm_ext_iff_of_nodup (walk_ok hN hu).nodup (walk_ok hN hv).nodup).2 fun x => ?_
  constructor
  · intro hx
    obtain ⟨t, rfl, ht⟩ := (walk_ok hN hu).node x hx
    exact (walk_reach hN hv ht).2 (hr.trans hg hv hu ht ((walk_reach hN hu ht).1 hx))
  · intro hx
    obtain ⟨t, rfl, ht⟩ := (walk_ok hN hv).node x hx
    exact (walk_reach hN hu ht).2 ((hr.symm hg hv hu).trans hg hu hv ht ((walk_reach hN hv ht).1 hx))
theorem compTo_is {N : NetD} (hg : N.good = true) {v : Nat} (hv : v < N.ends.length) : ∀ k, k ≤ (nodesOf N v).length → ((compTo N v k).cnt = 0 ∧ k = 0) ∨ ∃ u : Nat, u < N.ends.length ∧ (u : Int) ∈ walkN N v ∧ (compTo N v k).walk = walkN N u
  | 0, _ => .inl ⟨rfl, rfl⟩
  | k + 1, h => by
    have ih := compTo_is hg hv k (by omega)
    have hc := compTo_walk hg hv k (by omega)
    obtain ⟨t, et, ht⟩ := nodes_mem hg hv (show k < (nodesOf N v).length by omega)
    have htm : (t : Int) ∈ walkN N v := by
      have := nth_mem (show k < (nodesOf N v).length by omega)
      rw [et] at this
      exact (sortI_perm _).mem_iff.1 this
    rw [compTo_succ N v (by omega), et]
    right
    unfold cmpStep
    rw [Int.toNat_natCast]
    split
    · exact ⟨t, ht, htm, rfl⟩
    · rename_i h1
      have h2 : ∃ u : Nat, u < N.ends.length ∧ (u : Int) ∈ walkN N v ∧ (compTo N v k).walk = walkN N u := by
        rcases ih with ih | ih
        · exact absurd (.inl ih.1) h1
        · exact ih
      split
      · exact h2
      · exact h2
theorem compD_walk {N : NetD} (hg : N.good = true) {v : Nat} (hv : v < N.ends.length) : (compD N v).walk.Perm (walkN N v) ∧ ∃ u : Nat, u < N.ends.length ∧ (compD N v).walk = walkN N u := by
  have hpos : 0 < (nodesOf N v).length := by unfold nodesOf; rw [sortI_length]; exact List.length_pos_of_mem (walk_pos (good_nodes hg) hv)
  rcases compTo_is hg hv _ (Nat.le_refl _) with ⟨_, h⟩ | ⟨u, h1, h2, h3⟩
  · omega
  · unfold compD
    rw [h3]
    exact ⟨walk_perm hg h1 hv h2, u, h1, rfl⟩
/-- the nodes that have been listed -/
structure StIs (N : NetD) (k : Nat) : Prop where
  nodup : (stC N k).2.Nodup
  mem : ∀ t : Nat, t < N.ends.length → ((t : Int) ∈ (stC N k).2 ↔ ∃ j, j < k ∧ Reach N j t)
  node : ∀ x ∈ (stC N k).2, ∃ t : Nat, x = t ∧ t < N.ends.length
  flat : ((stC N k).1.flatMap CmpD.walk).Perm (stC N k).2
  walk : ∀ c ∈ (stC N k).1, ∃ u : Nat, u < N.ends.length ∧ c.walk = walkN N u
theorem stC_is {N : NetD} (hg : N.good = true) : ∀ k, k ≤ N.ends.length → StIs N k
  | 0, _ => ⟨by simp [stC], (fun t _ => by simp [stC]), by simp [stC], by simp [stC], by simp [stC]⟩
  | k + 1, h => by
    have ih := stC_is hg k (by omega)
    have hk : k < N.ends.length := by omega
    have hN := good_nodes hg
    by_cases hin : (k : Int) ∈ (stC N k).2
    · have e : stC N (k + 1) = stC N k := by simp only [stC]; rw [if_pos hin]
      refine ⟨by rw [e]; exact ih.nodup, fun t ht => ?_, by rw [e]; exact ih.node, by rw [e]; exact ih.flat, by rw [e]; exact ih.walk⟩
      rw [e, ih.mem t ht]
      constructor
      · rintro ⟨j, hj, hr⟩; exact ⟨j, by omega, hr⟩
      · rintro ⟨j, hj, hr⟩
        by_cases ej : j = k
        · subst ej
          obtain ⟨i, hi, hr2⟩ := (ih.mem j hk).1 hin
          exact ⟨i, hi, hr2.trans hg (by omega) hk ht hr⟩
        · exact ⟨j, by omega, hr⟩
    · have e1 : (stC N (k + 1)).1 = (stC N k).1 ++ [compD N k] := by simp only [stC]; rw [if_neg hin]
      have e2 : (stC N (k + 1)).2 = (stC N k).2 ++ nodesOf N k := by simp only [stC]; rw [if_neg hin]
      have hnm : ∀ x, x ∈ nodesOf N k ↔ x ∈ walkN N k := fun x => (sortI_perm _).mem_iff
      refine ⟨?_, fun t ht => ?_, fun x hx => ?_, ?_, fun c hc => ?_⟩
      · rw [e2, List.nodup_append]
        refine ⟨ih.nodup, (sortI_perm _).nodup_iff.2 (walk_ok hN hk).nodup, fun a ha b hb => ?_⟩
        rintro rfl
        apply hin
        obtain ⟨t, rfl, ht⟩ := ih.node a ha
        obtain ⟨j, hj, hr⟩ := (ih.mem t ht).1 ha
        have hr2 := (walk_reach hN hk ht).1 ((hnm _).1 hb)
        exact (ih.mem k hk).2 ⟨j, hj, hr.trans hg (by omega) ht hk (hr2.symm hg hk ht)⟩
      · rw [e2, List.mem_append, hnm, walk_reach hN hk ht, ih.mem t ht]
        constructor
        · rintro (⟨j, hj, hr⟩ | hr)
          · exact ⟨j, by omega, hr⟩
          · exact ⟨k, by omega, hr⟩
        · rintro ⟨j, hj, hr⟩
          by_cases ej : j = k
          · subst ej; exact .inr hr
          · exact .inl ⟨j, by omega, hr⟩
      · rw [e2, List.mem_append, hnm] at hx
        rcases hx with hx | hx
        · exact ih.node x hx
        · exact (walk_ok hN hk).node x hx
      · rw [e1, e2, List.flatMap_append]
        refine ih.flat.append ?_
        simp only [List.flatMap_cons, List.flatMap_nil, List.append_nil]
        exact (compD_walk hg hk).1.trans (sortI_perm _).symm
      · rw [e1, List.mem_append, List.mem_singleton] at hc
        rcases hc with hc | rfl
        · exact ih.walk c hc
        · exact (compD_walk hg hk).2
/-- all nodes, component after component -/
def flatN (N : NetD) : List Int := (sortedC N).flatMap CmpD.walk
theorem flat_pick {N : NetD} (hg : N.good = true) : PickOk N (flatN N) ∧ (flatN N).length = N.ends.length ∧ ∀ t : Nat, t < N.ends.length → (t : Int) ∈ flatN N := by
  have hst := stC_is hg _ (Nat.le_refl N.ends.length)
  have hp : (flatN N).Perm (stC N N.ends.length).2 := ((sortedC_spec N).2.flatMap_right _).trans hst.flat
  have hnd : (flatN N).Nodup := hp.nodup_iff.2 hst.nodup
  have hmem : ∀ t : Nat, t < N.ends.length → (t : Int) ∈ flatN N := fun t ht => hp.mem_iff.2 ((hst.mem t ht).2 ⟨t, ht, Reach.self hg ht⟩)
  have hnode : ∀ x ∈ flatN N, ∃ t : Nat, x = t ∧ t < N.ends.length := fun x hx => hst.node x (hp.mem_iff.1 hx)
  refine ⟨⟨fun k hk => hnode _ (nth_mem hk), fun a b ha hb e => ?_⟩, ?_, hmem⟩
  · rw [nth_eq ha, nth_eq hb] at e
    exact nodup_inj hnd ha hb e
  · have h1 := (show WkOk N (flatN N) from ⟨hnd, hnode⟩).len
    have h2 := nodupI_len (allV N.ends.length) (flatN N) (by
      unfold allV
      exact List.pairwise_map.2 (List.nodup_range.imp fun h e => h (by omega))) (fun x hx => by
      unfold allV at hx
      obtain ⟨t, ht, rfl⟩ := List.mem_map.1 hx
      exact hmem t (List.mem_range.1 ht))
    rw [allV_len] at h2
    omega
theorem sorted_walk {N : NetD} (hg : N.good = true) {c : CmpD} (hc : c ∈ sortedC N) : ∃ u : Nat, u < N.ends.length ∧ c.walk = walkN N u :=
  (stC_is hg _ (Nat.le_refl N.ends.length)).walk c ((sortedC_spec N).2.mem_iff.1 hc)
theorem canonL_to (N : NetD) : canonL N = toOf N.ends.length (flatN N) := by unfold canonL; rw [ordTo_numL]; rfl
/-- all ports -/
def kpT : Nat → Nat → Bool := fun _ _ => true
theorem cntK_all {kp : Nat → Nat → Bool} {v : Nat} : ∀ m, (∀ i, i < m → kp v i = true) → cntK kp v m = m
  | 0, _ => rfl
  | m + 1, h => by rw [cntK_succ, cntK_all m (fun i hi => h i (by omega)), if_pos (h m (by omega))]
theorem cntK_T (v m : Nat) : cntK kpT v m = m := cntK_all m fun _ _ => rfl
/-- a list of nodes that holds all neighbours of its nodes -/
def Shut (N : NetD) (zs : List Int) : Prop := ∀ v w : Nat, (v : Int) ∈ zs → Adj N v w → (w : Int) ∈ zs
theorem Shut.keep {N : NetD} {zs : List Int} (hg : N.good = true) (hz : PickOk N zs) (h : Shut N zs) : KeepOk N zs kpT := by
  refine ⟨fun k v i w j hk hv hi _ he => ⟨rfl, (pick_mem hz).1 (h v w (by rw [← hv]; exact nth_mem hk) ?_)⟩⟩
  obtain ⟨t, et, ht⟩ := hz.node k hk
  have hvn : v < N.ends.length := by rw [hv] at et; omega
  obtain ⟨w', j', e1, h1, h2, h3⟩ := good_end hg hvn hi
  rw [he] at e1
  simp only [Prod.mk.injEq] at e1
  have ew : w = w' := by omega
  subst ew
  exact ⟨hvn, h1, i, hi, by rw [he]⟩
theorem flat_shut {N : NetD} (hg : N.good = true) : Shut N (flatN N) := fun v w _ h => (flat_pick hg).2.2 w h.2.1
theorem walk_pick {N : NetD} (hN : N.nodes) {v : Nat} (hv : v < N.ends.length) : PickOk N (walkN N v) :=
  ⟨fun k hk => (walk_ok hN hv).at_ hk, fun a b ha hb e => by
    rw [nth_eq ha, nth_eq hb] at e
    exact nodup_inj (walk_ok hN hv).nodup ha hb e⟩
theorem walk_shut {N : NetD} (hN : N.nodes) {v : Nat} (hv : v < N.ends.length) : Shut N (walkN N v) := fun _ _ hs ha => walk_closed hN hv hs ha

section
variable {N : NetD} {zs : List Int}
theorem to_inv (hz : PickOk N zs) {j k : Nat} (hk : k < zs.length) (hv : nth zs k = (j : Int)) : (nth (toOf N.ends.length zs) j).toNat = k := by rw [toOf_at hz hk hv, Int.toNat_natCast]
/-- what renumbering has left at the first nodes -/
theorem renTo_at (hg : N.good = true) (hz : PickOk N zs) (hl : zs.length = N.ends.length) (hall : ∀ t : Nat, t < N.ends.length → (t : Int) ∈ zs) : ∀ K, K ≤ N.ends.length → ∀ j k, j < K → k < zs.length → nth zs k = (j : Int) →
    nthL (renTo N (toOf N.ends.length zs) K).ends k = mapEnds (toOf N.ends.length zs) (nthL N.ends j) ∧ (0 < N.ids.length → nth (renTo N (toOf N.ends.length zs) K).ids k = nth N.ids j) ∧ nth (renTo N (toOf N.ends.length zs) K).inputs k = nth N.inputs j
  | 0, _, j, k, hj, _, _ => absurd hj (by omega)
  | K + 1, hK, j, k, hj, hk, hv => by
    obtain ⟨l1, l2, l3⟩ := renTo_len N (toOf N.ends.length zs) K
    obtain ⟨q, hq, hqK⟩ := (pick_mem hz).1 (hall K (by omega))
    have hp := to_inv hz hq hqK
    have hidl := good_idsl hg
    have hinl := good_insl hg
    show nthL (List.set _ _ _) k = _ ∧ (0 < N.ids.length → nth (if 0 < N.ids.length then _ else _) k = _) ∧ nth (List.set _ _ _) k = _
    rw [hp]
    have hset : ∀ (a b : List (List (Int × Int))) (x : List (Int × Int)), q < a.length → nthL (a.set q x) k = if k = q then x else nthL a k := fun a b x ha => by
      unfold nthL
      simp only [List.getD_eq_getElem?_getD, List.getElem?_set]
      by_cases e : q = k
      · subst e; simp [ha]
      · rw [if_neg e, if_neg (fun h => e h.symm)]
    rw [hset _ [] _ (by omega), nth_set _ _ _ _ (by omega)]
    by_cases e : k = q
    · subst e
      rw [hv] at hqK
      have : j = K := by omega
      subst this
      refine ⟨by rw [if_pos rfl], fun h0 => ?_, by rw [if_pos rfl]⟩
      rw [if_pos h0, nth_set _ _ _ _ (by omega), if_pos rfl]
    · have hjK : j < K := by
        by_cases e2 : j = K
        · subst e2; exact absurd (hz.once k q hk hq (by rw [hv, hqK])) e
        · omega
      obtain ⟨h1, h2, h3⟩ := renTo_at hg hz hl hall K (by omega) j k hjK hk hv
      refine ⟨by rw [if_neg e]; exact h1, fun h0 => ?_, by rw [if_neg e]; exact h3⟩
      rw [if_pos h0, nth_set _ _ _ _ (by omega), if_neg e]
      exact h2 h0
theorem all_shut (hall : ∀ t : Nat, t < N.ends.length → (t : Int) ∈ zs) : Shut N zs := fun v w _ h => hall w h.2.1
theorem nthE_mapEnds (p : List Int) {l : List (Int × Int)} {i : Nat} (h : i < l.length) : nthE (mapEnds p l) i = (nth p (nthE l i).1.toNat, (nthE l i).2) := by
  simp [nthE, mapEnds, h]
/-- RENUMBERED: the network of all ports, the nodes in the order of their numbers -/
theorem ren_part (hg : N.good = true) (hz : PickOk N zs) (hl : zs.length = N.ends.length) (hall : ∀ t : Nat, t < N.ends.length → (t : Int) ∈ zs) : renN N (toOf N.ends.length zs) = partN N zs kpT := by
  obtain ⟨l1, l2, l3⟩ := renTo_len N (toOf N.ends.length zs) N.ends.length
  have hidl := good_idsl hg
  have hinl := good_insl hg
  have hK := Shut.keep hg hz (all_shut hall)
  have key := renTo_at hg hz hl hall N.ends.length (Nat.le_refl _)
  have e1 : (renN N (toOf N.ends.length zs)).ends = (partN N zs kpT).ends := by
    refine ext_nthL (by rw [part_n, hl]; exact l1) fun k hk => ?_
    have hk' : k < zs.length := by rw [hl, ← l1]; exact hk
    obtain ⟨v, hv, hvn⟩ := hz.node k hk'
    rw [show nthL (renN N (toOf N.ends.length zs)).ends k = _ from (key v k hvn hk' hv).1]
    refine ext_nthE (by rw [mapEnds_len, part_deg hk' hv, cntK_T]) fun i hi => ?_
    rw [mapEnds_len] at hi
    obtain ⟨w, j, he, hw, hj, _⟩ := good_end hg hvn hi
    obtain ⟨q, hq, hqw⟩ := (pick_mem hz).1 (hall w hw)
    have hpe := part_end hz hK hg hk' hv hi rfl he hq hqw
    rw [cntK_T, cntK_T] at hpe
    rw [hpe, nthE_mapEnds _ hi, he]
    dsimp only
    rw [Int.toNat_natCast, toOf_at hz hq hqw]
  have e2 : (renN N (toOf N.ends.length zs)).ids = (partN N zs kpT).ids := by
    show (renN N (toOf N.ends.length zs)).ids = if 0 < N.ids.length then pickL N.ids zs else []
    by_cases h0 : 0 < N.ids.length
    · rw [if_pos h0]
      have hidn : N.ids.length = N.ends.length := by rcases hidl with h | h <;> omega
      refine ext_nth (by rw [pickL_len, hl]; exact l2.trans hidn) fun k hk => ?_
      have hk' : k < zs.length := by rw [show (renN N (toOf N.ends.length zs)).ids.length = _ from l2] at hk; omega
      obtain ⟨v, hv, hvn⟩ := hz.node k hk'
      rw [show nth (renN N (toOf N.ends.length zs)).ids k = _ from (key v k hvn hk' hv).2.1 h0, nth_pickL hk', hv, Int.toNat_natCast]
    · rw [if_neg h0]
      exact List.eq_nil_of_length_eq_zero (by rw [show (renN N (toOf N.ends.length zs)).ids.length = _ from l2]; omega)
  have e3 : (renN N (toOf N.ends.length zs)).inputs = (partN N zs kpT).inputs := by
    show (renN N (toOf N.ends.length zs)).inputs = pickL N.inputs zs
    refine ext_nth (by rw [pickL_len, hl]; exact l3.trans hinl) fun k hk => ?_
    have hk' : k < zs.length := by rw [show (renN N (toOf N.ends.length zs)).inputs.length = _ from l3] at hk; omega
    obtain ⟨v, hv, hvn⟩ := hz.node k hk'
    rw [show nth (renN N (toOf N.ends.length zs)).inputs k = _ from (key v k hvn hk' hv).2.2, nth_pickL hk', hv, Int.toNat_natCast]
  calc renN N (toOf N.ends.length zs) = ⟨(renN N (toOf N.ends.length zs)).ends, (renN N (toOf N.ends.length zs)).ids, (renN N (toOf N.ends.length zs)).inputs⟩ := rfl
    _ = ⟨(partN N zs kpT).ends, (partN N zs kpT).ids, (partN N zs kpT).inputs⟩ := by rw [e1, e2, e3]
    _ = partN N zs kpT := rfl
end
/-- numbers from a on -/
def fromL (a n : Nat) : List Int := (List.range n).map fun (k : Nat) => ((a + k : Nat) : Int)
theorem fromL_len (a n : Nat) : (fromL a n).length = n := by simp [fromL]
theorem nth_fromL {a n k : Nat} (h : k < n) : nth (fromL a n) k = ((a + k : Nat) : Int) := by simp [nth, fromL, h]
theorem mem_fromL {a n x : Nat} : ((x : Nat) : Int) ∈ fromL a n ↔ a ≤ x ∧ x < a + n := by
  unfold fromL
  rw [List.mem_map]
  constructor
  · rintro ⟨k, hk, e⟩; rw [List.mem_range] at hk; omega
  · rintro ⟨h1, h2⟩; exact ⟨x - a, List.mem_range.2 (by omega), by omega⟩
theorem nth_mid {a b c : List Int} {k : Nat} (hk : k < b.length) : nth (a ++ b ++ c) (a.length + k) = nth b k := by
  unfold nth
  simp only [List.getD_eq_getElem?_getD]
  rw [List.append_assoc, List.getElem?_append_right (by omega), show a.length + k - a.length = k by omega, List.getElem?_append_left hk]
/-- A PART OF A PART: nodes that lie one behind the other in the network of all ports, closed under neighbours -/
theorem part_part {N : NetD} {a b c : List Int} (hg : N.good = true) (hz : PickOk N (a ++ b ++ c)) (hl : (a ++ b ++ c).length = N.ends.length) (hall : ∀ t : Nat, t < N.ends.length → (t : Int) ∈ a ++ b ++ c) (hb : PickOk N b) (hs : Shut N b) (h0 : 0 < b.length) :
    partN (partN N (a ++ b ++ c) kpT) (fromL a.length b.length) (kpB (partN N (a ++ b ++ c) kpT) (fromL a.length b.length)) = partN N b kpT := by
  obtain ⟨n1, n40⟩ := good_n hg
  have hlen : a.length + b.length + c.length = N.ends.length := by rw [← hl]; simp; omega
  have hK := Shut.keep hg hz (all_shut hall)
  have hKb := Shut.keep hg hb hs
  have hgW := part_good hg hz hK (by omega) (by omega)
  obtain ⟨W, HW⟩ : ∃ W, W = partN N (a ++ b ++ c) kpT := ⟨_, rfl⟩
  rw [← HW] at hgW ⊢
  have hWn : W.ends.length = N.ends.length := by rw [HW, part_n, hl]
  have hpk : PickOk W (fromL a.length b.length) := by
    refine ⟨fun k hk => ?_, fun x y hx hy e => ?_⟩
    · rw [fromL_len] at hk; exact ⟨_, nth_fromL hk, by omega⟩
    · rw [fromL_len] at hx hy; rw [nth_fromL hx, nth_fromL hy] at e; omega
  have hKW := kpB_ok hgW hpk
  have hat : ∀ k, k < b.length → nth (a ++ b ++ c) (a.length + k) = nth b k := fun k hk => nth_mid hk
  have hdeg : ∀ k v : Nat, k < b.length → nth b k = (v : Int) → (nthL W.ends (a.length + k)).length = (nthL N.ends v).length := fun k v hk hv => by
    rw [HW, part_deg (by omega) (by rw [hat k hk]; exact hv), cntK_T]
  have hend : ∀ k v i w j q : Nat, k < b.length → nth b k = (v : Int) → i < (nthL N.ends v).length → nthE (nthL N.ends v) i = ((w : Int), (j : Int)) → q < b.length → nth b q = (w : Int) → nthE (nthL W.ends (a.length + k)) i = (((a.length + q : Nat) : Int), (j : Int)) := fun k v i w j q hk hv hi he hq hw => by
    have h := part_end hz hK hg (k := a.length + k) (by omega) (by rw [hat k hk]; exact hv) hi rfl he (q := a.length + q) (by omega) (by rw [hat q hq]; exact hw)
    rw [cntK_T, cntK_T] at h
    rw [HW]; exact h
  have hto : ∀ k v i : Nat, k < b.length → nth b k = (v : Int) → i < (nthL N.ends v).length → ∃ w j q : Nat, nthE (nthL N.ends v) i = ((w : Int), (j : Int)) ∧ j < (nthL N.ends w).length ∧ q < b.length ∧ nth b q = (w : Int) := fun k v i hk hv hi => by
    obtain ⟨t, et, ht⟩ := hb.node k hk
    have hvn : v < N.ends.length := by rw [hv] at et; omega
    obtain ⟨w, j, he, hw, hj, _⟩ := good_end hg hvn hi
    obtain ⟨_, q, hq, hqw⟩ := hKb.pair k v i w j hk hv hi rfl he
    exact ⟨w, j, q, he, hj, hq, hqw⟩
  have hkp : ∀ k v i : Nat, k < b.length → nth b k = (v : Int) → i < (nthL N.ends v).length → kpB W (fromL a.length b.length) (a.length + k) i = true := fun k v i hk hv hi => by
    obtain ⟨w, j, q, he, hj, hq, hqw⟩ := hto k v i hk hv hi
    unfold kpB
    rw [hend k v i w j q hk hv hi he hq hqw, Bool.and_eq_true, decide_eq_true_eq, decide_eq_true_eq]
    exact ⟨mem_fromL.2 (by omega), mem_fromL.2 (by omega)⟩
  have hcnt : ∀ k v m : Nat, k < b.length → nth b k = (v : Int) → m ≤ (nthL N.ends v).length → cntK (kpB W (fromL a.length b.length)) (a.length + k) m = m := fun k v m hk hv hm => cntK_all m fun i hi => hkp k v i hk hv (by omega)
  have e1 : (partN W (fromL a.length b.length) (kpB W (fromL a.length b.length))).ends = (partN N b kpT).ends := by
    refine ext_nthL (by rw [part_n, part_n, fromL_len]) fun k hk => ?_
    rw [part_n, fromL_len] at hk
    obtain ⟨v, hv, hvn⟩ := hb.node k hk
    have hkf : k < (fromL a.length b.length).length := by rw [fromL_len]; exact hk
    refine ext_nthE ?_ fun i hi => ?_
    · rw [part_deg hkf (nth_fromL hk), part_deg hk hv, hdeg k v hk hv, hcnt k v _ hk hv (Nat.le_refl _), cntK_T]
    · rw [part_deg hkf (nth_fromL hk), hdeg k v hk hv, hcnt k v _ hk hv (Nat.le_refl _)] at hi
      obtain ⟨w, j, q, he, hj, hq, hqw⟩ := hto k v i hk hv hi
      have h1 := part_end hpk hKW hgW hkf (nth_fromL hk) (i := i) (by rw [hdeg k v hk hv]; exact hi) (hkp k v i hk hv hi) (hend k v i w j q hk hv hi he hq hqw) (q := q) (by rw [fromL_len]; exact hq) (nth_fromL hq)
      rw [hcnt k v i hk hv (by omega), hcnt q w j hq hqw (by omega)] at h1
      have h2 := part_end hb hKb hg hk hv hi rfl he hq hqw
      rw [cntK_T, cntK_T] at h2
      rw [h1, h2]
  have hpick : ∀ l : List Int, pickL (pickL l (a ++ b ++ c)) (fromL a.length b.length) = pickL l b := fun l => by
    refine ext_nth (by rw [pickL_len, pickL_len, fromL_len]) fun k hk => ?_
    rw [pickL_len, fromL_len] at hk
    rw [nth_pickL (by rw [fromL_len]; exact hk), nth_fromL hk, Int.toNat_natCast, nth_pickL (by omega), hat k hk, nth_pickL hk]
  have hWi : W.ids = if 0 < N.ids.length then pickL N.ids (a ++ b ++ c) else [] := by rw [HW]; rfl
  have hWn2 : W.inputs = pickL N.inputs (a ++ b ++ c) := by rw [HW]; rfl
  have e2 : (partN W (fromL a.length b.length) (kpB W (fromL a.length b.length))).ids = (partN N b kpT).ids := by
    show (if 0 < W.ids.length then pickL W.ids (fromL a.length b.length) else []) = if 0 < N.ids.length then pickL N.ids b else []
    by_cases hi : 0 < N.ids.length
    · rw [if_pos hi] at hWi
      rw [if_pos hi, hWi, if_pos (by rw [pickL_len]; omega), hpick]
    · rw [if_neg hi] at hWi
      rw [if_neg hi, hWi, if_neg (by simp)]
  have e3 : (partN W (fromL a.length b.length) (kpB W (fromL a.length b.length))).inputs = (partN N b kpT).inputs := by
    show pickL W.inputs (fromL a.length b.length) = pickL N.inputs b
    rw [hWn2, hpick]
  obtain ⟨X, HX⟩ : ∃ X, X = partN W (fromL a.length b.length) (kpB W (fromL a.length b.length)) := ⟨_, rfl⟩
  rw [← HX] at e1 e2 e3 ⊢
  cases X
  simp only at e1 e2 e3
  rw [e1, e2, e3]
end Go.Proofs.Ytmdlginjblnfoaa

/- Contracts: CanonicalNetwork, program and reference. -/
namespace Go.Proofs.Ytmdlginjblnfoaa
open Go.ChangeShapes Go.WideShapes Go.ChangeAt Go.RowKit
set_option linter.unusedVariables false

theorem results_cellB {fn : Func} {t u : Tmp} {ty : TypeId} (h : fn.results = #[.cell t ty, .tmp u]) (tmps : Array Value) (P : Program) (w : World) {p : Addr} {v b : Value} (ha : tmps.getD t undef = .pointer (some p)) (hl : (loadVar ty p).run P w = .ok v w) (hb : tmps.getD u undef = b) :
    (results fn tmps).run P w = .ok (.tuple #[v, b]) w := by
  have ha' : tmps[t]?.getD undef = .pointer (some p) := by simpa using ha
  have hb' : tmps[u]?.getD undef = b := by simpa using hb
  simp [results, h, ha', hb', asAddr, hl]
theorem canonL_len (N : NetD) : (canonL N).length = N.ends.length := by unfold canonL; rw [ordTo_numL, numL_length]; simp
theorem canonL_at {N : NetD} (hg : N.good = true) : ∀ j, j < N.ends.length → ∃ t : Nat, nth (canonL N) j = t ∧ t < N.ends.length := fun j hj => by
  obtain ⟨hp, hl, hall⟩ := flat_pick hg
  obtain ⟨q, hq, e⟩ := (pick_mem hp).1 (hall j hj)
  exact ⟨q, by rw [canonL_to]; exact toOf_at hp hq e, by rw [← hl]; exact hq⟩
/-- the canonical network -/
def canonN (N : NetD) : NetD := renN N (canonL N)
theorem canonN_part {N : NetD} (hg : N.good = true) : canonN N = partN N (flatN N) kpT := by
  obtain ⟨hp, hl, hall⟩ := flat_pick hg
  unfold canonN
  rw [canonL_to]
  exact ren_part hg hp hl hall
theorem canonN_good {N : NetD} (hg : N.good = true) : (canonN N).good = true := by
  obtain ⟨hp, hl, hall⟩ := flat_pick hg
  have := good_n hg
  rw [canonN_part hg]
  exact part_good hg hp (Shut.keep hg hp (all_shut hall)) (by omega) (by omega)
def noNet : NetD := ⟨[], [], []⟩
def cnOut (N : NetD) : NetD := if N.good then canonN N else noNet
theorem cnOut_yes {N : NetD} (h : N.good = true) : cnOut N = canonN N := by unfold cnOut; rw [if_pos h]
theorem cnOut_no {N : NetD} (h : N.good = false) : cnOut N = noNet := by unfold cnOut; rw [h]; rfl

theorem Net.none (w : World) (lo hi : Nat) : Net w lo hi (.agg #[.slice none 0 0, .slice none 0 0, .slice none 0 0]) noNet := ⟨_, _, _, rfl, SS.nil _ _ _, IntS.nil _ _ _, IntS.nil _ _ _⟩
/-- a network that can be marked: its rows, ids and inputs apart, in one of two orders -/
def NetY (w : World) (lo hi : Nat) (v : Value) (N : NetD) : Prop := NetX w lo hi v N ∨ NetZ w lo hi v N
theorem NetY.none (w : World) {lo hi : Nat} (h : lo ≤ hi) : NetY w lo hi (.agg #[.slice none 0 0, .slice none 0 0, .slice none 0 0]) noNet :=
  .inl ⟨_, _, _, lo, lo, rfl, Nat.le_refl _, Nat.le_refl _, h, ⟨fun _ => undef, Sl.nil _ _ _ _ _, fun i hi => absurd hi (by simp [noNet]), fun i j _ hj => absurd hj (by simp [noNet]), fun i hi => absurd hi (by simp [noNet])⟩, IntS.nil _ _ _, IntS.nil _ _ _⟩
section
variable {w w' : World} {lo hi lo' hi' B l2 h2 : Nat} {v : Value} {N : NetD}
theorem NetY.net (h : NetY w lo hi v N) : Net w lo hi v N := by
  rcases h with h | h
  · exact h.net
  · exact h.net
theorem NetY.below (h : NetY w lo hi v N) (hb : Below B w w') (hB : hi ≤ B) : NetY w' lo hi v N := by
  rcases h with h | h
  · exact .inl (NetX.below h hb hB)
  · exact .inr (NetZ.below h hb hB)
theorem NetY.turned (h : NetY w lo hi v N) (hb : Turned l2 h2 w w') (hB : hi ≤ w.heap.size) (hd : hi ≤ l2 ∨ h2 ≤ lo) : NetY w' lo hi v N := by
  rcases h with h | h
  · exact .inl (NetX.turned h hb hB hd)
  · exact .inr (NetZ.turned h hb hB hd)
end

theorem isOrderS_any (v1 : Value) (N : NetD) (lo1 hi1 : Nat) (w : World) (h1 : Net w lo1 hi1 v1 N) (hh1 : hi1 ≤ w.heap.size) (hg : N.good = true) :
    Calls Try.prog 20 #[v1] w fun e w' => ∃ r, e = .returned r ∧ IntS w' w.heap.size w'.heap.size r (canonL N) ∧ Below w.heap.size w w' :=
  isOrder_spec v1 N lo1 hi1 w h1 hh1 hg (fun v N lo hi w h hh hg => isParts_any v N lo hi w h hh hg)

set_option maxHeartbeats 4000000 in
set_option maxRecDepth 100000 in
theorem isCanon_any (v1 : Value) (N : NetD) (lo1 hi1 : Nat) (w : World) (h1 : Net w lo1 hi1 v1 N) (hh1 : hi1 ≤ w.heap.size) (hg : N.good = true) :
    Calls Try.prog 27 #[v1] w fun e w' => ∃ r, e = .returned (r) ∧ NetZ w' w.heap.size w'.heap.size r (canonN N) ∧ Below w.heap.size w w' := by
  obtain ⟨n1, n40⟩ := good_n hg
  have HG := Lib.hid hg; clear hg
  have F1 := Lib.hid h1
  obtain ⟨A1, c1, A1', c1', A1'', c1'', rfl, hc1, hd1, _⟩ := h1.parts
  obtain ⟨b1, o1, _, _, rfl, _⟩ := Net.rowAt F1.out (u := 0) (by omega)
  clear h1
  obtain ⟨WA, HWA⟩ : ∃ W, Hid (W = ((w.alloc (.cells #[.slice (some ⟨b1, o1, none⟩) N.ends.length c1, .slice A1' N.ids.length c1', .slice A1'' N.inputs.length c1''] 31)).alloc (.cells #[.slice none 0 0, .slice none 0 0, .slice none 0 0] 31))) := ⟨_, Lib.hid rfl⟩
  have hbA : Below w.heap.size w WA := by rw [HWA.out]; exact (((Below.refl _ _).alloc (Nat.le_refl _) _).alloc (by simp; try omega) _)
  have hsA : w.heap.size + 2 ≤ WA.heap.size := by rw [HWA.out]; simp; try omega
  have bx1 : BoxN WA (w.heap.size) #[.slice (some ⟨b1, o1, none⟩) N.ends.length c1, .slice A1' N.ids.length c1', .slice A1'' N.inputs.length c1''] 31 := by rw [HWA.out]; exact ((BoxN.new' _ _ _ (by simp)).still (grown_alloc _ _))
  have bxx0 : BoxN WA (w.heap.size + 1) #[.slice none 0 0, .slice none 0 0, .slice none 0 0] 31 := by rw [HWA.out]; exact (BoxN.new' _ _ _ (by simp))
  have G1 := Lib.hid (Net.below F1.out hbA hh1); clear F1
  go_enter Try.func27, Try.ntmps27
  go_upto_region 1 with (fail)
  rw [← HWA.out]; clear HWA
  go_wp2_with fail
  refine wp_region_U (fun w' => w'.cell? ⟨w.heap.size, 0, none⟩ = some (.slice (some ⟨b1, o1, none⟩) N.ends.length c1) ∧ w'.cell? ⟨w.heap.size, 1, none⟩ = some (.slice A1' N.ids.length c1') ∧ w'.cell? ⟨w.heap.size, 2, none⟩ = some (.slice A1'' N.inputs.length c1'')) [4] (by kernel_rfl) ?_
  refine nameU ?_
  intro W1 HW1
  have hg1 : WA.grownBy W1 none := by rw [HW1.out]; exact grown_drew _
  clear HW1
  have hs1 := hg1.size
  have HF1 := Lib.hid ((Turned.refl WA.heap.size WA.heap.size WA).still hg1)
  have hS2 : W1.cell? ⟨w.heap.size, 0, none⟩ = some (.slice (some ⟨b1, o1, none⟩) N.ends.length c1) ∧ W1.cell? ⟨w.heap.size, 1, none⟩ = some (.slice A1' N.ids.length c1') ∧ W1.cell? ⟨w.heap.size, 2, none⟩ = some (.slice A1'' N.inputs.length c1'') := ⟨(HF1.out.boxN bx1 (by omega)).cell 0 (by simp), (HF1.out.boxN bx1 (by omega)).cell 1 (by simp), (HF1.out.boxN bx1 (by omega)).cell 2 (by simp)⟩
  refine anyU_take (i := 0) (v := .agg #[.slice (some ⟨b1, o1, none⟩) N.ends.length c1, .slice A1' N.ids.length c1', .slice A1'' N.inputs.length c1'']) rfl (by kernel_rfl) (by kernel_rfl) (by kernel_rfl) (fun _ _ _ h => h) ⟨by rfl, fun w' hS' => (by obtain ⟨s1, s2, s3⟩ := hS'; go_simp)⟩ hS2 ?_
  simp only [List.getElem_toArray, List.getElem_cons_zero, Act.put, List.setIfInBounds_toArray, List.set_cons_zero, List.set_cons_succ]
  refine anyU_take (i := 1) (v := .agg #[.slice (some ⟨b1, o1, none⟩) N.ends.length c1, .slice A1' N.ids.length c1', .slice A1'' N.inputs.length c1'']) rfl (by kernel_rfl) (by kernel_rfl) (by kernel_rfl) (fun _ _ _ h => h) ⟨by rfl, fun w' hS' => (by obtain ⟨s1, s2, s3⟩ := hS'; go_simp)⟩ hS2 ?_
  simp only [List.getElem_toArray, List.getElem_cons_succ, List.getElem_cons_zero, Act.put, List.setIfInBounds_toArray, List.set_cons_zero, List.set_cons_succ]
  refine anyU_ready (rs := [2]) (by kernel_rfl) (by simp) ?_
  refine ReadyU.cons (i := 2) rfl (fun K hK => ?_) ReadyU.nil
  simp only [List.getElem_toArray, List.getElem_cons_succ, List.getElem_cons_zero]
  refine ite_is (by rfl) ?_
  simp [go_sem]
  refine (isOrderS_any _ N lo1 hi1 _ (Net.turned G1.out HF1.out (by omega) (by omega)) (by omega) HG.out).mono ?_
  rintro e W3 ⟨ro, rfl, hro, hb3⟩
  have hg3 := grown_below hb3; clear hb3
  have hs3 := hg3.size
  have HF3 := Lib.hid (HF1.out.still hg3); clear HF1
  have HOR := Lib.hid hro; clear hro
  obtain ⟨Ao, co, rfl, hco, hdo⟩ := HOR.out.dims
  have hS4 : W3.cell? ⟨w.heap.size, 0, none⟩ = some (.slice (some ⟨b1, o1, none⟩) N.ends.length c1) ∧ W3.cell? ⟨w.heap.size, 1, none⟩ = some (.slice A1' N.ids.length c1') ∧ W3.cell? ⟨w.heap.size, 2, none⟩ = some (.slice A1'' N.inputs.length c1'') := ⟨(HF3.out.boxN bx1 (by omega)).cell 0 (by simp), (HF3.out.boxN bx1 (by omega)).cell 1 (by simp), (HF3.out.boxN bx1 (by omega)).cell 2 (by simp)⟩
  refine hK.out _ _ ⟨fun _ => hS4, ?_⟩
  clear hK K hS2
  try simp only [List.getElem_toArray, List.getElem_cons_succ, List.getElem_cons_zero, Act.put, List.setIfInBounds_toArray, List.set_cons_zero, List.set_cons_succ]
  refine anyU_ready (rs := [3]) (by kernel_rfl) (by simp) ?_
  refine ReadyU.cons (i := 3) rfl (fun K hK => ?_) ReadyU.nil
  simp only [List.getElem_toArray, List.getElem_cons_succ, List.getElem_cons_zero]
  refine ite_is (by rfl) ?_
  simp [go_sem]
  refine (neRenumber_any _ N lo1 hi1 _ (canonL N) _ _ _ (Net.turned G1.out HF3.out (by omega) (by omega)) (by omega) HOR.out (by omega) HG.out (canonL_len N) (canonL_at HG.out)).mono ?_
  rintro e W5 ⟨rm, rfl, hrm, hb5⟩
  have hg5 := grown_below hb5; clear hb5
  have hs5 := hg5.size
  have HF5 := Lib.hid (HF3.out.still hg5); clear HF3
  obtain ⟨Q, HQ⟩ : ∃ Q, Hid (renN N (canonL N) = Q) := ⟨_, Lib.hid rfl⟩
  rw [HQ.out] at hrm
  obtain ⟨A5, c5, A6, c6, A7, c7, rfl, hc5, hd5, _⟩ := hrm.net.parts
  have HM := Lib.hid hrm; clear hrm
  have hS6 : W5.cell? ⟨w.heap.size, 0, none⟩ = some (.slice (some ⟨b1, o1, none⟩) N.ends.length c1) ∧ W5.cell? ⟨w.heap.size, 1, none⟩ = some (.slice A1' N.ids.length c1') ∧ W5.cell? ⟨w.heap.size, 2, none⟩ = some (.slice A1'' N.inputs.length c1'') := ⟨(HF5.out.boxN bx1 (by omega)).cell 0 (by simp), (HF5.out.boxN bx1 (by omega)).cell 1 (by simp), (HF5.out.boxN bx1 (by omega)).cell 2 (by simp)⟩
  refine hK.out _ _ ⟨fun _ => hS6, ?_⟩
  clear hK K hS4
  try simp only [List.getElem_toArray, List.getElem_cons_succ, List.getElem_cons_zero, Act.put, List.setIfInBounds_toArray, List.set_cons_zero, List.set_cons_succ]
  have HBR : Hid (BoxN W5 (w.heap.size + 1) #[.slice none 0 0, .slice none 0 0, .slice none 0 0] 31) := Lib.hid (HF5.out.boxN bxx0 (by omega))
  have kr0 : W5.cell? ⟨w.heap.size + 1, 0, none⟩ = some (.slice none 0 0) := HBR.out.cell 0 (by simp)
  have krf0 := HBR.out.frozen 0
  have kr1 : W5.cell? ⟨w.heap.size + 1, 1, none⟩ = some (.slice none 0 0) := HBR.out.cell 1 (by simp)
  have krf1 := HBR.out.frozen 1
  have kr2 : W5.cell? ⟨w.heap.size + 1, 2, none⟩ = some (.slice none 0 0) := HBR.out.cell 2 (by simp)
  have krf2 := HBR.out.frozen 2
  refine anyU_ready (rs := [4]) (by kernel_rfl) (by simp) ?_
  refine ReadyU.cons (i := 4) rfl (fun K hK => ?_) ReadyU.nil
  simp only [List.getElem_toArray, List.getElem_cons_succ, List.getElem_cons_zero]
  refine ite_is (by rfl) ?_
  simp [go_sem, kr0, kr1, kr2, krf0, krf1, krf2]
  refine hK.out _ _ ⟨fun h => absurd h (by decide), ?_⟩
  clear hK K
  try simp only [List.getElem_toArray, List.getElem_cons_succ, List.getElem_cons_zero, Act.put, List.setIfInBounds_toArray, List.set_cons_zero, List.set_cons_succ]
  refine nameU ?_
  intro W7 HW7
  have hg7 : W5.grownBy W7 (some (w.heap.size + 1)) := by rw [HW7.out]; exact grownBy_setCell (p := ⟨w.heap.size + 1, 2, none⟩) (grownBy_setCell (p := ⟨w.heap.size + 1, 1, none⟩) (grown_set _ ⟨w.heap.size + 1, 0, none⟩ _) rfl _) rfl _
  have hs7 := hg7.size
  have HRB := Lib.hid (show BoxN W7 (w.heap.size + 1) #[.slice A5 Q.ends.length c5, .slice A6 Q.ids.length c6, .slice A7 Q.inputs.length c7] 31 by rw [HW7.out]; exact (((HBR.out.set 0 _).set 1 _).set 2 _))
  have HBL := Lib.hid ((HF5.out.below_of hbA (by omega) (by omega)).grown hg7 (by omega) fun g e => by cases e; omega)
  have HMM := Lib.hid (NetZ.turned HM.out ((Turned.refl (w.heap.size + 1) (w.heap.size + 1 + 1) W5).grown hg7 (fun g e => .inl (by cases e; omega))) (by omega) (.inr (by omega)))
  clear HW7 kr0 kr1 kr2 krf0 krf1 krf2 HBR
  clear hS6
  refine anyU_done (by kernel_rfl) ?_ _
  go_wp2_with fail
  ((try simp only [Exit.inBlock, Exit.then]); refine bodyPost_ret (results_cell1 rfl _ _ _ rfl (load_net HRB.out)) rfl ?_)
  exact ⟨_, rfl, by unfold canonN; rw [HQ.out]; exact NetZ.mono HMM.out (by omega) (by omega) (Nat.le_refl _), HBL.out⟩

set_option maxHeartbeats 4000000 in
set_option maxRecDepth 100000 in
theorem CanonicalNetwork_impl (v1 : Value) (N : NetD) (lo1 hi1 : Nat) (w : World) (h1 : Net w lo1 hi1 v1 N) (hh1 : hi1 ≤ w.heap.size) (hz1 : N.sz ≤ 1048576) (ok1 : N.Ok) :
    Calls Try.prog 15 #[v1] w fun e w' => ∃ r, e = .returned (.tuple #[r, .bool N.good]) ∧ NetY w' w.heap.size w'.heap.size r (cnOut N) ∧ Below w.heap.size w w' := by
  clear ok1
  have F1 := Lib.hid h1
  obtain ⟨A1, c1, A1', c1', A1'', c1'', rfl, hc1, hd1, _⟩ := h1.parts
  clear h1
  obtain ⟨WA, HWA⟩ : ∃ W, Hid (W = ((w.alloc (.cells #[.slice A1 N.ends.length c1, .slice A1' N.ids.length c1', .slice A1'' N.inputs.length c1''] 31)).alloc (.cells #[.slice none 0 0, .slice none 0 0, .slice none 0 0] 31))) := ⟨_, Lib.hid rfl⟩
  have hbA : Below w.heap.size w WA := by rw [HWA.out]; exact (((Below.refl _ _).alloc (Nat.le_refl _) _).alloc (by simp; try omega) _)
  have hsA : w.heap.size + 2 ≤ WA.heap.size := by rw [HWA.out]; simp; try omega
  have bx1 : BoxN WA (w.heap.size) #[.slice A1 N.ends.length c1, .slice A1' N.ids.length c1', .slice A1'' N.inputs.length c1''] 31 := by rw [HWA.out]; exact ((BoxN.new' _ _ _ (by simp)).still (grown_alloc _ _))
  have bxx0 : BoxN WA (w.heap.size + 1) #[.slice none 0 0, .slice none 0 0, .slice none 0 0] 31 := by rw [HWA.out]; exact (BoxN.new' _ _ _ (by simp))
  have G1 := Lib.hid (Net.below F1.out hbA hh1); clear F1
  go_enter Try.func15, Try.ntmps15
  go_upto_region 1 with (fail)
  rw [← HWA.out]; clear HWA
  have kbx1_0 : WA.cell? ⟨w.heap.size, 0, none⟩ = some (.slice A1 N.ends.length c1) := bx1.cell 0 (by simp)
  have kbx1_1 : WA.cell? ⟨w.heap.size, 1, none⟩ = some (.slice A1' N.ids.length c1') := bx1.cell 1 (by simp)
  have kbx1_2 : WA.cell? ⟨w.heap.size, 2, none⟩ = some (.slice A1'' N.inputs.length c1'') := bx1.cell 2 (by simp)
  go_wp2_with fail
  clear kbx1_0 kbx1_1 kbx1_2
  refine (IsNetwork_any _ N lo1 hi1 _ G1.out (by omega) hz1).mono ?_
  rintro e W1 ⟨rfl, hb1⟩
  have hg1 := grown_below hb1; clear hb1
  have hs1 := hg1.size
  have HF1 := Lib.hid ((Turned.refl WA.heap.size WA.heap.size WA).still hg1)
  by_cases hg : N.good = true
  case neg =>
    have hg' : N.good = false := by simpa using hg
    rw [hg']
    have HNG := Lib.hid hg'; clear hg hg'
    have HBR : Hid (BoxN W1 (w.heap.size + 1) #[.slice none 0 0, .slice none 0 0, .slice none 0 0] 31) := Lib.hid (HF1.out.boxN bxx0 (by omega))
    have kr0 : W1.cell? ⟨w.heap.size + 1, 0, none⟩ = some (.slice none 0 0) := HBR.out.cell 0 (by simp)
    have krf0 := HBR.out.frozen 0
    have kr1 : W1.cell? ⟨w.heap.size + 1, 1, none⟩ = some (.slice none 0 0) := HBR.out.cell 1 (by simp)
    have krf1 := HBR.out.frozen 1
    have kr2 : W1.cell? ⟨w.heap.size + 1, 2, none⟩ = some (.slice none 0 0) := HBR.out.cell 2 (by simp)
    have krf2 := HBR.out.frozen 2
    go_wp2_with fail
    ((try simp only [Exit.inBlock, Exit.then]); refine bodyPost_ret (results_cellB rfl _ _ _ rfl (load_net (((HBR.out.set 0 (.slice none 0 0)).set 1 (.slice none 0 0)).set 2 (.slice none 0 0))) rfl) rfl ?_)
    have hg9 : W1.grownBy (((W1.setCell ⟨w.heap.size + 1, 0, none⟩ (.slice none 0 0)).setCell ⟨w.heap.size + 1, 1, none⟩ (.slice none 0 0)).setCell ⟨w.heap.size + 1, 2, none⟩ (.slice none 0 0)) (some (w.heap.size + 1)) := grownBy_setCell (p := ⟨w.heap.size + 1, 2, none⟩) (grownBy_setCell (p := ⟨w.heap.size + 1, 1, none⟩) (grown_set _ ⟨w.heap.size + 1, 0, none⟩ _) rfl _) rfl _
    exact ⟨_, by rw [HNG.out]; rfl, by rw [cnOut_no HNG.out]; exact NetY.none _ (by simp only [size_setCell]; omega), ((HF1.out.below_of hbA (by omega) (by omega)).grown hg9 (by omega) fun g e => by cases e; omega)⟩
  rw [hg]
  obtain ⟨n1, n40⟩ := good_n hg
  have HG := Lib.hid hg; clear hg
  go_wp2_with fail
  refine wp_region_U (fun w' => w'.cell? ⟨w.heap.size, 0, none⟩ = some (.slice A1 N.ends.length c1) ∧ w'.cell? ⟨w.heap.size, 1, none⟩ = some (.slice A1' N.ids.length c1') ∧ w'.cell? ⟨w.heap.size, 2, none⟩ = some (.slice A1'' N.inputs.length c1'')) [4, 5] (by kernel_rfl) ?_
  refine nameU ?_
  intro W2 HW2
  have hg2 : W1.grownBy W2 none := by rw [HW2.out]; exact grown_drew _
  clear HW2
  have hs2 := hg2.size
  have HF2 := Lib.hid (HF1.out.still hg2); clear HF1
  have hS3 : W2.cell? ⟨w.heap.size, 0, none⟩ = some (.slice A1 N.ends.length c1) ∧ W2.cell? ⟨w.heap.size, 1, none⟩ = some (.slice A1' N.ids.length c1') ∧ W2.cell? ⟨w.heap.size, 2, none⟩ = some (.slice A1'' N.inputs.length c1'') := ⟨(HF2.out.boxN bx1 (by omega)).cell 0 (by simp), (HF2.out.boxN bx1 (by omega)).cell 1 (by simp), (HF2.out.boxN bx1 (by omega)).cell 2 (by simp)⟩
  refine anyU_take (i := 0) (v := .agg #[.slice A1 N.ends.length c1, .slice A1' N.ids.length c1', .slice A1'' N.inputs.length c1'']) rfl (by kernel_rfl) (by kernel_rfl) (by kernel_rfl) (fun _ _ _ h => h) ⟨by rfl, fun w' hS' => (by obtain ⟨s1, s2, s3⟩ := hS'; go_simp)⟩ hS3 ?_
  simp only [List.getElem_toArray, List.getElem_cons_zero, Act.put, List.setIfInBounds_toArray, List.set_cons_zero, List.set_cons_succ]
  refine anyU_take (i := 1) (v := .agg #[.slice A1 N.ends.length c1, .slice A1' N.ids.length c1', .slice A1'' N.inputs.length c1'']) rfl (by kernel_rfl) (by kernel_rfl) (by kernel_rfl) (fun _ _ _ h => h) ⟨by rfl, fun w' hS' => (by obtain ⟨s1, s2, s3⟩ := hS'; go_simp)⟩ hS3 ?_
  simp only [List.getElem_toArray, List.getElem_cons_succ, List.getElem_cons_zero, Act.put, List.setIfInBounds_toArray, List.set_cons_zero, List.set_cons_succ]
  refine anyU_ready (rs := [2]) (by kernel_rfl) (by simp) ?_
  refine ReadyU.cons (i := 2) rfl (fun K hK => ?_) ReadyU.nil
  simp only [List.getElem_toArray, List.getElem_cons_succ, List.getElem_cons_zero]
  refine ite_is (by rfl) ?_
  simp [go_sem]
  refine (canonicalOrder_impl _ N lo1 hi1 _ (Net.turned G1.out HF2.out (by omega) (by omega)) (by omega) HG.out).mono ?_
  rintro e W4 ⟨ro, rfl, hro, hb4⟩
  have hg4 := grown_below hb4; clear hb4
  have hs4 := hg4.size
  have HF4 := Lib.hid (HF2.out.still hg4); clear HF2
  have HOR := Lib.hid hro; clear hro
  obtain ⟨Ao, co, rfl, hco, hdo⟩ := HOR.out.dims
  have hS5 : W4.cell? ⟨w.heap.size, 0, none⟩ = some (.slice A1 N.ends.length c1) ∧ W4.cell? ⟨w.heap.size, 1, none⟩ = some (.slice A1' N.ids.length c1') ∧ W4.cell? ⟨w.heap.size, 2, none⟩ = some (.slice A1'' N.inputs.length c1'') := ⟨(HF4.out.boxN bx1 (by omega)).cell 0 (by simp), (HF4.out.boxN bx1 (by omega)).cell 1 (by simp), (HF4.out.boxN bx1 (by omega)).cell 2 (by simp)⟩
  refine hK.out _ _ ⟨fun _ => hS5, ?_⟩
  clear hK K hS3
  try simp only [List.getElem_toArray, List.getElem_cons_succ, List.getElem_cons_zero, Act.put, List.setIfInBounds_toArray, List.set_cons_zero, List.set_cons_succ]
  refine anyU_ready (rs := [3]) (by kernel_rfl) (by simp) ?_
  refine ReadyU.cons (i := 3) rfl (fun K hK => ?_) ReadyU.nil
  simp only [List.getElem_toArray, List.getElem_cons_succ, List.getElem_cons_zero]
  refine ite_is (by rfl) ?_
  simp [go_sem]
  refine (renumber_any _ N lo1 hi1 _ (canonL N) _ _ _ (Net.turned G1.out HF4.out (by omega) (by omega)) (by omega) HOR.out (by omega) HG.out (canonL_len N) (canonL_at HG.out)).mono ?_
  rintro e W6 ⟨rm, rfl, hrm, hb6⟩
  have hg6 := grown_below hb6; clear hb6
  have hs6 := hg6.size
  have HF6 := Lib.hid (HF4.out.still hg6); clear HF4
  obtain ⟨Q, HQ⟩ : ∃ Q, Hid (renN N (canonL N) = Q) := ⟨_, Lib.hid rfl⟩
  rw [HQ.out] at hrm
  obtain ⟨A5, c5, A6, c6, A7, c7, rfl, hc5, hd5, _⟩ := hrm.net.parts
  have HM := Lib.hid hrm; clear hrm
  have hS7 : W6.cell? ⟨w.heap.size, 0, none⟩ = some (.slice A1 N.ends.length c1) ∧ W6.cell? ⟨w.heap.size, 1, none⟩ = some (.slice A1' N.ids.length c1') ∧ W6.cell? ⟨w.heap.size, 2, none⟩ = some (.slice A1'' N.inputs.length c1'') := ⟨(HF6.out.boxN bx1 (by omega)).cell 0 (by simp), (HF6.out.boxN bx1 (by omega)).cell 1 (by simp), (HF6.out.boxN bx1 (by omega)).cell 2 (by simp)⟩
  refine hK.out _ _ ⟨fun _ => hS7, ?_⟩
  clear hK K hS5
  try simp only [List.getElem_toArray, List.getElem_cons_succ, List.getElem_cons_zero, Act.put, List.setIfInBounds_toArray, List.set_cons_zero, List.set_cons_succ]
  have HBR : Hid (BoxN W6 (w.heap.size + 1) #[.slice none 0 0, .slice none 0 0, .slice none 0 0] 31) := Lib.hid (HF6.out.boxN bxx0 (by omega))
  have kr0 : W6.cell? ⟨w.heap.size + 1, 0, none⟩ = some (.slice none 0 0) := HBR.out.cell 0 (by simp)
  have krf0 := HBR.out.frozen 0
  have kr1 : W6.cell? ⟨w.heap.size + 1, 1, none⟩ = some (.slice none 0 0) := HBR.out.cell 1 (by simp)
  have krf1 := HBR.out.frozen 1
  have kr2 : W6.cell? ⟨w.heap.size + 1, 2, none⟩ = some (.slice none 0 0) := HBR.out.cell 2 (by simp)
  have krf2 := HBR.out.frozen 2
  refine anyU_ready (rs := [4]) (by kernel_rfl) (by simp) ?_
  refine ReadyU.cons (i := 4) rfl (fun K hK => ?_) ReadyU.nil
  simp only [List.getElem_toArray, List.getElem_cons_succ, List.getElem_cons_zero]
  refine ite_is (by rfl) ?_
  simp [go_sem, kr0, kr1, kr2, krf0, krf1, krf2]
  refine hK.out _ _ ⟨fun h => absurd h (by decide), ?_⟩
  clear hK K
  try simp only [List.getElem_toArray, List.getElem_cons_succ, List.getElem_cons_zero, Act.put, List.setIfInBounds_toArray, List.set_cons_zero, List.set_cons_succ]
  refine nameU ?_
  intro W8 HW8
  have hg8 : W6.grownBy W8 (some (w.heap.size + 1)) := by rw [HW8.out]; exact grownBy_setCell (p := ⟨w.heap.size + 1, 2, none⟩) (grownBy_setCell (p := ⟨w.heap.size + 1, 1, none⟩) (grown_set _ ⟨w.heap.size + 1, 0, none⟩ _) rfl _) rfl _
  have hs8 := hg8.size
  have HRB := Lib.hid (show BoxN W8 (w.heap.size + 1) #[.slice A5 Q.ends.length c5, .slice A6 Q.ids.length c6, .slice A7 Q.inputs.length c7] 31 by rw [HW8.out]; exact (((HBR.out.set 0 _).set 1 _).set 2 _))
  have HBL := Lib.hid ((HF6.out.below_of hbA (by omega) (by omega)).grown hg8 (by omega) fun g e => by cases e; omega)
  have HMM := Lib.hid (NetZ.turned HM.out ((Turned.refl (w.heap.size + 1) (w.heap.size + 1 + 1) W6).grown hg8 (fun g e => .inl (by cases e; omega))) (by omega) (.inr (by omega)))
  clear HW8 kr0 kr1 kr2 krf0 krf1 krf2 HBR
  refine anyU_ready (rs := [5]) (by kernel_rfl) (by simp) ?_
  refine ReadyU.cons (i := 5) rfl (fun K hK => ?_) ReadyU.nil
  simp only [List.getElem_toArray, List.getElem_cons_succ, List.getElem_cons_zero]
  refine ite_is (by rfl) ?_
  simp [go_sem]
  refine hK.out _ _ ⟨fun h => absurd h (by decide), ?_⟩
  clear hK K
  try simp only [List.getElem_toArray, List.getElem_cons_succ, List.getElem_cons_zero, Act.put, List.setIfInBounds_toArray, List.set_cons_zero, List.set_cons_succ]
  clear hS7
  refine anyU_done (by kernel_rfl) ?_ _
  go_wp2_with fail
  ((try simp only [Exit.inBlock, Exit.then]); refine bodyPost_ret (results_cellB rfl _ _ _ rfl (load_net HRB.out) rfl) rfl ?_)
  exact ⟨_, by rw [HG.out]; rfl, by rw [cnOut_yes HG.out]; unfold canonN; rw [HQ.out]; exact .inr (NetZ.mono HMM.out (by omega) (by omega) (Nat.le_refl _)), HBL.out⟩

set_option maxHeartbeats 4000000 in
set_option maxRecDepth 100000 in
theorem CanonicalNetwork_spec (v1 : Value) (N : NetD) (lo1 hi1 : Nat) (w : World) (h1 : Net w lo1 hi1 v1 N) (hh1 : hi1 ≤ w.heap.size) (hz1 : N.sz ≤ 1048576) (ok1 : N.Ok) :
    Calls Try.prog 14 #[v1] w fun e w' => ∃ r, e = .returned (.tuple #[r, .bool N.good]) ∧ NetY w' w.heap.size w'.heap.size r (cnOut N) ∧ Below w.heap.size w w' := by
  clear ok1
  have F1 := Lib.hid h1
  obtain ⟨A1, c1, A1', c1', A1'', c1'', rfl, hc1, hd1, _⟩ := h1.parts
  clear h1
  obtain ⟨WA, HWA⟩ : ∃ W, Hid (W = ((w.alloc (.cells #[.slice A1 N.ends.length c1, .slice A1' N.ids.length c1', .slice A1'' N.inputs.length c1''] 31)).alloc (.cells #[.slice none 0 0, .slice none 0 0, .slice none 0 0] 31))) := ⟨_, Lib.hid rfl⟩
  have hbA : Below w.heap.size w WA := by rw [HWA.out]; exact (((Below.refl _ _).alloc (Nat.le_refl _) _).alloc (by simp; try omega) _)
  have hsA : w.heap.size + 2 ≤ WA.heap.size := by rw [HWA.out]; simp; try omega
  have bx1 : BoxN WA (w.heap.size) #[.slice A1 N.ends.length c1, .slice A1' N.ids.length c1', .slice A1'' N.inputs.length c1''] 31 := by rw [HWA.out]; exact ((BoxN.new' _ _ _ (by simp)).still (grown_alloc _ _))
  have bxx0 : BoxN WA (w.heap.size + 1) #[.slice none 0 0, .slice none 0 0, .slice none 0 0] 31 := by rw [HWA.out]; exact (BoxN.new' _ _ _ (by simp))
  have G1 := Lib.hid (Net.below F1.out hbA hh1); clear F1
  go_enter Try.func14, Try.ntmps14
  go_upto_region 1 with (fail)
  rw [← HWA.out]; clear HWA
  have kbx1_0 : WA.cell? ⟨w.heap.size, 0, none⟩ = some (.slice A1 N.ends.length c1) := bx1.cell 0 (by simp)
  have kbx1_1 : WA.cell? ⟨w.heap.size, 1, none⟩ = some (.slice A1' N.ids.length c1') := bx1.cell 1 (by simp)
  have kbx1_2 : WA.cell? ⟨w.heap.size, 2, none⟩ = some (.slice A1'' N.inputs.length c1'') := bx1.cell 2 (by simp)
  go_wp2_with fail
  clear kbx1_0 kbx1_1 kbx1_2
  refine (neGood_any _ N lo1 hi1 _ G1.out (by omega) hz1).mono ?_
  rintro e W1 ⟨rfl, hb1⟩
  have hg1 := grown_below hb1; clear hb1
  have hs1 := hg1.size
  have HF1 := Lib.hid ((Turned.refl WA.heap.size WA.heap.size WA).still hg1)
  by_cases hg : N.good = true
  case neg =>
    have hg' : N.good = false := by simpa using hg
    rw [hg']
    have HNG := Lib.hid hg'; clear hg hg'
    have HBR : Hid (BoxN W1 (w.heap.size + 1) #[.slice none 0 0, .slice none 0 0, .slice none 0 0] 31) := Lib.hid (HF1.out.boxN bxx0 (by omega))
    have kr0 : W1.cell? ⟨w.heap.size + 1, 0, none⟩ = some (.slice none 0 0) := HBR.out.cell 0 (by simp)
    have krf0 := HBR.out.frozen 0
    have kr1 : W1.cell? ⟨w.heap.size + 1, 1, none⟩ = some (.slice none 0 0) := HBR.out.cell 1 (by simp)
    have krf1 := HBR.out.frozen 1
    have kr2 : W1.cell? ⟨w.heap.size + 1, 2, none⟩ = some (.slice none 0 0) := HBR.out.cell 2 (by simp)
    have krf2 := HBR.out.frozen 2
    go_wp2_with fail
    ((try simp only [Exit.inBlock, Exit.then]); refine bodyPost_ret (results_cellB rfl _ _ _ rfl (load_net (((HBR.out.set 0 (.slice none 0 0)).set 1 (.slice none 0 0)).set 2 (.slice none 0 0))) rfl) rfl ?_)
    have hg9 : W1.grownBy (((W1.setCell ⟨w.heap.size + 1, 0, none⟩ (.slice none 0 0)).setCell ⟨w.heap.size + 1, 1, none⟩ (.slice none 0 0)).setCell ⟨w.heap.size + 1, 2, none⟩ (.slice none 0 0)) (some (w.heap.size + 1)) := grownBy_setCell (p := ⟨w.heap.size + 1, 2, none⟩) (grownBy_setCell (p := ⟨w.heap.size + 1, 1, none⟩) (grown_set _ ⟨w.heap.size + 1, 0, none⟩ _) rfl _) rfl _
    exact ⟨_, by rw [HNG.out]; rfl, by rw [cnOut_no HNG.out]; exact NetY.none _ (by simp only [size_setCell]; omega), ((HF1.out.below_of hbA (by omega) (by omega)).grown hg9 (by omega) fun g e => by cases e; omega)⟩
  rw [hg]
  obtain ⟨n1, n40⟩ := good_n hg
  have HG := Lib.hid hg; clear hg
  have kbx1_0 : W1.cell? ⟨w.heap.size, 0, none⟩ = some (.slice A1 N.ends.length c1) := (HF1.out.boxN bx1 (by omega)).cell 0 (by simp)
  have kbx1_1 : W1.cell? ⟨w.heap.size, 1, none⟩ = some (.slice A1' N.ids.length c1') := (HF1.out.boxN bx1 (by omega)).cell 1 (by simp)
  have kbx1_2 : W1.cell? ⟨w.heap.size, 2, none⟩ = some (.slice A1'' N.inputs.length c1'') := (HF1.out.boxN bx1 (by omega)).cell 2 (by simp)
  go_wp2_with fail
  clear kbx1_0 kbx1_1 kbx1_2
  refine (isCanon_any _ N lo1 hi1 _ (Net.turned G1.out HF1.out (by omega) (by omega)) (by omega) HG.out).mono ?_
  rintro e W2 ⟨rm, rfl, hrm, hb2⟩
  have hg2 := grown_below hb2; clear hb2
  have hs2 := hg2.size
  have HF2 := Lib.hid (HF1.out.still hg2); clear HF1
  obtain ⟨Q, HQ⟩ : ∃ Q, Hid (canonN N = Q) := ⟨_, Lib.hid rfl⟩
  rw [HQ.out] at hrm
  obtain ⟨A5, c5, A6, c6, A7, c7, rfl, hc5, hd5, _⟩ := hrm.net.parts
  have HM := Lib.hid hrm; clear hrm
  have HBR : Hid (BoxN W2 (w.heap.size + 1) #[.slice none 0 0, .slice none 0 0, .slice none 0 0] 31) := Lib.hid (HF2.out.boxN bxx0 (by omega))
  have kr0 : W2.cell? ⟨w.heap.size + 1, 0, none⟩ = some (.slice none 0 0) := HBR.out.cell 0 (by simp)
  have krf0 := HBR.out.frozen 0
  have kr1 : W2.cell? ⟨w.heap.size + 1, 1, none⟩ = some (.slice none 0 0) := HBR.out.cell 1 (by simp)
  have krf1 := HBR.out.frozen 1
  have kr2 : W2.cell? ⟨w.heap.size + 1, 2, none⟩ = some (.slice none 0 0) := HBR.out.cell 2 (by simp)
  have krf2 := HBR.out.frozen 2
  go_wp2_with fail
  ((try simp only [Exit.inBlock, Exit.then]); refine bodyPost_ret (results_cellB rfl _ _ _ rfl (load_net (((HBR.out.set 0 (.slice A5 Q.ends.length c5)).set 1 (.slice A6 Q.ids.length c6)).set 2 (.slice A7 Q.inputs.length c7))) rfl) rfl ?_)
  have hg9 : W2.grownBy (((W2.setCell ⟨w.heap.size + 1, 0, none⟩ (.slice A5 Q.ends.length c5)).setCell ⟨w.heap.size + 1, 1, none⟩ (.slice A6 Q.ids.length c6)).setCell ⟨w.heap.size + 1, 2, none⟩ (.slice A7 Q.inputs.length c7)) (some (w.heap.size + 1)) := grownBy_setCell (p := ⟨w.heap.size + 1, 2, none⟩) (grownBy_setCell (p := ⟨w.heap.size + 1, 1, none⟩) (grown_set _ ⟨w.heap.size + 1, 0, none⟩ _) rfl _) rfl _
  have hs9 := hg9.size
  exact ⟨_, by rw [HG.out]; rfl, by rw [cnOut_yes HG.out, HQ.out]; exact .inr (NetZ.mono (NetZ.turned HM.out ((Turned.refl (w.heap.size + 1) (w.heap.size + 1 + 1) W2).grown hg9 (fun g e => .inl (by cases e; omega))) (by omega) (.inr (by omega))) (by omega) (by omega) (Nat.le_refl _)), ((HF2.out.below_of hbA (by omega) (by omega)).grown hg9 (by omega) fun g e => by cases e; omega)⟩

end Go.Proofs.Ytmdlginjblnfoaa

/- What marks a network whose top row, rows, ids and inputs lie apart, in either order. -/
namespace Go.Proofs.Ytmdlginjblnfoaa
open Go.ChangeShapes Go.WideShapes Go.ChangeAt Go.RowKit
set_option linter.unusedVariables false

theorem EndSSz.shapeZ {w : World} {g lo hi : Nat} {v : Value} {xss : List (List (Int × Int))} (h : EndSSz w g lo hi v xss) : ∃ A c, v = .slice A xss.length c := by
  obtain ⟨vs, ⟨A, c, e, _⟩, _⟩ := h
  exact ⟨A, c, e⟩
theorem EndSSz.turned {w w' : World} {g lo hi l2 h2 : Nat} {v : Value} {xss : List (List (Int × Int))} (h : EndSSz w g lo hi v xss) (hb : Turned l2 h2 w w') (hg : g < w.heap.size) (hB : hi ≤ w.heap.size) (hd : g < l2 ∨ h2 ≤ g) (hd2 : hi ≤ l2 ∨ h2 ≤ lo) : EndSSz w' g lo hi v xss := by
  obtain ⟨vs, h1, h2, h3⟩ := h
  refine ⟨vs, Sl.turned h1 hb (by omega) (by omega), fun i hi => ?_, h3⟩
  obtain ⟨e1, e2⟩ := h2 i hi
  exact ⟨e1.turned hb hB hd2, e2⟩
set_option maxHeartbeats 2000000 in
theorem markEndSSz_any (v : Value) (xss : List (List (Int × Int))) (k : Int) (g lo hi : Nat) (w : World) (h : EndSSz w g lo hi v xss) (hgl : g < w.heap.size) (hhi : hi ≤ w.heap.size) (hk0 : 0 ≤ k) (hk1 : k ≤ 1099511627776) (hn : cntSS xss ≤ 1099511627776) :
    Calls Try.prog 26 #[v, .int .i64 k] w fun e w' => e = .returned (.int .i64 (k + 2 * cntSS xss)) ∧ EndSSz w' g lo hi v (mkEndSS k xss) ∧ Turned lo hi w w' := by
  obtain ⟨vs, hsl, hvo, hap⟩ := h
  have hvs := fun i hi => (hvo i hi).1
  have hao := fun i hi => (hvo i hi).2
  clear hvo
  have hsl' := hsl
  obtain ⟨A, c, rfl, hc1, hc2, hcell⟩ := hsl'
  unfold maxLen at hc2
  have HV := Lib.hid hvs
  have HA := Lib.hid hap
  have HO := Lib.hid hao
  clear hvs hap hao
  go_enter Try.func26, Try.ntmps26
  go_wp2
  go_loopw [5, 1] (fun i kv wr => ∃ m : Nat, m ≤ xss.length ∧ i = .int .i64 m ∧ kv = .int .i64 (k + 2 * sumL xss m) ∧ Sl wr g (g + 1) 1 (.slice A xss.length c) xss.length vs ∧
      (∀ j, j < m → EndS wr lo hi (vs j) (runE (k + 2 * sumL xss j) (nthL xss j).length)) ∧ (∀ j, m ≤ j → j < xss.length → EndS wr lo hi (vs j) (nthL xss j)) ∧ Turned lo hi w wr ∧ Hid (wr.heap.size = w.heap.size)) (fun i _ _ => xss.length - (intOf i).toNat)
  case atStart => exact ⟨0, Nat.zero_le _, rfl, by rw [sumL_zero]; simp, hsl, fun j hj => absurd hj (by omega), fun j _ hj => HV.out j hj, Turned.refl _ _ _, Lib.hid rfl⟩
  case round =>
    obtain ⟨m, hm, rfl, rfl, hs, hl, hr, ht, HS⟩ := hrel
    have HL := Lib.hid hl
    have HR := Lib.hid hr
    clear hl hr
    have hmo := sumL_mono xss m hm
    have hcs : sumL xss xss.length ≤ 1099511627776 := hn
    have hsz : w.heap.size ≤ wr.heap.size := ht.size
    by_cases hlt : m < xss.length
    · obtain ⟨b, off, rfl, hb1, hb2, _⟩ := hcell (by omega)
      obtain ⟨hck, hfk⟩ := hs.at_ (j := m) (by omega)
      have hu := HR.out m (Nat.le_refl _) hlt
      have HU := Lib.hid hu
      have HSU := Lib.hid (sumL_succ xss m hlt)
      have hmo2 := sumL_mono xss (m + 1) (by omega)
      have hlen : (nthL xss m).length ≤ 1099511627776 := by have := HSU.out; omega
      obtain ⟨A2, c2, e2, hd1, hd2, _⟩ := hu.form
      rw [e2] at hck
      rw [e2] at HU
      have E2 := Lib.hid e2
      clear hu e2 hcell hfk
      go_wp2_with fail
      refine (markEndS_any _ (nthL xss m) _ lo hi _ HU.out (by omega) (by omega) (by omega) (by omega)).mono ?_
      rintro e w1 ⟨rfl, hr1, hg1, hz1⟩
      have HR1 := Lib.hid hr1
      have HZ1 := Lib.hid hz1
      clear hr1 hz1
      go_wp2_with fail
      go_roundw
      case rel =>
        have hT : Turned lo hi wr w1 := Turned.of_row (HU.out) hg1
        refine ⟨m + 1, by omega, by go_num, by rw [HSU.out]; go_num, ?_, ?_, ?_, ht.trans hT, Lib.hid (by rw [HZ1.out]; exact HS.out)⟩
        · refine hs.grown hg1 (by omega) ?_
          have := HO.out m hlt
          rw [E2.out] at this
          rcases this with e | e
          · right; rw [e, rowOf_some (by omega)]; simp
          · right; rw [rowOf_some (by omega), show b = g by omega]; exact fun e3 => e e3.symm
        · intro j hj
          by_cases e : j = m
          · subst e; rw [E2.out]; exact HR1.out
          · refine Sl.grown (HL.out j (by omega)) hg1 (by omega) ?_
            rw [runE_length]
            have := HA.out j m (by omega) hlt
            rw [E2.out] at this
            exact this
        · intro j hj hjl
          refine Sl.grown (HR.out j (by omega) hjl) hg1 (by omega) ?_
          have := HA.out m j (by omega) hjl
          rw [E2.out] at this
          rcases this with e | e
          · cases hq : rowOf (nthL xss j).length (vs j) with
            | none => exact .inl rfl
            | some q => right; rw [e]; simp
          · exact .inr fun e3 => e e3.symm
      case measure => simp [intOf]; omega
    · obtain rfl : m = xss.length := by omega
      go_wp2
      go_ret
      refine ⟨rfl, ⟨vs, ?_, fun i hi => ?_, fun i j hij hj => ?_⟩, ht⟩
      · rw [mkEndSS_length]; exact hs
      · rw [mkEndSS_length] at hi
        rw [nthL_mkEndSS _ _ _ hi, runE_length]
        exact ⟨HL.out i hi, HO.out i hi⟩
      · rw [mkEndSS_length] at hj
        rw [nthL_mkEndSS _ _ _ hj, nthL_mkEndSS _ _ _ (by omega), runE_length, runE_length]
        exact HA.out i j hij hj

set_option maxHeartbeats 2000000 in
theorem markNetworkZ_any (v : Value) (N : NetD) (k : Int) (lo hi : Nat) (w : World) (h : NetZ w lo hi v N) (hhi : hi ≤ w.heap.size) (hk0 : 0 ≤ k) (hk1 : k ≤ 1073741824) (hn : N.cnt ≤ 1073741824) :
    Calls Try.prog 11 #[v, .int .i64 k] w fun e w' => e = .returned (.int .i64 (k + N.cnt)) ∧ NetZ w' lo hi v (N.mk_ k) ∧ Turned lo hi w w' := by
  obtain ⟨d1, d2, d3, i2, g, ve, vi, vn, rfl, hR⟩ := h
  have o1 := hR.o1; have o2 := hR.o2; have o3 := hR.o3; have o5 := hR.o5; have o4 := hR.o4; have o6 := hR.o6; have g1 := hR.g1; have g2 := hR.g2; have g3 := hR.g3; have g4 := hR.g4
  have he := hR.rows; have hI := hR.ids; have hn0 := hR.ins
  have hshE := he.shapeZ; have hshD := hI.shape; have hshI := hn0.shape
  have hz : N.cnt = 2 * cntSS N.ends + N.ids.length + N.inputs.length := rfl
  rw [hz] at hn
  have HZ := Lib.hid hz; clear hz
  have HE := Lib.hid he; have HI := Lib.hid hI; have HN := Lib.hid hn0
  have HT := Lib.hid hR.top
  clear he hI hn0 hR
  obtain ⟨A1, c1, rfl⟩ := hshE
  obtain ⟨A2, c2, rfl⟩ := hshD
  obtain ⟨A3, c3, rfl⟩ := hshI
  go_enter Try.func11, Try.ntmps11
  go_wp2_with fail
  obtain ⟨W0, HW0⟩ : ∃ W0, Hid (W0 = w.alloc (.cells #[.slice A1 N.ends.length c1, .slice A2 N.ids.length c2, .slice A3 N.inputs.length c3] 31)) := ⟨_, Lib.hid rfl⟩
  rw [← HW0.out]
  have hb0 : Below w.heap.size w W0 := by rw [HW0.out]; exact below_a1 _ _
  have hs0 : w.heap.size + 1 ≤ W0.heap.size := by rw [HW0.out]; simp
  have b0 : Box3 W0 w.heap.size 31 (.slice A1 N.ends.length c1) (.slice A2 N.ids.length c2) (.slice A3 N.inputs.length c3) := by rw [HW0.out]; exact Box3.new _ _ _ _ _
  clear HW0
  refine (markEndSSz_any _ N.ends k g i2 hi _ (EndSSz.turned HE.out (Turned.of_below hb0 (Nat.le_refl _) (lo := w.heap.size) (hi := w.heap.size)) (by omega) (by omega) (by omega) (by omega)) (by omega) (by omega) hk0 (by omega) (by omega)).mono ?_
  rintro e w1 ⟨rfl, hr1, ht1⟩
  have hs1 := ht1.size
  have R1 := Lib.hid hr1
  have a0 : Box3 w1 w.heap.size 31 (.slice A1 N.ends.length c1) (.slice A2 N.ids.length c2) (.slice A3 N.inputs.length c3) := (ht1.block _ (by omega) (by omega)).trans b0
  have T1 : Turned lo hi w w1 := (Turned.of_below hb0 (Nat.le_refl _)).trans (ht1.mono (by omega) (Nat.le_refl _))
  have I1 := Lib.hid ((HI.out.below hb0 (by omega)).turned ht1 (by omega) (by omega))
  have N1 := Lib.hid ((HN.out.below hb0 (by omega)).turned ht1 (by omega) (by omega))
  clear hr1 ht1 b0 hb0
  have e0 := a0.cells.2.1
  go_wp2_with fail
  clear e0
  refine (markIntS_any _ N.ids _ d1 d2 _ I1.out (by omega) (by omega) (by omega) (by omega)).mono ?_
  rintro e w2 ⟨rfl, hr2, hg2, hz2⟩
  have ht2 : Turned d1 d2 w1 w2 := Turned.of_row I1.out hg2
  have hs2 := ht2.size
  have R2 := Lib.hid hr2
  have R1b := Lib.hid (EndSSz.turned R1.out ht2 (by omega) (by omega) (by omega) (by omega))
  replace a0 : Box3 w2 w.heap.size 31 (.slice A1 N.ends.length c1) (.slice A2 N.ids.length c2) (.slice A3 N.inputs.length c3) := (ht2.block _ (by omega) (by omega)).trans a0
  have T2 : Turned lo hi w w2 := T1.trans (ht2.mono (by omega) (by omega))
  have N2 := Lib.hid (N1.out.turned ht2 (by omega) (by omega))
  clear hr2 hg2 hz2 ht2 R1 T1 N1
  have e0 := a0.cells.2.2
  go_wp2_with fail
  clear e0
  refine (markIntS_any _ N.inputs _ d3 i2 _ N2.out (by omega) (by omega) (by omega) (by omega)).mono ?_
  rintro e w3 ⟨rfl, hr3, hg3, hz3⟩
  have ht3 : Turned d3 i2 w2 w3 := Turned.of_row N2.out hg3
  go_wp2_with fail
  go_ret
  have hzz := HZ.out
  have hs3 := ht3.size
  have hRZ := EndSSz.turned R1b.out ht3 (by omega) (by omega) (by omega) (by omega)
  have hRD := R2.out.turned ht3 (by omega) (by omega)
  refine ⟨ret_int (by omega), ⟨d1, d2, d3, i2, g, _, _, _, rfl, ⟨o1, o2, o3, o5, o4, by omega, g1, g2, g3, g4, hRD, hr3, ?_, hRZ⟩⟩, T2.trans (ht3.mono (by omega) (by omega))⟩
  obtain ⟨off, c, e⟩ := HT.out
  exact ⟨off, c, by rw [e]; simp only [NetD.mk_, mkEndSS_length]⟩

theorem markNetworkY_any (v : Value) (N : NetD) (k : Int) (lo hi : Nat) (w : World) (h : NetY w lo hi v N) (hhi : hi ≤ w.heap.size) (hk0 : 0 ≤ k) (hk1 : k ≤ 1073741824) (hn : N.cnt ≤ 1073741824) :
    Calls Try.prog 11 #[v, .int .i64 k] w fun e w' => e = .returned (.int .i64 (k + N.cnt)) ∧ NetY w' lo hi v (N.mk_ k) ∧ Turned lo hi w w' := by
  rcases h with h | h
  · exact (markNetwork_any v N k lo hi w h hhi hk0 hk1 hn).mono fun e w' ⟨a, b, c⟩ => ⟨a, .inl b, c⟩
  · exact (markNetworkZ_any v N k lo hi w h hhi hk0 hk1 hn).mono fun e w' ⟨a, b, c⟩ => ⟨a, .inr b, c⟩
theorem sumL_le {α : Type} (xss : List (List α)) (b : Nat) (h : ∀ i, i < xss.length → (nthL xss i).length ≤ b) : ∀ k, k ≤ xss.length → sumL xss k ≤ k * b
  | 0, _ => by rw [sumL_zero]; omega
  | k + 1, hk => by
    have := sumL_le xss b h k (by omega)
    have h2 := h k (by omega)
    rw [sumL_succ xss k (by omega), Nat.succ_mul]
    omega
theorem good_cnt {N : NetD} (hg : N.good = true) : N.cnt ≤ 1000 ∧ N.sz ≤ 1000 := by
  obtain ⟨h1, h2⟩ := good_n hg
  have h3 := sumL_le N.ends 6 (fun i hi => good_deg hg hi) N.ends.length (Nat.le_refl _)
  have h4 := good_insl hg
  have h5 := good_idsl hg
  unfold NetD.cnt NetD.sz szSS cntSS
  omega
theorem cnOut_cnt (N : NetD) : (cnOut N).cnt ≤ 1000 ∧ (cnOut N).sz ≤ 1000 := by
  cases hg : N.good with
  | false =>
    rw [cnOut_no hg]
    exact ⟨by decide, by decide⟩
  | true =>
    rw [cnOut_yes hg]
    exact good_cnt (canonN_good hg)
end Go.Proofs.Ytmdlginjblnfoaa

/- Contracts of the law's heldEndS, heldEndSS, heldNetwork: what mark has left is still there. -/
namespace Go.Proofs.Ytmdlginjblnfoaa
open Go.ChangeShapes Go.WideShapes Go.ChangeAt Go.RowKit
set_option linter.unusedVariables false

set_option maxHeartbeats 1000000 in
theorem heldEndS_yes (v : Value) (zs : List (Int × Int)) (k : Int) (lo hi : Nat) (w : World) (h : EndS w lo hi v (runE k zs.length)) (hhi : hi ≤ w.heap.size) (hk0 : 0 ≤ k) (hk1 : k ≤ 1152921504606846976) (hn : zs.length ≤ 576460752303423488) :
    Calls Try.prog 46 #[v, .int .i64 k] w fun e w' => e = .returned (.int .i64 (k + 2 * zs.length)) ∧ Below w.heap.size w w' := by
  generalize zs.length = n at *
  have HV := Lib.hid (show Sl w lo hi 2 v n (endCell (runE k n)) from by have h2 := h; unfold EndS at h2; rw [runE_length] at h2; exact h2)
  obtain ⟨A, c, rfl, hc1, hc2, hcell⟩ := h.form
  clear h
  simp only [runE_length] at *
  go_enter Try.func46, Try.ntmps46
  go_wp2
  go_loop [5, 1] (fun i kv => ∃ m : Nat, m ≤ n ∧ i = .int .i64 m ∧ kv = .int .i64 (k + 2 * m)) (fun i _ => n - (intOf i).toNat)
  case atStart => exact ⟨0, Nat.zero_le _, rfl, by simp⟩
  case round =>
    obtain ⟨m, hm, rfl, rfl⟩ := hrel
    by_cases hlt : m < n
    · obtain ⟨b, off, rfl, hb1, hb2, hcs⟩ := hcell (by omega)
      obtain ⟨xe, xe'⟩ := hcs m hlt
      rw [nthE_runE _ _ _ hlt] at xe xe'
      dsimp only at xe xe'
      clear hcs HV
      clear hcell
      have hmi : (m : Int) < n := by omega
      go_wp2
      go_round
      case rel => exact ⟨m + 1, by omega, by go_num, by go_num⟩
      case measure => simp [intOf]; omega
    · obtain rfl : m = n := by omega
      go_wp2
      go_ret
      exact ⟨rfl, Below.refl _ _⟩
set_option maxHeartbeats 1000000 in
theorem heldEndSS_yes (v : Value) (xss : List (List (Int × Int))) (k : Int) (lo hi : Nat) (w : World) (h : EndSS w lo hi v (mkEndSS k xss)) (hhi : hi ≤ w.heap.size) (hk0 : 0 ≤ k) (hk1 : k ≤ 1099511627776) (hn : cntSS xss ≤ 1099511627776) :
    Calls Try.prog 29 #[v, .int .i64 k] w fun e w' => e = .returned (.int .i64 (k + 2 * cntSS xss)) ∧ Below w.heap.size w w' := by
  obtain ⟨A, c, rfl, hc1, hc2, hcell⟩ := h.form
  rw [mkEndSS_length] at *
  unfold maxLen at hc2
  go_enter Try.func29, Try.ntmps29
  go_wp2
  go_loopw [5, 1] (fun i kv wr => ∃ m : Nat, m ≤ xss.length ∧ i = .int .i64 m ∧ kv = .int .i64 (k + 2 * sumL xss m) ∧ Below w.heap.size w wr) (fun i _ _ => xss.length - (intOf i).toNat)
  case atStart => exact ⟨0, Nat.zero_le _, rfl, by rw [sumL_zero]; simp, Below.refl _ _⟩
  case round =>
    obtain ⟨m, hm, rfl, rfl, hb⟩ := hrel
    have hmo := sumL_mono xss m hm
    have hcs : sumL xss xss.length ≤ 1099511627776 := hn
    have hs0 := hb.size
    by_cases hlt : m < xss.length
    · obtain ⟨b, off, rfl, hb1, hb2, hcs2⟩ := hcell (by omega)
      obtain ⟨u, x1, r1⟩ := hcs2 m hlt
      rw [nthL_mkEndSS _ _ _ hlt] at r1
      have p1 := (hb.cell (p := ⟨b, off + m, none⟩) (by show b < _; omega)).trans x1
      have R1 := Lib.hid (r1.below hb (by omega))
      have HSU := Lib.hid (sumL_succ xss m hlt)
      have hmo2 := sumL_mono xss (m + 1) (by omega)
      have hlen : (nthL xss m).length ≤ 1099511627776 := by have := HSU.out; omega
      obtain ⟨A2, c2, rfl, hd1, hd2, _⟩ := r1.form
      clear hcs2 x1 r1 hcell
      have hrl := runE_length (k + 2 * sumL xss m) (nthL xss m).length
      have HRL := Lib.hid hrl
      clear hrl
      go_wp2_with fail
      refine (heldEndS_yes _ (nthL xss m) _ lo hi _ R1.out (by omega) (by omega) (by omega) (by omega)).mono ?_
      rintro e w1 ⟨rfl, hbq⟩
      go_wp2_with fail
      go_roundw
      case rel => exact ⟨m + 1, by omega, by go_num, by rw [HSU.out]; go_num, hb.trans (hbq.mono hs0)⟩
      case measure => simp [intOf]; omega
    · obtain rfl : m = xss.length := by omega
      go_wp2
      go_ret
      exact ⟨rfl, hb⟩

set_option maxHeartbeats 1000000 in
theorem heldNetwork_yes (v : Value) (N : NetD) (k : Int) (lo hi : Nat) (w : World) (h : Net w lo hi v (N.mk_ k)) (hhi : hi ≤ w.heap.size) (hk0 : 0 ≤ k) (hk1 : k ≤ 1073741824) (hn : N.cnt ≤ 1073741824) :
    Calls Try.prog 16 #[v, .int .i64 k] w fun e w' => e = .returned (.int .i64 (k + N.cnt)) ∧ Below w.heap.size w w' := by
  obtain ⟨ve, vi, vn, rfl, he, hd, hn0⟩ := h
  have hz : N.cnt = 2 * cntSS N.ends + N.ids.length + N.inputs.length := rfl
  rw [hz] at hn
  have HZ := Lib.hid hz; clear hz
  unfold NetD.mk_ at he hd hn0
  dsimp only at he hd hn0
  have HE := Lib.hid he; have HI := Lib.hid hd; have HN := Lib.hid hn0
  obtain ⟨A1, c1, rfl⟩ := he.shape
  obtain ⟨A2, c2, rfl⟩ := hd.shape
  obtain ⟨A3, c3, rfl⟩ := hn0.shape
  rw [mkEndSS_length] at HE ⊢
  rw [run_length] at HI HN ⊢
  rw [run_length]
  clear he hd hn0
  go_enter Try.func16, Try.ntmps16
  go_wp2_with fail
  obtain ⟨W0, HW0⟩ : ∃ W0, Hid (W0 = w.alloc (.cells #[.slice A1 N.ends.length c1, .slice A2 N.ids.length c2, .slice A3 N.inputs.length c3] 31)) := ⟨_, Lib.hid rfl⟩
  rw [← HW0.out]
  have hb0 : Below w.heap.size w W0 := by rw [HW0.out]; exact below_a1 _ _
  have hs0 : w.heap.size + 1 ≤ W0.heap.size := by rw [HW0.out]; simp
  have b0 : Box3 W0 w.heap.size 31 (.slice A1 N.ends.length c1) (.slice A2 N.ids.length c2) (.slice A3 N.inputs.length c3) := by rw [HW0.out]; exact Box3.new _ _ _ _ _
  clear HW0
  refine (heldEndSS_yes _ N.ends k lo hi _ (ESS.below HE.out hb0 (by omega)) (by omega) hk0 (by omega) (by omega)).mono ?_
  rintro e w1 ⟨rfl, hb1⟩
  have hs1 := hb1.size
  have a0 := b0.below hb1 (by omega)
  have hw1 := hb0.trans (hb1.mono (by omega))
  clear b0 hb0 hb1
  have e0 := a0.cells.2.1
  go_wp2_with fail
  clear e0
  refine (heldIntS_yes _ N.ids _ lo hi _ (HI.out.below hw1 (by omega)) (by omega) (by omega) (by omega)).mono ?_
  rintro e w2 ⟨rfl, hb2⟩
  have hs2 := hb2.size
  replace a0 := a0.below hb2 (by omega)
  replace hw1 := hw1.trans (hb2.mono (by omega))
  clear hb2
  have e0 := a0.cells.2.2
  go_wp2_with fail
  clear e0
  refine (heldIntS_yes _ N.inputs _ lo hi _ (HN.out.below hw1 (by omega)) (by omega) (by omega) (by omega)).mono ?_
  rintro e w3 ⟨rfl, hb3⟩
  go_wp2_with fail
  go_ret
  have hzz := HZ.out
  exact ⟨ret_int (by omega), hw1.trans (hb3.mono (by omega))⟩

end Go.Proofs.Ytmdlginjblnfoaa
