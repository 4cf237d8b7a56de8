/-
  Contracts: a port's partner, and the trail from a port on (reference).
-/
import Derived.Test.YtpanigomfmfknaaGreatTr2
namespace Go.Proofs.YtpanigomfmfknaaGreat
open Go.ChangeShapes Go.WideShapes Go.ChangeAt Go.RowKit
set_option linter.unusedVariables false

/-- the partner's port, or -1 -/
def prtn (N : NetD) (p : Po) : Int := if pairedB N p = true then (fl p.2 : Int) else -1
theorem own_two (w : World) (base : Nat) (e : TypeId) (hb : base ≤ w.heap.size) (x y : Int) : OwnI (w.alloc (.cells #[.int .i64 x, .int .i64 y] e)) base e (.slice (some ⟨w.heap.size, 0, none⟩) 2 2) [x, y] :=
  ⟨rfl, .inr ⟨w.heap.size, 2, #[.int .i64 x, .int .i64 y], rfl, hb, heap_alloc_new w _, Nat.le_refl _, by unfold maxLen; omega, rfl, rfl⟩⟩
def lenW : Value → Nat
  | .slice _ n _ => n
  | _ => 0
theorem OwnI.lenW {w : World} {base : Nat} {e : TypeId} {v : Value} {zs : List Int} (h : OwnI w base e v zs) : lenW v = zs.length := by
  obtain ⟨A, c, rfl, _⟩ := h.ints.dims
  rfl

set_option maxHeartbeats 2000000 in
set_option maxRecDepth 100000 in
theorem orPartner_any (v1 : Value) (N : NetD) (lo1 hi1 : Nat) (v : Nat) (i : Nat) (w : World) (h1 : Net w lo1 hi1 v1 N) (hh1 : hi1 ≤ w.heap.size) (hg : N.good = true) (ho : okP N (v, i)) :
    Calls Tryz.prog 34 #[v1, .int .i64 (v : Nat), .int .i64 (i : Nat)] w fun e w' => e = .returned (.int .i64 (prtn N (v, i))) ∧ Below w.heap.size w w' := by
  obtain ⟨n1, n40⟩ := good_n hg
  have HG := Lib.hid hg; clear hg
  obtain ⟨hv, hi'⟩ := ho
  dsimp only at hv hi'
  unfold degAt at hi'
  have hd6 := good_deg HG.out hv
  have hfl := fl_le i
  have hx := xor1 (show i < 8 by omega)
  have hvi : (v : Int) < N.ends.length := by omega
  have F1 := Lib.hid h1
  obtain ⟨A1, c1, A1', c1', A1'', c1'', rfl, hc1, hd1, _⟩ := h1.parts
  obtain ⟨b1, o1, _, _, rfl, _⟩ := Net.rowAt F1.out (u := 0) (by omega)
  clear h1
  obtain ⟨WA, HWA⟩ : ∃ W, Hid (W = (w.alloc (.cells #[.slice (some ⟨b1, o1, none⟩) N.ends.length c1, .slice A1' N.ids.length c1', .slice A1'' N.inputs.length c1''] 32))) := ⟨_, Lib.hid rfl⟩
  have hbA : Below w.heap.size w WA := by rw [HWA.out]; exact ((Below.refl _ _).alloc (Nat.le_refl _) _)
  have hsA : w.heap.size + 1 ≤ WA.heap.size := by rw [HWA.out]; simp; try omega
  have bx1 : BoxN WA (w.heap.size) #[.slice (some ⟨b1, o1, none⟩) N.ends.length c1, .slice A1' N.ids.length c1', .slice A1'' N.inputs.length c1''] 32 := by rw [HWA.out]; exact (BoxN.new' _ _ _ (by simp))
  have G1 := Lib.hid (Net.below F1.out hbA hh1); clear F1
  go_enter Tryz.func34, Tryz.ntmps34
  go_upto_region 1 with (fail)
  rw [← HWA.out]; clear HWA
  obtain ⟨AR, cR, hbR, qR, hcR, hdR, hRR⟩ := Net.rowIn G1.out hv
  have RR := Lib.hid hRR; clear hRR
  have kbx1_0 : WA.cell? ⟨w.heap.size, 0, none⟩ = some (.slice (some ⟨b1, o1, none⟩) N.ends.length c1) := bx1.cell 0 (by simp)
  have kbx1_1 : WA.cell? ⟨w.heap.size, 1, none⟩ = some (.slice A1' N.ids.length c1') := bx1.cell 1 (by simp)
  have kbx1_2 : WA.cell? ⟨w.heap.size, 2, none⟩ = some (.slice A1'' N.inputs.length c1'') := bx1.cell 2 (by simp)
  by_cases hp : fl i < (nthL N.ends v).length
  · have h1 : ((fl i : Nat) : Int) < ((nthL N.ends v).length : Nat) := by omega
    have HP := Lib.hid (show pairedB N (v, i) = true by unfold pairedB degAt; simpa using hp)
    clear hp
    go_wp2_with fail
    go_ret
    exact ⟨ret_int (by unfold prtn; rw [if_pos HP.out]), hbA⟩
  · have h1 : ¬ ((fl i : Nat) : Int) < ((nthL N.ends v).length : Nat) := by omega
    have HP := Lib.hid (show ¬ pairedB N (v, i) = true by unfold pairedB degAt; simpa using hp)
    clear hp
    go_wp2_with fail
    go_ret
    exact ⟨ret_int (by unfold prtn; rw [if_neg HP.out]), hbA⟩

set_option maxHeartbeats 8000000 in
set_option maxRecDepth 100000 in
theorem orTrail_any (v1 : Value) (N : NetD) (lo1 hi1 : Nat) (v : Nat) (i : Nat) (w : World) (h1 : Net w lo1 hi1 v1 N) (hh1 : hi1 ≤ w.heap.size) (hg : N.good = true) (ho : okP N (v, i)) :
    Calls Tryz.prog 35 #[v1, .int .i64 (v : Nat), .int .i64 (i : Nat)] w fun e w' => ∃ r, e = .returned (r) ∧ IntS w' w.heap.size w'.heap.size r (numsP (trl N (v, i))) ∧ Below w.heap.size w w' := by
  obtain ⟨n1, n40⟩ := good_n hg
  have HG := Lib.hid hg; clear hg
  have HOK := Lib.hid ho; clear ho
  have F1 := Lib.hid h1
  obtain ⟨A1, c1, A1', c1', A1'', c1'', rfl, hc1, hd1, _⟩ := h1.parts
  obtain ⟨b1, o1, _, _, rfl, _⟩ := Net.rowAt F1.out (u := 0) (by omega)
  clear h1
  obtain ⟨WA, HWA⟩ : ∃ W, Hid (W = (w.alloc (.cells #[.slice (some ⟨b1, o1, none⟩) N.ends.length c1, .slice A1' N.ids.length c1', .slice A1'' N.inputs.length c1''] 32))) := ⟨_, Lib.hid rfl⟩
  have hbA : Below w.heap.size w WA := by rw [HWA.out]; exact ((Below.refl _ _).alloc (Nat.le_refl _) _)
  have hsA : w.heap.size + 1 ≤ WA.heap.size := by rw [HWA.out]; simp; try omega
  have bx1 : BoxN WA (w.heap.size) #[.slice (some ⟨b1, o1, none⟩) N.ends.length c1, .slice A1' N.ids.length c1', .slice A1'' N.inputs.length c1''] 32 := by rw [HWA.out]; exact (BoxN.new' _ _ _ (by simp))
  have G1 := Lib.hid (Net.below F1.out hbA hh1); clear F1
  go_enter Tryz.func35, Tryz.ntmps35
  go_upto_region 1 with (fail)
  rw [← HWA.out]; clear HWA
  go_wp2_with fail
  go_loopw [7] (fun ov wr => ∃ (l : List Po) (z : List Int), Hid (Ch N (v, i) l) ∧ Hid (numsP l = z) ∧ Hid (OwnI wr WA.heap.size 3 ov z) ∧ Hid (Turned WA.heap.size WA.heap.size WA wr)) (fun ov _ => 600 - lenW ov)
  case atStart => exact ⟨[(v, i)], _, Lib.hid (Ch.one HOK.out), Lib.hid rfl, Lib.hid (own_two WA _ _ (Nat.le_refl _) _ _), Lib.hid ((Turned.refl _ _ _).still (grown_alloc _ _))⟩
  case round =>
    obtain ⟨l, z, HC, HZ, HO, HF1⟩ := hrel
    have hs1 := HF1.out.size
    have hl240 := HC.out.len HG.out
    have hl0 := HC.out.pos
    have hzl : z.length = 2 * l.length := by rw [← HZ.out]; exact numsP_length l
    have HZL := Lib.hid hzl
    have HLW := Lib.hid HO.out.lenW
    obtain ⟨⟨pn, pp⟩, HP⟩ : ∃ p, Hid (lastP l = p) := ⟨_, Lib.hid rfl⟩
    have hop : okP N (pn, pp) := by rw [← HP.out]; exact HC.out.last
    have HOP := Lib.hid hop
    obtain ⟨hpn, hpp⟩ := hop
    dsimp only at hpn hpp
    unfold degAt at hpp
    have hlow := HO.out.lt
    have HLOW := Lib.hid hlow; clear hlow
    obtain ⟨n9, HN9⟩ : ∃ n9, Hid (2 * (l.length - 1) = n9) := ⟨_, Lib.hid rfl⟩
    have hz9 : z.length = n9 + 2 := by have := HN9.out; omega
    have hnn := nth_numsP l (l.length - 1) (by omega)
    rw [HZ.out, HN9.out, show nthP l (l.length - 1) = (pn, pp) from HP.out] at hnn
    obtain ⟨y1, y2⟩ := hnn
    obtain ⟨Ao, co, rfl, hco1, hco2⟩ := HO.out.ints.dims
    obtain ⟨bo, oo, rfl, hbo1, hbo2, x1, _⟩ := HO.out.ints.opened (j := n9) (by omega)
    have x2 := (HO.out.ints.at_ (j := n9 + 1) (by omega)).1
    dsimp only at y1 y2
    rw [y1] at x1
    rw [y2] at x2
    rw [← Nat.add_assoc] at x2
    have HX1 := Lib.hid x1; have HX2 := Lib.hid x2
    clear x1 x2 y1 y2
    obtain ⟨AR, cR, hbR, qR, hcR, hdR, hRR⟩ := Net.rowIn G1.out hpn
    replace qR := (HF1.out.cell (by omega) (by omega)).trans qR
    have RR := Lib.hid hRR; clear hRR
    obtain ⟨bR, oR, rfl, _, hbR', eR, eR'⟩ := (EndS.turned RR.out HF1.out (by omega) (by omega)).opened hpp
    obtain ⟨tt, tr, etR, htt, htr, euR⟩ := good_end HG.out hpn hpp
    rw [etR] at eR eR'
    dsimp only at eR eR'
    have HEP := Lib.hid (show ep N (pn, pp) = (tt, tr) by unfold ep endAt; dsimp only; rw [etR]; simp)
    clear etR euR
    have HOT := Lib.hid (show okP N (tt, tr) from ⟨htt, htr⟩)
    have hpni : (pn : Int) < N.ends.length := by omega
    have hppi : (pp : Int) < (nthL N.ends pn).length := by omega
    have e1 : ((z.length : Nat) : Int) - 2 = (n9 : Nat) := by omega
    have e2 : ((z.length : Nat) : Int) - 1 = ((n9 + 1 : Nat) : Int) := by omega
    have i1 : (n9 : Int) < z.length := by omega
    have i2 : 0 ≤ (n9 : Int) + 1 ∧ (n9 : Int) + 1 < z.length := by omega
    have w5 : IntKind.i64.wrap ((n9 : Nat) : Int) = (n9 : Nat) := by simp [IntKind.wrap, IntKind.bits, IntKind.signed]; omega
    have w13 : IntKind.i64.wrap ((n9 : Int) + 1) = (n9 : Int) + 1 := by simp [IntKind.wrap, IntKind.bits, IntKind.signed]; omega
    have HZ9 := Lib.hid hz9
    clear hzl hz9
    go_wp2_with fail
    refine wp_region_U (fun w' => w'.cell? ⟨w.heap.size, 0, none⟩ = some (.slice (some ⟨b1, o1, none⟩) N.ends.length c1) ∧ w'.cell? ⟨b1, o1 + pn, none⟩ = some (.slice (some ⟨bR, oR, none⟩) (nthL N.ends pn).length cR) ∧ w'.cell? ⟨bR, oR + pp * 2, none⟩ = some (.int .i64 (tt : Nat)) ∧ w'.cell? ⟨bR, oR + pp * 2 + 1, none⟩ = some (.int .i64 (tr : Nat)) ∧ w'.cell? ⟨bo, oo + n9, none⟩ = some (.int .i64 (pn : Nat)) ∧ w'.cell? ⟨bo, oo + n9 + 1, none⟩ = some (.int .i64 (pp : Nat))) [19] (by kernel_rfl) ?_
    refine nameU ?_
    intro W2 HW2
    have hg2 : wr.grownBy W2 none := by rw [HW2.out]; exact grown_drew _
    clear HW2
    have hs2 := hg2.size
    have HF2 := Lib.hid (HF1.out.still hg2); clear HF1
    have OI2 := Lib.hid (OwnI.still HO.out hg2); clear HO
    have HGV := Lib.hid hg2
    have hS3 : W2.cell? ⟨w.heap.size, 0, none⟩ = some (.slice (some ⟨b1, o1, none⟩) N.ends.length c1) ∧ W2.cell? ⟨b1, o1 + pn, none⟩ = some (.slice (some ⟨bR, oR, none⟩) (nthL N.ends pn).length cR) ∧ W2.cell? ⟨bR, oR + pp * 2, none⟩ = some (.int .i64 (tt : Nat)) ∧ W2.cell? ⟨bR, oR + pp * 2 + 1, none⟩ = some (.int .i64 (tr : Nat)) ∧ W2.cell? ⟨bo, oo + n9, none⟩ = some (.int .i64 (pn : Nat)) ∧ W2.cell? ⟨bo, oo + n9 + 1, none⟩ = some (.int .i64 (pp : Nat)) := ⟨(HF2.out.boxN bx1 (by omega)).cell 0 (by simp), (HGV.out.cell qR (by simp)), (HGV.out.cell eR (by simp)), (HGV.out.cell eR' (by simp)), (HGV.out.cell HX1.out (by simp)), (HGV.out.cell HX2.out (by simp))⟩
    refine anyU_take (i := 0) (v := .pointer (some ⟨w.heap.size, 0, none⟩)) rfl (by kernel_rfl) (by kernel_rfl) (by kernel_rfl) (fun _ _ _ h => h) ⟨by rfl, fun w' hS' => (by obtain ⟨s1, s2, s3, s4, s5, s6⟩ := hS'; go_simp)⟩ hS3 ?_
    simp only [List.getElem_toArray, List.getElem_cons_zero, Act.put, List.setIfInBounds_toArray, List.set_cons_zero, List.set_cons_succ]
    refine anyU_take (i := 1) (v := .slice (some ⟨b1, o1, none⟩) N.ends.length c1) rfl (by kernel_rfl) (by kernel_rfl) (by kernel_rfl) (fun _ _ _ h => h) ⟨by rfl, fun w' hS' => (by obtain ⟨s1, s2, s3, s4, s5, s6⟩ := hS'; go_simp)⟩ hS3 ?_
    simp only [List.getElem_toArray, List.getElem_cons_succ, List.getElem_cons_zero, Act.put, List.setIfInBounds_toArray, List.set_cons_zero, List.set_cons_succ]
    refine anyU_take (i := 2) (v := .slice (some ⟨bo, oo, none⟩) z.length co) rfl (by kernel_rfl) (by kernel_rfl) (by kernel_rfl) (fun _ _ _ h => h) ⟨by rfl, fun w' hS' => (by obtain ⟨s1, s2, s3, s4, s5, s6⟩ := hS'; go_simp)⟩ hS3 ?_
    simp only [List.getElem_toArray, List.getElem_cons_succ, List.getElem_cons_zero, Act.put, List.setIfInBounds_toArray, List.set_cons_zero, List.set_cons_succ]
    refine anyU_take (i := 3) (v := .slice (some ⟨bo, oo, none⟩) z.length co) rfl (by kernel_rfl) (by kernel_rfl) (by kernel_rfl) (fun _ _ _ h => h) ⟨by rfl, fun w' hS' => (by obtain ⟨s1, s2, s3, s4, s5, s6⟩ := hS'; go_simp)⟩ hS3 ?_
    simp only [List.getElem_toArray, List.getElem_cons_succ, List.getElem_cons_zero, Act.put, List.setIfInBounds_toArray, List.set_cons_zero, List.set_cons_succ]
    refine anyU_take (i := 4) (v := .int .i64 (z.length : Nat)) rfl (by kernel_rfl) (by kernel_rfl) (by kernel_rfl) (fun _ _ _ h => h) ⟨by rfl, fun w' hS' => (by obtain ⟨s1, s2, s3, s4, s5, s6⟩ := hS'; go_simp)⟩ hS3 ?_
    simp only [List.getElem_toArray, List.getElem_cons_succ, List.getElem_cons_zero, Act.put, List.setIfInBounds_toArray, List.set_cons_zero, List.set_cons_succ]
    refine anyU_take (i := 5) (v := .int .i64 (n9 : Nat)) rfl (by kernel_rfl) (by kernel_rfl) (by kernel_rfl) (fun _ _ _ h => h) ⟨by rfl, fun w' hS' => (by obtain ⟨s1, s2, s3, s4, s5, s6⟩ := hS'; simp [go_sem, e1, w5])⟩ hS3 ?_
    simp only [List.getElem_toArray, List.getElem_cons_succ, List.getElem_cons_zero, Act.put, List.setIfInBounds_toArray, List.set_cons_zero, List.set_cons_succ]
    refine anyU_take (i := 6) (v := .pointer (some ⟨bo, oo + n9, none⟩)) rfl (by kernel_rfl) (by kernel_rfl) (by kernel_rfl) (fun _ _ _ h => h) ⟨by rfl, fun w' hS' => (by obtain ⟨s1, s2, s3, s4, s5, s6⟩ := hS'; simp [go_sem, i1])⟩ hS3 ?_
    simp only [List.getElem_toArray, List.getElem_cons_succ, List.getElem_cons_zero, Act.put, List.setIfInBounds_toArray, List.set_cons_zero, List.set_cons_succ]
    refine anyU_take (i := 7) (v := .int .i64 (pn : Nat)) rfl (by kernel_rfl) (by kernel_rfl) (by kernel_rfl) (fun _ _ _ h => h) ⟨by rfl, fun w' hS' => (by obtain ⟨s1, s2, s3, s4, s5, s6⟩ := hS'; go_simp)⟩ hS3 ?_
    simp only [List.getElem_toArray, List.getElem_cons_succ, List.getElem_cons_zero, Act.put, List.setIfInBounds_toArray, List.set_cons_zero, List.set_cons_succ]
    refine anyU_take (i := 8) (v := .pointer (some ⟨b1, o1 + pn, none⟩)) rfl (by kernel_rfl) (by kernel_rfl) (by kernel_rfl) (fun _ _ _ h => h) ⟨by rfl, fun w' hS' => (by obtain ⟨s1, s2, s3, s4, s5, s6⟩ := hS'; simp [go_sem, hpni])⟩ hS3 ?_
    simp only [List.getElem_toArray, List.getElem_cons_succ, List.getElem_cons_zero, Act.put, List.setIfInBounds_toArray, List.set_cons_zero, List.set_cons_succ]
    refine anyU_take (i := 9) (v := .slice (some ⟨bR, oR, none⟩) (nthL N.ends pn).length cR) rfl (by kernel_rfl) (by kernel_rfl) (by kernel_rfl) (fun _ _ _ h => h) ⟨by rfl, fun w' hS' => (by obtain ⟨s1, s2, s3, s4, s5, s6⟩ := hS'; go_simp)⟩ hS3 ?_
    simp only [List.getElem_toArray, List.getElem_cons_succ, List.getElem_cons_zero, Act.put, List.setIfInBounds_toArray, List.set_cons_zero, List.set_cons_succ]
    refine anyU_take (i := 10) (v := .slice (some ⟨bo, oo, none⟩) z.length co) rfl (by kernel_rfl) (by kernel_rfl) (by kernel_rfl) (fun _ _ _ h => h) ⟨by rfl, fun w' hS' => (by obtain ⟨s1, s2, s3, s4, s5, s6⟩ := hS'; go_simp)⟩ hS3 ?_
    simp only [List.getElem_toArray, List.getElem_cons_succ, List.getElem_cons_zero, Act.put, List.setIfInBounds_toArray, List.set_cons_zero, List.set_cons_succ]
    refine anyU_take (i := 11) (v := .slice (some ⟨bo, oo, none⟩) z.length co) rfl (by kernel_rfl) (by kernel_rfl) (by kernel_rfl) (fun _ _ _ h => h) ⟨by rfl, fun w' hS' => (by obtain ⟨s1, s2, s3, s4, s5, s6⟩ := hS'; go_simp)⟩ hS3 ?_
    simp only [List.getElem_toArray, List.getElem_cons_succ, List.getElem_cons_zero, Act.put, List.setIfInBounds_toArray, List.set_cons_zero, List.set_cons_succ]
    refine anyU_take (i := 12) (v := .int .i64 (z.length : Nat)) rfl (by kernel_rfl) (by kernel_rfl) (by kernel_rfl) (fun _ _ _ h => h) ⟨by rfl, fun w' hS' => (by obtain ⟨s1, s2, s3, s4, s5, s6⟩ := hS'; go_simp)⟩ hS3 ?_
    simp only [List.getElem_toArray, List.getElem_cons_succ, List.getElem_cons_zero, Act.put, List.setIfInBounds_toArray, List.set_cons_zero, List.set_cons_succ]
    refine anyU_take (i := 13) (v := .int .i64 ((n9 + 1 : Nat) : Int)) rfl (by kernel_rfl) (by kernel_rfl) (by kernel_rfl) (fun _ _ _ h => h) ⟨by rfl, fun w' hS' => (by obtain ⟨s1, s2, s3, s4, s5, s6⟩ := hS'; simp [go_sem, e2, w13])⟩ hS3 ?_
    simp only [List.getElem_toArray, List.getElem_cons_succ, List.getElem_cons_zero, Act.put, List.setIfInBounds_toArray, List.set_cons_zero, List.set_cons_succ]
    refine anyU_take (i := 14) (v := .pointer (some ⟨bo, oo + n9 + 1, none⟩)) rfl (by kernel_rfl) (by kernel_rfl) (by kernel_rfl) (fun _ _ _ h => h) ⟨by rfl, fun w' hS' => (by obtain ⟨s1, s2, s3, s4, s5, s6⟩ := hS'; simp [go_sem, i2, Nat.add_assoc])⟩ hS3 ?_
    simp only [List.getElem_toArray, List.getElem_cons_succ, List.getElem_cons_zero, Act.put, List.setIfInBounds_toArray, List.set_cons_zero, List.set_cons_succ]
    refine anyU_take (i := 15) (v := .int .i64 (pp : Nat)) rfl (by kernel_rfl) (by kernel_rfl) (by kernel_rfl) (fun _ _ _ h => h) ⟨by rfl, fun w' hS' => (by obtain ⟨s1, s2, s3, s4, s5, s6⟩ := hS'; go_simp)⟩ hS3 ?_
    simp only [List.getElem_toArray, List.getElem_cons_succ, List.getElem_cons_zero, Act.put, List.setIfInBounds_toArray, List.set_cons_zero, List.set_cons_succ]
    refine anyU_take (i := 16) (v := .pointer (some ⟨bR, oR + pp * 2, none⟩)) rfl (by kernel_rfl) (by kernel_rfl) (by kernel_rfl) (fun _ _ _ h => h) ⟨by rfl, fun w' hS' => (by obtain ⟨s1, s2, s3, s4, s5, s6⟩ := hS'; simp [go_sem, hppi])⟩ hS3 ?_
    simp only [List.getElem_toArray, List.getElem_cons_succ, List.getElem_cons_zero, Act.put, List.setIfInBounds_toArray, List.set_cons_zero, List.set_cons_succ]
    refine anyU_take (i := 17) (v := .agg #[.int .i64 (tt : Nat), .int .i64 (tr : Nat)]) rfl (by kernel_rfl) (by kernel_rfl) (by kernel_rfl) (fun _ _ _ h => h) ⟨by rfl, fun w' hS' => (by obtain ⟨s1, s2, s3, s4, s5, s6⟩ := hS'; go_simp)⟩ hS3 ?_
    simp only [List.getElem_toArray, List.getElem_cons_succ, List.getElem_cons_zero, Act.put, List.setIfInBounds_toArray, List.set_cons_zero, List.set_cons_succ]
    clear qR eR eR' HGV HX1 HX2
    refine anyU_ready (rs := [18]) (by kernel_rfl) (by simp) ?_
    refine ReadyU.cons (i := 18) rfl (fun K hK => ?_) ReadyU.nil
    simp only [List.getElem_toArray, List.getElem_cons_succ, List.getElem_cons_zero]
    refine ite_is (by rfl) ?_
    simp [go_sem]
    refine hK.out _ _ ⟨fun _ => let ⟨s1, s2, s3, s4, s5, s6⟩ := hS3; ⟨(grown_alloc _ _).cell s1 (by simp), (grown_alloc _ _).cell s2 (by simp), (grown_alloc _ _).cell s3 (by simp), (grown_alloc _ _).cell s4 (by simp), (grown_alloc _ _).cell s5 (by simp), (grown_alloc _ _).cell s6 (by simp)⟩, ?_⟩
    clear hK K
    try simp only [List.getElem_toArray, List.getElem_cons_succ, List.getElem_cons_zero, Act.put, List.setIfInBounds_toArray, List.set_cons_zero, List.set_cons_succ]
    refine nameU ?_
    intro W4 HW4
    have hg4 : W2.grownBy W4 none := by rw [HW4.out]; exact grown_alloc _ _
    have hs4 := hg4.size
    have HF4 := Lib.hid (HF2.out.still hg4); clear HF2
    have OI4 := Lib.hid (OwnI.still OI2.out hg4); clear OI2
    have HY := Lib.hid (show BoxN W4 W2.heap.size #[.int .i64 0, .int .i64 0] 48 by rw [HW4.out]; exact BoxN.new _ _ _)
    clear HW4
    have r0 := HY.out.cell 0 (by simp)
    have r1 := HY.out.cell 1 (by simp)
    have f0 := HY.out.frozen 0
    have f1 := HY.out.frozen 1
    dsimp at r0 r1
    refine anyU_ready (rs := [19]) (by kernel_rfl) (by simp) ?_
    refine ReadyU.cons (i := 19) rfl (fun K hK => ?_) ReadyU.nil
    simp only [List.getElem_toArray, List.getElem_cons_succ, List.getElem_cons_zero]
    refine ite_is (by rfl) ?_
    simp [go_sem, r0, r1, f0, f1]
    refine hK.out _ _ ⟨fun h => absurd h (by decide), ?_⟩
    clear hK K
    try simp only [List.getElem_toArray, List.getElem_cons_succ, List.getElem_cons_zero, Act.put, List.setIfInBounds_toArray, List.set_cons_zero, List.set_cons_succ]
    refine nameU ?_
    intro W5 HW5
    have hg5 : W4.grownBy W5 (some W2.heap.size) := by rw [HW5.out]; exact grown_set2 _ _ _ _ _ _
    have HBR := Lib.hid (show BoxN W5 W2.heap.size #[.int .i64 (tt : Nat), .int .i64 (tr : Nat)] 48 by rw [HW5.out]; exact (HY.out.set 0 _).set 1 _)
    clear HW5 r0 r1 f0 f1
    have hbo9 : bo < wr.heap.size := (HLOW.out bo rfl).2
    have HF5 := Lib.hid (HF4.out.grown hg5 (fun k e => .inr (by cases e; omega)))
    have OI5 := Lib.hid (OI4.out.far hg5 (fun k e => .inr (by cases e; intro e2; simp [Value.ownBlock] at e2; omega)))
    have hs5 := hg5.size
    clear HY hS3 hg5
    refine anyU_done (by kernel_rfl) ?_ _
    obtain ⟨pr, HPR⟩ : ∃ x, Hid (prtn N (tt, tr) = x) := ⟨_, Lib.hid rfl⟩
    have ke0 := HBR.out.cell 0 (by simp)
    have ke1 := HBR.out.cell 1 (by simp)
    dsimp at ke0 ke1
    have kbx1_0 : W5.cell? ⟨w.heap.size, 0, none⟩ = some (.slice (some ⟨b1, o1, none⟩) N.ends.length c1) := (HF5.out.boxN bx1 (by omega)).cell 0 (by simp)
    have kbx1_1 : W5.cell? ⟨w.heap.size, 1, none⟩ = some (.slice A1' N.ids.length c1') := (HF5.out.boxN bx1 (by omega)).cell 1 (by simp)
    have kbx1_2 : W5.cell? ⟨w.heap.size, 2, none⟩ = some (.slice A1'' N.inputs.length c1'') := (HF5.out.boxN bx1 (by omega)).cell 2 (by simp)
    go_upto_region 4 with (go_at_call 34; refine (orPartner_any _ N lo1 hi1 tt tr W5 (Net.turned G1.out HF5.out (by omega) (by omega)) (by have := HF5.out.size; omega) HG.out HOT.out).mono ?_; rintro e W9 ⟨rfl, hb9⟩; rw [HPR.out]; have hg9 := grown_below hb9; have HG9 := Lib.hid hg9; clear hb9 hg9)
    clear ke0 ke1 kbx1_0 kbx1_1 kbx1_2
    have hs9 := HG9.out.size
    have HB9 := Lib.hid (HBR.out.still HG9.out)
    have HO9 := Lib.hid (OI5.out.still HG9.out)
    have HF9 := Lib.hid (HF5.out.still HG9.out)
    clear HBR OI5 HF5 HG9
    have ke0 := HB9.out.cell 0 (by simp)
    have ke1 := HB9.out.cell 1 (by simp)
    dsimp at ke0 ke1
    cases hpb : pairedB N (tt, tr) with
    | false =>
      have HPB := Lib.hid hpb
      have hpr : pr = -1 := by rw [← HPR.out]; unfold prtn; rw [if_neg (by rw [hpb]; simp)]
      subst hpr
      clear hpb
      go_wp2_with fail
      go_ret
      have hT : TrO N (v, i) l false := ⟨HC.out, by rw [HP.out, nx_no (by rw [HEP.out]; exact HPB.out)]; rfl⟩
      refine ⟨_, rfl, ?_, (HF9.out.below_of hbA (by omega) (by omega))⟩
      rw [hT.eq.1, HZ.out]
      exact HO9.out.ints.mono (by omega) (Nat.le_refl _)
    | true =>
      have HPB := Lib.hid hpb
      have hpr : pr = (fl tr : Nat) := by rw [← HPR.out]; unfold prtn; rw [if_pos hpb]
      subst hpr
      clear hpb
      have HNX := Lib.hid (show nx N (lastP l) = some (tt, fl tr) by rw [HP.out, nx_yes (by rw [HEP.out]; exact HPB.out), HEP.out]; rfl)
      have hneg : ¬ ((fl tr : Nat) : Int) < 0 := by omega
      by_cases hq1 : tt = v
      case pos =>
        have q1 : ((tt : Int) == (v : Int)) = true := by rw [hq1]; simp
        have HQ1 := Lib.hid hq1; clear hq1
        by_cases hq2 : fl tr = i
        case pos =>
          have q2 : (((fl tr : Nat) : Int) == (i : Int)) = true := by rw [hq2]; simp
          have HQ2 := Lib.hid hq2; clear hq2
          go_wp2_with fail
          go_ret
          have hT : TrO N (v, i) l true := ⟨HC.out, by rw [HNX.out, HQ1.out, HQ2.out]; rfl⟩
          refine ⟨_, rfl, ?_, (HF9.out.below_of hbA (by omega) (by omega))⟩
          rw [hT.eq.1, HZ.out]
          exact HO9.out.ints.mono (by omega) (Nat.le_refl _)
        have q2 : (((fl tr : Nat) : Int) == (i : Int)) = false := by simp; omega
        have HNE := Lib.hid (show ((tt, fl tr) : Po) ≠ (v, i) from fun e => hq2 (by injection e))
        clear hq2
        have HST := Lib.hid (HC.out.step HG.out HNX.out HNE.out)
        have HZN := Lib.hid (show numsP (l ++ [(tt, fl tr)]) = z ++ [(tt : Int), (fl tr : Int)] by rw [numsP_snoc, HZ.out])
        obtain ⟨yt, HYT⟩ : ∃ y : Int, Hid ((tt : Int) = y) := ⟨_, Lib.hid rfl⟩
        obtain ⟨yf, HYF⟩ : ∃ y : Int, Hid (((fl tr : Nat) : Int) = y) := ⟨_, Lib.hid rfl⟩
        rw [HYT.out, HYF.out] at HZN
        go_wp2_with (at_builtin; rw [HYT.out, HYF.out]; refine append_twoD (s := .tmp 51) Tryz.underlying23 Tryz.info3 (by decide) W9 rfl _ rfl HO9.out yt yf _ (by simp [Act.eval, go_sem]) (by simp [Act.eval, go_sem]) (by have := HZL.out; omega) (by have := HF9.out.size; omega) ?_; intro v' w' ho' hg' hat' hdr'; have HOX := Lib.hid ho'; have HGX := Lib.hid hg'; clear ho' hg' hat' hdr')
        go_roundw
        case rel => exact ⟨l ++ [(tt, fl tr)], z ++ [yt, yf], HST, HZN, HOX, Lib.hid (HF9.out.grown HGX.out (fun k e => .inr (HLOW.out k e).1))⟩
        case measure =>
          have h1 := HOX.out.lenW
          have h2 := HLW.out
          have h3 := HC.out.step HG.out HNX.out HNE.out
          have h4 := h3.len HG.out
          have h5 := HZL.out
          simp only [List.length_append, List.length_cons, List.length_nil] at h1 h4
          omega
      have q1 : ((tt : Int) == (v : Int)) = false := by simp; omega
      have HNE := Lib.hid (show ((tt, fl tr) : Po) ≠ (v, i) from fun e => hq1 (by injection e))
      clear hq1
      have HST := Lib.hid (HC.out.step HG.out HNX.out HNE.out)
      have HZN := Lib.hid (show numsP (l ++ [(tt, fl tr)]) = z ++ [(tt : Int), (fl tr : Int)] by rw [numsP_snoc, HZ.out])
      obtain ⟨yt, HYT⟩ : ∃ y : Int, Hid ((tt : Int) = y) := ⟨_, Lib.hid rfl⟩
      obtain ⟨yf, HYF⟩ : ∃ y : Int, Hid (((fl tr : Nat) : Int) = y) := ⟨_, Lib.hid rfl⟩
      rw [HYT.out, HYF.out] at HZN
      go_wp2_with (at_builtin; rw [HYT.out, HYF.out]; refine append_twoD (s := .tmp 51) Tryz.underlying23 Tryz.info3 (by decide) W9 rfl _ rfl HO9.out yt yf _ (by simp [Act.eval, go_sem]) (by simp [Act.eval, go_sem]) (by have := HZL.out; omega) (by have := HF9.out.size; omega) ?_; intro v' w' ho' hg' hat' hdr'; have HOX := Lib.hid ho'; have HGX := Lib.hid hg'; clear ho' hg' hat' hdr')
      go_roundw
      case rel => exact ⟨l ++ [(tt, fl tr)], z ++ [yt, yf], HST, HZN, HOX, Lib.hid (HF9.out.grown HGX.out (fun k e => .inr (HLOW.out k e).1))⟩
      case measure =>
        have h1 := HOX.out.lenW
        have h2 := HLW.out
        have h3 := HC.out.step HG.out HNX.out HNE.out
        have h4 := h3.len HG.out
        have h5 := HZL.out
        simp only [List.length_append, List.length_cons, List.length_nil] at h1 h4
        omega

end Go.Proofs.YtpanigomfmfknaaGreat
