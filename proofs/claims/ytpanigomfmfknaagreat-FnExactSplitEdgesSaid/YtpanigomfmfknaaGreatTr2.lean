/-
  Contract: the trail from a port on (program).
-/
import Derived.Test.YtpanigomfmfknaaGreatTr
namespace Go.Proofs.YtpanigomfmfknaaGreat
open Go.ChangeShapes Go.WideShapes Go.ChangeAt Go.RowKit
set_option linter.unusedVariables false

theorem eql_po {p q : Po} (h : p = q) (w : World) : (binOp .eql 48 (.agg #[.int .i64 (p.1 : Int), .int .i64 (p.2 : Int)]) (.agg #[.int .i64 (q.1 : Int), .int .i64 (q.2 : Int)])).run Tryz.prog w = .ok (.bool true) w := by
  subst h; rw [eql_end]; simp
theorem neq_po {p q : Po} (h : p ≠ q) (w : World) : (binOp .eql 48 (.agg #[.int .i64 (p.1 : Int), .int .i64 (p.2 : Int)]) (.agg #[.int .i64 (q.1 : Int), .int .i64 (q.2 : Int)])).run Tryz.prog w = .ok (.bool false) w := by
  rw [eql_end]
  have : ((p.1 : Int) == (q.1 : Int) && (p.2 : Int) == (q.2 : Int)) = false := by
    rw [Bool.and_eq_false_iff]
    by_cases e : p.1 = q.1
    · right; simp; exact fun e2 => h (Prod.ext e (by omega))
    · left; simp; omega
  rw [this]

set_option maxHeartbeats 8000000 in
set_option maxRecDepth 100000 in
theorem trailFrom_any (v1 : Value) (N : NetD) (lo1 hi1 : Nat) (sn sp : Nat) (w : World) (h1 : Net w lo1 hi1 v1 N) (hh1 : hi1 ≤ w.heap.size) (hg : N.good = true) (ho : okP N (sn, sp)) :
    Calls Tryz.prog 43 #[v1, .agg #[.int .i64 (sn : Nat), .int .i64 (sp : Nat)]] w fun e w' => ∃ r, e = .returned (.tuple #[r, .bool (trc N (sn, sp))]) ∧ EndS w' w.heap.size w'.heap.size r (castL (trl N (sn, sp))) ∧ Below w.heap.size w w' := by
  obtain ⟨n1, n40⟩ := good_n hg
  have HG := Lib.hid hg; clear hg
  have HOK := Lib.hid ho; clear ho
  have F1 := Lib.hid h1
  obtain ⟨A1, c1, A1', c1', A1'', c1'', rfl, hc1, hd1, _⟩ := h1.parts
  obtain ⟨b1, o1, _, _, rfl, _⟩ := Net.rowAt F1.out (u := 0) (by omega)
  clear h1
  obtain ⟨WA, HWA⟩ : ∃ W, Hid (W = ((w.alloc (.cells #[.slice (some ⟨b1, o1, none⟩) N.ends.length c1, .slice A1' N.ids.length c1', .slice A1'' N.inputs.length c1''] 32)).alloc (.cells #[.int .i64 sn, .int .i64 sp] 48))) := ⟨_, Lib.hid rfl⟩
  have hbA : Below w.heap.size w WA := by rw [HWA.out]; exact (((Below.refl _ _).alloc (Nat.le_refl _) _).alloc (by simp; try omega) _)
  have hsA : w.heap.size + 2 ≤ WA.heap.size := by rw [HWA.out]; simp; try omega
  have bx1 : BoxN WA (w.heap.size) #[.slice (some ⟨b1, o1, none⟩) N.ends.length c1, .slice A1' N.ids.length c1', .slice A1'' N.inputs.length c1''] 32 := by rw [HWA.out]; exact ((BoxN.new' _ _ _ (by simp)).still (grown_alloc _ _))
  have bx2 : BoxN WA (w.heap.size + 1) #[.int .i64 sn, .int .i64 sp] 48 := by rw [HWA.out]; exact (BoxN.new' _ _ _ (by simp))
  have G1 := Lib.hid (Net.below F1.out hbA hh1); clear F1
  go_enter Tryz.func43, Tryz.ntmps43
  go_upto_region 1 with (fail)
  rw [← HWA.out]; clear HWA
  have b20 := bx2.cell 0 (by simp)
  have b21 := bx2.cell 1 (by simp)
  dsimp at b20 b21
  go_wp2_with fail
  clear b20 b21
  go_loopw [6, 7] (fun ov av wr => ∃ (g : Nat) (l : List Po) (pn pp : Nat), av = .pointer (some ⟨g, 0, none⟩) ∧ WA.heap.size ≤ g ∧ Hid (Ch N (sn, sp) (l ++ [(pn, pp)])) ∧ Hid (OwnE wr WA.heap.size 48 ov l) ∧ Hid (BoxN wr g #[.int .i64 (pn : Nat), .int .i64 (pp : Nat)] 48) ∧ Hid (ov.ownBlock ≠ some g) ∧ Hid (Turned WA.heap.size WA.heap.size WA wr)) (fun ov _ _ => 241 - lenV ov)
  case atStart => exact ⟨WA.heap.size, [], sn, sp, rfl, Nat.le_refl _, Lib.hid (Ch.one HOK.out), Lib.hid (OwnE.nil _ _ _), Lib.hid (BoxN.new _ _ _), Lib.hid (by simp [Value.ownBlock]), Lib.hid ((Turned.refl _ _ _).still (grown_alloc _ _))⟩
  case round =>
    obtain ⟨g, l, pn, pp, rfl, hgl, HC, HO, HB, HNE, HF1⟩ := hrel
    have hs1 := HF1.out.size
    have hl240 := HC.out.len HG.out
    simp only [List.length_append, List.length_cons, List.length_nil] at hl240
    have HLV := Lib.hid HO.out.lenV
    have hlast : lastP (l ++ [(pn, pp)]) = (pn, pp) := lastP_snoc l _
    have HLAST := Lib.hid hlast
    have hop : okP N (pn, pp) := by have := HC.out.last; rw [hlast] at this; exact this
    clear hlast
    have HOP := Lib.hid hop
    obtain ⟨hpn, hpp⟩ := hop
    dsimp only at hpn hpp
    unfold degAt at hpp
    have hlow := HO.out.lt
    have hbb := HB.out.cell 0 (by simp)
    have hbb2 := HB.out.cell 1 (by simp)
    dsimp at hbb hbb2
    go_upto_region 4 with (at_builtin; refine append_end (s := .tmp 11) Tryz.underlying46 Tryz.info48 rfl (by decide) wr rfl _ rfl HO.out (pn, pp) _ rfl (by simp [Act.eval, go_sem]) (by omega) (by omega) ?_; intro v' W2 ho' hg2 hat')
    clear hbb hbb2
    have HO2 := Lib.hid ho'; clear ho'
    have hs2 := hg2.size
    have hgw : g < wr.heap.size := HB.out.lt
    have HNE2 := Lib.hid (show v'.ownBlock ≠ some g from fun e => by
      rcases hat' with e2 | e2
      · exact HNE.out (e2.symm.trans e)
      · rw [e2] at e; injection e; omega)
    have HB2 := Lib.hid (HB.out.far hg2 (fun k e => by intro e2; subst e2; exact HNE.out e)); clear HB
    have HF2 := Lib.hid (HF1.out.grown hg2 (fun k e => .inr (hlow k e).1)); clear HF1 hg2 hat' HO
    clear hlow
    have hgk : g < W2.heap.size := HB2.out.lt
    obtain ⟨AR, cR, hbR, qR, hcR, hdR, hRR⟩ := Net.rowIn G1.out hpn
    replace qR := (HF2.out.cell (by omega) (by omega)).trans qR
    have RR := Lib.hid hRR; clear hRR
    obtain ⟨bR, oR, rfl, _, hbR', eR, eR'⟩ := (EndS.turned RR.out HF2.out (by omega) (by omega)).opened hpp
    obtain ⟨tt, tr, etR, htt, htr, euR⟩ := good_end HG.out hpn hpp
    rw [etR] at eR eR'
    dsimp only at eR eR'
    have HEP := Lib.hid (show ep N (pn, pp) = (tt, tr) by unfold ep endAt; dsimp only; rw [etR]; simp)
    clear etR euR
    have HOT := Lib.hid (show okP N (tt, tr) from ⟨htt, htr⟩)
    obtain ⟨pb, HPB⟩ : ∃ b, Hid (pairedB N (tt, tr) = b) := ⟨_, Lib.hid rfl⟩
    have hpni : (pn : Int) < N.ends.length := by omega
    have hppi : (pp : Int) < (nthL N.ends pn).length := by omega
    refine wp_region_U (fun w' => w'.cell? ⟨g, 0, none⟩ = some (.int .i64 (pn : Nat)) ∧ w'.cell? ⟨g, 1, none⟩ = some (.int .i64 (pp : Nat)) ∧ w'.cell? ⟨w.heap.size, 0, none⟩ = some (.slice (some ⟨b1, o1, none⟩) N.ends.length c1) ∧ w'.cell? ⟨w.heap.size, 1, none⟩ = some (.slice A1' N.ids.length c1') ∧ w'.cell? ⟨w.heap.size, 2, none⟩ = some (.slice A1'' N.inputs.length c1'') ∧ w'.cell? ⟨b1, o1 + pn, none⟩ = some (.slice (some ⟨bR, oR, none⟩) (nthL N.ends pn).length cR) ∧ w'.cell? ⟨bR, oR + pp * 2, none⟩ = some (.int .i64 (tt : Nat)) ∧ w'.cell? ⟨bR, oR + pp * 2 + 1, none⟩ = some (.int .i64 (tr : Nat))) [11, 12, 13, 14, 16, 17] (by kernel_rfl) ?_
    refine nameU ?_
    intro W3 HW3
    have hg3 : W2.grownBy W3 none := by rw [HW3.out]; exact grown_drew _
    clear HW3
    have hs3 := hg3.size
    have HF3 := Lib.hid (HF2.out.still hg3); clear HF2
    have BX3 := Lib.hid (BoxN.still HB2.out hg3); clear HB2
    have OE3 := Lib.hid (OwnE.still HO2.out hg3); clear HO2
    have HGV := Lib.hid hg3
    have hS4 : W3.cell? ⟨g, 0, none⟩ = some (.int .i64 (pn : Nat)) ∧ W3.cell? ⟨g, 1, none⟩ = some (.int .i64 (pp : Nat)) ∧ W3.cell? ⟨w.heap.size, 0, none⟩ = some (.slice (some ⟨b1, o1, none⟩) N.ends.length c1) ∧ W3.cell? ⟨w.heap.size, 1, none⟩ = some (.slice A1' N.ids.length c1') ∧ W3.cell? ⟨w.heap.size, 2, none⟩ = some (.slice A1'' N.inputs.length c1'') ∧ W3.cell? ⟨b1, o1 + pn, none⟩ = some (.slice (some ⟨bR, oR, none⟩) (nthL N.ends pn).length cR) ∧ W3.cell? ⟨bR, oR + pp * 2, none⟩ = some (.int .i64 (tt : Nat)) ∧ W3.cell? ⟨bR, oR + pp * 2 + 1, none⟩ = some (.int .i64 (tr : Nat)) := ⟨BX3.out.cell 0 (by simp), BX3.out.cell 1 (by simp), (HF3.out.boxN bx1 (by omega)).cell 0 (by simp), (HF3.out.boxN bx1 (by omega)).cell 1 (by simp), (HF3.out.boxN bx1 (by omega)).cell 2 (by simp), (HGV.out.cell qR (by simp)), (HGV.out.cell eR (by simp)), (HGV.out.cell eR' (by simp))⟩
    refine anyU_take (i := 0) (v := .agg #[.slice (some ⟨b1, o1, none⟩) N.ends.length c1, .slice A1' N.ids.length c1', .slice A1'' N.inputs.length c1'']) rfl (by kernel_rfl) (by kernel_rfl) (by kernel_rfl) (fun _ _ _ h => h) ⟨by rfl, fun w' hS' => (by obtain ⟨s1, s2, s3, s4, s5, s6, s7, s8⟩ := hS'; go_simp)⟩ hS4 ?_
    simp only [List.getElem_toArray, List.getElem_cons_zero, Act.put, List.setIfInBounds_toArray, List.set_cons_zero, List.set_cons_succ]
    refine anyU_take (i := 1) (v := .pointer (some ⟨w.heap.size, 0, none⟩)) rfl (by kernel_rfl) (by kernel_rfl) (by kernel_rfl) (fun _ _ _ h => h) ⟨by rfl, fun w' hS' => (by obtain ⟨s1, s2, s3, s4, s5, s6, s7, s8⟩ := hS'; go_simp)⟩ hS4 ?_
    simp only [List.getElem_toArray, List.getElem_cons_succ, List.getElem_cons_zero, Act.put, List.setIfInBounds_toArray, List.set_cons_zero, List.set_cons_succ]
    refine anyU_take (i := 2) (v := .slice (some ⟨b1, o1, none⟩) N.ends.length c1) rfl (by kernel_rfl) (by kernel_rfl) (by kernel_rfl) (fun _ _ _ h => h) ⟨by rfl, fun w' hS' => (by obtain ⟨s1, s2, s3, s4, s5, s6, s7, s8⟩ := hS'; go_simp)⟩ hS4 ?_
    simp only [List.getElem_toArray, List.getElem_cons_succ, List.getElem_cons_zero, Act.put, List.setIfInBounds_toArray, List.set_cons_zero, List.set_cons_succ]
    refine anyU_take (i := 3) (v := .pointer (some ⟨g, 0, none⟩)) rfl (by kernel_rfl) (by kernel_rfl) (by kernel_rfl) (fun _ _ _ h => h) ⟨by rfl, fun w' hS' => (by obtain ⟨s1, s2, s3, s4, s5, s6, s7, s8⟩ := hS'; go_simp)⟩ hS4 ?_
    simp only [List.getElem_toArray, List.getElem_cons_succ, List.getElem_cons_zero, Act.put, List.setIfInBounds_toArray, List.set_cons_zero, List.set_cons_succ]
    refine anyU_take (i := 4) (v := .int .i64 (pn : Nat)) rfl (by kernel_rfl) (by kernel_rfl) (by kernel_rfl) (fun _ _ _ h => h) ⟨by rfl, fun w' hS' => (by obtain ⟨s1, s2, s3, s4, s5, s6, s7, s8⟩ := hS'; go_simp)⟩ hS4 ?_
    simp only [List.getElem_toArray, List.getElem_cons_succ, List.getElem_cons_zero, Act.put, List.setIfInBounds_toArray, List.set_cons_zero, List.set_cons_succ]
    refine anyU_take (i := 5) (v := .pointer (some ⟨b1, o1 + pn, none⟩)) rfl (by kernel_rfl) (by kernel_rfl) (by kernel_rfl) (fun _ _ _ h => h) ⟨by rfl, fun w' hS' => (by obtain ⟨s1, s2, s3, s4, s5, s6, s7, s8⟩ := hS'; simp [go_sem, hpni])⟩ hS4 ?_
    simp only [List.getElem_toArray, List.getElem_cons_succ, List.getElem_cons_zero, Act.put, List.setIfInBounds_toArray, List.set_cons_zero, List.set_cons_succ]
    refine anyU_take (i := 6) (v := .slice (some ⟨bR, oR, none⟩) (nthL N.ends pn).length cR) rfl (by kernel_rfl) (by kernel_rfl) (by kernel_rfl) (fun _ _ _ h => h) ⟨by rfl, fun w' hS' => (by obtain ⟨s1, s2, s3, s4, s5, s6, s7, s8⟩ := hS'; go_simp)⟩ hS4 ?_
    simp only [List.getElem_toArray, List.getElem_cons_succ, List.getElem_cons_zero, Act.put, List.setIfInBounds_toArray, List.set_cons_zero, List.set_cons_succ]
    refine anyU_take (i := 7) (v := .pointer (some ⟨g, 1, none⟩)) rfl (by kernel_rfl) (by kernel_rfl) (by kernel_rfl) (fun _ _ _ h => h) ⟨by rfl, fun w' hS' => (by obtain ⟨s1, s2, s3, s4, s5, s6, s7, s8⟩ := hS'; go_simp)⟩ hS4 ?_
    simp only [List.getElem_toArray, List.getElem_cons_succ, List.getElem_cons_zero, Act.put, List.setIfInBounds_toArray, List.set_cons_zero, List.set_cons_succ]
    refine anyU_take (i := 8) (v := .int .i64 (pp : Nat)) rfl (by kernel_rfl) (by kernel_rfl) (by kernel_rfl) (fun _ _ _ h => h) ⟨by rfl, fun w' hS' => (by obtain ⟨s1, s2, s3, s4, s5, s6, s7, s8⟩ := hS'; go_simp)⟩ hS4 ?_
    simp only [List.getElem_toArray, List.getElem_cons_succ, List.getElem_cons_zero, Act.put, List.setIfInBounds_toArray, List.set_cons_zero, List.set_cons_succ]
    refine anyU_take (i := 9) (v := .pointer (some ⟨bR, oR + pp * 2, none⟩)) rfl (by kernel_rfl) (by kernel_rfl) (by kernel_rfl) (fun _ _ _ h => h) ⟨by rfl, fun w' hS' => (by obtain ⟨s1, s2, s3, s4, s5, s6, s7, s8⟩ := hS'; simp [go_sem, hppi])⟩ hS4 ?_
    simp only [List.getElem_toArray, List.getElem_cons_succ, List.getElem_cons_zero, Act.put, List.setIfInBounds_toArray, List.set_cons_zero, List.set_cons_succ]
    refine anyU_take (i := 10) (v := .agg #[.int .i64 (tt : Nat), .int .i64 (tr : Nat)]) rfl (by kernel_rfl) (by kernel_rfl) (by kernel_rfl) (fun _ _ _ h => h) ⟨by rfl, fun w' hS' => (by obtain ⟨s1, s2, s3, s4, s5, s6, s7, s8⟩ := hS'; go_simp)⟩ hS4 ?_
    simp only [List.getElem_toArray, List.getElem_cons_succ, List.getElem_cons_zero, Act.put, List.setIfInBounds_toArray, List.set_cons_zero, List.set_cons_succ]
    clear qR eR eR' HGV
    refine anyU_ready (rs := [11, 15]) (by kernel_rfl) (by simp) ?_
    refine ReadyU.cons (i := 11) rfl (fun K hK => ?_) (ReadyU.cons (i := 15) rfl (fun K hK => ?_) ReadyU.nil)
    · skip
      simp only [List.getElem_toArray, List.getElem_cons_succ, List.getElem_cons_zero]
      refine ite_is (by rfl) ?_
      simp [go_sem]
      refine (partner_any _ N lo1 hi1 tt tr W3 (Net.turned G1.out HF3.out (by omega) (by omega)) (by have := HF3.out.size; omega) HG.out HOT.out).mono ?_
      rintro e W5 ⟨rfl, hb5⟩
      have hg5 := grown_below hb5; clear hb5
      have hs5 := hg5.size
      have HF5 := Lib.hid (HF3.out.still hg5); clear HF3
      have BX5 := Lib.hid (BoxN.still BX3.out hg5); clear BX3
      have OE5 := Lib.hid (OwnE.still OE3.out hg5); clear OE3
      rw [HPB.out]
      refine hK.out _ _ ⟨fun h => absurd h (by decide), ?_⟩
      clear hK K
      try simp only [List.getElem_toArray, List.getElem_cons_succ, List.getElem_cons_zero, Act.put, List.setIfInBounds_toArray, List.set_cons_zero, List.set_cons_succ]
      have hS6 : W5.cell? ⟨g, 0, none⟩ = some (.int .i64 (pn : Nat)) ∧ W5.cell? ⟨g, 1, none⟩ = some (.int .i64 (pp : Nat)) ∧ W5.cell? ⟨w.heap.size, 0, none⟩ = some (.slice (some ⟨b1, o1, none⟩) N.ends.length c1) ∧ W5.cell? ⟨w.heap.size, 1, none⟩ = some (.slice A1' N.ids.length c1') ∧ W5.cell? ⟨w.heap.size, 2, none⟩ = some (.slice A1'' N.inputs.length c1'') ∧ W5.cell? ⟨b1, o1 + pn, none⟩ = some (.slice (some ⟨bR, oR, none⟩) (nthL N.ends pn).length cR) ∧ W5.cell? ⟨bR, oR + pp * 2, none⟩ = some (.int .i64 (tt : Nat)) ∧ W5.cell? ⟨bR, oR + pp * 2 + 1, none⟩ = some (.int .i64 (tr : Nat)) := let ⟨s1, s2, s3, s4, s5, s6, s7, s8⟩ := hS4; ⟨hg5.cell s1 (by simp), hg5.cell s2 (by simp), hg5.cell s3 (by simp), hg5.cell s4 (by simp), hg5.cell s5 (by simp), hg5.cell s6 (by simp), hg5.cell s7 (by simp), hg5.cell s8 (by simp)⟩
      refine anyU_takeY (i := 12) (v := .tuple #[.agg #[.int .i64 (tt : Nat), .int .i64 (fl tr : Nat)], .bool pb]) rfl (by kernel_rfl) (by kernel_rfl) (by kernel_rfl) (fun _ _ _ h => h) ⟨by rfl, fun w' => (by go_simp)⟩ ?_
      simp only [List.getElem_toArray, List.getElem_cons_succ, List.getElem_cons_zero, Act.put, List.setIfInBounds_toArray, List.set_cons_zero, List.set_cons_succ]
      refine anyU_takeY (i := 13) (v := .agg #[.int .i64 (tt : Nat), .int .i64 (fl tr : Nat)]) rfl (by kernel_rfl) (by kernel_rfl) (by kernel_rfl) (fun _ _ _ h => h) ⟨by rfl, fun w' => (by go_simp)⟩ ?_
      simp only [List.getElem_toArray, List.getElem_cons_succ, List.getElem_cons_zero, Act.put, List.setIfInBounds_toArray, List.set_cons_zero, List.set_cons_succ]
      refine anyU_takeY (i := 14) (v := .bool pb) rfl (by kernel_rfl) (by kernel_rfl) (by kernel_rfl) (fun _ _ _ h => h) ⟨by rfl, fun w' => (by go_simp)⟩ ?_
      simp only [List.getElem_toArray, List.getElem_cons_succ, List.getElem_cons_zero, Act.put, List.setIfInBounds_toArray, List.set_cons_zero, List.set_cons_succ]
      refine anyU_ready (rs := [15]) (by kernel_rfl) (by simp) ?_
      refine ReadyU.cons (i := 15) rfl (fun K hK => ?_) ReadyU.nil
      simp only [List.getElem_toArray, List.getElem_cons_succ, List.getElem_cons_zero]
      refine ite_is (by rfl) ?_
      simp [go_sem]
      refine hK.out _ _ ⟨fun _ => let ⟨s1, s2, s3, s4, s5, s6, s7, s8⟩ := hS6; ⟨(grown_alloc _ _).cell s1 (by simp), (grown_alloc _ _).cell s2 (by simp), (grown_alloc _ _).cell s3 (by simp), (grown_alloc _ _).cell s4 (by simp), (grown_alloc _ _).cell s5 (by simp), (grown_alloc _ _).cell s6 (by simp), (grown_alloc _ _).cell s7 (by simp), (grown_alloc _ _).cell s8 (by simp)⟩, ?_⟩
      clear hK K
      try simp only [List.getElem_toArray, List.getElem_cons_succ, List.getElem_cons_zero, Act.put, List.setIfInBounds_toArray, List.set_cons_zero, List.set_cons_succ]
      have hov : v'.ownBlock ≠ some W5.heap.size := fun e => by have := (OE5.out.lt _ e).2; omega
      have hadl : g < W5.heap.size := BX5.out.lt
      refine nameU ?_
      intro W7 HW7
      have hg7 : W5.grownBy W7 none := by rw [HW7.out]; exact grown_alloc _ _
      have hs7 := hg7.size
      have HF7 := Lib.hid (HF5.out.still hg7); clear HF5
      have BX7 := Lib.hid (BoxN.still BX5.out hg7); clear BX5
      have OE7 := Lib.hid (OwnE.still OE5.out hg7); clear OE5
      have HY7 := Lib.hid (show BoxN W7 W5.heap.size #[.int .i64 0, .int .i64 0] 48 by rw [HW7.out]; exact BoxN.new _ _ _)
      clear HW7
      clear hS6
      have r0 := HY7.out.cell 0 (by simp)
      have r1 := HY7.out.cell 1 (by simp)
      have f0 := HY7.out.frozen 0
      have f1 := HY7.out.frozen 1
      dsimp at r0 r1
      refine anyU_ready (rs := [16]) (by kernel_rfl) (by simp) ?_
      refine ReadyU.cons (i := 16) rfl (fun K hK => ?_) ReadyU.nil
      simp only [List.getElem_toArray, List.getElem_cons_succ, List.getElem_cons_zero]
      refine ite_is (by rfl) ?_
      simp [go_sem, r0, r1, f0, f1]
      refine hK.out _ _ ⟨fun h => absurd h (by decide), ?_⟩
      clear hK K
      try simp only [List.getElem_toArray, List.getElem_cons_succ, List.getElem_cons_zero, Act.put, List.setIfInBounds_toArray, List.set_cons_zero, List.set_cons_succ]
      refine nameU ?_
      intro W8 HW8
      have hg8 : W7.grownBy W8 (some W5.heap.size) := by rw [HW8.out]; exact grown_set2 _ _ _ _ _ _
      have HBR := Lib.hid (show BoxN W8 W5.heap.size #[.int .i64 (tt : Nat), .int .i64 (fl tr : Nat)] 48 by rw [HW8.out]; exact (HY7.out.set 0 _).set 1 _)
      clear HW8 r0 r1 f0 f1
      have hs8 := hg8.size
      have HF8 := Lib.hid (HF7.out.grown hg8 (fun k e => .inr (by cases e; omega)))
      have BX8 := Lib.hid (BX7.out.far hg8 (fun k e => by cases e; omega))
      have OE8 := Lib.hid (OE7.out.far hg8 (fun k e => by cases e; exact hov))
      clear HY7
      refine anyU_takeY (i := 17) (v := .bool pb) rfl (by kernel_rfl) (by kernel_rfl) (by kernel_rfl) (fun _ _ _ h => h) ⟨by rfl, fun w' => (by go_simp)⟩ ?_
      simp only [List.getElem_toArray, List.getElem_cons_succ, List.getElem_cons_zero, Act.put, List.setIfInBounds_toArray, List.set_cons_zero, List.set_cons_succ]
      refine anyU_done (by kernel_rfl) ?_ _
      have hsz : WA.heap.size ≤ W8.heap.size := HF8.out.size
      have hady : W5.heap.size < W8.heap.size := HBR.out.lt
      have hgk2 : g < W8.heap.size := BX8.out.lt
      cases pb with
      | false =>
        go_wp2_with fail
        go_ret2
        have hT : TrO N (sn, sp) (l ++ [(pn, pp)]) false := ⟨HC.out, by rw [HLAST.out, nx_no (by rw [HEP.out]; exact HPB.out)]; rfl⟩
        refine ⟨_, ret_vb hT.eq.2.symm, ?_, (HF8.out.below_of hbA (by omega) (by omega))⟩
        rw [hT.eq.1]
        exact OE8.out.ends.mono (by omega) (Nat.le_refl _)
      | true =>
        have c0 := HBR.out.cell 0 (by simp)
        have c1 := HBR.out.cell 1 (by simp)
        dsimp at c0 c1
        have HNX := Lib.hid (show nx N (lastP (l ++ [(pn, pp)])) = some (tt, fl tr) by rw [HLAST.out, nx_yes (by rw [HEP.out]; exact HPB.out), HEP.out]; rfl)
        have kbx2_0 : W8.cell? ⟨w.heap.size + 1, 0, none⟩ = some (.int .i64 sn) := (HF8.out.boxN bx2 (by omega)).cell 0 (by simp)
        have kbx2_1 : W8.cell? ⟨w.heap.size + 1, 1, none⟩ = some (.int .i64 sp) := (HF8.out.boxN bx2 (by omega)).cell 1 (by simp)
        by_cases hq : ((tt, fl tr) : Po) = (sn, sp)
        case pos =>
          have heq := eql_po hq
          dsimp only at heq
          have HQ := Lib.hid hq; clear hq
          go_wp2_with fail
          go_ret2
          have hT : TrO N (sn, sp) (l ++ [(pn, pp)]) true := ⟨HC.out, by rw [HNX.out, HQ.out]; rfl⟩
          refine ⟨_, ret_vb hT.eq.2.symm, ?_, (HF8.out.below_of hbA (by omega) (by omega))⟩
          rw [hT.eq.1]
          exact OE8.out.ends.mono (by omega) (Nat.le_refl _)
        have heq := neq_po hq
        dsimp only at heq
        have HQ := Lib.hid hq; clear hq
        have d0 := BX8.out.cell 0 (by simp)
        have d1 := BX8.out.cell 1 (by simp)
        have e0 := BX8.out.frozen 0
        have e1 := BX8.out.frozen 1
        dsimp at d0 d1
        go_wp2_with fail
        go_roundw
        case rel =>
          have hga := grown_set2 W8 g 0 1 (.int .i64 (tt : Nat)) (.int .i64 (fl tr : Nat))
          refine ⟨_, l ++ [(pn, pp)], tt, fl tr, rfl, ?_, Lib.hid (HC.out.step HG.out HNX.out HQ.out), ?_, ?_, ?_, ?_⟩
          · first | omega | (simp; omega)
          · exact Lib.hid ((OE8.out.far hga (fun k e => by cases e; exact HNE2.out)).still (grown_alloc _ _))
          · exact Lib.hid (BoxN.new' _ _ _ (by simp))
          · exact Lib.hid (fun e => by have := (OE8.out.lt _ e).2; simp at this)
          · exact Lib.hid ((HF8.out.grown hga (fun k e => .inr (by cases e; omega))).still (grown_alloc _ _))
        case measure =>
          have := OE8.out.lenV
          have h5 := HLV.out
          simp only [List.length_append, List.length_cons, List.length_nil] at this
          omega
    · skip
      simp only [List.getElem_toArray, List.getElem_cons_succ, List.getElem_cons_zero]
      refine ite_is (by rfl) ?_
      simp [go_sem]
      refine hK.out _ _ ⟨fun _ => let ⟨s1, s2, s3, s4, s5, s6, s7, s8⟩ := hS4; ⟨(grown_alloc _ _).cell s1 (by simp), (grown_alloc _ _).cell s2 (by simp), (grown_alloc _ _).cell s3 (by simp), (grown_alloc _ _).cell s4 (by simp), (grown_alloc _ _).cell s5 (by simp), (grown_alloc _ _).cell s6 (by simp), (grown_alloc _ _).cell s7 (by simp), (grown_alloc _ _).cell s8 (by simp)⟩, ?_⟩
      clear hK K
      try simp only [List.getElem_toArray, List.getElem_cons_succ, List.getElem_cons_zero, Act.put, List.setIfInBounds_toArray, List.set_cons_zero, List.set_cons_succ]
      have hov : v'.ownBlock ≠ some W3.heap.size := fun e => by have := (OE3.out.lt _ e).2; omega
      have hadl : g < W3.heap.size := BX3.out.lt
      refine nameU ?_
      intro W9 HW9
      have hg9 : W3.grownBy W9 none := by rw [HW9.out]; exact grown_alloc _ _
      have hs9 := hg9.size
      have HF9 := Lib.hid (HF3.out.still hg9); clear HF3
      have BX9 := Lib.hid (BoxN.still BX3.out hg9); clear BX3
      have OE9 := Lib.hid (OwnE.still OE3.out hg9); clear OE3
      have HY9 := Lib.hid (show BoxN W9 W3.heap.size #[.int .i64 0, .int .i64 0] 48 by rw [HW9.out]; exact BoxN.new _ _ _)
      clear HW9
      refine anyU_ready (rs := [11]) (by kernel_rfl) (by simp) ?_
      refine ReadyU.cons (i := 11) rfl (fun K hK => ?_) ReadyU.nil
      simp only [List.getElem_toArray, List.getElem_cons_succ, List.getElem_cons_zero]
      refine ite_is (by rfl) ?_
      simp [go_sem]
      refine (partner_any _ N lo1 hi1 tt tr W9 (Net.turned G1.out HF9.out (by omega) (by omega)) (by have := HF9.out.size; omega) HG.out HOT.out).mono ?_
      rintro e W10 ⟨rfl, hb10⟩
      have hg10 := grown_below hb10; clear hb10
      have hs10 := hg10.size
      have HF10 := Lib.hid (HF9.out.still hg10); clear HF9
      have BX10 := Lib.hid (BoxN.still BX9.out hg10); clear BX9
      have OE10 := Lib.hid (OwnE.still OE9.out hg10); clear OE9
      have BY10 := Lib.hid (BoxN.still HY9.out hg10); clear HY9
      rw [HPB.out]
      refine hK.out _ _ ⟨fun h => absurd h (by decide), ?_⟩
      clear hK K
      try simp only [List.getElem_toArray, List.getElem_cons_succ, List.getElem_cons_zero, Act.put, List.setIfInBounds_toArray, List.set_cons_zero, List.set_cons_succ]
      clear hS4
      refine anyU_takeY (i := 12) (v := .tuple #[.agg #[.int .i64 (tt : Nat), .int .i64 (fl tr : Nat)], .bool pb]) rfl (by kernel_rfl) (by kernel_rfl) (by kernel_rfl) (fun _ _ _ h => h) ⟨by rfl, fun w' => (by go_simp)⟩ ?_
      simp only [List.getElem_toArray, List.getElem_cons_succ, List.getElem_cons_zero, Act.put, List.setIfInBounds_toArray, List.set_cons_zero, List.set_cons_succ]
      refine anyU_takeY (i := 13) (v := .agg #[.int .i64 (tt : Nat), .int .i64 (fl tr : Nat)]) rfl (by kernel_rfl) (by kernel_rfl) (by kernel_rfl) (fun _ _ _ h => h) ⟨by rfl, fun w' => (by go_simp)⟩ ?_
      simp only [List.getElem_toArray, List.getElem_cons_succ, List.getElem_cons_zero, Act.put, List.setIfInBounds_toArray, List.set_cons_zero, List.set_cons_succ]
      refine anyU_takeY (i := 14) (v := .bool pb) rfl (by kernel_rfl) (by kernel_rfl) (by kernel_rfl) (fun _ _ _ h => h) ⟨by rfl, fun w' => (by go_simp)⟩ ?_
      simp only [List.getElem_toArray, List.getElem_cons_succ, List.getElem_cons_zero, Act.put, List.setIfInBounds_toArray, List.set_cons_zero, List.set_cons_succ]
      have r0 := BY10.out.cell 0 (by simp)
      have r1 := BY10.out.cell 1 (by simp)
      have f0 := BY10.out.frozen 0
      have f1 := BY10.out.frozen 1
      dsimp at r0 r1
      refine anyU_ready (rs := [16]) (by kernel_rfl) (by simp) ?_
      refine ReadyU.cons (i := 16) rfl (fun K hK => ?_) ReadyU.nil
      simp only [List.getElem_toArray, List.getElem_cons_succ, List.getElem_cons_zero]
      refine ite_is (by rfl) ?_
      simp [go_sem, r0, r1, f0, f1]
      refine hK.out _ _ ⟨fun h => absurd h (by decide), ?_⟩
      clear hK K
      try simp only [List.getElem_toArray, List.getElem_cons_succ, List.getElem_cons_zero, Act.put, List.setIfInBounds_toArray, List.set_cons_zero, List.set_cons_succ]
      refine nameU ?_
      intro W11 HW11
      have hg11 : W10.grownBy W11 (some W3.heap.size) := by rw [HW11.out]; exact grown_set2 _ _ _ _ _ _
      have HBR := Lib.hid (show BoxN W11 W3.heap.size #[.int .i64 (tt : Nat), .int .i64 (fl tr : Nat)] 48 by rw [HW11.out]; exact (BY10.out.set 0 _).set 1 _)
      clear HW11 r0 r1 f0 f1
      have hs11 := hg11.size
      have HF11 := Lib.hid (HF10.out.grown hg11 (fun k e => .inr (by cases e; omega)))
      have BX11 := Lib.hid (BX10.out.far hg11 (fun k e => by cases e; omega))
      have OE11 := Lib.hid (OE10.out.far hg11 (fun k e => by cases e; exact hov))
      clear BY10
      refine anyU_takeY (i := 17) (v := .bool pb) rfl (by kernel_rfl) (by kernel_rfl) (by kernel_rfl) (fun _ _ _ h => h) ⟨by rfl, fun w' => (by go_simp)⟩ ?_
      simp only [List.getElem_toArray, List.getElem_cons_succ, List.getElem_cons_zero, Act.put, List.setIfInBounds_toArray, List.set_cons_zero, List.set_cons_succ]
      refine anyU_done (by kernel_rfl) ?_ _
      have hsz : WA.heap.size ≤ W11.heap.size := HF11.out.size
      have hady : W3.heap.size < W11.heap.size := HBR.out.lt
      have hgk2 : g < W11.heap.size := BX11.out.lt
      cases pb with
      | false =>
        go_wp2_with fail
        go_ret2
        have hT : TrO N (sn, sp) (l ++ [(pn, pp)]) false := ⟨HC.out, by rw [HLAST.out, nx_no (by rw [HEP.out]; exact HPB.out)]; rfl⟩
        refine ⟨_, ret_vb hT.eq.2.symm, ?_, (HF11.out.below_of hbA (by omega) (by omega))⟩
        rw [hT.eq.1]
        exact OE11.out.ends.mono (by omega) (Nat.le_refl _)
      | true =>
        have c0 := HBR.out.cell 0 (by simp)
        have c1 := HBR.out.cell 1 (by simp)
        dsimp at c0 c1
        have HNX := Lib.hid (show nx N (lastP (l ++ [(pn, pp)])) = some (tt, fl tr) by rw [HLAST.out, nx_yes (by rw [HEP.out]; exact HPB.out), HEP.out]; rfl)
        have kbx2_0 : W11.cell? ⟨w.heap.size + 1, 0, none⟩ = some (.int .i64 sn) := (HF11.out.boxN bx2 (by omega)).cell 0 (by simp)
        have kbx2_1 : W11.cell? ⟨w.heap.size + 1, 1, none⟩ = some (.int .i64 sp) := (HF11.out.boxN bx2 (by omega)).cell 1 (by simp)
        by_cases hq : ((tt, fl tr) : Po) = (sn, sp)
        case pos =>
          have heq := eql_po hq
          dsimp only at heq
          have HQ := Lib.hid hq; clear hq
          go_wp2_with fail
          go_ret2
          have hT : TrO N (sn, sp) (l ++ [(pn, pp)]) true := ⟨HC.out, by rw [HNX.out, HQ.out]; rfl⟩
          refine ⟨_, ret_vb hT.eq.2.symm, ?_, (HF11.out.below_of hbA (by omega) (by omega))⟩
          rw [hT.eq.1]
          exact OE11.out.ends.mono (by omega) (Nat.le_refl _)
        have heq := neq_po hq
        dsimp only at heq
        have HQ := Lib.hid hq; clear hq
        have d0 := BX11.out.cell 0 (by simp)
        have d1 := BX11.out.cell 1 (by simp)
        have e0 := BX11.out.frozen 0
        have e1 := BX11.out.frozen 1
        dsimp at d0 d1
        go_wp2_with fail
        go_roundw
        case rel =>
          have hga := grown_set2 W11 g 0 1 (.int .i64 (tt : Nat)) (.int .i64 (fl tr : Nat))
          refine ⟨_, l ++ [(pn, pp)], tt, fl tr, rfl, ?_, Lib.hid (HC.out.step HG.out HNX.out HQ.out), ?_, ?_, ?_, ?_⟩
          · first | omega | (simp; omega)
          · exact Lib.hid ((OE11.out.far hga (fun k e => by cases e; exact HNE2.out)).still (grown_alloc _ _))
          · exact Lib.hid (BoxN.new' _ _ _ (by simp))
          · exact Lib.hid (fun e => by have := (OE11.out.lt _ e).2; simp at this)
          · exact Lib.hid ((HF11.out.grown hga (fun k e => .inr (by cases e; omega))).still (grown_alloc _ _))
        case measure =>
          have := OE11.out.lenV
          have h5 := HLV.out
          simp only [List.length_append, List.length_cons, List.length_nil] at this
          omega

end Go.Proofs.YtpanigomfmfknaaGreat
