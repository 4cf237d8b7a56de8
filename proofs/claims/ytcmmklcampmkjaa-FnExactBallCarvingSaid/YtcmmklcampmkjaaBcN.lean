/-
  Several texts in one: KeF. No condition on any program.
-/
import Derived.Test.YtcmmklcampmkjaaBcM
import Derived.Deep.AppendLies

/- Contract: neKeep (reference): the walk. -/
namespace Go.Proofs.Ytcmmklcampmkjaa
open Go.ChangeShapes Go.WideShapes Go.ChangeAt Go.RowKit
set_option linter.unusedVariables false

set_option maxHeartbeats 16000000 in
set_option maxRecDepth 100000 in
theorem neKeepB_any (v1 : Value) (N : NetD) (lo1 hi1 : Nat) (v2 : Value) (zs : List Int) (lo2 hi2 : Nat) (w : World) (h1 : Net w lo1 hi1 v1 N) (hh1 : hi1 ≤ w.heap.size) (h2 : IntS w lo2 hi2 v2 zs) (hh2 : hi2 ≤ w.heap.size) (hg : N.good = true) (hz : PickOk N zs) (hzl : zs.length ≤ 40) :
    Calls Try.prog 24 #[v1, v2] w fun e w' => ∃ r, e = .returned (r) ∧ NetB w' w.heap.size w'.heap.size r (partN N zs (kpB N zs)) ∧ Below w.heap.size w w' := by
  obtain ⟨n1, n40⟩ := good_n hg
  have HG := Lib.hid hg; clear hg
  have HZ := Lib.hid hz; have HZN := Lib.hid hz.node; have HKO := Lib.hid (kpB_ok HG.out hz); clear hz
  have HNN := Lib.hid (good_insl HG.out); have HNI := Lib.hid (good_idsl HG.out)
  have hmk := fun W => run_make_row' (P := Try.prog) 23 3 (.int .i64 0) 8 Try.underlying23 Try.info3 rfl .i64 .i64 N.ends.length (by omega) (by omega) W
  have HMK := Lib.hid hmk; clear hmk
  have F1 := Lib.hid h1
  obtain ⟨A1, c1, A1', c1', A1'', c1'', rfl, hc1, hd1, _⟩ := h1.parts
  obtain ⟨b1, o1, _, _, rfl, _⟩ := Net.rowAt F1.out (u := 0) (by omega)
  clear h1
  have F2 := Lib.hid h2
  obtain ⟨A2, c2, rfl, hc2, hd2⟩ := h2.dims
  clear h2
  obtain ⟨WA, HWA⟩ : ∃ W, Hid (W = ((w.alloc (.cells #[.slice (some ⟨b1, o1, none⟩) N.ends.length c1, .slice A1' N.ids.length c1', .slice A1'' N.inputs.length c1''] 34)).alloc (.cells #[.slice none 0 0, .slice none 0 0, .slice none 0 0] 34))) := ⟨_, Lib.hid rfl⟩
  have hbA : Below w.heap.size w WA := by rw [HWA.out]; exact (((Below.refl _ _).alloc (Nat.le_refl _) _).alloc (by simp; try omega) _)
  have hsA : w.heap.size + 2 ≤ WA.heap.size := by rw [HWA.out]; simp; try omega
  have bx1 : BoxN WA (w.heap.size) #[.slice (some ⟨b1, o1, none⟩) N.ends.length c1, .slice A1' N.ids.length c1', .slice A1'' N.inputs.length c1''] 34 := by rw [HWA.out]; exact ((BoxN.new' _ _ _ (by simp)).still (grown_alloc _ _))
  have bxx0 : BoxN WA (w.heap.size + 1) #[.slice none 0 0, .slice none 0 0, .slice none 0 0] 34 := by rw [HWA.out]; exact (BoxN.new' _ _ _ (by simp))
  have G1 := Lib.hid (Net.below F1.out hbA hh1); clear F1
  have G2 := Lib.hid (IntS.below F2.out hbA hh2); clear F2
  go_enter Try.func24, Try.ntmps24
  go_upto_region 1 with (fail)
  rw [← HWA.out]; clear HWA
  have kbx1_0 : WA.cell? ⟨w.heap.size, 0, none⟩ = some (.slice (some ⟨b1, o1, none⟩) N.ends.length c1) := bx1.cell 0 (by simp)
  have kbx1_1 : WA.cell? ⟨w.heap.size, 1, none⟩ = some (.slice A1' N.ids.length c1') := bx1.cell 1 (by simp)
  have kbx1_2 : WA.cell? ⟨w.heap.size, 2, none⟩ = some (.slice A1'' N.inputs.length c1'') := bx1.cell 2 (by simp)
  go_wp2_with fail
  clear kbx1_0 kbx1_1 kbx1_2
  refine (neAll_any _ N lo1 hi1 _ G1.out (by omega) HG.out).mono ?_
  rintro e W1 ⟨r0, bss, rfl, hB0, hsm0, hb1⟩
  have hg1 := grown_below hb1; clear hb1
  have hs1 := hg1.size
  have HF1 := Lib.hid ((Turned.refl WA.heap.size WA.heap.size WA).still hg1)
  have HB0 := Lib.hid hB0; clear hB0
  obtain ⟨Ak, ck, rfl, hck, hdk⟩ := HB0.out.dims
  have hk0 : 0 < bss.length := by rw [hsm0.1]; omega
  obtain ⟨Ak', ck', ek, _, _, hK0⟩ := SS.form HB0.out.ss
  obtain ⟨bK, oK, eK, _, _, _⟩ := hK0 hk0
  injection ek with ek1 _ ek2
  subst ek1 ek2
  subst eK
  have HP0 := Lib.hid (show KAt N zs 0 0 bss from ⟨hsm0, fun a ha b hb h => absurd h (by omega)⟩)
  rw [hsm0.1] at HB0 hck ⊢
  clear hK0 hk0 hsm0
  have kbx1_0 : W1.cell? ⟨w.heap.size, 0, none⟩ = some (.slice (some ⟨b1, o1, none⟩) N.ends.length c1) := (HF1.out.boxN bx1 (by omega)).cell 0 (by simp)
  have kbx1_1 : W1.cell? ⟨w.heap.size, 1, none⟩ = some (.slice A1' N.ids.length c1') := (HF1.out.boxN bx1 (by omega)).cell 1 (by simp)
  have kbx1_2 : W1.cell? ⟨w.heap.size, 2, none⟩ = some (.slice A1'' N.inputs.length c1'') := (HF1.out.boxN bx1 (by omega)).cell 2 (by simp)
  go_wp2_with fail
  clear kbx1_0 kbx1_1 kbx1_2
  go_loopw [25] (fun kv wr => ∃ (v : Nat) (bs : List (List Bool)), v ≤ N.ends.length ∧ kv = .int .i64 v ∧ Hid (BoolSSx wr WA.heap.size W1.heap.size (.slice (some ⟨bK, oK, none⟩) N.ends.length ck) bs) ∧ Hid (KAt N zs v 0 bs) ∧ W1.heap.size ≤ wr.heap.size ∧ Hid (Turned WA.heap.size WA.heap.size WA wr)) (fun kv _ => N.ends.length - (intOf kv).toNat)
  case atStart => exact ⟨0, _, Nat.zero_le _, rfl, HB0, HP0, Nat.le_refl _, HF1⟩
  case round =>
    clear HF1
    obtain ⟨v, bs, hv, rfl, HB, HP, hzk, HF2⟩ := hrel
    have hs2 := HF2.out.size
    obtain ⟨wq, rfl⟩ : ∃ wq : World, wq = wr := ⟨_, rfl⟩
    by_cases hvn : v < N.ends.length
    case pos =>
      have hvi : (v : Int) < N.ends.length := by omega
      have hd6 := good_deg HG.out hvn
      obtain ⟨Aa, ca, hba, qa, hca, hda, hRa⟩ := Net.rowIn G1.out hvn
      replace qa := (HF2.out.cell (by omega) (by omega)).trans qa
      have Ra := Lib.hid hRa; clear hRa
      go_wp2_with fail
      clear qa
      go_loopw [32] (fun iv wr => ∃ (i : Nat) (bs : List (List Bool)), i ≤ (nthL N.ends v).length ∧ iv = .int .i64 i ∧ Hid (BoolSSx wr WA.heap.size W1.heap.size (.slice (some ⟨bK, oK, none⟩) N.ends.length ck) bs) ∧ Hid (KAt N zs v i bs) ∧ W1.heap.size ≤ wr.heap.size ∧ Hid (Turned WA.heap.size WA.heap.size WA wr)) (fun iv _ => (nthL N.ends v).length - (intOf iv).toNat)
      case atStart => exact ⟨0, bs, Nat.zero_le _, rfl, HB, HP, hzk, HF2⟩
      case round =>
        clear HF2
        obtain ⟨i, bs, hi, rfl, HB, HP, hzk, HF3⟩ := hrel
        have hs3 := HF3.out.size
        obtain ⟨wt, rfl⟩ : ∃ wt : World, wt = wr := ⟨_, rfl⟩
        by_cases hil : i < (nthL N.ends v).length
        case neg =>
          obtain rfl : i = (nthL N.ends v).length := by omega
          go_wp2_with fail
          go_roundw
          case rel => exact ⟨v + 1, bs, by omega, by go_num, HB, Lib.hid HP.out.next, hzk, HF3⟩
          case measure => simp [intOf]; omega
        have hii : (i : Int) < (nthL N.ends v).length := by omega
        obtain ⟨be, oe, rfl, _, _, xe, xe'⟩ := (EndS.turned Ra.out HF3.out (by omega) (by omega)).opened hil
        obtain ⟨t, r, et, ht, hr, eu⟩ := good_end HG.out hvn hil
        rw [et] at xe xe'
        dsimp only at xe xe'
        have ET := Lib.hid et
        clear et eu
        go_upto_region 8 with (fail)
        refine nameC ?_
        intro W4 HW4
        have hg4 : wt.grownBy W4 none := by rw [HW4.out]; exact grown_alloc _ _
        have hs4 := hg4.size
        have HF4 := Lib.hid (HF3.out.still hg4); clear HF3
        have K4 := Lib.hid (BSSx.still HB.out hg4 (by omega)); clear HB
        have bxe4 := Lib.hid (show BoxN W4 wt.heap.size #[.int .i64 t, .int .i64 r] 60 by rw [HW4.out]; exact BoxN.new _ _ _)
        clear HW4
        clear xe xe'
        have HPN := Lib.hid (HP.out.step hvn hil)
        have HKP := Lib.hid (show kpB N zs v i = (decide ((v : Int) ∈ zs) && decide ((t : Int) ∈ zs)) by unfold kpB; rw [ET.out])
        obtain ⟨b1, HB1⟩ : ∃ b, Hid (decide ((v : Int) ∈ zs) = b) := ⟨_, Lib.hid rfl⟩
        obtain ⟨b2, HB2⟩ : ∃ b, Hid (decide ((t : Int) ∈ zs) = b) := ⟨_, Lib.hid rfl⟩
        rw [HB1.out, HB2.out] at HKP
        rw [HKP.out] at HPN
        have hvl : v < bs.length := by rw [HP.out.1.1]; exact hvn
        have hil2 : i < (nthL bs v).length := by rw [HP.out.1.2 v hvn]; exact hil
        have HRL := Lib.hid (show (nthL bs v).length = (nthL N.ends v).length from HP.out.1.2 v hvn)
        have HVL := Lib.hid hvl; have HIL := Lib.hid hil2; clear hvl hil2
        obtain ⟨bw, ow, cw, hbw, hbw2, hbr, hbr2, y1, y2, y3, y4, y5, _⟩ := BSSx.at2 K4.out (by omega) HVL.out HIL.out
        rw [HRL.out] at y1 y2
        have T1 := Lib.hid (show CellH W4 ⟨bK, oK + v, none⟩ (.slice (some ⟨bw, ow, none⟩) (nthL N.ends v).length cw) from ⟨y1, by show bK < _; omega⟩)
        clear y1 y4 y5
        refine wp_region_U (fun w' => w'.cell? ⟨wt.heap.size, 0, none⟩ = some (.int .i64 t) ∧ w'.cell? ⟨wt.heap.size, 1, none⟩ = some (.int .i64 r) ∧ w'.cell? ⟨bK, oK + v, none⟩ = some (.slice (some ⟨bw, ow, none⟩) (nthL N.ends v).length cw)) [15] (by kernel_rfl) ?_
        refine nameU ?_
        intro W5 HW5
        have hg5 : W4.grownBy W5 none := by rw [HW5.out]; exact grown_drew _
        clear HW5
        have hs5 := hg5.size
        have HF5 := Lib.hid (HF4.out.still hg5); clear HF4
        have K5 := Lib.hid (BSSx.still K4.out hg5 (by omega)); clear K4
        have bxe5 := Lib.hid (BoxN.still bxe4.out hg5); clear bxe4
        have T15 := Lib.hid (CellH.still T1.out hg5); clear T1
        have hS6 : W5.cell? ⟨wt.heap.size, 0, none⟩ = some (.int .i64 t) ∧ W5.cell? ⟨wt.heap.size, 1, none⟩ = some (.int .i64 r) ∧ W5.cell? ⟨bK, oK + v, none⟩ = some (.slice (some ⟨bw, ow, none⟩) (nthL N.ends v).length cw) := ⟨bxe5.out.cell 0 (by simp), bxe5.out.cell 1 (by simp), T15.out.cell⟩
        refine anyU_take (i := 0) (v := .slice (some ⟨bK, oK, none⟩) N.ends.length ck) rfl (by kernel_rfl) (by kernel_rfl) (by kernel_rfl) (fun _ _ _ h => h) ⟨by rfl, fun w' hS' => (by obtain ⟨s1, s2, s3⟩ := hS'; go_simp)⟩ hS6 ?_
        simp only [List.getElem_toArray, List.getElem_cons_zero, Act.put, List.setIfInBounds_toArray, List.set_cons_zero, List.set_cons_succ]
        refine anyU_take (i := 1) (v := .int .i64 v) rfl (by kernel_rfl) (by kernel_rfl) (by kernel_rfl) (fun _ _ _ h => h) ⟨by rfl, fun w' hS' => (by obtain ⟨s1, s2, s3⟩ := hS'; go_simp)⟩ hS6 ?_
        simp only [List.getElem_toArray, List.getElem_cons_succ, List.getElem_cons_zero, Act.put, List.setIfInBounds_toArray, List.set_cons_zero, List.set_cons_succ]
        refine anyU_take (i := 2) (v := .pointer (some ⟨bK, oK + v, none⟩)) rfl (by kernel_rfl) (by kernel_rfl) (by kernel_rfl) (fun _ _ _ h => h) ⟨by rfl, fun w' hS' => (by obtain ⟨s1, s2, s3⟩ := hS'; simp [go_sem, hvi])⟩ hS6 ?_
        simp only [List.getElem_toArray, List.getElem_cons_succ, List.getElem_cons_zero, Act.put, List.setIfInBounds_toArray, List.set_cons_zero, List.set_cons_succ]
        refine anyU_take (i := 3) (v := .slice (some ⟨bw, ow, none⟩) (nthL N.ends v).length cw) rfl (by kernel_rfl) (by kernel_rfl) (by kernel_rfl) (fun _ _ _ h => h) ⟨by rfl, fun w' hS' => (by obtain ⟨s1, s2, s3⟩ := hS'; go_simp)⟩ hS6 ?_
        simp only [List.getElem_toArray, List.getElem_cons_succ, List.getElem_cons_zero, Act.put, List.setIfInBounds_toArray, List.set_cons_zero, List.set_cons_succ]
        refine anyU_take (i := 4) (v := .int .i64 i) rfl (by kernel_rfl) (by kernel_rfl) (by kernel_rfl) (fun _ _ _ h => h) ⟨by rfl, fun w' hS' => (by obtain ⟨s1, s2, s3⟩ := hS'; go_simp)⟩ hS6 ?_
        simp only [List.getElem_toArray, List.getElem_cons_succ, List.getElem_cons_zero, Act.put, List.setIfInBounds_toArray, List.set_cons_zero, List.set_cons_succ]
        refine anyU_take (i := 5) (v := .slice A2 zs.length c2) rfl (by kernel_rfl) (by kernel_rfl) (by kernel_rfl) (fun _ _ _ h => h) ⟨by rfl, fun w' hS' => (by obtain ⟨s1, s2, s3⟩ := hS'; go_simp)⟩ hS6 ?_
        simp only [List.getElem_toArray, List.getElem_cons_succ, List.getElem_cons_zero, Act.put, List.setIfInBounds_toArray, List.set_cons_zero, List.set_cons_succ]
        refine anyU_take (i := 6) (v := .int .i64 v) rfl (by kernel_rfl) (by kernel_rfl) (by kernel_rfl) (fun _ _ _ h => h) ⟨by rfl, fun w' hS' => (by obtain ⟨s1, s2, s3⟩ := hS'; go_simp)⟩ hS6 ?_
        simp only [List.getElem_toArray, List.getElem_cons_succ, List.getElem_cons_zero, Act.put, List.setIfInBounds_toArray, List.set_cons_zero, List.set_cons_succ]
        refine anyU_ready (rs := [7]) (by kernel_rfl) (by simp) ?_
        refine ReadyU.cons (i := 7) rfl (fun K hK => ?_) ReadyU.nil
        simp only [List.getElem_toArray, List.getElem_cons_succ, List.getElem_cons_zero]
        refine ite_is (by rfl) ?_
        simp [go_sem]
        refine (l1Has_any _ zs (v : Nat) _ _ _ (IntS.turned G2.out HF5.out (by omega) (by omega))).mono ?_
        rintro e w' ⟨rfl, rfl⟩
        rw [HB1.out]
        refine hK.out _ _ ⟨fun _ => hS6, ?_⟩
        clear hK K
        try simp only [List.getElem_toArray, List.getElem_cons_succ, List.getElem_cons_zero, Act.put, List.setIfInBounds_toArray, List.set_cons_zero, List.set_cons_succ]
        refine anyU_take (i := 8) (v := .bool b1) rfl (by kernel_rfl) (by kernel_rfl) (by kernel_rfl) (fun _ _ _ h => h) ⟨by rfl, fun w' hS' => (by obtain ⟨s1, s2, s3⟩ := hS'; go_simp)⟩ hS6 ?_
        simp only [List.getElem_toArray, List.getElem_cons_succ, List.getElem_cons_zero, Act.put, List.setIfInBounds_toArray, List.set_cons_zero, List.set_cons_succ]
        cases b1
        case false =>
          refine anyU_skip2 (i := 9) rfl (by kernel_rfl) (by kernel_rfl) (by kernel_rfl) (fun _ _ _ h => h) (by rfl) hS6 ?_
          simp only [List.getElem_toArray, List.getElem_cons_succ, List.getElem_cons_zero, Act.put, List.setIfInBounds_toArray, List.set_cons_zero, List.set_cons_succ]
          refine anyU_skip2 (i := 10) rfl (by kernel_rfl) (by kernel_rfl) (by kernel_rfl) (fun _ _ _ h => h) (by rfl) hS6 ?_
          simp only [List.getElem_toArray, List.getElem_cons_succ, List.getElem_cons_zero, Act.put, List.setIfInBounds_toArray, List.set_cons_zero, List.set_cons_succ]
          refine anyU_skip2 (i := 11) rfl (by kernel_rfl) (by kernel_rfl) (by kernel_rfl) (fun _ _ _ h => h) (by rfl) hS6 ?_
          simp only [List.getElem_toArray, List.getElem_cons_succ, List.getElem_cons_zero, Act.put, List.setIfInBounds_toArray, List.set_cons_zero, List.set_cons_succ]
          refine anyU_skip2 (i := 12) rfl (by kernel_rfl) (by kernel_rfl) (by kernel_rfl) (fun _ _ _ h => h) (by rfl) hS6 ?_
          simp only [List.getElem_toArray, List.getElem_cons_succ, List.getElem_cons_zero, Act.put, List.setIfInBounds_toArray, List.set_cons_zero, List.set_cons_succ]
          refine anyU_take (i := 13) (v := .bool false) rfl (by kernel_rfl) (by kernel_rfl) (by kernel_rfl) (fun _ _ _ h => h) ⟨by rfl, fun w' hS' => (by obtain ⟨s1, s2, s3⟩ := hS'; go_simp)⟩ hS6 ?_
          simp only [List.getElem_toArray, List.getElem_cons_succ, List.getElem_cons_zero, Act.put, List.setIfInBounds_toArray, List.set_cons_zero, List.set_cons_succ]
          refine anyU_take (i := 14) (v := .pointer (some ⟨bw, ow + i, none⟩)) rfl (by kernel_rfl) (by kernel_rfl) (by kernel_rfl) (fun _ _ _ h => h) ⟨by rfl, fun w' hS' => (by obtain ⟨s1, s2, s3⟩ := hS'; simp [go_sem, hii])⟩ hS6 ?_
          simp only [List.getElem_toArray, List.getElem_cons_succ, List.getElem_cons_zero, Act.put, List.setIfInBounds_toArray, List.set_cons_zero, List.set_cons_succ]
          rw [Bool.false_and] at HPN
          obtain ⟨bw', ow', cw', _, _, _, _, z1, _, _, z4, z5, z6⟩ := BSSx.at2 K5.out (by omega) HVL.out HIL.out
          rw [HRL.out] at z1
          have z7 := T15.out.cell
          rw [z7] at z1
          injection z1 with z1
          injection z1 with z1 _ _
          injection z1 with z1
          injection z1 with z1 z2 _
          subst z1 z2
          obtain ⟨xv, HXV⟩ : ∃ x, Hid (nthB (nthL bs v) i = x) := ⟨_, Lib.hid rfl⟩
          rw [HXV.out] at z4
          refine anyU_ready (rs := [15]) (by kernel_rfl) (by simp) ?_
          refine ReadyU.cons (i := 15) rfl (fun K hK => ?_) ReadyU.nil
          simp only [List.getElem_toArray, List.getElem_cons_succ, List.getElem_cons_zero]
          refine ite_is (by rfl) ?_
          simp [go_sem, z4, z5]
          refine hK.out _ _ ⟨fun h => absurd h (by decide), ?_⟩
          clear hK K
          try simp only [List.getElem_toArray, List.getElem_cons_succ, List.getElem_cons_zero, Act.put, List.setIfInBounds_toArray, List.set_cons_zero, List.set_cons_succ]
          refine nameU ?_
          intro W7 HW7
          have hg7 : W5.grownBy W7 (some bw) := by rw [HW7.out]; exact grown_set _ ⟨bw, _, none⟩ _
          have HBN := Lib.hid (show BoolSSx W7 WA.heap.size W1.heap.size (.slice (some ⟨bK, oK, none⟩) N.ends.length ck) (setAtB bs v i false) by rw [HW7.out]; exact z6 _)
          have hsn := hg7.size
          have HFN := Lib.hid (HF5.out.grown hg7 (fun g e => .inr (by cases e; omega)))
          clear HW7 z4 z5 z6 z7
          clear hS6
          refine anyU_done (by kernel_rfl) ?_ _
          go_wp2_with fail
          go_roundw
          case rel => exact ⟨i + 1, _, by omega, by go_num, HBN, HPN, by omega, HFN⟩
          case measure => simp [intOf]; omega
        case true =>
          refine anyU_take (i := 9) (v := .slice A2 zs.length c2) rfl (by kernel_rfl) (by kernel_rfl) (by kernel_rfl) (fun _ _ _ h => h) ⟨by rfl, fun w' hS' => (by obtain ⟨s1, s2, s3⟩ := hS'; go_simp)⟩ hS6 ?_
          simp only [List.getElem_toArray, List.getElem_cons_succ, List.getElem_cons_zero, Act.put, List.setIfInBounds_toArray, List.set_cons_zero, List.set_cons_succ]
          refine anyU_take (i := 10) (v := .pointer (some ⟨wt.heap.size, 0, none⟩)) rfl (by kernel_rfl) (by kernel_rfl) (by kernel_rfl) (fun _ _ _ h => h) ⟨by rfl, fun w' hS' => (by obtain ⟨s1, s2, s3⟩ := hS'; go_simp)⟩ hS6 ?_
          simp only [List.getElem_toArray, List.getElem_cons_succ, List.getElem_cons_zero, Act.put, List.setIfInBounds_toArray, List.set_cons_zero, List.set_cons_succ]
          refine anyU_take (i := 11) (v := .int .i64 t) rfl (by kernel_rfl) (by kernel_rfl) (by kernel_rfl) (fun _ _ _ h => h) ⟨by rfl, fun w' hS' => (by obtain ⟨s1, s2, s3⟩ := hS'; go_simp)⟩ hS6 ?_
          simp only [List.getElem_toArray, List.getElem_cons_succ, List.getElem_cons_zero, Act.put, List.setIfInBounds_toArray, List.set_cons_zero, List.set_cons_succ]
          refine anyU_ready (rs := [12]) (by kernel_rfl) (by simp) ?_
          refine ReadyU.cons (i := 12) rfl (fun K hK => ?_) ReadyU.nil
          simp only [List.getElem_toArray, List.getElem_cons_succ, List.getElem_cons_zero]
          refine ite_is (by rfl) ?_
          simp [go_sem]
          refine (l1Has_any _ zs (t : Nat) _ _ _ (IntS.turned G2.out HF5.out (by omega) (by omega))).mono ?_
          rintro e w' ⟨rfl, rfl⟩
          rw [HB2.out]
          refine hK.out _ _ ⟨fun _ => hS6, ?_⟩
          clear hK K
          try simp only [List.getElem_toArray, List.getElem_cons_succ, List.getElem_cons_zero, Act.put, List.setIfInBounds_toArray, List.set_cons_zero, List.set_cons_succ]
          refine anyU_take (i := 13) (v := .bool b2) rfl (by kernel_rfl) (by kernel_rfl) (by kernel_rfl) (fun _ _ _ h => h) ⟨by rfl, fun w' hS' => (by obtain ⟨s1, s2, s3⟩ := hS'; go_simp)⟩ hS6 ?_
          simp only [List.getElem_toArray, List.getElem_cons_succ, List.getElem_cons_zero, Act.put, List.setIfInBounds_toArray, List.set_cons_zero, List.set_cons_succ]
          refine anyU_take (i := 14) (v := .pointer (some ⟨bw, ow + i, none⟩)) rfl (by kernel_rfl) (by kernel_rfl) (by kernel_rfl) (fun _ _ _ h => h) ⟨by rfl, fun w' hS' => (by obtain ⟨s1, s2, s3⟩ := hS'; simp [go_sem, hii])⟩ hS6 ?_
          simp only [List.getElem_toArray, List.getElem_cons_succ, List.getElem_cons_zero, Act.put, List.setIfInBounds_toArray, List.set_cons_zero, List.set_cons_succ]
          rw [Bool.true_and] at HPN
          obtain ⟨bw', ow', cw', _, _, _, _, z1, _, _, z4, z5, z6⟩ := BSSx.at2 K5.out (by omega) HVL.out HIL.out
          rw [HRL.out] at z1
          have z7 := T15.out.cell
          rw [z7] at z1
          injection z1 with z1
          injection z1 with z1 _ _
          injection z1 with z1
          injection z1 with z1 z2 _
          subst z1 z2
          obtain ⟨xv, HXV⟩ : ∃ x, Hid (nthB (nthL bs v) i = x) := ⟨_, Lib.hid rfl⟩
          rw [HXV.out] at z4
          refine anyU_ready (rs := [15]) (by kernel_rfl) (by simp) ?_
          refine ReadyU.cons (i := 15) rfl (fun K hK => ?_) ReadyU.nil
          simp only [List.getElem_toArray, List.getElem_cons_succ, List.getElem_cons_zero]
          refine ite_is (by rfl) ?_
          simp [go_sem, z4, z5]
          refine hK.out _ _ ⟨fun h => absurd h (by decide), ?_⟩
          clear hK K
          try simp only [List.getElem_toArray, List.getElem_cons_succ, List.getElem_cons_zero, Act.put, List.setIfInBounds_toArray, List.set_cons_zero, List.set_cons_succ]
          refine nameU ?_
          intro W8 HW8
          have hg8 : W5.grownBy W8 (some bw) := by rw [HW8.out]; exact grown_set _ ⟨bw, _, none⟩ _
          have HBN := Lib.hid (show BoolSSx W8 WA.heap.size W1.heap.size (.slice (some ⟨bK, oK, none⟩) N.ends.length ck) (setAtB bs v i b2) by rw [HW8.out]; exact z6 _)
          have hsn := hg8.size
          have HFN := Lib.hid (HF5.out.grown hg8 (fun g e => .inr (by cases e; omega)))
          clear HW8 z4 z5 z6 z7
          clear hS6
          refine anyU_done (by kernel_rfl) ?_ _
          go_wp2_with fail
          go_roundw
          case rel => exact ⟨i + 1, _, by omega, by go_num, HBN, HPN, by omega, HFN⟩
          case measure => simp [intOf]; omega
    obtain rfl : v = N.ends.length := by omega
    clear hvn
    have HKB := Lib.hid HP.out.done
    clear HP
    have kbx1_0 : wq.cell? ⟨w.heap.size, 0, none⟩ = some (.slice (some ⟨b1, o1, none⟩) N.ends.length c1) := (HF2.out.boxN bx1 (by omega)).cell 0 (by simp)
    have kbx1_1 : wq.cell? ⟨w.heap.size, 1, none⟩ = some (.slice A1' N.ids.length c1') := (HF2.out.boxN bx1 (by omega)).cell 1 (by simp)
    have kbx1_2 : wq.cell? ⟨w.heap.size, 2, none⟩ = some (.slice A1'' N.inputs.length c1'') := (HF2.out.boxN bx1 (by omega)).cell 2 (by simp)
    go_wp2_with fail
    clear kbx1_0 kbx1_1 kbx1_2
    refine (neCut_any _ N lo1 hi1 _ bs WA.heap.size W1.heap.size _ (Net.turned G1.out HF2.out (by omega) (by omega)) (by omega) HB.out (by omega) (kpB N zs) HG.out HKB.out).mono ?_
    rintro e W9 ⟨vE5, A5, m5, c5, A6, m6, c6, rfl, hE5, hb9⟩
    have hg9 := grown_below hb9; clear hb9
    have hs9 := hg9.size
    have HF9 := Lib.hid (HF2.out.still hg9); clear HF2
    have HE5 := Lib.hid hE5; clear hE5
    obtain ⟨AE5, cE5, rfl, hcE5, hdE5⟩ := SS.dims HE5.out
    obtain ⟨bC, oC, _, eC, _, _, _, _⟩ := SS.opened (j := 0) HE5.out (by rw [cutRows_len]; omega)
    subst eC
    have hcr5 := cutRows_len N (kpB N zs) N.ends.length
    rw [hcr5] at hcE5 ⊢
    clear hcr5 HB HKB
    go_upto_region 12 with (fail)
    refine nameC ?_
    intro W10 HW10
    have hg10 : W9.grownBy W10 none := by rw [HW10.out]; exact grown_alloc _ _
    have hs10 := hg10.size
    have HF10 := Lib.hid (HF9.out.still hg10); clear HF9
    have CB10 := Lib.hid (show BoxN W10 W9.heap.size #[.slice (some ⟨bC, oC, none⟩) N.ends.length cE5, .slice A5 m5 c5, .slice A6 m6 c6] 34 by rw [HW10.out]; exact BoxN.new _ _ _)
    clear HW10
    have HE6 := Lib.hid (ESS.below HE5.out (grown_to_below hg10) (by omega)); clear HE5
    have N_10 := Lib.hid (Net.turned G1.out HF10.out (by omega) (by omega)); clear G1
    have zs_10 := Lib.hid (IntS.turned G2.out HF10.out (by omega) (by omega)); clear G2
    have bx1_10 := HF10.out.boxN bx1 (by omega); clear bx1
    have bxx0_10 := HF10.out.boxN bxx0 (by omega); clear bxx0
    have hbA10 : Below w.heap.size w W10 := (HF10.out.below_of hbA (by omega) (by omega)); clear hbA HF10
    have hmk := HMK.out
    have kbx1_0 : W10.cell? ⟨w.heap.size, 0, none⟩ = some (.slice (some ⟨b1, o1, none⟩) N.ends.length c1) := bx1_10.cell 0 (by simp)
    have kbx1_1 : W10.cell? ⟨w.heap.size, 1, none⟩ = some (.slice A1' N.ids.length c1') := bx1_10.cell 1 (by simp)
    have kbx1_2 : W10.cell? ⟨w.heap.size, 2, none⟩ = some (.slice A1'' N.inputs.length c1'') := bx1_10.cell 2 (by simp)
    go_upto_region 13 with (fail)
    clear hmk kbx1_0 kbx1_1 kbx1_2
    refine nameC ?_
    intro W11 HW11
    have hg11 : W10.grownBy W11 none := by rw [HW11.out]; exact grown_alloc _ _
    have hs11 := hg11.size
    have HF11 := Lib.hid ((Turned.refl W10.heap.size W10.heap.size W10).still hg11)
    have HT0 := Lib.hid (show IntS W11 W10.heap.size (W10.heap.size + 1) (.slice (some ⟨W10.heap.size, 0, none⟩) N.ends.length N.ends.length) (numL (List.replicate N.ends.length 0) 0 (zs.take 0)) by rw [HW11.out, List.take_zero]; exact made_ints _ _ _ rfl (by omega))
    have hzt : W10.heap.size + 1 ≤ W11.heap.size := by rw [HW11.out]; simp
    clear HW11
    go_wp2_with fail
    go_loopw [63] (fun kv wr => ∃ (k : Nat), k ≤ zs.length ∧ kv = .int .i64 k ∧ Hid (IntS wr W10.heap.size (W10.heap.size + 1) (.slice (some ⟨W10.heap.size, 0, none⟩) N.ends.length N.ends.length) (numL (List.replicate N.ends.length 0) 0 (zs.take k))) ∧ W10.heap.size + 1 ≤ wr.heap.size ∧ Hid (Turned W10.heap.size W10.heap.size W10 wr)) (fun kv _ => zs.length - (intOf kv).toNat)
    case atStart => exact ⟨0, Nat.zero_le _, rfl, HT0, hzt, HF11⟩
    case round =>
      clear HF11
      obtain ⟨k, hk, rfl, HT, hz2, HF12⟩ := hrel
      have hs12 := HF12.out.size
      obtain ⟨wq, rfl⟩ : ∃ wq : World, wq = wr := ⟨_, rfl⟩
      by_cases hkl : k < zs.length
      case pos =>
        obtain ⟨u, eu, hun⟩ := HZN.out k hkl
        obtain ⟨bn, on, rfl, _, _, xn, _⟩ := IntS.opened (IntS.turned zs_10.out HF12.out (by omega) (by omega)) hkl
        rw [eu] at xn
        have hul : u < (numL (List.replicate N.ends.length 0) 0 (zs.take k)).length := by rw [numL_length]; simpa using hun
        obtain ⟨d1, d2⟩ := IntS.at0 HT.out (j := u) hul
        have HNX := Lib.hid (show numL (List.replicate N.ends.length 0) 0 (zs.take (k + 1)) = (numL (List.replicate N.ends.length 0) 0 (zs.take k)).set u (k : Int) by
          rw [List.take_succ_eq_append_getElem hkl, ← nth_eq hkl, eu, numL_snoc, Int.toNat_natCast, List.length_take, Nat.min_eq_left hk, Nat.zero_add])
        clear eu
        have hki : (k : Int) < zs.length := by omega
        have hui : (u : Int) < N.ends.length := by omega
        obtain ⟨dv, HDV⟩ : ∃ x, Hid (nth (numL (List.replicate N.ends.length 0) 0 (zs.take k)) u = x) := ⟨_, Lib.hid rfl⟩
        rw [HDV.out] at d1
        have HS9 := Lib.hid (HT.out.set0 hul (k : Int))
        clear hul
        go_wp2_with fail
        go_roundw
        case rel =>
          have hg9 : wq.grownBy (wq.setCell ⟨W10.heap.size, u, none⟩ (.int .i64 (k : Nat))) (some (W10.heap.size)) := grown_set _ _ _
          have hs9 := hg9.size
          exact ⟨k + 1, by omega, by go_num, Lib.hid (by rw [HNX.out]; exact HS9.out), by omega, Lib.hid (HF12.out.grown hg9 (fun g e => .inr (by cases e; omega)))⟩
        case measure => simp [intOf]; omega
      obtain rfl : k = zs.length := by omega
      rw [List.take_length] at HT
      have HT3 := Lib.hid (show IntS wq W10.heap.size (W10.heap.size + 1) (.slice (some ⟨W10.heap.size, 0, none⟩) N.ends.length N.ends.length) (toOf N.ends.length zs) from HT.out)
      clear HT hkl
      go_upto_region 19 with (fail)
      refine nameC ?_
      intro W13 HW13
      have hg13 : wq.grownBy W13 none := by rw [HW13.out]; exact grown_alloc _ _
      have hs13 := hg13.size
      have HF13 := Lib.hid (HF12.out.still hg13); clear HF12
      have T13 := Lib.hid (IntS.still HT3.out hg13 (by omega)); clear HT3
      have OUT13 := Lib.hid (show BoxN W13 wq.heap.size #[.slice none 0 0, .slice none 0 0, .slice none 0 0] 34 by rw [HW13.out]; exact BoxN.new _ _ _)
      clear HW13
      have hgOl : wq.heap.size < W13.heap.size := OUT13.out.lt
      go_wp2_with fail
      obtain ⟨U, HU⟩ : ∃ U, Hid (allU N (kpB N zs) zs zs.length = U) := ⟨_, Lib.hid rfl⟩
      go_loopw [76] (fun kv wr => ∃ (k : Nat) (vE vD vI : Value), k ≤ zs.length ∧ kv = .int .i64 k ∧ Hid (IntS wr W10.heap.size (W10.heap.size + 1) (.slice (some ⟨W10.heap.size, 0, none⟩) N.ends.length N.ends.length) (toOf N.ends.length zs)) ∧ Hid (BoxN wr wq.heap.size #[vE, vD, vI] 34) ∧ Hid (GNT wr W13.heap.size wr.heap.size vE vD vI (partRows N (kpB N zs) U (zs.take k)) (if 0 < N.ids.length then pickL N.ids (zs.take k) else []) (pickL N.inputs (zs.take k))) ∧ W13.heap.size ≤ wr.heap.size ∧ Hid (Turned W10.heap.size W10.heap.size W10 wr)) (fun kv _ => zs.length - (intOf kv).toNat)
      case atStart => exact ⟨0, .slice none 0 0, .slice none 0 0, .slice none 0 0, Nat.zero_le _, rfl, T13, OUT13, Lib.hid (by rw [List.take_zero]; simp only [partRows, pickL, List.map_nil, ite_self]; exact GNT.nil _ _ _), Nat.le_refl _, HF13⟩
      case round =>
        clear HF13
        obtain ⟨k, vE, vD, vI, hk, rfl, HT, HB, HGN, hz, HF14⟩ := hrel
        have hs14 := HF14.out.size
        obtain ⟨wt, rfl⟩ : ∃ wt : World, wt = wr := ⟨_, rfl⟩
        by_cases hkl : k < zs.length
        case neg =>
          obtain rfl : k = zs.length := by omega
          rw [List.take_length] at HGN
          have HPE := Lib.hid (show partN N zs (kpB N zs) = ⟨(partRows N (kpB N zs) U zs).map castL, if 0 < N.ids.length then pickL N.ids zs else [], pickL N.inputs zs⟩ by unfold partN; rw [HU.out])
          obtain ⟨rows, HRS⟩ : ∃ l, Hid (partRows N (kpB N zs) U zs = l) := ⟨_, Lib.hid rfl⟩
          obtain ⟨ids, HIDS⟩ : ∃ l, Hid ((if 0 < N.ids.length then pickL N.ids zs else []) = l) := ⟨_, Lib.hid rfl⟩
          obtain ⟨ins, HINS⟩ : ∃ l, Hid (pickL N.inputs zs = l) := ⟨_, Lib.hid rfl⟩
          rw [HRS.out, HIDS.out, HINS.out] at HGN HPE
          obtain ⟨AE, cE, rfl, _⟩ := HGN.out.lenE
          obtain ⟨AD, cD, rfl, _⟩ := HGN.out.idsO.ints.dims
          obtain ⟨AI, cI, rfl, _⟩ := HGN.out.insO.ints.dims
          have HR := Lib.hid HGN.out.netB
          have ko0 : wt.cell? ⟨wq.heap.size, 0, none⟩ = some (.slice AE rows.length cE) := HB.out.cell 0 (by simp)
          have ko1 : wt.cell? ⟨wq.heap.size, 1, none⟩ = some (.slice AD ids.length cD) := HB.out.cell 1 (by simp)
          have ko2 : wt.cell? ⟨wq.heap.size, 2, none⟩ = some (.slice AI ins.length cI) := HB.out.cell 2 (by simp)
          have HBR := Lib.hid (HF14.out.boxN bxx0_10 (by omega))
          have kr0 : wt.cell? ⟨w.heap.size + 1, 0, none⟩ = some (.slice none 0 0) := HBR.out.cell 0 (by simp)
          have kr1 : wt.cell? ⟨w.heap.size + 1, 1, none⟩ = some (.slice none 0 0) := HBR.out.cell 1 (by simp)
          have kr2 : wt.cell? ⟨w.heap.size + 1, 2, none⟩ = some (.slice none 0 0) := HBR.out.cell 2 (by simp)
          have kf0 := HBR.out.frozen 0
          have kf1 := HBR.out.frozen 1
          have kf2 := HBR.out.frozen 2
          go_wp2_with fail
          ((try simp only [Exit.inBlock, Exit.then]); refine bodyPost_ret (results_cell1 rfl _ _ _ rfl (load_net (((HBR.out.set 0 (.slice AE rows.length cE)).set 1 (.slice AD ids.length cD)).set 2 (.slice AI ins.length cI)))) rfl ?_)
          have hg9 : wt.grownBy (((wt.setCell ⟨w.heap.size + 1, 0, none⟩ (.slice AE rows.length cE)).setCell ⟨w.heap.size + 1, 1, none⟩ (.slice AD ids.length cD)).setCell ⟨w.heap.size + 1, 2, none⟩ (.slice AI ins.length cI)) (some (w.heap.size + 1)) := grownBy_setCell (p := ⟨w.heap.size + 1, 2, none⟩) (grownBy_setCell (p := ⟨w.heap.size + 1, 1, none⟩) (grown_set wt ⟨w.heap.size + 1, 0, none⟩ _) rfl _) rfl _
          refine ⟨_, rfl, ?_, ((HF14.out.below_of hbA10 (by omega) (by omega)).grown hg9 (by omega) fun g e => by cases e; omega)⟩
          rw [HPE.out]
          exact NetB.mono (NetB.turned HR.out ((Turned.refl (w.heap.size + 1) (w.heap.size + 1 + 1) wt).grown hg9 (fun g e => .inl (by cases e; omega))) (Nat.le_refl _) (.inr (by omega))) (by omega) (by simp)
        obtain ⟨v, hv, hvn⟩ := HZN.out k hkl
        obtain ⟨bz, oz, rfl, _, _, xz, _⟩ := IntS.opened (IntS.turned zs_10.out HF14.out (by omega) (by omega)) hkl
        rw [hv] at xz
        have hki : (k : Int) < zs.length := by omega
        have hvi : (v : Int) < N.ends.length := by omega
        have hd6 := good_deg HG.out hvn
        have HV := Lib.hid hv; clear hv
        obtain ⟨uC, hbC, zC, huC⟩ := SS.openedIn (j := v) (ESS.turned HE6.out HF14.out (by omega) (by omega)) (by rw [cutRows_len]; exact hvn)
        rw [nthL_cutRows hvn, ← cutP_row HG.out hvn _ (Nat.le_refl _)] at huC
        obtain ⟨L, HL⟩ : ∃ l, Hid (cutP N (kpB N zs) v (nthL N.ends v).length = l) := ⟨_, Lib.hid rfl⟩
        have hLn := cutP_node HG.out (kp := kpB N zs) hvn (Nat.le_refl _)
        have hLl := cutP_len N (kpB N zs) v (nthL N.ends v).length
        rw [HL.out] at huC hLn hLl
        have HLN := Lib.hid hLn; clear hLn
        obtain ⟨AC, cC, rfl, hcC, hdC⟩ := huC.dims
        have HUC := Lib.hid huC; clear huC
        rw [castL_length] at zC hcC
        have kCB_0 : wt.cell? ⟨W9.heap.size, 0, none⟩ = some (.slice (some ⟨bC, oC, none⟩) N.ends.length cE5) := (HF14.out.boxN CB10.out (by omega)).cell 0 (by simp)
        have kCB_1 : wt.cell? ⟨W9.heap.size, 1, none⟩ = some (.slice A5 m5 c5) := (HF14.out.boxN CB10.out (by omega)).cell 1 (by simp)
        have kCB_2 : wt.cell? ⟨W9.heap.size, 2, none⟩ = some (.slice A6 m6 c6) := (HF14.out.boxN CB10.out (by omega)).cell 2 (by simp)
        go_wp2_with fail
        clear xz zC kCB_0 kCB_1 kCB_2
        go_loopw [86, 17] (fun jv ov wr => ∃ (j : Nat), j ≤ L.length ∧ jv = .int .i64 j ∧ Hid (OwnE wr wt.heap.size 60 ov (keepP N zs (kpB N zs) v j)) ∧ Hid (Below wt.heap.size wt wr)) (fun jv ov _ => L.length - (intOf jv).toNat)
        case atStart => exact ⟨0, Nat.zero_le _, rfl, Lib.hid (by simp only [keepP, List.take_zero, List.map_nil]; exact OwnE.nil _ _ _), Lib.hid (Below.refl _ _)⟩
        case round =>
          obtain ⟨j, hj, rfl, HOE, HBW⟩ := hrel
          obtain ⟨wu, rfl⟩ : ∃ wu : World, wu = wr := ⟨_, rfl⟩
          have hs9 := HBW.out.size
          have hpl := keepP_len N zs (kpB N zs) v j
          obtain ⟨Au, cu, rfl, hcu, hdu⟩ := HOE.out.len
          by_cases hjl : j < L.length
          case pos =>
            have hji : (j : Int) < L.length := by omega
            obtain ⟨be, oe, rfl, _, _, xe, xe'⟩ := (EndS.below HUC.out HBW.out (by omega)).opened (j := j) (by rw [castL_length]; exact hjl)
            rw [nthE_castL hjl] at xe xe'
            dsimp only at xe xe'
            have HKS := Lib.hid (keepP_succ (N := N) (zs := zs) (kp := kpB N zs) (v := v) (j := j) (by rw [HL.out]; exact hjl))
            rw [HL.out] at HKS
            obtain ⟨p, HPP⟩ : ∃ p, Hid (nthP L j = p) := ⟨_, Lib.hid rfl⟩
            have hpn := HLN.out _ (show nthP L j ∈ L by unfold nthP; simp [hjl])
            rw [HPP.out] at xe xe' HKS hpn
            obtain ⟨pt, pc⟩ := p
            dsimp only at xe xe' HKS hpn
            obtain ⟨hpt, hpc⟩ := hpn
            obtain ⟨q, eq, hq⟩ := toOf_nat N.ends.length zs pt
            rw [eq, Int.toNat_natCast] at HKS
            have HQ := Lib.hid eq; clear eq
            have hapE := Lib.hid HOE.out.lt
            go_upto_region 26 with (fail)
            refine nameC ?_
            intro W16 HW16
            have hg16 : wu.grownBy W16 none := by rw [HW16.out]; exact grown_alloc _ _
            have hs16 := hg16.size
            have BE := Lib.hid (show BoxN W16 wu.heap.size #[.int .i64 pt, .int .i64 pc] 60 by rw [HW16.out]; exact BoxN.new _ _ _)
            clear HW16 xe xe'
            have HB2 := Lib.hid (HBW.out.trans ((grown_to_below hg16).mono (by omega)))
            have HO2 := Lib.hid (OwnE.still HOE.out hg16)
            clear HOE hg16 HBW
            have htl := numL_length zs (List.replicate N.ends.length 0) 0
            have z4 := (IntS.at0 (IntS.below HT.out HB2.out (by omega)) (j := pt) (by show pt < (numL _ _ _).length; rw [htl]; simpa using hpt)).1
            rw [HQ.out] at z4
            have T2 := Lib.hid (show CellH W16 ⟨W10.heap.size, pt, none⟩ (.int .i64 (q : Nat)) from ⟨z4, by show W10.heap.size < _; omega⟩)
            have hpti : (pt : Int) < N.ends.length := by omega
            clear z4 htl
            obtain ⟨l, HLL⟩ : ∃ l, Hid (keepP N zs (kpB N zs) v j = l) := ⟨_, Lib.hid rfl⟩
            rw [HLL.out] at HO2 HKS hpl hapE hcu
            rw [HLL.out]
            refine wp_region_U (fun w' => w'.cell? ⟨wu.heap.size, 0, none⟩ = some (.int .i64 pt) ∧ w'.cell? ⟨wu.heap.size, 1, none⟩ = some (.int .i64 pc) ∧ w'.cell? ⟨W10.heap.size, pt, none⟩ = some (.int .i64 (q : Nat))) [] (by kernel_rfl) ?_
            refine nameU ?_
            intro W17 HW17
            have hg17 : W16.grownBy W17 none := by rw [HW17.out]; exact grown_drew _
            clear HW17
            have hs17 := hg17.size
            have HF17 := Lib.hid ((Turned.refl W16.heap.size W16.heap.size W16).still hg17)
            have BE17 := Lib.hid (BoxN.still BE.out hg17); clear BE
            have T217 := Lib.hid (CellH.still T2.out hg17); clear T2
            have OW17 := Lib.hid (OwnE.still HO2.out hg17); clear HO2
            have hS18 : W17.cell? ⟨wu.heap.size, 0, none⟩ = some (.int .i64 pt) ∧ W17.cell? ⟨wu.heap.size, 1, none⟩ = some (.int .i64 pc) ∧ W17.cell? ⟨W10.heap.size, pt, none⟩ = some (.int .i64 (q : Nat)) := ⟨BE17.out.cell 0 (by simp), BE17.out.cell 1 (by simp), T217.out.cell⟩
            refine anyU_take (i := 0) (v := .slice Au l.length cu) rfl (by kernel_rfl) (by kernel_rfl) (by kernel_rfl) (fun _ _ _ h => h) ⟨by rfl, fun w' hS' => (by obtain ⟨s1, s2, s3⟩ := hS'; go_simp)⟩ hS18 ?_
            simp only [List.getElem_toArray, List.getElem_cons_zero, Act.put, List.setIfInBounds_toArray, List.set_cons_zero, List.set_cons_succ]
            refine anyU_take (i := 1) (v := .slice (some ⟨W10.heap.size, 0, none⟩) N.ends.length N.ends.length) rfl (by kernel_rfl) (by kernel_rfl) (by kernel_rfl) (fun _ _ _ h => h) ⟨by rfl, fun w' hS' => (by obtain ⟨s1, s2, s3⟩ := hS'; go_simp)⟩ hS18 ?_
            simp only [List.getElem_toArray, List.getElem_cons_succ, List.getElem_cons_zero, Act.put, List.setIfInBounds_toArray, List.set_cons_zero, List.set_cons_succ]
            refine anyU_take (i := 2) (v := .pointer (some ⟨wu.heap.size, 0, none⟩)) rfl (by kernel_rfl) (by kernel_rfl) (by kernel_rfl) (fun _ _ _ h => h) ⟨by rfl, fun w' hS' => (by obtain ⟨s1, s2, s3⟩ := hS'; go_simp)⟩ hS18 ?_
            simp only [List.getElem_toArray, List.getElem_cons_succ, List.getElem_cons_zero, Act.put, List.setIfInBounds_toArray, List.set_cons_zero, List.set_cons_succ]
            refine anyU_take (i := 3) (v := .int .i64 pt) rfl (by kernel_rfl) (by kernel_rfl) (by kernel_rfl) (fun _ _ _ h => h) ⟨by rfl, fun w' hS' => (by obtain ⟨s1, s2, s3⟩ := hS'; go_simp)⟩ hS18 ?_
            simp only [List.getElem_toArray, List.getElem_cons_succ, List.getElem_cons_zero, Act.put, List.setIfInBounds_toArray, List.set_cons_zero, List.set_cons_succ]
            refine anyU_take (i := 4) (v := .pointer (some ⟨W10.heap.size, pt, none⟩)) rfl (by kernel_rfl) (by kernel_rfl) (by kernel_rfl) (fun _ _ _ h => h) ⟨by rfl, fun w' hS' => (by obtain ⟨s1, s2, s3⟩ := hS'; simp [go_sem, hpti])⟩ hS18 ?_
            simp only [List.getElem_toArray, List.getElem_cons_succ, List.getElem_cons_zero, Act.put, List.setIfInBounds_toArray, List.set_cons_zero, List.set_cons_succ]
            refine anyU_take (i := 5) (v := .int .i64 (q : Nat)) rfl (by kernel_rfl) (by kernel_rfl) (by kernel_rfl) (fun _ _ _ h => h) ⟨by rfl, fun w' hS' => (by obtain ⟨s1, s2, s3⟩ := hS'; go_simp)⟩ hS18 ?_
            simp only [List.getElem_toArray, List.getElem_cons_succ, List.getElem_cons_zero, Act.put, List.setIfInBounds_toArray, List.set_cons_zero, List.set_cons_succ]
            refine anyU_take (i := 6) (v := .pointer (some ⟨wu.heap.size, 1, none⟩)) rfl (by kernel_rfl) (by kernel_rfl) (by kernel_rfl) (fun _ _ _ h => h) ⟨by rfl, fun w' hS' => (by obtain ⟨s1, s2, s3⟩ := hS'; go_simp)⟩ hS18 ?_
            simp only [List.getElem_toArray, List.getElem_cons_succ, List.getElem_cons_zero, Act.put, List.setIfInBounds_toArray, List.set_cons_zero, List.set_cons_succ]
            refine anyU_take (i := 7) (v := .int .i64 pc) rfl (by kernel_rfl) (by kernel_rfl) (by kernel_rfl) (fun _ _ _ h => h) ⟨by rfl, fun w' hS' => (by obtain ⟨s1, s2, s3⟩ := hS'; go_simp)⟩ hS18 ?_
            simp only [List.getElem_toArray, List.getElem_cons_succ, List.getElem_cons_zero, Act.put, List.setIfInBounds_toArray, List.set_cons_zero, List.set_cons_succ]
            refine anyU_take (i := 8) (v := .agg #[.int .i64 (q : Nat), .int .i64 pc]) rfl (by kernel_rfl) (by kernel_rfl) (by kernel_rfl) (fun _ _ _ h => h) ⟨by rfl, fun w' hS' => (by obtain ⟨s1, s2, s3⟩ := hS'; go_simp)⟩ hS18 ?_
            simp only [List.getElem_toArray, List.getElem_cons_succ, List.getElem_cons_zero, Act.put, List.setIfInBounds_toArray, List.set_cons_zero, List.set_cons_succ]
            refine anyU_ready (rs := [9]) (by kernel_rfl) (by simp) ?_
            refine ReadyU.cons (i := 9) rfl (fun K hK => ?_) ReadyU.nil
            simp only [List.getElem_toArray, List.getElem_cons_succ, List.getElem_cons_zero]
            refine ite_is (by rfl) ?_
            simp [go_sem]
            refine nameA ?_
            intro W19 HW19
            have hg19 : W17.grownBy W19 none := by rw [HW19.out]; exact grown_alloc _ _
            have BV := Lib.hid (show BoxN W19 W17.heap.size #[.int .i64 (q : Nat), .int .i64 pc] 60 by rw [HW19.out]; exact BoxN.new _ _ _)
            have hz19 : W17.heap.size < W19.heap.size := BV.out.lt
            clear HW19
            have hs19 := hg19.size
            have HF19 := Lib.hid (HF17.out.still hg19); clear HF17
            have BE19 := Lib.hid (BoxN.still BE17.out hg19); clear BE17
            have T219 := Lib.hid (CellH.still T217.out hg19); clear T217
            have OW19 := Lib.hid (OwnE.still OW17.out hg19); clear OW17
            have hS20 : W19.cell? ⟨wu.heap.size, 0, none⟩ = some (.int .i64 pt) ∧ W19.cell? ⟨wu.heap.size, 1, none⟩ = some (.int .i64 pc) ∧ W19.cell? ⟨W10.heap.size, pt, none⟩ = some (.int .i64 (q : Nat)) := ⟨BE19.out.cell 0 (by simp), BE19.out.cell 1 (by simp), T219.out.cell⟩
            refine hK.out _ _ ⟨fun _ => hS20, ?_⟩
            clear hK K hS18
            try simp only [List.getElem_toArray, List.getElem_cons_succ, List.getElem_cons_zero, Act.put, List.setIfInBounds_toArray, List.set_cons_zero, List.set_cons_succ]
            refine anyU_ready (rs := [10]) (by kernel_rfl) (by simp) ?_
            refine ReadyU.cons (i := 10) rfl (fun K hK => ?_) ReadyU.nil
            refine step_append_own2 Try.underlying61 infoEndK rfl (by omega) (by omega) W19 (by rfl) _ (by rfl) OW19.out (by rfl) _ (owns_box BV.out rfl 0 (Nat.zero_le _)) (by rfl) (by intro u hu; simp only [List.mem_cons, List.not_mem_nil, or_false] at hu; rcases hu with rfl | rfl <;> rfl) (by omega) (by omega) ?_
            intro v5 W21 ho5 hg21 hat5
            have hs21 := hg21.size
            have BE21 := Lib.hid (BoxN.far BE19.out hg21 (fun g e => by have := hapE.out g e; omega))
            have T221 := Lib.hid (CellH.far T219.out hg21 (fun g e => by have := hapE.out g e; show g ≠ W10.heap.size; omega))
            have HO5 := Lib.hid (show OwnE W21 wt.heap.size 60 v5 (l ++ [(q, pc)]) by unfold OwnE; rw [flatP_snoc, List.length_append]; exact ho5)
            have HB5 := Lib.hid ((HF19.out.below_of HB2.out (by omega) (by omega)).grown hg21 (by omega) fun g e => by have := hapE.out g e; omega)
            clear ho5 hat5
            have hS22 : W21.cell? ⟨wu.heap.size, 0, none⟩ = some (.int .i64 pt) ∧ W21.cell? ⟨wu.heap.size, 1, none⟩ = some (.int .i64 pc) ∧ W21.cell? ⟨W10.heap.size, pt, none⟩ = some (.int .i64 (q : Nat)) := ⟨BE21.out.cell 0 (by simp), BE21.out.cell 1 (by simp), T221.out.cell⟩
            refine hK.out _ _ ⟨fun _ => hS22, ?_⟩
            clear hK K hS20
            try simp only [List.getElem_toArray, List.getElem_cons_succ, List.getElem_cons_zero, Act.put, List.setIfInBounds_toArray, List.set_cons_zero, List.set_cons_succ]
            refine anyU_ready (rs := [11]) (by kernel_rfl) (by simp) ?_
            refine ReadyU.cons (i := 11) rfl (fun K hK => ?_) ReadyU.nil
            simp only [List.getElem_toArray, List.getElem_cons_succ, List.getElem_cons_zero]
            refine ite_is (by rfl) ?_
            simp [go_sem]
            refine hK.out _ _ ⟨fun _ => hS22, ?_⟩
            clear hK K
            try simp only [List.getElem_toArray, List.getElem_cons_succ, List.getElem_cons_zero, Act.put, List.setIfInBounds_toArray, List.set_cons_zero, List.set_cons_succ]
            clear hS22
            refine anyU_done (by kernel_rfl) ?_ _
            go_wp2_with fail
            go_roundw
            case rel => exact ⟨j + 1, by omega, by go_num, Lib.hid (by rw [HKS.out]; exact HO5.out), HB5⟩
            case measure => simp [intOf]; omega
          obtain rfl : j = L.length := by omega
          have HGN2 := Lib.hid (GNT.still HGN.out (grown_below HBW.out))
          have HLE := Lib.hid HGN.out.ltE; have HLD := Lib.hid HGN.out.ltD; have HLI := Lib.hid HGN.out.ltI
          have HB2 := Lib.hid (BoxN.still HB.out (grown_below HBW.out))
          have HM2 := Lib.hid (IntS.still HT.out (grown_below HBW.out) (by omega))
          have HF2 := Lib.hid (HF14.out.still (grown_below HBW.out))
          clear HGN HB HT HF14
          have hag : ∀ q : Value, (∀ g, q.ownBlock = some g → W13.heap.size ≤ g ∧ g < wt.heap.size) → Ap (.slice Au (keepP N zs (kpB N zs) v L.length).length cu) q := fun q hq g h1 h2 => by have := HOE.out.lt g h1; have := (hq g h2).2; omega
          have HAE := Lib.hid (hag vE HLE.out); have HAD := Lib.hid (hag vD HLD.out); have HAI := Lib.hid (hag vI HLI.out)
          clear hag
          have HKA := Lib.hid (show keepP N zs (kpB N zs) v L.length = partRow N (kpB N zs) U v (nthL N.ends v).length by rw [← HU.out, ← HL.out]; exact keepP_all HG.out HZ.out HKO.out hkl HV.out)
          obtain ⟨row, HRW⟩ : ∃ row, Hid (keepP N zs (kpB N zs) v L.length = row) := ⟨_, Lib.hid rfl⟩
          rw [HRW.out] at HOE HAE HAD HAI HKA hpl
          rw [HRW.out]
          have HPR := Lib.hid (show partRows N (kpB N zs) U (zs.take (k + 1)) = partRows N (kpB N zs) U (zs.take k) ++ [row] by rw [partRows_take hkl, HV.out, Int.toNat_natCast, HKA.out])
          obtain ⟨rows, HRS⟩ : ∃ rows, Hid (partRows N (kpB N zs) U (zs.take k) = rows) := ⟨_, Lib.hid rfl⟩
          have hrl : rows.length ≤ 40 := by rw [← HRS.out, partRows_len, List.length_take]; omega
          rw [HRS.out] at HGN2 HPR
          have HOW := Lib.hid (OwnE.weak HOE.out (show W13.heap.size ≤ wt.heap.size by omega)); have HUT := Lib.hid (fun g e => (HOE.out.lt g e).1 : ∀ g, (Value.slice Au row.length cu).ownBlock = some g → wt.heap.size ≤ g); clear HOE
          have ko0 : wu.cell? ⟨wq.heap.size, 0, none⟩ = some vE := HB2.out.cell 0 (by simp)
          have kof := HB2.out.frozen 0
          go_upto_region 29 with (at_builtin; refine append_gnt (s := .tmp 103) Try.underlying32 infoRowE (by decide) wu rfl _ rfl HGN2.out HOW.out HUT.out HAE.out HAD.out HAI.out _ (by simp [Act.eval, go_sem]) (by simp [Act.eval, go_sem]) (by omega) (by omega) (by omega) ?_; intro vE2 w7 hgn7 hg7; obtain ⟨A7, c7, hq7, _⟩ := hgn7.lenE; simp only [List.length_append, List.length_cons, List.length_nil, Nat.zero_add] at hq7; subst hq7; have HGN7 := Lib.hid hgn7; have HG7 := Lib.hid hg7; have HB7 := Lib.hid (BoxN.far HB2.out hg7 (fun g e => by have := HLE.out g e; omega)); have ko7 : w7.cell? ⟨wq.heap.size, 0, none⟩ = some vE := HB7.out.cell 0 (by simp); have kof7 := HB7.out.frozen 0; clear hgn7 hg7)
          clear ko0 kof ko7 kof7
          have hg7 := HG7.out
          have hs7 := hg7.size
          refine nameC ?_
          intro W80 HW80
          have hg80 : w7.grownBy W80 (some (wq.heap.size)) := by rw [HW80.out]; exact grown_set _ ⟨wq.heap.size, 0, none⟩ _
          have hs80 := hg80.size
          have HB80 := Lib.hid (show BoxN W80 (wq.heap.size) #[.slice A7 (rows.length + 1) c7, vD, vI] 34 by rw [HW80.out]; exact HB7.out.set 0 _)
          have HGN80 := Lib.hid (GNT.keptB HGN7.out hg80 (fun g e => by cases e; omega))
          have HM80 := Lib.hid (IntS.far (IntS.far HM2.out hg7 (by omega) (fun g e => .inr (by have := HLE.out g e; omega))) hg80 (by omega) (fun g e => .inr (by cases e; omega)))
          have HF80 := Lib.hid ((HF2.out.grown hg7 (fun g e => .inr (by have := (HLE.out g e).1; omega))).grown hg80 (fun g e => .inr (by cases e; omega)))
          clear HW80 HB7 HGN7 HM2 HF2 HB2 HGN2 HOW HUT HAE HAD HAI HLE hg7 HG7 hg80
          obtain ⟨i1, hi1', hz1⟩ := Option.map_eq_some_iff.1 Try.info3
          simp only [Prod.mk.injEq] at hz1
          obtain ⟨hz1a, hz1b, hz1c⟩ := hz1
          have HI1 := Lib.hid hz1a; have HI2 := Lib.hid hz1b; have HI3 := Lib.hid hz1c; have HII := Lib.hid hi1'
          clear hz1a hz1b hz1c hi1'
          have hpi1 := pickL_len N.inputs (zs.take k)
          rw [List.length_take] at hpi1
          have HPI := Lib.hid (show pickL N.inputs (zs.take (k + 1)) = pickL N.inputs (zs.take k) ++ [nth N.inputs v] by rw [pickL_take hkl, HV.out, Int.toNat_natCast])
          have HPD := Lib.hid (show pickL N.ids (zs.take (k + 1)) = pickL N.ids (zs.take k) ++ [nth N.ids v] by rw [pickL_take hkl, HV.out, Int.toNat_natCast])
          obtain ⟨ins, HINS⟩ : ∃ l, Hid (pickL N.inputs (zs.take k) = l) := ⟨_, Lib.hid rfl⟩
          obtain ⟨x, HX⟩ : ∃ x, Hid (nth N.inputs v = x) := ⟨_, Lib.hid rfl⟩
          obtain ⟨ids, HIDS⟩ : ∃ l, Hid ((if 0 < N.ids.length then pickL N.ids (zs.take k) else []) = l) := ⟨_, Lib.hid rfl⟩
          rw [HINS.out] at hpi1 HPI HGN80
          rw [HX.out] at HPI
          rw [HIDS.out] at HGN80
          have hidl : ids.length ≤ 40 := by
            rw [← HIDS.out]
            split
            · rw [pickL_len, List.length_take]; omega
            · simp
          have hinl : ins.length ≤ 40 := by omega
          have hvin : (v : Int) < N.inputs.length := by rw [HNN.out]; exact hvi
          have hvinn : v < N.inputs.length := by rw [HNN.out]; exact hvn
          have GI := Lib.hid (netIns N_10.out)
          obtain ⟨bI, oI, eI, _, hbI, _, _⟩ := GI.out.opened (j := v) hvinn
          subst eI
          go_wp2_with fail
          refine wp_region_U (fun w' => w'.cell? ⟨wq.heap.size, 0, none⟩ = some (.slice A7 (rows.length + 1) c7) ∧ w'.cell? ⟨wq.heap.size, 1, none⟩ = some (vD) ∧ w'.cell? ⟨wq.heap.size, 2, none⟩ = some (vI) ∧ w'.cell? ⟨w.heap.size, 0, none⟩ = some (.slice (some ⟨b1, o1, none⟩) N.ends.length c1) ∧ w'.cell? ⟨w.heap.size, 1, none⟩ = some (.slice A1' N.ids.length c1') ∧ w'.cell? ⟨w.heap.size, 2, none⟩ = some (.slice (some ⟨bI, oI, none⟩) N.inputs.length c1'') ∧ w'.cell? ⟨bI, oI + v, none⟩ = some (.int .i64 x)) [10] (by kernel_rfl) ?_
          refine nameU ?_
          intro W81 HW81
          have hg81 : W80.grownBy W81 none := by rw [HW81.out]; exact grown_drew _
          clear HW81
          have hs81 := hg81.size
          have HF81 := Lib.hid (HF80.out.still hg81); clear HF80
          have OUT81 := Lib.hid (BoxN.still HB80.out hg81); clear HB80
          have M81 := Lib.hid (IntS.still HM80.out hg81 (by omega)); clear HM80
          have G81 := Lib.hid (GNT.still HGN80.out hg81); clear HGN80
          have hS82 : W81.cell? ⟨wq.heap.size, 0, none⟩ = some (.slice A7 (rows.length + 1) c7) ∧ W81.cell? ⟨wq.heap.size, 1, none⟩ = some (vD) ∧ W81.cell? ⟨wq.heap.size, 2, none⟩ = some (vI) ∧ W81.cell? ⟨w.heap.size, 0, none⟩ = some (.slice (some ⟨b1, o1, none⟩) N.ends.length c1) ∧ W81.cell? ⟨w.heap.size, 1, none⟩ = some (.slice A1' N.ids.length c1') ∧ W81.cell? ⟨w.heap.size, 2, none⟩ = some (.slice (some ⟨bI, oI, none⟩) N.inputs.length c1'') ∧ W81.cell? ⟨bI, oI + v, none⟩ = some (.int .i64 x) := ⟨OUT81.out.cell 0 (by simp), OUT81.out.cell 1 (by simp), OUT81.out.cell 2 (by simp), (HF81.out.boxN bx1_10 (by omega)).cell 0 (by simp), (HF81.out.boxN bx1_10 (by omega)).cell 1 (by simp), (HF81.out.boxN bx1_10 (by omega)).cell 2 (by simp), (by have := (IntS.at_ (IntS.turned GI.out HF81.out (by omega) (by omega)) hvinn).1; rw [HX.out] at this; exact this)⟩
          refine anyU_take (i := 0) (v := .pointer (some ⟨wq.heap.size, 2, none⟩)) rfl (by kernel_rfl) (by kernel_rfl) (by kernel_rfl) (fun _ _ _ h => h) ⟨by rfl, fun w' hS' => (by obtain ⟨s1, s2, s3, s4, s5, s6, s7⟩ := hS'; go_simp)⟩ hS82 ?_
          simp only [List.getElem_toArray, List.getElem_cons_zero, Act.put, List.setIfInBounds_toArray, List.set_cons_zero, List.set_cons_succ]
          refine anyU_take (i := 1) (v := vI) rfl (by kernel_rfl) (by kernel_rfl) (by kernel_rfl) (fun _ _ _ h => h) ⟨by rfl, fun w' hS' => (by obtain ⟨s1, s2, s3, s4, s5, s6, s7⟩ := hS'; go_simp)⟩ hS82 ?_
          simp only [List.getElem_toArray, List.getElem_cons_succ, List.getElem_cons_zero, Act.put, List.setIfInBounds_toArray, List.set_cons_zero, List.set_cons_succ]
          refine anyU_take (i := 2) (v := .pointer (some ⟨w.heap.size, 2, none⟩)) rfl (by kernel_rfl) (by kernel_rfl) (by kernel_rfl) (fun _ _ _ h => h) ⟨by rfl, fun w' hS' => (by obtain ⟨s1, s2, s3, s4, s5, s6, s7⟩ := hS'; go_simp)⟩ hS82 ?_
          simp only [List.getElem_toArray, List.getElem_cons_succ, List.getElem_cons_zero, Act.put, List.setIfInBounds_toArray, List.set_cons_zero, List.set_cons_succ]
          refine anyU_take (i := 3) (v := .slice (some ⟨bI, oI, none⟩) N.inputs.length c1'') rfl (by kernel_rfl) (by kernel_rfl) (by kernel_rfl) (fun _ _ _ h => h) ⟨by rfl, fun w' hS' => (by obtain ⟨s1, s2, s3, s4, s5, s6, s7⟩ := hS'; go_simp)⟩ hS82 ?_
          simp only [List.getElem_toArray, List.getElem_cons_succ, List.getElem_cons_zero, Act.put, List.setIfInBounds_toArray, List.set_cons_zero, List.set_cons_succ]
          refine anyU_take (i := 4) (v := .int .i64 v) rfl (by kernel_rfl) (by kernel_rfl) (by kernel_rfl) (fun _ _ _ h => h) ⟨by rfl, fun w' hS' => (by obtain ⟨s1, s2, s3, s4, s5, s6, s7⟩ := hS'; go_simp)⟩ hS82 ?_
          simp only [List.getElem_toArray, List.getElem_cons_succ, List.getElem_cons_zero, Act.put, List.setIfInBounds_toArray, List.set_cons_zero, List.set_cons_succ]
          refine anyU_take (i := 5) (v := .pointer (some ⟨bI, oI + v, none⟩)) rfl (by kernel_rfl) (by kernel_rfl) (by kernel_rfl) (fun _ _ _ h => h) ⟨by rfl, fun w' hS' => (by obtain ⟨s1, s2, s3, s4, s5, s6, s7⟩ := hS'; simp [go_sem, hvin])⟩ hS82 ?_
          simp only [List.getElem_toArray, List.getElem_cons_succ, List.getElem_cons_zero, Act.put, List.setIfInBounds_toArray, List.set_cons_zero, List.set_cons_succ]
          refine anyU_take (i := 6) (v := .int .i64 x) rfl (by kernel_rfl) (by kernel_rfl) (by kernel_rfl) (fun _ _ _ h => h) ⟨by rfl, fun w' hS' => (by obtain ⟨s1, s2, s3, s4, s5, s6, s7⟩ := hS'; go_simp)⟩ hS82 ?_
          simp only [List.getElem_toArray, List.getElem_cons_succ, List.getElem_cons_zero, Act.put, List.setIfInBounds_toArray, List.set_cons_zero, List.set_cons_succ]
          refine anyU_ready (rs := [7]) (by kernel_rfl) (by simp) ?_
          refine ReadyU.cons (i := 7) rfl (fun K hK => ?_) ReadyU.nil
          simp only [List.getElem_toArray, List.getElem_cons_succ, List.getElem_cons_zero]
          refine ite_is (by rfl) ?_
          simp [go_sem]
          refine hK.out _ _ ⟨fun _ => ⟨(OUT81.out.still (grown_alloc _ _)).cell 0 (by simp), (OUT81.out.still (grown_alloc _ _)).cell 1 (by simp), (OUT81.out.still (grown_alloc _ _)).cell 2 (by simp), ((HF81.out.boxN bx1_10 (by omega)).still (grown_alloc _ _)).cell 0 (by simp), ((HF81.out.boxN bx1_10 (by omega)).still (grown_alloc _ _)).cell 1 (by simp), ((HF81.out.boxN bx1_10 (by omega)).still (grown_alloc _ _)).cell 2 (by simp), (by have := (IntS.at_ (IntS.still (IntS.turned GI.out HF81.out (by omega) (by omega)) (grown_alloc W81 (.cells #[.int .i64 x] 3)) (by omega)) hvinn).1; rw [HX.out] at this; exact this)⟩, ?_⟩
          clear hK K
          try simp only [List.getElem_toArray, List.getElem_cons_succ, List.getElem_cons_zero, Act.put, List.setIfInBounds_toArray, List.set_cons_zero, List.set_cons_succ]
          refine nameU ?_
          intro W83 HW83
          have hg83 : W81.grownBy W83 none := by rw [HW83.out]; exact grown_alloc _ _
          have BV83 := Lib.hid (show BoxN W83 W81.heap.size #[.int .i64 x] 3 by rw [HW83.out]; exact BoxN.new _ _ _)
          have hz83 : W81.heap.size < W83.heap.size := BV83.out.lt
          clear HW83
          have hs83 := hg83.size
          have HF83 := Lib.hid (HF81.out.still hg83); clear HF81
          have OUT83 := Lib.hid (BoxN.still OUT81.out hg83); clear OUT81
          have M83 := Lib.hid (IntS.still M81.out hg83 (by omega)); clear M81
          have G83 := Lib.hid (GNT.still G81.out hg83); clear G81
          have hS84 : W83.cell? ⟨wq.heap.size, 0, none⟩ = some (.slice A7 (rows.length + 1) c7) ∧ W83.cell? ⟨wq.heap.size, 1, none⟩ = some (vD) ∧ W83.cell? ⟨wq.heap.size, 2, none⟩ = some (vI) ∧ W83.cell? ⟨w.heap.size, 0, none⟩ = some (.slice (some ⟨b1, o1, none⟩) N.ends.length c1) ∧ W83.cell? ⟨w.heap.size, 1, none⟩ = some (.slice A1' N.ids.length c1') ∧ W83.cell? ⟨w.heap.size, 2, none⟩ = some (.slice (some ⟨bI, oI, none⟩) N.inputs.length c1'') ∧ W83.cell? ⟨bI, oI + v, none⟩ = some (.int .i64 x) := ⟨OUT83.out.cell 0 (by simp), OUT83.out.cell 1 (by simp), OUT83.out.cell 2 (by simp), (HF83.out.boxN bx1_10 (by omega)).cell 0 (by simp), (HF83.out.boxN bx1_10 (by omega)).cell 1 (by simp), (HF83.out.boxN bx1_10 (by omega)).cell 2 (by simp), (by have := (IntS.at_ (IntS.turned GI.out HF83.out (by omega) (by omega)) hvinn).1; rw [HX.out] at this; exact this)⟩
          clear hS82
          have HOI83 := Lib.hid (G83.out.insO)
          have LOX := Lib.hid HOI83.out.lt
          refine anyU_ready (rs := [8]) (by kernel_rfl) (by simp) ?_
          refine ReadyU.cons (i := 8) rfl (fun K hK => ?_) ReadyU.nil
          refine step_append_lies W83 (by rfl) _ _ _ (by rfl) W13.heap.size 3 i1 _ 1 _ Try.underlying23 HII.out HI1.out HI2.out HI3.out rfl (by omega) vI _ (ins.map (Value.int .i64)) (by rfl) HOI83.out ⟨W81.heap.size, 0, none⟩ 1 1 [.int .i64 x] (by rfl) (by rfl) (World.news_of_block BV83.out) (by simp [Value.oneCell']) (by omega) (by rw [List.length_map]; unfold maxLen; omega) (by rw [List.length_map]; omega) (by omega) _ rfl ?_
          intro gp2 cp2 W85 hown hg85 hatp hltp
          simp only [List.length_map] at hown ⊢
          have hs85 := hg85.size
          have HF85 := Lib.hid (HF83.out.grown hg85 (fun g e => by have := LOX.out g e; omega)); clear HF83
          have OUT85 := Lib.hid (BoxN.far OUT83.out hg85 (fun g e => by have := LOX.out g e; omega)); clear OUT83
          have M85 := Lib.hid (IntS.far M83.out hg85 (by omega) (fun g e => by have := LOX.out g e; omega)); clear M83
          have HOO85 := Lib.hid (own_appP hown)
          have G85 := Lib.hid (GNT.addI G83.out hg85 HOO85.out (hatp.imp (fun e => e.symm) (fun e => ⟨_, rfl, Nat.le_of_eq e.symm⟩)))
          clear hown LOX hatp hltp HOI83 HOO85 BV83 G83
          have hS86 : W85.cell? ⟨wq.heap.size, 0, none⟩ = some (.slice A7 (rows.length + 1) c7) ∧ W85.cell? ⟨wq.heap.size, 1, none⟩ = some (vD) ∧ W85.cell? ⟨wq.heap.size, 2, none⟩ = some (vI) ∧ W85.cell? ⟨w.heap.size, 0, none⟩ = some (.slice (some ⟨b1, o1, none⟩) N.ends.length c1) ∧ W85.cell? ⟨w.heap.size, 1, none⟩ = some (.slice A1' N.ids.length c1') ∧ W85.cell? ⟨w.heap.size, 2, none⟩ = some (.slice (some ⟨bI, oI, none⟩) N.inputs.length c1'') ∧ W85.cell? ⟨bI, oI + v, none⟩ = some (.int .i64 x) := ⟨OUT85.out.cell 0 (by simp), OUT85.out.cell 1 (by simp), OUT85.out.cell 2 (by simp), (HF85.out.boxN bx1_10 (by omega)).cell 0 (by simp), (HF85.out.boxN bx1_10 (by omega)).cell 1 (by simp), (HF85.out.boxN bx1_10 (by omega)).cell 2 (by simp), (by have := (IntS.at_ (IntS.turned GI.out HF85.out (by omega) (by omega)) hvinn).1; rw [HX.out] at this; exact this)⟩
          refine hK.out _ _ ⟨fun _ => hS86, ?_⟩
          clear hK K hS84
          try simp only [List.getElem_toArray, List.getElem_cons_succ, List.getElem_cons_zero, Act.put, List.setIfInBounds_toArray, List.set_cons_zero, List.set_cons_succ]
          refine anyU_ready (rs := [9]) (by kernel_rfl) (by simp) ?_
          refine ReadyU.cons (i := 9) rfl (fun K hK => ?_) ReadyU.nil
          simp only [List.getElem_toArray, List.getElem_cons_succ, List.getElem_cons_zero]
          refine ite_is (by rfl) ?_
          simp [go_sem]
          refine hK.out _ _ ⟨fun _ => hS86, ?_⟩
          clear hK K
          try simp only [List.getElem_toArray, List.getElem_cons_succ, List.getElem_cons_zero, Act.put, List.setIfInBounds_toArray, List.set_cons_zero, List.set_cons_succ]
          have kd1 : W85.cell? ⟨wq.heap.size, 2, none⟩ = some vI := OUT85.out.cell 2 (by simp)
          have kdf := OUT85.out.frozen 2
          refine anyU_ready (rs := [10]) (by kernel_rfl) (by simp) ?_
          refine ReadyU.cons (i := 10) rfl (fun K hK => ?_) ReadyU.nil
          simp only [List.getElem_toArray, List.getElem_cons_succ, List.getElem_cons_zero]
          refine ite_is (by rfl) ?_
          simp [go_sem, kd1, kdf]
          refine hK.out _ _ ⟨fun h => absurd h (by decide), ?_⟩
          clear hK K
          try simp only [List.getElem_toArray, List.getElem_cons_succ, List.getElem_cons_zero, Act.put, List.setIfInBounds_toArray, List.set_cons_zero, List.set_cons_succ]
          refine nameU ?_
          intro W87 HW87
          have hg87 : W85.grownBy W87 (some wq.heap.size) := by rw [HW87.out]; exact grown_set _ _ _
          have hs87 := hg87.size
          have HF87 := Lib.hid (HF85.out.grown hg87 (fun g e => by cases e; omega)); clear HF85
          have M87 := Lib.hid (IntS.far M85.out hg87 (by omega) (fun g e => by cases e; omega)); clear M85
          have HDN87 := Lib.hid (show BoxN W87 wq.heap.size #[.slice A7 (rows.length + 1) c7, vD, .slice (some ⟨gp2, 0, none⟩) (ins.length + 1) cp2] 34 by rw [HW87.out]; exact OUT85.out.set 2 _)
          have G87 := Lib.hid (GNT.keptB G85.out hg87 (fun g e => by cases e; omega))
          clear HW87 kd1 kdf OUT85 G85
          clear hS86
          refine anyU_done (by kernel_rfl) ?_ _
          by_cases hid : 0 < N.ids.length
          case neg =>
            have kbx1_0 : W87.cell? ⟨w.heap.size, 0, none⟩ = some (.slice (some ⟨b1, o1, none⟩) N.ends.length c1) := (HF87.out.boxN bx1_10 (by omega)).cell 0 (by simp)
            have kbx1_1 : W87.cell? ⟨w.heap.size, 1, none⟩ = some (.slice A1' N.ids.length c1') := (HF87.out.boxN bx1_10 (by omega)).cell 1 (by simp)
            have kbx1_2 : W87.cell? ⟨w.heap.size, 2, none⟩ = some (.slice (some ⟨bI, oI, none⟩) N.inputs.length c1'') := (HF87.out.boxN bx1_10 (by omega)).cell 2 (by simp)
            have hidi : ¬ (0 : Int) < N.ids.length := by omega
            go_wp2_with fail
            go_roundw
            case rel =>
              have HRR := G87.out
              refine ⟨k + 1, .slice A7 (rows.length + 1) c7, vD, .slice (some ⟨gp2, 0, none⟩) (ins.length + 1) cp2, by omega, by go_num, M87, HDN87, Lib.hid ?_, by omega, HF87⟩
              rw [if_neg hid]; rw [if_neg hid] at HIDS; rw [← HIDS.out] at HRR
              rw [HPR.out, HPI.out]
              exact GNT.up HRR (by omega)
            case measure => simp [intOf]; omega
          have hidi : (0 : Int) < N.ids.length := by omega
          have hidn : N.ids.length = N.ends.length := by have := HNI.out; omega
          have hvid : (v : Int) < N.ids.length := by rw [hidn]; exact hvi
          have hvidn : v < N.ids.length := by rw [hidn]; exact hvn
          have HIDN := Lib.hid hidn; clear hidn
          have GD := Lib.hid (netIds N_10.out)
          obtain ⟨bD, oD, eD, _, hbD, _, _⟩ := GD.out.opened (j := 0) hid
          subst eD
          obtain ⟨xd, HXD⟩ : ∃ x, Hid (nth N.ids v = x) := ⟨_, Lib.hid rfl⟩
          rw [HXD.out] at HPD
          rw [if_pos hid] at HIDS
          rw [HIDS.out] at HPD
          have kbx1_0 : W87.cell? ⟨w.heap.size, 0, none⟩ = some (.slice (some ⟨b1, o1, none⟩) N.ends.length c1) := (HF87.out.boxN bx1_10 (by omega)).cell 0 (by simp)
          have kbx1_1 : W87.cell? ⟨w.heap.size, 1, none⟩ = some (.slice (some ⟨bD, oD, none⟩) N.ids.length c1') := (HF87.out.boxN bx1_10 (by omega)).cell 1 (by simp)
          have kbx1_2 : W87.cell? ⟨w.heap.size, 2, none⟩ = some (.slice (some ⟨bI, oI, none⟩) N.inputs.length c1'') := (HF87.out.boxN bx1_10 (by omega)).cell 2 (by simp)
          go_wp2_with fail
          clear kbx1_0 kbx1_1 kbx1_2
          refine wp_region_U (fun w' => w'.cell? ⟨wq.heap.size, 0, none⟩ = some (.slice A7 (rows.length + 1) c7) ∧ w'.cell? ⟨wq.heap.size, 1, none⟩ = some (vD) ∧ w'.cell? ⟨wq.heap.size, 2, none⟩ = some (.slice (some ⟨gp2, 0, none⟩) (ins.length + 1) cp2) ∧ w'.cell? ⟨w.heap.size, 0, none⟩ = some (.slice (some ⟨b1, o1, none⟩) N.ends.length c1) ∧ w'.cell? ⟨w.heap.size, 1, none⟩ = some (.slice (some ⟨bD, oD, none⟩) N.ids.length c1') ∧ w'.cell? ⟨w.heap.size, 2, none⟩ = some (.slice (some ⟨bI, oI, none⟩) N.inputs.length c1'') ∧ w'.cell? ⟨bD, oD + v, none⟩ = some (.int .i64 xd)) [10] (by kernel_rfl) ?_
          refine nameU ?_
          intro W88 HW88
          have hg88 : W87.grownBy W88 none := by rw [HW88.out]; exact grown_drew _
          clear HW88
          have hs88 := hg88.size
          have HF88 := Lib.hid (HF87.out.still hg88); clear HF87
          have OUT88 := Lib.hid (BoxN.still HDN87.out hg88); clear HDN87
          have M88 := Lib.hid (IntS.still M87.out hg88 (by omega)); clear M87
          have G88 := Lib.hid (GNT.still G87.out hg88); clear G87
          have hS89 : W88.cell? ⟨wq.heap.size, 0, none⟩ = some (.slice A7 (rows.length + 1) c7) ∧ W88.cell? ⟨wq.heap.size, 1, none⟩ = some (vD) ∧ W88.cell? ⟨wq.heap.size, 2, none⟩ = some (.slice (some ⟨gp2, 0, none⟩) (ins.length + 1) cp2) ∧ W88.cell? ⟨w.heap.size, 0, none⟩ = some (.slice (some ⟨b1, o1, none⟩) N.ends.length c1) ∧ W88.cell? ⟨w.heap.size, 1, none⟩ = some (.slice (some ⟨bD, oD, none⟩) N.ids.length c1') ∧ W88.cell? ⟨w.heap.size, 2, none⟩ = some (.slice (some ⟨bI, oI, none⟩) N.inputs.length c1'') ∧ W88.cell? ⟨bD, oD + v, none⟩ = some (.int .i64 xd) := ⟨OUT88.out.cell 0 (by simp), OUT88.out.cell 1 (by simp), OUT88.out.cell 2 (by simp), (HF88.out.boxN bx1_10 (by omega)).cell 0 (by simp), (HF88.out.boxN bx1_10 (by omega)).cell 1 (by simp), (HF88.out.boxN bx1_10 (by omega)).cell 2 (by simp), (by have := (IntS.at_ (IntS.turned GD.out HF88.out (by omega) (by omega)) hvidn).1; rw [HXD.out] at this; exact this)⟩
          refine anyU_take (i := 0) (v := .pointer (some ⟨wq.heap.size, 1, none⟩)) rfl (by kernel_rfl) (by kernel_rfl) (by kernel_rfl) (fun _ _ _ h => h) ⟨by rfl, fun w' hS' => (by obtain ⟨s1, s2, s3, s4, s5, s6, s7⟩ := hS'; go_simp)⟩ hS89 ?_
          simp only [List.getElem_toArray, List.getElem_cons_zero, Act.put, List.setIfInBounds_toArray, List.set_cons_zero, List.set_cons_succ]
          refine anyU_take (i := 1) (v := vD) rfl (by kernel_rfl) (by kernel_rfl) (by kernel_rfl) (fun _ _ _ h => h) ⟨by rfl, fun w' hS' => (by obtain ⟨s1, s2, s3, s4, s5, s6, s7⟩ := hS'; go_simp)⟩ hS89 ?_
          simp only [List.getElem_toArray, List.getElem_cons_succ, List.getElem_cons_zero, Act.put, List.setIfInBounds_toArray, List.set_cons_zero, List.set_cons_succ]
          refine anyU_take (i := 2) (v := .pointer (some ⟨w.heap.size, 1, none⟩)) rfl (by kernel_rfl) (by kernel_rfl) (by kernel_rfl) (fun _ _ _ h => h) ⟨by rfl, fun w' hS' => (by obtain ⟨s1, s2, s3, s4, s5, s6, s7⟩ := hS'; go_simp)⟩ hS89 ?_
          simp only [List.getElem_toArray, List.getElem_cons_succ, List.getElem_cons_zero, Act.put, List.setIfInBounds_toArray, List.set_cons_zero, List.set_cons_succ]
          refine anyU_take (i := 3) (v := .slice (some ⟨bD, oD, none⟩) N.ids.length c1') rfl (by kernel_rfl) (by kernel_rfl) (by kernel_rfl) (fun _ _ _ h => h) ⟨by rfl, fun w' hS' => (by obtain ⟨s1, s2, s3, s4, s5, s6, s7⟩ := hS'; go_simp)⟩ hS89 ?_
          simp only [List.getElem_toArray, List.getElem_cons_succ, List.getElem_cons_zero, Act.put, List.setIfInBounds_toArray, List.set_cons_zero, List.set_cons_succ]
          refine anyU_take (i := 4) (v := .int .i64 v) rfl (by kernel_rfl) (by kernel_rfl) (by kernel_rfl) (fun _ _ _ h => h) ⟨by rfl, fun w' hS' => (by obtain ⟨s1, s2, s3, s4, s5, s6, s7⟩ := hS'; go_simp)⟩ hS89 ?_
          simp only [List.getElem_toArray, List.getElem_cons_succ, List.getElem_cons_zero, Act.put, List.setIfInBounds_toArray, List.set_cons_zero, List.set_cons_succ]
          refine anyU_take (i := 5) (v := .pointer (some ⟨bD, oD + v, none⟩)) rfl (by kernel_rfl) (by kernel_rfl) (by kernel_rfl) (fun _ _ _ h => h) ⟨by rfl, fun w' hS' => (by obtain ⟨s1, s2, s3, s4, s5, s6, s7⟩ := hS'; simp [go_sem, hvid])⟩ hS89 ?_
          simp only [List.getElem_toArray, List.getElem_cons_succ, List.getElem_cons_zero, Act.put, List.setIfInBounds_toArray, List.set_cons_zero, List.set_cons_succ]
          refine anyU_take (i := 6) (v := .int .i64 xd) rfl (by kernel_rfl) (by kernel_rfl) (by kernel_rfl) (fun _ _ _ h => h) ⟨by rfl, fun w' hS' => (by obtain ⟨s1, s2, s3, s4, s5, s6, s7⟩ := hS'; go_simp)⟩ hS89 ?_
          simp only [List.getElem_toArray, List.getElem_cons_succ, List.getElem_cons_zero, Act.put, List.setIfInBounds_toArray, List.set_cons_zero, List.set_cons_succ]
          refine anyU_ready (rs := [7]) (by kernel_rfl) (by simp) ?_
          refine ReadyU.cons (i := 7) rfl (fun K hK => ?_) ReadyU.nil
          simp only [List.getElem_toArray, List.getElem_cons_succ, List.getElem_cons_zero]
          refine ite_is (by rfl) ?_
          simp [go_sem]
          refine hK.out _ _ ⟨fun _ => ⟨(OUT88.out.still (grown_alloc _ _)).cell 0 (by simp), (OUT88.out.still (grown_alloc _ _)).cell 1 (by simp), (OUT88.out.still (grown_alloc _ _)).cell 2 (by simp), ((HF88.out.boxN bx1_10 (by omega)).still (grown_alloc _ _)).cell 0 (by simp), ((HF88.out.boxN bx1_10 (by omega)).still (grown_alloc _ _)).cell 1 (by simp), ((HF88.out.boxN bx1_10 (by omega)).still (grown_alloc _ _)).cell 2 (by simp), (by have := (IntS.at_ (IntS.still (IntS.turned GD.out HF88.out (by omega) (by omega)) (grown_alloc W88 (.cells #[.int .i64 xd] 3)) (by omega)) hvidn).1; rw [HXD.out] at this; exact this)⟩, ?_⟩
          clear hK K
          try simp only [List.getElem_toArray, List.getElem_cons_succ, List.getElem_cons_zero, Act.put, List.setIfInBounds_toArray, List.set_cons_zero, List.set_cons_succ]
          refine nameU ?_
          intro W90 HW90
          have hg90 : W88.grownBy W90 none := by rw [HW90.out]; exact grown_alloc _ _
          have BV90 := Lib.hid (show BoxN W90 W88.heap.size #[.int .i64 xd] 3 by rw [HW90.out]; exact BoxN.new _ _ _)
          have hz90 : W88.heap.size < W90.heap.size := BV90.out.lt
          clear HW90
          have hs90 := hg90.size
          have HF90 := Lib.hid (HF88.out.still hg90); clear HF88
          have OUT90 := Lib.hid (BoxN.still OUT88.out hg90); clear OUT88
          have M90 := Lib.hid (IntS.still M88.out hg90 (by omega)); clear M88
          have G90 := Lib.hid (GNT.still G88.out hg90); clear G88
          have hS91 : W90.cell? ⟨wq.heap.size, 0, none⟩ = some (.slice A7 (rows.length + 1) c7) ∧ W90.cell? ⟨wq.heap.size, 1, none⟩ = some (vD) ∧ W90.cell? ⟨wq.heap.size, 2, none⟩ = some (.slice (some ⟨gp2, 0, none⟩) (ins.length + 1) cp2) ∧ W90.cell? ⟨w.heap.size, 0, none⟩ = some (.slice (some ⟨b1, o1, none⟩) N.ends.length c1) ∧ W90.cell? ⟨w.heap.size, 1, none⟩ = some (.slice (some ⟨bD, oD, none⟩) N.ids.length c1') ∧ W90.cell? ⟨w.heap.size, 2, none⟩ = some (.slice (some ⟨bI, oI, none⟩) N.inputs.length c1'') ∧ W90.cell? ⟨bD, oD + v, none⟩ = some (.int .i64 xd) := ⟨OUT90.out.cell 0 (by simp), OUT90.out.cell 1 (by simp), OUT90.out.cell 2 (by simp), (HF90.out.boxN bx1_10 (by omega)).cell 0 (by simp), (HF90.out.boxN bx1_10 (by omega)).cell 1 (by simp), (HF90.out.boxN bx1_10 (by omega)).cell 2 (by simp), (by have := (IntS.at_ (IntS.turned GD.out HF90.out (by omega) (by omega)) hvidn).1; rw [HXD.out] at this; exact this)⟩
          clear hS89
          have HOI90 := Lib.hid (G90.out.idsO)
          have LOX := Lib.hid HOI90.out.lt
          refine anyU_ready (rs := [8]) (by kernel_rfl) (by simp) ?_
          refine ReadyU.cons (i := 8) rfl (fun K hK => ?_) ReadyU.nil
          refine step_append_lies W90 (by rfl) _ _ _ (by rfl) W13.heap.size 3 i1 _ 1 _ Try.underlying23 HII.out HI1.out HI2.out HI3.out rfl (by omega) vD _ (ids.map (Value.int .i64)) (by rfl) HOI90.out ⟨W88.heap.size, 0, none⟩ 1 1 [.int .i64 xd] (by rfl) (by rfl) (World.news_of_block BV90.out) (by simp [Value.oneCell']) (by omega) (by rw [List.length_map]; unfold maxLen; omega) (by rw [List.length_map]; omega) (by omega) _ rfl ?_
          intro gp1 cp1 W92 hown hg92 hatp hltp
          simp only [List.length_map] at hown ⊢
          have hs92 := hg92.size
          have HF92 := Lib.hid (HF90.out.grown hg92 (fun g e => by have := LOX.out g e; omega)); clear HF90
          have OUT92 := Lib.hid (BoxN.far OUT90.out hg92 (fun g e => by have := LOX.out g e; omega)); clear OUT90
          have M92 := Lib.hid (IntS.far M90.out hg92 (by omega) (fun g e => by have := LOX.out g e; omega)); clear M90
          have HOO92 := Lib.hid (own_appP hown)
          have G92 := Lib.hid (GNT.addD G90.out hg92 HOO92.out (hatp.imp (fun e => e.symm) (fun e => ⟨_, rfl, Nat.le_of_eq e.symm⟩)))
          clear hown LOX hatp hltp HOI90 HOO92 BV90 G90
          have hS93 : W92.cell? ⟨wq.heap.size, 0, none⟩ = some (.slice A7 (rows.length + 1) c7) ∧ W92.cell? ⟨wq.heap.size, 1, none⟩ = some (vD) ∧ W92.cell? ⟨wq.heap.size, 2, none⟩ = some (.slice (some ⟨gp2, 0, none⟩) (ins.length + 1) cp2) ∧ W92.cell? ⟨w.heap.size, 0, none⟩ = some (.slice (some ⟨b1, o1, none⟩) N.ends.length c1) ∧ W92.cell? ⟨w.heap.size, 1, none⟩ = some (.slice (some ⟨bD, oD, none⟩) N.ids.length c1') ∧ W92.cell? ⟨w.heap.size, 2, none⟩ = some (.slice (some ⟨bI, oI, none⟩) N.inputs.length c1'') ∧ W92.cell? ⟨bD, oD + v, none⟩ = some (.int .i64 xd) := ⟨OUT92.out.cell 0 (by simp), OUT92.out.cell 1 (by simp), OUT92.out.cell 2 (by simp), (HF92.out.boxN bx1_10 (by omega)).cell 0 (by simp), (HF92.out.boxN bx1_10 (by omega)).cell 1 (by simp), (HF92.out.boxN bx1_10 (by omega)).cell 2 (by simp), (by have := (IntS.at_ (IntS.turned GD.out HF92.out (by omega) (by omega)) hvidn).1; rw [HXD.out] at this; exact this)⟩
          refine hK.out _ _ ⟨fun _ => hS93, ?_⟩
          clear hK K hS91
          try simp only [List.getElem_toArray, List.getElem_cons_succ, List.getElem_cons_zero, Act.put, List.setIfInBounds_toArray, List.set_cons_zero, List.set_cons_succ]
          refine anyU_ready (rs := [9]) (by kernel_rfl) (by simp) ?_
          refine ReadyU.cons (i := 9) rfl (fun K hK => ?_) ReadyU.nil
          simp only [List.getElem_toArray, List.getElem_cons_succ, List.getElem_cons_zero]
          refine ite_is (by rfl) ?_
          simp [go_sem]
          refine hK.out _ _ ⟨fun _ => hS93, ?_⟩
          clear hK K
          try simp only [List.getElem_toArray, List.getElem_cons_succ, List.getElem_cons_zero, Act.put, List.setIfInBounds_toArray, List.set_cons_zero, List.set_cons_succ]
          have kd1 : W92.cell? ⟨wq.heap.size, 1, none⟩ = some vD := OUT92.out.cell 1 (by simp)
          have kdf := OUT92.out.frozen 1
          refine anyU_ready (rs := [10]) (by kernel_rfl) (by simp) ?_
          refine ReadyU.cons (i := 10) rfl (fun K hK => ?_) ReadyU.nil
          simp only [List.getElem_toArray, List.getElem_cons_succ, List.getElem_cons_zero]
          refine ite_is (by rfl) ?_
          simp [go_sem, kd1, kdf]
          refine hK.out _ _ ⟨fun h => absurd h (by decide), ?_⟩
          clear hK K
          try simp only [List.getElem_toArray, List.getElem_cons_succ, List.getElem_cons_zero, Act.put, List.setIfInBounds_toArray, List.set_cons_zero, List.set_cons_succ]
          refine nameU ?_
          intro W94 HW94
          have hg94 : W92.grownBy W94 (some wq.heap.size) := by rw [HW94.out]; exact grown_set _ _ _
          have hs94 := hg94.size
          have HF94 := Lib.hid (HF92.out.grown hg94 (fun g e => by cases e; omega)); clear HF92
          have M94 := Lib.hid (IntS.far M92.out hg94 (by omega) (fun g e => by cases e; omega)); clear M92
          have HDN94 := Lib.hid (show BoxN W94 wq.heap.size #[.slice A7 (rows.length + 1) c7, .slice (some ⟨gp1, 0, none⟩) (ids.length + 1) cp1, .slice (some ⟨gp2, 0, none⟩) (ins.length + 1) cp2] 34 by rw [HW94.out]; exact OUT92.out.set 1 _)
          have G94 := Lib.hid (GNT.keptB G92.out hg94 (fun g e => by cases e; omega))
          clear HW94 kd1 kdf OUT92 G92
          clear hS93
          refine anyU_done (by kernel_rfl) ?_ _
          go_wp2_with fail
          go_roundw
          case rel =>
            have HRR := G94.out
            refine ⟨k + 1, .slice A7 (rows.length + 1) c7, .slice (some ⟨gp1, 0, none⟩) (ids.length + 1) cp1, .slice (some ⟨gp2, 0, none⟩) (ins.length + 1) cp2, by omega, by go_num, M94, HDN94, Lib.hid ?_, by omega, HF94⟩
            rw [if_pos hid, HPD.out]
            rw [HPR.out, HPI.out]
            exact GNT.up HRR (by omega)
          case measure => simp [intOf]; omega

theorem neKeep_any (v1 : Value) (N : NetD) (lo1 hi1 : Nat) (v2 : Value) (zs : List Int) (lo2 hi2 : Nat) (w : World) (h1 : Net w lo1 hi1 v1 N) (hh1 : hi1 ≤ w.heap.size) (h2 : IntS w lo2 hi2 v2 zs) (hh2 : hi2 ≤ w.heap.size) (hg : N.good = true) (hz : PickOk N zs) (hzl : zs.length ≤ 40) :
    Calls Try.prog 24 #[v1, v2] w fun e w' => ∃ r, e = .returned (r) ∧ Net w' w.heap.size w'.heap.size r (partN N zs (kpB N zs)) ∧ Below w.heap.size w w' :=
  (neKeepB_any v1 N lo1 hi1 v2 zs lo2 hi2 w h1 hh1 h2 hh2 hg hz hzl).mono fun e w' ⟨r, a, b, c⟩ => ⟨r, a, b.net, c⟩

end Go.Proofs.Ytcmmklcampmkjaa
