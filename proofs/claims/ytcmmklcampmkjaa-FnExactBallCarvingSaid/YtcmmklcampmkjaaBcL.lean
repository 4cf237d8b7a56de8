/-
  Several texts in one: KeD. No condition on any program.
-/
import Derived.Test.YtcmmklcampmkjaaBcK

/- Contract: neCut (reference), its rows of ends: the walk. -/
namespace Go.Proofs.Ytcmmklcampmkjaa
open Go.ChangeShapes Go.WideShapes Go.ChangeAt Go.RowKit
set_option linter.unusedVariables false

set_option maxHeartbeats 8000000 in
set_option maxRecDepth 100000 in
theorem neCut_any (v1 : Value) (N : NetD) (lo1 hi1 : Nat) (v2 : Value) (keep : List (List Bool)) (lo2 hi2 : Nat) (w : World) (h1 : Net w lo1 hi1 v1 N) (hh1 : hi1 ≤ w.heap.size) (h2 : BoolSSx w lo2 hi2 v2 keep) (hh2 : hi2 ≤ w.heap.size) (kp : Nat → Nat → Bool) (hg : N.good = true) (hkb : KeepB N kp keep) :
    Calls Try.prog 52 #[v1, v2] w fun e w' => ∃ vE A2 m2 c2 A3 m3 c3, e = .returned (.agg #[vE, .slice A2 m2 c2, .slice A3 m3 c3]) ∧ EndSS w' w.heap.size w'.heap.size vE (cutRows N kp N.ends.length) ∧ Below w.heap.size w w' := by
  obtain ⟨n1, n40⟩ := good_n hg
  have HG := Lib.hid hg; clear hg
  have HKB := Lib.hid hkb; clear hkb
  have hmk := fun W => run_make_row' (P := Try.prog) 63 23 (.slice none 0 0) 24 Try.underlying63 infoRowK rfl .i64 .i64 N.ends.length (by omega) (by omega) W
  have hkl : keep.length = N.ends.length := HKB.out.1.1
  have HKL := Lib.hid hkl
  have F1 := Lib.hid h1
  obtain ⟨A1, c1, A1', c1', A1'', c1'', rfl, hc1, hd1, _⟩ := h1.parts
  obtain ⟨b1, o1, _, _, rfl, _⟩ := Net.rowAt F1.out (u := 0) (by omega)
  clear h1
  have F2 := Lib.hid h2
  obtain ⟨A2, c2, rfl, hc2, hd2⟩ := h2.dims
  clear h2
  obtain ⟨WA, HWA⟩ : ∃ W, Hid (W = ((w.alloc (.cells #[.slice (some ⟨b1, o1, none⟩) N.ends.length c1, .slice A1' N.ids.length c1', .slice A1'' N.inputs.length c1''] 34)).alloc (.cells #[.slice none 0 0, .slice none 0 0, .slice none 0 0] 34))) := ⟨_, Lib.hid rfl⟩
  have hbA : Below w.heap.size w WA := by rw [HWA.out]; exact (((Below.refl _ _).alloc (Nat.le_refl _) _).alloc (by simp; try omega) _)
  have hsA : w.heap.size + 2 ≤ WA.heap.size := by rw [HWA.out]; simp; try omega
  have bx1 : BoxN WA (w.heap.size) #[.slice (some ⟨b1, o1, none⟩) N.ends.length c1, .slice A1' N.ids.length c1', .slice A1'' N.inputs.length c1''] 34 := by rw [HWA.out]; exact ((BoxN.new' _ _ _ (by simp)).still (grown_alloc _ _))
  have bxx0 : BoxN WA (w.heap.size + 1) #[.slice none 0 0, .slice none 0 0, .slice none 0 0] 34 := by rw [HWA.out]; exact (BoxN.new' _ _ _ (by simp))
  have G1 := Lib.hid (Net.below F1.out hbA hh1); clear F1
  have G2 := Lib.hid (BSSx.below F2.out hbA hh2); clear F2
  go_enter Try.func52, Try.ntmps52
  go_upto_region 1 with (fail)
  rw [← HWA.out]; clear HWA
  have hk0 : 0 < keep.length := by omega
  obtain ⟨Ak, ck, ek, _, _, hK0⟩ := SS.form G2.out.ss
  obtain ⟨bK, oK, eK, _, _, _⟩ := hK0 hk0
  injection ek with ek1 _ ek2
  subst ek1 ek2
  subst eK
  clear hK0 hk0 hkl
  have kbx1_0 : WA.cell? ⟨w.heap.size, 0, none⟩ = some (.slice (some ⟨b1, o1, none⟩) N.ends.length c1) := bx1.cell 0 (by simp)
  have kbx1_1 : WA.cell? ⟨w.heap.size, 1, none⟩ = some (.slice A1' N.ids.length c1') := bx1.cell 1 (by simp)
  have kbx1_2 : WA.cell? ⟨w.heap.size, 2, none⟩ = some (.slice A1'' N.inputs.length c1'') := bx1.cell 2 (by simp)
  go_upto_region 2 with (fail)
  clear hmk kbx1_0 kbx1_1 kbx1_2
  refine nameC ?_
  intro W1 HW1
  have hg1 : WA.grownBy W1 none := by rw [HW1.out]; exact grown_alloc _ _
  have hs1 := hg1.size
  have HF1 := Lib.hid ((Turned.refl WA.heap.size WA.heap.size WA).still hg1)
  have HGR := Lib.hid (show Gro W1 WA.heap.size 3 (toAt N kp 0 0) by rw [HW1.out, toAt_zero]; exact Gro.made _ _ _ _ rfl (by omega))
  have hz : WA.heap.size + 1 ≤ W1.heap.size := by rw [HW1.out]; simp
  clear HW1
  have kbx1_0 : W1.cell? ⟨w.heap.size, 0, none⟩ = some (.slice (some ⟨b1, o1, none⟩) N.ends.length c1) := (HF1.out.boxN bx1 (by omega)).cell 0 (by simp)
  have kbx1_1 : W1.cell? ⟨w.heap.size, 1, none⟩ = some (.slice A1' N.ids.length c1') := (HF1.out.boxN bx1 (by omega)).cell 1 (by simp)
  have kbx1_2 : W1.cell? ⟨w.heap.size, 2, none⟩ = some (.slice A1'' N.inputs.length c1'') := (HF1.out.boxN bx1 (by omega)).cell 2 (by simp)
  go_wp2_with fail
  clear kbx1_0 kbx1_1 kbx1_2
  go_loopw [23] (fun kv wr => ∃ (v : Nat), v ≤ N.ends.length ∧ kv = .int .i64 v ∧ Hid (Gro wr WA.heap.size 3 (toAt N kp v 0)) ∧ WA.heap.size + 1 ≤ wr.heap.size ∧ Hid (Turned WA.heap.size WA.heap.size WA wr)) (fun kv _ => N.ends.length - (intOf kv).toNat)
  case atStart => exact ⟨0, Nat.zero_le _, rfl, HGR, hz, HF1⟩
  case round =>
    clear HF1
    obtain ⟨v, hv, rfl, HG2, hz1, HF2⟩ := hrel
    have hs2 := HF2.out.size
    obtain ⟨wq, rfl⟩ : ∃ wq : World, wq = wr := ⟨_, rfl⟩
    by_cases hvn : v < N.ends.length
    case pos =>
      have hvi : (v : Int) < N.ends.length := by omega
      have hd6 := good_deg HG.out hvn
      obtain ⟨Aa, ca, hba, qa, hca, hda, hRa⟩ := Net.rowIn G1.out hvn
      replace qa := (HF2.out.cell (by omega) (by omega)).trans qa
      have Ra := Lib.hid hRa; clear hRa
      go_wp2_with fail
      clear qa
      go_loopw [30, 8] (fun iv nv wr => ∃ (i : Nat), i ≤ (nthL N.ends v).length ∧ iv = .int .i64 i ∧ nv = .int .i64 (cntK kp v i : Nat) ∧ Hid (Gro wr WA.heap.size 3 (toAt N kp v i)) ∧ WA.heap.size + 1 ≤ wr.heap.size ∧ Hid (Turned WA.heap.size WA.heap.size WA wr)) (fun iv nv _ => (nthL N.ends v).length - (intOf iv).toNat)
      case atStart => exact ⟨0, Nat.zero_le _, rfl, rfl, HG2, hz1, HF2⟩
      case round =>
        clear HF2
        obtain ⟨i, hi, rfl, rfl, HG2, hz1, HF3⟩ := hrel
        have hs3 := HF3.out.size
        obtain ⟨wt, rfl⟩ : ∃ wt : World, wt = wr := ⟨_, rfl⟩
        by_cases hil : i < (nthL N.ends v).length
        case neg =>
          obtain rfl : i = (nthL N.ends v).length := by omega
          go_wp2_with fail
          go_roundw
          case rel => exact ⟨v + 1, by omega, by go_num, Lib.hid (by rw [← toAt_next hvn]; exact HG2.out), hz1, HF3⟩
          case measure => simp [intOf]; omega
        have hii : (i : Int) < (nthL N.ends v).length := by omega
        have hck := cntK_le kp v i
        have HCS := Lib.hid (cntK_succ kp v i)
        have HTS := Lib.hid (toAt_step (N := N) (kp := kp) (i := i) hvn)
        obtain ⟨u, hu1, hu2, hu3, hu4, hu5⟩ := HG2.out.open_ (i := v) (by rw [toAt_len]; exact hvn)
        rw [nthL_toAt hvn, if_neg (by omega), if_pos rfl] at hu3
        have hcl := cntL_len kp v i
        obtain ⟨cl, HCL⟩ : ∃ l, Hid (cntL kp v i = l) := ⟨_, Lib.hid rfl⟩
        rw [HCL.out] at hu3 hcl HTS
        have HCLL := Lib.hid hcl; clear hcl
        obtain ⟨Au, cu, rfl, hcu, hdu⟩ := hu3.ints.dims
        have hlv := Lib.hid hu3.lt
        have HU3 := Lib.hid hu3
        have HU5 := Lib.hid hu5
        have hcll : cl.length ≤ 6 := by rw [HCLL.out]; omega
        clear hu3 hu5
        go_upto_region 10 with (at_builtin; refine append_int (s := .tmp 38) Try.underlying23 Try.info3 (by decide) wt rfl _ rfl HU3.out (cntK kp v i : Nat) _ rfl (by simp [Act.eval, go_sem]) (by omega) (by omega) ?_; intro v' w' ho' hg' hat'; have kc : w'.cell? ⟨WA.heap.size, v, none⟩ = some (.slice Au cl.length cu) := (World.cell?_of_block (a := ⟨WA.heap.size, v, none⟩) (hg'.block WA.heap.size (by omega) (fun e => by have := hlv.out _ e.symm; omega))).trans hu1; have kf : w'.frozen? ⟨WA.heap.size, v, none⟩ = false := (World.frozen?_of_block (a := ⟨WA.heap.size, v, none⟩) (hg'.block WA.heap.size (by omega) (fun e => by have := hlv.out _ e.symm; omega))).trans hu2; have hd9 : ∃ A c, v' = .slice A (cl.length + 1) c := (by obtain ⟨A, c, e, _, _⟩ := ho'.ints.dims; exact ⟨A, c, by simp [e]⟩); obtain ⟨Av, cv, rfl⟩ := hd9; have HO' := Lib.hid ho')
        have hgs := hg'.size
        refine nameC ?_
        intro W20 HW20
        have hg20 : w'.grownBy W20 (some (WA.heap.size)) := by rw [HW20.out]; exact grown_set _ _ _
        have hs20 := hg20.size
        have HG3 := Lib.hid (show Gro W20 WA.heap.size 3 (toAt N kp v (i + 1)) by rw [HW20.out, ← HTS.out]; exact HU5.out _ _ _ HO'.out hg' hat')
        have HF20 := Lib.hid ((HF3.out.grown hg' fun g hg => .inr (by have := hlv.out g hg; omega)).grown hg20 fun g hg => .inr (by cases hg; exact Nat.le_refl _))
        clear HW20 hg20 HU5 HO' HU3 hlv kc kf hu1 hu2 hg' hat' HF3
        have hKL2 : i < (nthL keep v).length := by rw [HKB.out.1.2 v hvn]; exact hil
        obtain ⟨b2, o2, c2, _, _, _, _, y1, y2, y3, y4, _, _⟩ := BSSx.at2 (BSSx.turned G2.out HF20.out (by omega) (by omega)) (by omega) (a := v) (i := i) (by rw [HKL.out]; exact hvn) hKL2
        rw [HKB.out.1.2 v hvn] at y1 y2
        rw [HKB.out.2 v hvn i hil] at y4
        have hvk : (v : Int) < keep.length := by rw [HKL.out]; exact hvi
        cases hb : kp v i
        case true =>
          rw [hb] at y4
          rw [if_pos hb] at HCS
          go_wp2_with fail
          go_roundw
          case rel => exact ⟨i + 1, by omega, by go_num, by rw [HCS.out]; go_num, HG3, by omega, HF20⟩
          case measure => simp [intOf]; omega
        case false =>
          rw [hb] at y4
          rw [if_neg (by rw [hb]; decide)] at HCS
          go_wp2_with fail
          go_roundw
          case rel => exact ⟨i + 1, by omega, by go_num, by rw [HCS.out, Nat.add_zero], HG3, by omega, HF20⟩
          case measure => simp [intOf]; omega
    obtain rfl : v = N.ends.length := by omega
    clear hvn
    have HTO := Lib.hid (ISSx.mono (lo' := WA.heap.size) HG2.out.ssx (Nat.le_refl _) (Nat.le_refl _))
    rw [toAt_len] at HTO
    have HKS := Lib.hid (BSSx.mono (lo' := lo2) (BSSx.turned G2.out HF2.out (by omega) (by omega)) (Nat.le_refl _) (Nat.le_refl _))
    clear HG2
    have N_3 := Lib.hid (Net.turned G1.out HF2.out (by omega) (by omega)); clear G1
    have keep_3 := Lib.hid (BSSx.turned G2.out HF2.out (by omega) (by omega)); clear G2
    have bx1_3 := HF2.out.boxN bx1 (by omega); clear bx1
    have bxx0_3 := HF2.out.boxN bxx0 (by omega); clear bxx0
    have hbA3 : Below w.heap.size w wq := (HF2.out.below_of hbA (by omega) (by omega)); clear hbA HF2
    clear HKS
    have hidl : N.ids.length ≤ 40 := by rcases good_idsl HG.out with h | h <;> omega
    have hinl : N.inputs.length ≤ 40 := by have := good_insl HG.out; omega
    have HZL := Lib.hid hidl; have HZI := Lib.hid hinl
    have kbx1_0 : wq.cell? ⟨w.heap.size, 0, none⟩ = some (.slice (some ⟨b1, o1, none⟩) N.ends.length c1) := bx1_3.cell 0 (by simp)
    have kbx1_1 : wq.cell? ⟨w.heap.size, 1, none⟩ = some (.slice A1' N.ids.length c1') := bx1_3.cell 1 (by simp)
    have kbx1_2 : wq.cell? ⟨w.heap.size, 2, none⟩ = some (.slice A1'' N.inputs.length c1'') := bx1_3.cell 2 (by simp)
    go_wp2_with fail
    clear kbx1_0 kbx1_1 kbx1_2
    refine region_cut [54, 55, 56, 57, 58, 59, 60, 10] (fun vs W => ∃ (gO : Nat) (A8 A9 : Option Addr) (n8 c8 n9 c9 : Nat), vs = [.pointer (some ⟨w.heap.size, 1, none⟩), .slice A1' N.ids.length c1', .slice A8 n8 c8, .pointer (some ⟨w.heap.size, 2, none⟩), .slice A1'' N.inputs.length c1'', .slice A9 n9 c9, .agg #[.slice none 0 0, .slice A8 n8 c8, .slice A9 n9 c9], .pointer (some ⟨gO, 0, none⟩)] ∧ Hid (BoxN W gO #[.slice none 0 0, .slice A8 n8 c8, .slice A9 n9 c9] 34) ∧ wq.heap.size ≤ gO ∧ Hid (Turned wq.heap.size wq.heap.size wq W)) ?_ ?_
    case refine_1 =>
      refine wp_region_U (fun w' => w'.cell? ⟨w.heap.size, 0, none⟩ = some (.slice (some ⟨b1, o1, none⟩) N.ends.length c1) ∧ w'.cell? ⟨w.heap.size, 1, none⟩ = some (.slice A1' N.ids.length c1') ∧ w'.cell? ⟨w.heap.size, 2, none⟩ = some (.slice A1'' N.inputs.length c1'')) [] (by kernel_rfl) ?_
      refine nameU ?_
      intro W4 HW4
      have hg4 : wq.grownBy W4 none := by rw [HW4.out]; exact grown_drew _
      clear HW4
      have hs4 := hg4.size
      have HF4 := Lib.hid ((Turned.refl wq.heap.size wq.heap.size wq).still hg4)
      have hS5 : W4.cell? ⟨w.heap.size, 0, none⟩ = some (.slice (some ⟨b1, o1, none⟩) N.ends.length c1) ∧ W4.cell? ⟨w.heap.size, 1, none⟩ = some (.slice A1' N.ids.length c1') ∧ W4.cell? ⟨w.heap.size, 2, none⟩ = some (.slice A1'' N.inputs.length c1'') := ⟨(HF4.out.boxN bx1_3 (by omega)).cell 0 (by simp), (HF4.out.boxN bx1_3 (by omega)).cell 1 (by simp), (HF4.out.boxN bx1_3 (by omega)).cell 2 (by simp)⟩
      refine anyU_take (i := 0) (v := .pointer (some ⟨w.heap.size, 1, none⟩)) rfl (by kernel_rfl) (by kernel_rfl) (by kernel_rfl) (fun _ _ _ ⟨_, _, h, _⟩ => by cases h) ⟨by rfl, fun w' hS' => (by obtain ⟨s1, s2, s3⟩ := hS'; go_simp)⟩ hS5 ?_
      simp only [List.getElem_toArray, List.getElem_cons_zero, Act.put, List.setIfInBounds_toArray, List.set_cons_zero, List.set_cons_succ]
      refine anyU_take (i := 1) (v := .slice A1' N.ids.length c1') rfl (by kernel_rfl) (by kernel_rfl) (by kernel_rfl) (fun _ _ _ ⟨_, _, h, _⟩ => by cases h) ⟨by rfl, fun w' hS' => (by obtain ⟨s1, s2, s3⟩ := hS'; go_simp)⟩ hS5 ?_
      simp only [List.getElem_toArray, List.getElem_cons_succ, List.getElem_cons_zero, Act.put, List.setIfInBounds_toArray, List.set_cons_zero, List.set_cons_succ]
      refine anyU_take (i := 3) (v := .pointer (some ⟨w.heap.size, 2, none⟩)) rfl (by kernel_rfl) (by kernel_rfl) (by kernel_rfl) (fun _ _ _ ⟨_, _, h, _⟩ => by cases h) ⟨by rfl, fun w' hS' => (by obtain ⟨s1, s2, s3⟩ := hS'; go_simp)⟩ hS5 ?_
      simp only [List.getElem_toArray, List.getElem_cons_succ, List.getElem_cons_zero, Act.put, List.setIfInBounds_toArray, List.set_cons_zero, List.set_cons_succ]
      refine anyU_take (i := 4) (v := .slice A1'' N.inputs.length c1'') rfl (by kernel_rfl) (by kernel_rfl) (by kernel_rfl) (fun _ _ _ ⟨_, _, h, _⟩ => by cases h) ⟨by rfl, fun w' hS' => (by obtain ⟨s1, s2, s3⟩ := hS'; go_simp)⟩ hS5 ?_
      simp only [List.getElem_toArray, List.getElem_cons_succ, List.getElem_cons_zero, Act.put, List.setIfInBounds_toArray, List.set_cons_zero, List.set_cons_succ]
      refine anyU_ready (rs := [2, 7]) (by kernel_rfl) (by simp) ?_
      refine ReadyU.cons (i := 2) rfl (fun K hK => ?_) ?_
      case refine_1 =>
        simp only [List.getElem_toArray, List.getElem_cons_succ, List.getElem_cons_zero]
        refine ite_is (by rfl) ?_
        simp [go_sem]
        refine (l1OwnA _ N.ids _ _ _ (netIds (Net.turned N_3.out HF4.out (by omega) (by omega))) (by omega) (by omega)).mono ?_
        rintro e W6 ⟨r6, rfl, hr6, hb6⟩
        have hg6 := grown_below hb6; clear hb6
        have hs6 := hg6.size
        have HF6 := Lib.hid (HF4.out.still hg6); clear HF4
        obtain ⟨A6, cc6, rfl, _, _⟩ := hr6.dims
        clear hr6
        have hS7 : W6.cell? ⟨w.heap.size, 0, none⟩ = some (.slice (some ⟨b1, o1, none⟩) N.ends.length c1) ∧ W6.cell? ⟨w.heap.size, 1, none⟩ = some (.slice A1' N.ids.length c1') ∧ W6.cell? ⟨w.heap.size, 2, none⟩ = some (.slice A1'' N.inputs.length c1'') := ⟨(HF6.out.boxN bx1_3 (by omega)).cell 0 (by simp), (HF6.out.boxN bx1_3 (by omega)).cell 1 (by simp), (HF6.out.boxN bx1_3 (by omega)).cell 2 (by simp)⟩
        refine hK.out _ _ ⟨fun _ => hS7, ?_⟩
        clear hK K hS5
        try simp only [List.getElem_toArray, List.getElem_cons_succ, List.getElem_cons_zero, Act.put, List.setIfInBounds_toArray, List.set_cons_zero, List.set_cons_succ]
        refine anyU_ready (rs := [5, 7]) (by kernel_rfl) (by simp) ?_
        refine ReadyU.cons (i := 5) rfl (fun K hK => ?_) ?_
        case refine_1 =>
          simp only [List.getElem_toArray, List.getElem_cons_succ, List.getElem_cons_zero]
          refine ite_is (by rfl) ?_
          simp [go_sem]
          refine (l1OwnA _ N.inputs _ _ _ (netIns (Net.turned N_3.out HF6.out (by omega) (by omega))) (by omega) (by omega)).mono ?_
          rintro e W8 ⟨r8, rfl, hr8, hb8⟩
          have hg8 := grown_below hb8; clear hb8
          have hs8 := hg8.size
          have HF8 := Lib.hid (HF6.out.still hg8); clear HF6
          obtain ⟨A8, cc8, rfl, _, _⟩ := hr8.dims
          clear hr8
          have hS9 : W8.cell? ⟨w.heap.size, 0, none⟩ = some (.slice (some ⟨b1, o1, none⟩) N.ends.length c1) ∧ W8.cell? ⟨w.heap.size, 1, none⟩ = some (.slice A1' N.ids.length c1') ∧ W8.cell? ⟨w.heap.size, 2, none⟩ = some (.slice A1'' N.inputs.length c1'') := ⟨(HF8.out.boxN bx1_3 (by omega)).cell 0 (by simp), (HF8.out.boxN bx1_3 (by omega)).cell 1 (by simp), (HF8.out.boxN bx1_3 (by omega)).cell 2 (by simp)⟩
          refine hK.out _ _ ⟨fun _ => hS9, ?_⟩
          clear hK K hS7
          try simp only [List.getElem_toArray, List.getElem_cons_succ, List.getElem_cons_zero, Act.put, List.setIfInBounds_toArray, List.set_cons_zero, List.set_cons_succ]
          refine anyU_take (i := 6) (v := .agg #[.slice none 0 0, .slice A6 N.ids.length cc6, .slice A8 N.inputs.length cc8]) rfl (by kernel_rfl) (by kernel_rfl) (by kernel_rfl) (fun _ _ _ ⟨_, _, h, _⟩ => by cases h) ⟨by rfl, fun w' hS' => (by obtain ⟨s1, s2, s3⟩ := hS'; go_simp)⟩ hS9 ?_
          simp only [List.getElem_toArray, List.getElem_cons_succ, List.getElem_cons_zero, Act.put, List.setIfInBounds_toArray, List.set_cons_zero, List.set_cons_succ]
          refine anyU_ready (rs := [7]) (by kernel_rfl) (by simp) ?_
          refine ReadyU.cons (i := 7) rfl (fun K hK => ?_) ?_
          case refine_1 =>
            simp only [List.getElem_toArray, List.getElem_cons_succ, List.getElem_cons_zero]
            refine ite_is (by rfl) ?_
            simp [go_sem]
            refine nameA ?_
            intro W10 HW10
            have hg10 : W8.grownBy W10 none := by rw [HW10.out]; exact grown_alloc _ _
            have OUT10 := Lib.hid (show BoxN W10 W8.heap.size #[.slice none 0 0, .slice none 0 0, .slice none 0 0] 34 by rw [HW10.out]; exact BoxN.new _ _ _)
            have hz10 : W8.heap.size < W10.heap.size := OUT10.out.lt
            clear HW10
            have hs10 := hg10.size
            have HF10 := Lib.hid (HF8.out.still hg10); clear HF8
            have hS11 : W10.cell? ⟨w.heap.size, 0, none⟩ = some (.slice (some ⟨b1, o1, none⟩) N.ends.length c1) ∧ W10.cell? ⟨w.heap.size, 1, none⟩ = some (.slice A1' N.ids.length c1') ∧ W10.cell? ⟨w.heap.size, 2, none⟩ = some (.slice A1'' N.inputs.length c1'') := ⟨(HF10.out.boxN bx1_3 (by omega)).cell 0 (by simp), (HF10.out.boxN bx1_3 (by omega)).cell 1 (by simp), (HF10.out.boxN bx1_3 (by omega)).cell 2 (by simp)⟩
            refine hK.out _ _ ⟨fun _ => hS11, ?_⟩
            clear hK K hS9
            try simp only [List.getElem_toArray, List.getElem_cons_succ, List.getElem_cons_zero, Act.put, List.setIfInBounds_toArray, List.set_cons_zero, List.set_cons_succ]
            have kd0 : W10.cell? ⟨W8.heap.size, 0, none⟩ = some (.slice none 0 0) := OUT10.out.cell 0 (by simp)
            have kd1 : W10.cell? ⟨W8.heap.size, 1, none⟩ = some (.slice none 0 0) := OUT10.out.cell 1 (by simp)
            have kd2 : W10.cell? ⟨W8.heap.size, 2, none⟩ = some (.slice none 0 0) := OUT10.out.cell 2 (by simp)
            have kf0 := OUT10.out.frozen 0
            have kf1 := OUT10.out.frozen 1
            have kf2 := OUT10.out.frozen 2
            refine anyU_ready (rs := [8]) (by kernel_rfl) (by simp) ?_
            refine ReadyU.cons (i := 8) rfl (fun K hK => ?_) ReadyU.nil
            simp only [List.getElem_toArray, List.getElem_cons_succ, List.getElem_cons_zero]
            refine ite_is (by rfl) ?_
            simp [go_sem, kd0, kd1, kd2, kf0, kf1, kf2]
            refine nameA ?_
            intro W12 HW12
            have hg12 : W10.grownBy W12 (some (W8.heap.size)) := by rw [HW12.out]; exact grownBy_setCell (p := ⟨W8.heap.size, 2, none⟩) (grownBy_setCell (p := ⟨W8.heap.size, 1, none⟩) (grown_set _ ⟨W8.heap.size, 0, none⟩ _) rfl _) rfl _
            have hs12 := hg12.size
            have HF12 := Lib.hid (HF10.out.grown hg12 (fun g e => .inr (by cases e; omega))); clear HF10
            have HOU12 := Lib.hid (show BoxN W12 (W8.heap.size) #[.slice none 0 0, .slice A6 N.ids.length cc6, .slice A8 N.inputs.length cc8] 34 by rw [HW12.out]; exact (((OUT10.out.set 0 _).set 1 _).set 2 _))
            clear HW12 kd0 kd1 kd2 kf0 kf1 kf2 OUT10
            have hS13 : W12.cell? ⟨w.heap.size, 0, none⟩ = some (.slice (some ⟨b1, o1, none⟩) N.ends.length c1) ∧ W12.cell? ⟨w.heap.size, 1, none⟩ = some (.slice A1' N.ids.length c1') ∧ W12.cell? ⟨w.heap.size, 2, none⟩ = some (.slice A1'' N.inputs.length c1'') := ⟨(HF12.out.boxN bx1_3 (by omega)).cell 0 (by simp), (HF12.out.boxN bx1_3 (by omega)).cell 1 (by simp), (HF12.out.boxN bx1_3 (by omega)).cell 2 (by simp)⟩
            refine hK.out _ _ ⟨fun _ => hS13, ?_⟩
            clear hK K hS11
            try simp only [List.getElem_toArray, List.getElem_cons_succ, List.getElem_cons_zero, Act.put, List.setIfInBounds_toArray, List.set_cons_zero, List.set_cons_succ]
            clear hS13
            refine anyU_done (by kernel_rfl) ?_ _
            exact ⟨[.pointer (some ⟨w.heap.size, 1, none⟩), .slice A1' N.ids.length c1', .slice A6 N.ids.length cc6, .pointer (some ⟨w.heap.size, 2, none⟩), .slice A1'' N.inputs.length c1'', .slice A8 N.inputs.length cc8, .agg #[.slice none 0 0, .slice A6 N.ids.length cc6, .slice A8 N.inputs.length cc8], .pointer (some ⟨W8.heap.size, 0, none⟩)], ⟨_, _, _, _, _, _, _, rfl, HOU12, by omega, HF12⟩, rfl, by simp only [puts, Act.put, List.setIfInBounds_toArray, List.set_cons_zero, List.set_cons_succ]⟩
          exact ReadyU.nil
        refine ReadyU.cons (i := 7) rfl (fun K hK => ?_) ?_
        case refine_1 =>
          simp only [List.getElem_toArray, List.getElem_cons_succ, List.getElem_cons_zero]
          refine ite_is (by rfl) ?_
          simp [go_sem]
          refine nameA ?_
          intro W14 HW14
          have hg14 : W6.grownBy W14 none := by rw [HW14.out]; exact grown_alloc _ _
          have OUT14 := Lib.hid (show BoxN W14 W6.heap.size #[.slice none 0 0, .slice none 0 0, .slice none 0 0] 34 by rw [HW14.out]; exact BoxN.new _ _ _)
          have hz14 : W6.heap.size < W14.heap.size := OUT14.out.lt
          clear HW14
          have hs14 := hg14.size
          have HF14 := Lib.hid (HF6.out.still hg14); clear HF6
          have hS15 : W14.cell? ⟨w.heap.size, 0, none⟩ = some (.slice (some ⟨b1, o1, none⟩) N.ends.length c1) ∧ W14.cell? ⟨w.heap.size, 1, none⟩ = some (.slice A1' N.ids.length c1') ∧ W14.cell? ⟨w.heap.size, 2, none⟩ = some (.slice A1'' N.inputs.length c1'') := ⟨(HF14.out.boxN bx1_3 (by omega)).cell 0 (by simp), (HF14.out.boxN bx1_3 (by omega)).cell 1 (by simp), (HF14.out.boxN bx1_3 (by omega)).cell 2 (by simp)⟩
          refine hK.out _ _ ⟨fun _ => hS15, ?_⟩
          clear hK K hS7
          try simp only [List.getElem_toArray, List.getElem_cons_succ, List.getElem_cons_zero, Act.put, List.setIfInBounds_toArray, List.set_cons_zero, List.set_cons_succ]
          refine anyU_ready (rs := [5]) (by kernel_rfl) (by simp) ?_
          refine ReadyU.cons (i := 5) rfl (fun K hK => ?_) ?_
          case refine_1 =>
            simp only [List.getElem_toArray, List.getElem_cons_succ, List.getElem_cons_zero]
            refine ite_is (by rfl) ?_
            simp [go_sem]
            refine (l1OwnA _ N.inputs _ _ _ (netIns (Net.turned N_3.out HF14.out (by omega) (by omega))) (by omega) (by omega)).mono ?_
            rintro e W16 ⟨r16, rfl, hr16, hb16⟩
            have hg16 := grown_below hb16; clear hb16
            have hs16 := hg16.size
            have HF16 := Lib.hid (HF14.out.still hg16); clear HF14
            have OUT16 := Lib.hid (BoxN.still OUT14.out hg16); clear OUT14
            obtain ⟨A16, cc16, rfl, _, _⟩ := hr16.dims
            clear hr16
            have hS17 : W16.cell? ⟨w.heap.size, 0, none⟩ = some (.slice (some ⟨b1, o1, none⟩) N.ends.length c1) ∧ W16.cell? ⟨w.heap.size, 1, none⟩ = some (.slice A1' N.ids.length c1') ∧ W16.cell? ⟨w.heap.size, 2, none⟩ = some (.slice A1'' N.inputs.length c1'') := ⟨(HF16.out.boxN bx1_3 (by omega)).cell 0 (by simp), (HF16.out.boxN bx1_3 (by omega)).cell 1 (by simp), (HF16.out.boxN bx1_3 (by omega)).cell 2 (by simp)⟩
            refine hK.out _ _ ⟨fun _ => hS17, ?_⟩
            clear hK K hS15
            try simp only [List.getElem_toArray, List.getElem_cons_succ, List.getElem_cons_zero, Act.put, List.setIfInBounds_toArray, List.set_cons_zero, List.set_cons_succ]
            refine anyU_take (i := 6) (v := .agg #[.slice none 0 0, .slice A6 N.ids.length cc6, .slice A16 N.inputs.length cc16]) rfl (by kernel_rfl) (by kernel_rfl) (by kernel_rfl) (fun _ _ _ ⟨_, _, h, _⟩ => by cases h) ⟨by rfl, fun w' hS' => (by obtain ⟨s1, s2, s3⟩ := hS'; go_simp)⟩ hS17 ?_
            simp only [List.getElem_toArray, List.getElem_cons_succ, List.getElem_cons_zero, Act.put, List.setIfInBounds_toArray, List.set_cons_zero, List.set_cons_succ]
            have kd0 : W16.cell? ⟨W6.heap.size, 0, none⟩ = some (.slice none 0 0) := OUT16.out.cell 0 (by simp)
            have kd1 : W16.cell? ⟨W6.heap.size, 1, none⟩ = some (.slice none 0 0) := OUT16.out.cell 1 (by simp)
            have kd2 : W16.cell? ⟨W6.heap.size, 2, none⟩ = some (.slice none 0 0) := OUT16.out.cell 2 (by simp)
            have kf0 := OUT16.out.frozen 0
            have kf1 := OUT16.out.frozen 1
            have kf2 := OUT16.out.frozen 2
            refine anyU_ready (rs := [8]) (by kernel_rfl) (by simp) ?_
            refine ReadyU.cons (i := 8) rfl (fun K hK => ?_) ReadyU.nil
            simp only [List.getElem_toArray, List.getElem_cons_succ, List.getElem_cons_zero]
            refine ite_is (by rfl) ?_
            simp [go_sem, kd0, kd1, kd2, kf0, kf1, kf2]
            refine nameA ?_
            intro W18 HW18
            have hg18 : W16.grownBy W18 (some (W6.heap.size)) := by rw [HW18.out]; exact grownBy_setCell (p := ⟨W6.heap.size, 2, none⟩) (grownBy_setCell (p := ⟨W6.heap.size, 1, none⟩) (grown_set _ ⟨W6.heap.size, 0, none⟩ _) rfl _) rfl _
            have hs18 := hg18.size
            have HF18 := Lib.hid (HF16.out.grown hg18 (fun g e => .inr (by cases e; omega))); clear HF16
            have HOU18 := Lib.hid (show BoxN W18 (W6.heap.size) #[.slice none 0 0, .slice A6 N.ids.length cc6, .slice A16 N.inputs.length cc16] 34 by rw [HW18.out]; exact (((OUT16.out.set 0 _).set 1 _).set 2 _))
            clear HW18 kd0 kd1 kd2 kf0 kf1 kf2 OUT16
            have hS19 : W18.cell? ⟨w.heap.size, 0, none⟩ = some (.slice (some ⟨b1, o1, none⟩) N.ends.length c1) ∧ W18.cell? ⟨w.heap.size, 1, none⟩ = some (.slice A1' N.ids.length c1') ∧ W18.cell? ⟨w.heap.size, 2, none⟩ = some (.slice A1'' N.inputs.length c1'') := ⟨(HF18.out.boxN bx1_3 (by omega)).cell 0 (by simp), (HF18.out.boxN bx1_3 (by omega)).cell 1 (by simp), (HF18.out.boxN bx1_3 (by omega)).cell 2 (by simp)⟩
            refine hK.out _ _ ⟨fun _ => hS19, ?_⟩
            clear hK K hS17
            try simp only [List.getElem_toArray, List.getElem_cons_succ, List.getElem_cons_zero, Act.put, List.setIfInBounds_toArray, List.set_cons_zero, List.set_cons_succ]
            clear hS19
            refine anyU_done (by kernel_rfl) ?_ _
            exact ⟨[.pointer (some ⟨w.heap.size, 1, none⟩), .slice A1' N.ids.length c1', .slice A6 N.ids.length cc6, .pointer (some ⟨w.heap.size, 2, none⟩), .slice A1'' N.inputs.length c1'', .slice A16 N.inputs.length cc16, .agg #[.slice none 0 0, .slice A6 N.ids.length cc6, .slice A16 N.inputs.length cc16], .pointer (some ⟨W6.heap.size, 0, none⟩)], ⟨_, _, _, _, _, _, _, rfl, HOU18, by omega, HF18⟩, rfl, by simp only [puts, Act.put, List.setIfInBounds_toArray, List.set_cons_zero, List.set_cons_succ]⟩
          exact ReadyU.nil
        exact ReadyU.nil
      refine ReadyU.cons (i := 7) rfl (fun K hK => ?_) ?_
      case refine_1 =>
        simp only [List.getElem_toArray, List.getElem_cons_succ, List.getElem_cons_zero]
        refine ite_is (by rfl) ?_
        simp [go_sem]
        refine nameA ?_
        intro W20 HW20
        have hg20 : W4.grownBy W20 none := by rw [HW20.out]; exact grown_alloc _ _
        have OUT20 := Lib.hid (show BoxN W20 W4.heap.size #[.slice none 0 0, .slice none 0 0, .slice none 0 0] 34 by rw [HW20.out]; exact BoxN.new _ _ _)
        have hz20 : W4.heap.size < W20.heap.size := OUT20.out.lt
        clear HW20
        have hs20 := hg20.size
        have HF20 := Lib.hid (HF4.out.still hg20); clear HF4
        have hS21 : W20.cell? ⟨w.heap.size, 0, none⟩ = some (.slice (some ⟨b1, o1, none⟩) N.ends.length c1) ∧ W20.cell? ⟨w.heap.size, 1, none⟩ = some (.slice A1' N.ids.length c1') ∧ W20.cell? ⟨w.heap.size, 2, none⟩ = some (.slice A1'' N.inputs.length c1'') := ⟨(HF20.out.boxN bx1_3 (by omega)).cell 0 (by simp), (HF20.out.boxN bx1_3 (by omega)).cell 1 (by simp), (HF20.out.boxN bx1_3 (by omega)).cell 2 (by simp)⟩
        refine hK.out _ _ ⟨fun _ => hS21, ?_⟩
        clear hK K hS5
        try simp only [List.getElem_toArray, List.getElem_cons_succ, List.getElem_cons_zero, Act.put, List.setIfInBounds_toArray, List.set_cons_zero, List.set_cons_succ]
        refine anyU_ready (rs := [2]) (by kernel_rfl) (by simp) ?_
        refine ReadyU.cons (i := 2) rfl (fun K hK => ?_) ?_
        case refine_1 =>
          simp only [List.getElem_toArray, List.getElem_cons_succ, List.getElem_cons_zero]
          refine ite_is (by rfl) ?_
          simp [go_sem]
          refine (l1OwnA _ N.ids _ _ _ (netIds (Net.turned N_3.out HF20.out (by omega) (by omega))) (by omega) (by omega)).mono ?_
          rintro e W22 ⟨r22, rfl, hr22, hb22⟩
          have hg22 := grown_below hb22; clear hb22
          have hs22 := hg22.size
          have HF22 := Lib.hid (HF20.out.still hg22); clear HF20
          have OUT22 := Lib.hid (BoxN.still OUT20.out hg22); clear OUT20
          obtain ⟨A22, cc22, rfl, _, _⟩ := hr22.dims
          clear hr22
          have hS23 : W22.cell? ⟨w.heap.size, 0, none⟩ = some (.slice (some ⟨b1, o1, none⟩) N.ends.length c1) ∧ W22.cell? ⟨w.heap.size, 1, none⟩ = some (.slice A1' N.ids.length c1') ∧ W22.cell? ⟨w.heap.size, 2, none⟩ = some (.slice A1'' N.inputs.length c1'') := ⟨(HF22.out.boxN bx1_3 (by omega)).cell 0 (by simp), (HF22.out.boxN bx1_3 (by omega)).cell 1 (by simp), (HF22.out.boxN bx1_3 (by omega)).cell 2 (by simp)⟩
          refine hK.out _ _ ⟨fun _ => hS23, ?_⟩
          clear hK K hS21
          try simp only [List.getElem_toArray, List.getElem_cons_succ, List.getElem_cons_zero, Act.put, List.setIfInBounds_toArray, List.set_cons_zero, List.set_cons_succ]
          refine anyU_ready (rs := [5]) (by kernel_rfl) (by simp) ?_
          refine ReadyU.cons (i := 5) rfl (fun K hK => ?_) ?_
          case refine_1 =>
            simp only [List.getElem_toArray, List.getElem_cons_succ, List.getElem_cons_zero]
            refine ite_is (by rfl) ?_
            simp [go_sem]
            refine (l1OwnA _ N.inputs _ _ _ (netIns (Net.turned N_3.out HF22.out (by omega) (by omega))) (by omega) (by omega)).mono ?_
            rintro e W24 ⟨r24, rfl, hr24, hb24⟩
            have hg24 := grown_below hb24; clear hb24
            have hs24 := hg24.size
            have HF24 := Lib.hid (HF22.out.still hg24); clear HF22
            have OUT24 := Lib.hid (BoxN.still OUT22.out hg24); clear OUT22
            obtain ⟨A24, cc24, rfl, _, _⟩ := hr24.dims
            clear hr24
            have hS25 : W24.cell? ⟨w.heap.size, 0, none⟩ = some (.slice (some ⟨b1, o1, none⟩) N.ends.length c1) ∧ W24.cell? ⟨w.heap.size, 1, none⟩ = some (.slice A1' N.ids.length c1') ∧ W24.cell? ⟨w.heap.size, 2, none⟩ = some (.slice A1'' N.inputs.length c1'') := ⟨(HF24.out.boxN bx1_3 (by omega)).cell 0 (by simp), (HF24.out.boxN bx1_3 (by omega)).cell 1 (by simp), (HF24.out.boxN bx1_3 (by omega)).cell 2 (by simp)⟩
            refine hK.out _ _ ⟨fun _ => hS25, ?_⟩
            clear hK K hS23
            try simp only [List.getElem_toArray, List.getElem_cons_succ, List.getElem_cons_zero, Act.put, List.setIfInBounds_toArray, List.set_cons_zero, List.set_cons_succ]
            refine anyU_take (i := 6) (v := .agg #[.slice none 0 0, .slice A22 N.ids.length cc22, .slice A24 N.inputs.length cc24]) rfl (by kernel_rfl) (by kernel_rfl) (by kernel_rfl) (fun _ _ _ ⟨_, _, h, _⟩ => by cases h) ⟨by rfl, fun w' hS' => (by obtain ⟨s1, s2, s3⟩ := hS'; go_simp)⟩ hS25 ?_
            simp only [List.getElem_toArray, List.getElem_cons_succ, List.getElem_cons_zero, Act.put, List.setIfInBounds_toArray, List.set_cons_zero, List.set_cons_succ]
            have kd0 : W24.cell? ⟨W4.heap.size, 0, none⟩ = some (.slice none 0 0) := OUT24.out.cell 0 (by simp)
            have kd1 : W24.cell? ⟨W4.heap.size, 1, none⟩ = some (.slice none 0 0) := OUT24.out.cell 1 (by simp)
            have kd2 : W24.cell? ⟨W4.heap.size, 2, none⟩ = some (.slice none 0 0) := OUT24.out.cell 2 (by simp)
            have kf0 := OUT24.out.frozen 0
            have kf1 := OUT24.out.frozen 1
            have kf2 := OUT24.out.frozen 2
            refine anyU_ready (rs := [8]) (by kernel_rfl) (by simp) ?_
            refine ReadyU.cons (i := 8) rfl (fun K hK => ?_) ReadyU.nil
            simp only [List.getElem_toArray, List.getElem_cons_succ, List.getElem_cons_zero]
            refine ite_is (by rfl) ?_
            simp [go_sem, kd0, kd1, kd2, kf0, kf1, kf2]
            refine nameA ?_
            intro W26 HW26
            have hg26 : W24.grownBy W26 (some (W4.heap.size)) := by rw [HW26.out]; exact grownBy_setCell (p := ⟨W4.heap.size, 2, none⟩) (grownBy_setCell (p := ⟨W4.heap.size, 1, none⟩) (grown_set _ ⟨W4.heap.size, 0, none⟩ _) rfl _) rfl _
            have hs26 := hg26.size
            have HF26 := Lib.hid (HF24.out.grown hg26 (fun g e => .inr (by cases e; omega))); clear HF24
            have HOU26 := Lib.hid (show BoxN W26 (W4.heap.size) #[.slice none 0 0, .slice A22 N.ids.length cc22, .slice A24 N.inputs.length cc24] 34 by rw [HW26.out]; exact (((OUT24.out.set 0 _).set 1 _).set 2 _))
            clear HW26 kd0 kd1 kd2 kf0 kf1 kf2 OUT24
            have hS27 : W26.cell? ⟨w.heap.size, 0, none⟩ = some (.slice (some ⟨b1, o1, none⟩) N.ends.length c1) ∧ W26.cell? ⟨w.heap.size, 1, none⟩ = some (.slice A1' N.ids.length c1') ∧ W26.cell? ⟨w.heap.size, 2, none⟩ = some (.slice A1'' N.inputs.length c1'') := ⟨(HF26.out.boxN bx1_3 (by omega)).cell 0 (by simp), (HF26.out.boxN bx1_3 (by omega)).cell 1 (by simp), (HF26.out.boxN bx1_3 (by omega)).cell 2 (by simp)⟩
            refine hK.out _ _ ⟨fun _ => hS27, ?_⟩
            clear hK K hS25
            try simp only [List.getElem_toArray, List.getElem_cons_succ, List.getElem_cons_zero, Act.put, List.setIfInBounds_toArray, List.set_cons_zero, List.set_cons_succ]
            clear hS27
            refine anyU_done (by kernel_rfl) ?_ _
            exact ⟨[.pointer (some ⟨w.heap.size, 1, none⟩), .slice A1' N.ids.length c1', .slice A22 N.ids.length cc22, .pointer (some ⟨w.heap.size, 2, none⟩), .slice A1'' N.inputs.length c1'', .slice A24 N.inputs.length cc24, .agg #[.slice none 0 0, .slice A22 N.ids.length cc22, .slice A24 N.inputs.length cc24], .pointer (some ⟨W4.heap.size, 0, none⟩)], ⟨_, _, _, _, _, _, _, rfl, HOU26, by omega, HF26⟩, rfl, by simp only [puts, Act.put, List.setIfInBounds_toArray, List.set_cons_zero, List.set_cons_succ]⟩
          exact ReadyU.nil
        exact ReadyU.nil
      exact ReadyU.nil
    case refine_2 =>
      rintro vs W28 ⟨gO, A8, A9, n8, c8, n9, c9, rfl, HB, hgO, HF28⟩
      simp only [puts, Act.put, List.setIfInBounds_toArray, List.set_cons_zero, List.set_cons_succ]
      have hs28 := HF28.out.size
      have hgl := HB.out.lt
      have kbx1_0 : W28.cell? ⟨w.heap.size, 0, none⟩ = some (.slice (some ⟨b1, o1, none⟩) N.ends.length c1) := (HF28.out.boxN bx1_3 (by omega)).cell 0 (by simp)
      have kbx1_1 : W28.cell? ⟨w.heap.size, 1, none⟩ = some (.slice A1' N.ids.length c1') := (HF28.out.boxN bx1_3 (by omega)).cell 1 (by simp)
      have kbx1_2 : W28.cell? ⟨w.heap.size, 2, none⟩ = some (.slice A1'' N.inputs.length c1'') := (HF28.out.boxN bx1_3 (by omega)).cell 2 (by simp)
      go_wp2_with fail
      clear kbx1_0 kbx1_1 kbx1_2
      go_loopw [64] (fun kv wr => ∃ (v : Nat) (vE : Value) (top : Nat), v ≤ N.ends.length ∧ kv = .int .i64 v ∧ Hid (BoxN wr gO #[vE, .slice A8 n8 c8, .slice A9 n9 c9] 34) ∧ Hid (OwnES wr W28.heap.size top 61 vE (cutRows N kp v)) ∧ Hid (Turned wq.heap.size wq.heap.size wq wr)) (fun kv _ => N.ends.length - (intOf kv).toNat)
      case atStart => exact ⟨0, .slice none 0 0, W28.heap.size, Nat.zero_le _, rfl, HB, Lib.hid (OwnES.nil _ _ _ _ (Nat.le_refl _) (Nat.le_refl _)), HF28⟩
      case round =>
        clear HF28
        obtain ⟨v, vE, top, hv, rfl, HB, HO, HF29⟩ := hrel
        have hs29 := HF29.out.size
        obtain ⟨wt, rfl⟩ : ∃ wt : World, wt = wr := ⟨_, rfl⟩
        have htop : top ≤ wt.heap.size := let ⟨_, _, _, _, _, _, h, _⟩ := HO.out; h
        have htop2 : _ ≤ top := let ⟨_, _, _, _, _, h, _⟩ := HO.out; h
        have hcr := cutRows_len N kp v
        have HLE := Lib.hid HO.out.lt
        obtain ⟨rows, HRS⟩ : ∃ l, Hid (cutRows N kp v = l) := ⟨_, Lib.hid rfl⟩
        rw [HRS.out] at HO hcr
        have HCR := Lib.hid hcr; clear hcr
        obtain ⟨AE, cE, rfl, hcE, hdE⟩ := HO.out.len
        by_cases hvn : v < N.ends.length
        case neg =>
          obtain rfl : v = N.ends.length := by omega
          have HR := Lib.hid (ESS.mono HO.out.ssx.ss (show w.heap.size ≤ _ by omega) (Nat.le_refl _))
          have ko0 : wt.cell? ⟨gO, 0, none⟩ = some (.slice AE rows.length cE) := HB.out.cell 0 (by simp)
          have ko1 : wt.cell? ⟨gO, 1, none⟩ = some (.slice A8 n8 c8) := HB.out.cell 1 (by simp)
          have ko2 : wt.cell? ⟨gO, 2, none⟩ = some (.slice A9 n9 c9) := HB.out.cell 2 (by simp)
          have HBR := Lib.hid (HF29.out.boxN bxx0_3 (by omega))
          have kr0 : wt.cell? ⟨w.heap.size + 1, 0, none⟩ = some (.slice none 0 0) := HBR.out.cell 0 (by simp)
          have kr1 : wt.cell? ⟨w.heap.size + 1, 1, none⟩ = some (.slice none 0 0) := HBR.out.cell 1 (by simp)
          have kr2 : wt.cell? ⟨w.heap.size + 1, 2, none⟩ = some (.slice none 0 0) := HBR.out.cell 2 (by simp)
          have kf0 := HBR.out.frozen 0
          have kf1 := HBR.out.frozen 1
          have kf2 := HBR.out.frozen 2
          go_wp2_with fail
          ((try simp only [Exit.inBlock, Exit.then]); refine bodyPost_ret (results_cell1 rfl _ _ _ rfl (load_net (((HBR.out.set 0 (.slice AE rows.length cE)).set 1 (.slice A8 n8 c8)).set 2 (.slice A9 n9 c9)))) rfl ?_)
          have hg9 : wt.grownBy (((wt.setCell ⟨w.heap.size + 1, 0, none⟩ (.slice AE rows.length cE)).setCell ⟨w.heap.size + 1, 1, none⟩ (.slice A8 n8 c8)).setCell ⟨w.heap.size + 1, 2, none⟩ (.slice A9 n9 c9)) (some (w.heap.size + 1)) := grownBy_setCell (p := ⟨w.heap.size + 1, 2, none⟩) (grownBy_setCell (p := ⟨w.heap.size + 1, 1, none⟩) (grown_set wt ⟨w.heap.size + 1, 0, none⟩ _) rfl _) rfl _
          refine ⟨_, _, _, _, _, _, _, rfl, ?_, ((HF29.out.below_of hbA3 (by omega) (by omega)).grown hg9 (by omega) fun g e => by cases e; omega)⟩
          rw [HRS.out]
          exact ESS.mono (ESS.turned (ESS.mono HO.out.ssx.ss (Nat.le_refl _) (Nat.le_refl _)) ((Turned.refl (w.heap.size + 1) (w.heap.size + 1 + 1) wt).grown hg9 (fun g e => .inl (by cases e; omega))) (Nat.le_refl _) (.inr (by omega))) (by omega) (by simp)
        have hvi : (v : Int) < N.ends.length := by omega
        have hd6 := good_deg HG.out hvn
        obtain ⟨Aa, ca, hba, qa, hca, hda, hRa⟩ := Net.rowIn N_3.out hvn
        replace qa := (HF29.out.cell (by omega) (by omega)).trans qa
        have Ra := Lib.hid hRa; clear hRa
        go_wp2_with fail
        clear qa
        go_loopw [71, 13] (fun mv ov wr => ∃ (m : Nat), m ≤ (nthL N.ends v).length ∧ mv = .int .i64 m ∧ Hid (OwnE wr wt.heap.size 60 ov (cutP N kp v m)) ∧ Hid (Below wt.heap.size wt wr)) (fun mv ov _ => (nthL N.ends v).length - (intOf mv).toNat)
        case atStart => exact ⟨0, Nat.zero_le _, rfl, Lib.hid (OwnE.nil _ _ _), Lib.hid (Below.refl _ _)⟩
        case round =>
          obtain ⟨m, hm, rfl, HOE, HBW⟩ := hrel
          obtain ⟨wu, rfl⟩ : ∃ wu : World, wu = wr := ⟨_, rfl⟩
          have hs9 := HBW.out.size
          have hpl := cutP_len N kp v m
          obtain ⟨Au, cu, rfl, hcu, hdu⟩ := HOE.out.len
          by_cases hml : m < (nthL N.ends v).length
          case pos =>
            have hmi : (m : Int) < (nthL N.ends v).length := by omega
            obtain ⟨be, oe, rfl, _, _, xe, xe'⟩ := (EndS.below (EndS.turned Ra.out HF29.out (by omega) (by omega)) HBW.out (by omega)).opened hml
            obtain ⟨t, r, et, ht, hr, eu⟩ := good_end HG.out hvn hml
            rw [et] at xe xe'
            dsimp only at xe xe'
            have ET := Lib.hid et
            clear et eu
            have hrd := good_deg HG.out ht
            have hapE := Lib.hid HOE.out.lt
            go_upto_region 22 with (fail)
            refine nameC ?_
            intro W31 HW31
            have hg31 : wu.grownBy W31 none := by rw [HW31.out]; exact grown_alloc _ _
            have hs31 := hg31.size
            have BE := Lib.hid (show BoxN W31 wu.heap.size #[.int .i64 t, .int .i64 r] 60 by rw [HW31.out]; exact BoxN.new _ _ _)
            clear HW31 xe xe'
            have HB2 := Lib.hid (HBW.out.trans ((grown_to_below hg31).mono (by omega)))
            have HO2 := Lib.hid (OwnE.still HOE.out hg31)
            clear HOE hg31 HBW
            have hKL2 : m < (nthL keep v).length := by rw [HKB.out.1.2 v hvn]; exact hml
            obtain ⟨b2, o2, c2', _, _, _, _, y1, y2, y3, y4, _, _⟩ := BSSx.at2 (BSSx.below (BSSx.turned keep_3.out HF29.out (by omega) (by omega)) HB2.out (by omega)) (by omega) (a := v) (i := m) (by rw [HKL.out]; exact hvn) hKL2
            rw [HKB.out.1.2 v hvn] at y1 y2
            rw [HKB.out.2 v hvn m hml] at y4
            have hvk : (v : Int) < keep.length := by rw [HKL.out]; exact hvi
            cases hb : kp v m
            case false =>
              rw [hb] at y4
              have HCN := Lib.hid (cutP_no (N := N) hb)
              go_wp2_with fail
              go_roundw
              case rel => exact ⟨m + 1, by omega, by go_num, Lib.hid (by rw [HCN.out]; exact HO2.out), HB2⟩
              case measure => simp [intOf]; omega
            rw [hb] at y4
            have HCY := Lib.hid (cutP_yes hb ET.out)
            clear hb
            go_upto_region 23 with (fail)
            clear y1 y2 y3 y4
            obtain ⟨b3, o3, c3, _, hB3, _, hb3, z1, z2, z3, z4, _⟩ := ISSx.at2 (ISSx.below (ISSx.turned HTO.out HF29.out (by omega) (by omega)) HB2.out (by omega)) (by omega) (a := t) (i := r) (by rw [toAt_len]; exact ht) (by rw [toAt_at ht, cntL_len]; exact hr)
            rw [toAt_at ht, cntL_len] at z1 z2
            rw [toAt_at ht, nth_cntL hr, ] at z4
            rw [Nat.zero_add] at z1
            have T1 := Lib.hid (show CellH W31 ⟨WA.heap.size, t, none⟩ (.slice (some ⟨b3, o3, none⟩) (nthL N.ends t).length c3) from ⟨z1, by show WA.heap.size < _; omega⟩)
            have T2 := Lib.hid (show CellH W31 ⟨b3, o3 + r, none⟩ (.int .i64 (cntK kp t r : Nat)) from ⟨z4, by show b3 < _; omega⟩)
            have htn : (t : Int) < N.ends.length := by omega
            have hrn : (r : Int) < (nthL N.ends t).length := by omega
            clear z1 z4
            obtain ⟨l, HL⟩ : ∃ l, Hid (cutP N kp v m = l) := ⟨_, Lib.hid rfl⟩
            rw [HL.out] at HO2 HCY hpl hapE
            have hck := cntK_le kp t r
            rw [HL.out]
            obtain ⟨d, HD⟩ : ∃ d, Hid ((nthL N.ends t).length = d) := ⟨_, Lib.hid rfl⟩
            rw [HD.out] at T1 hrn z2 hrd hr
            obtain ⟨cn, HCN2⟩ : ∃ c, Hid (cntK kp t r = c) := ⟨_, Lib.hid rfl⟩
            rw [HCN2.out] at T2 HCY hck
            have hlo2 := Lib.hid HO2.out.lt
            refine wp_region_U (fun w' => w'.cell? ⟨wu.heap.size, 0, none⟩ = some (.int .i64 t) ∧ w'.cell? ⟨wu.heap.size, 1, none⟩ = some (.int .i64 r) ∧ w'.cell? ⟨WA.heap.size, t, none⟩ = some (.slice (some ⟨b3, o3, none⟩) d c3) ∧ w'.cell? ⟨b3, o3 + r, none⟩ = some (.int .i64 (cn : Nat))) [] (by kernel_rfl) ?_
            refine nameU ?_
            intro W32 HW32
            have hg32 : W31.grownBy W32 none := by rw [HW32.out]; exact grown_drew _
            clear HW32
            have hs32 := hg32.size
            have HF32 := Lib.hid ((Turned.refl W31.heap.size W31.heap.size W31).still hg32)
            have BE32 := Lib.hid (BoxN.still BE.out hg32); clear BE
            have T132 := Lib.hid (CellH.still T1.out hg32); clear T1
            have T232 := Lib.hid (CellH.still T2.out hg32); clear T2
            have OW32 := Lib.hid (OwnE.still HO2.out hg32); clear HO2
            have hS33 : W32.cell? ⟨wu.heap.size, 0, none⟩ = some (.int .i64 t) ∧ W32.cell? ⟨wu.heap.size, 1, none⟩ = some (.int .i64 r) ∧ W32.cell? ⟨WA.heap.size, t, none⟩ = some (.slice (some ⟨b3, o3, none⟩) d c3) ∧ W32.cell? ⟨b3, o3 + r, none⟩ = some (.int .i64 (cn : Nat)) := ⟨BE32.out.cell 0 (by simp), BE32.out.cell 1 (by simp), T132.out.cell, T232.out.cell⟩
            refine anyU_take (i := 0) (v := .slice Au l.length cu) rfl (by kernel_rfl) (by kernel_rfl) (by kernel_rfl) (fun _ _ _ h => h) ⟨by rfl, fun w' hS' => (by obtain ⟨s1, s2, s3, s4⟩ := hS'; go_simp)⟩ hS33 ?_
            simp only [List.getElem_toArray, List.getElem_cons_zero, Act.put, List.setIfInBounds_toArray, List.set_cons_zero, List.set_cons_succ]
            refine anyU_take (i := 1) (v := .pointer (some ⟨wu.heap.size, 0, none⟩)) rfl (by kernel_rfl) (by kernel_rfl) (by kernel_rfl) (fun _ _ _ h => h) ⟨by rfl, fun w' hS' => (by obtain ⟨s1, s2, s3, s4⟩ := hS'; go_simp)⟩ hS33 ?_
            simp only [List.getElem_toArray, List.getElem_cons_succ, List.getElem_cons_zero, Act.put, List.setIfInBounds_toArray, List.set_cons_zero, List.set_cons_succ]
            refine anyU_take (i := 2) (v := .int .i64 t) rfl (by kernel_rfl) (by kernel_rfl) (by kernel_rfl) (fun _ _ _ h => h) ⟨by rfl, fun w' hS' => (by obtain ⟨s1, s2, s3, s4⟩ := hS'; go_simp)⟩ hS33 ?_
            simp only [List.getElem_toArray, List.getElem_cons_succ, List.getElem_cons_zero, Act.put, List.setIfInBounds_toArray, List.set_cons_zero, List.set_cons_succ]
            refine anyU_take (i := 3) (v := .slice (some ⟨WA.heap.size, 0, none⟩) N.ends.length N.ends.length) rfl (by kernel_rfl) (by kernel_rfl) (by kernel_rfl) (fun _ _ _ h => h) ⟨by rfl, fun w' hS' => (by obtain ⟨s1, s2, s3, s4⟩ := hS'; go_simp)⟩ hS33 ?_
            simp only [List.getElem_toArray, List.getElem_cons_succ, List.getElem_cons_zero, Act.put, List.setIfInBounds_toArray, List.set_cons_zero, List.set_cons_succ]
            refine anyU_take (i := 4) (v := .pointer (some ⟨wu.heap.size, 0, none⟩)) rfl (by kernel_rfl) (by kernel_rfl) (by kernel_rfl) (fun _ _ _ h => h) ⟨by rfl, fun w' hS' => (by obtain ⟨s1, s2, s3, s4⟩ := hS'; go_simp)⟩ hS33 ?_
            simp only [List.getElem_toArray, List.getElem_cons_succ, List.getElem_cons_zero, Act.put, List.setIfInBounds_toArray, List.set_cons_zero, List.set_cons_succ]
            refine anyU_take (i := 5) (v := .int .i64 t) rfl (by kernel_rfl) (by kernel_rfl) (by kernel_rfl) (fun _ _ _ h => h) ⟨by rfl, fun w' hS' => (by obtain ⟨s1, s2, s3, s4⟩ := hS'; go_simp)⟩ hS33 ?_
            simp only [List.getElem_toArray, List.getElem_cons_succ, List.getElem_cons_zero, Act.put, List.setIfInBounds_toArray, List.set_cons_zero, List.set_cons_succ]
            refine anyU_take (i := 6) (v := .pointer (some ⟨WA.heap.size, t, none⟩)) rfl (by kernel_rfl) (by kernel_rfl) (by kernel_rfl) (fun _ _ _ h => h) ⟨by rfl, fun w' hS' => (by obtain ⟨s1, s2, s3, s4⟩ := hS'; simp [go_sem, htn])⟩ hS33 ?_
            simp only [List.getElem_toArray, List.getElem_cons_succ, List.getElem_cons_zero, Act.put, List.setIfInBounds_toArray, List.set_cons_zero, List.set_cons_succ]
            refine anyU_take (i := 7) (v := .slice (some ⟨b3, o3, none⟩) d c3) rfl (by kernel_rfl) (by kernel_rfl) (by kernel_rfl) (fun _ _ _ h => h) ⟨by rfl, fun w' hS' => (by obtain ⟨s1, s2, s3, s4⟩ := hS'; go_simp)⟩ hS33 ?_
            simp only [List.getElem_toArray, List.getElem_cons_succ, List.getElem_cons_zero, Act.put, List.setIfInBounds_toArray, List.set_cons_zero, List.set_cons_succ]
            refine anyU_take (i := 8) (v := .pointer (some ⟨wu.heap.size, 1, none⟩)) rfl (by kernel_rfl) (by kernel_rfl) (by kernel_rfl) (fun _ _ _ h => h) ⟨by rfl, fun w' hS' => (by obtain ⟨s1, s2, s3, s4⟩ := hS'; go_simp)⟩ hS33 ?_
            simp only [List.getElem_toArray, List.getElem_cons_succ, List.getElem_cons_zero, Act.put, List.setIfInBounds_toArray, List.set_cons_zero, List.set_cons_succ]
            refine anyU_take (i := 9) (v := .int .i64 r) rfl (by kernel_rfl) (by kernel_rfl) (by kernel_rfl) (fun _ _ _ h => h) ⟨by rfl, fun w' hS' => (by obtain ⟨s1, s2, s3, s4⟩ := hS'; go_simp)⟩ hS33 ?_
            simp only [List.getElem_toArray, List.getElem_cons_succ, List.getElem_cons_zero, Act.put, List.setIfInBounds_toArray, List.set_cons_zero, List.set_cons_succ]
            refine anyU_take (i := 10) (v := .pointer (some ⟨b3, o3 + r, none⟩)) rfl (by kernel_rfl) (by kernel_rfl) (by kernel_rfl) (fun _ _ _ h => h) ⟨by rfl, fun w' hS' => (by obtain ⟨s1, s2, s3, s4⟩ := hS'; simp [go_sem, hrn])⟩ hS33 ?_
            simp only [List.getElem_toArray, List.getElem_cons_succ, List.getElem_cons_zero, Act.put, List.setIfInBounds_toArray, List.set_cons_zero, List.set_cons_succ]
            refine anyU_take (i := 11) (v := .int .i64 (cn : Nat)) rfl (by kernel_rfl) (by kernel_rfl) (by kernel_rfl) (fun _ _ _ h => h) ⟨by rfl, fun w' hS' => (by obtain ⟨s1, s2, s3, s4⟩ := hS'; go_simp)⟩ hS33 ?_
            simp only [List.getElem_toArray, List.getElem_cons_succ, List.getElem_cons_zero, Act.put, List.setIfInBounds_toArray, List.set_cons_zero, List.set_cons_succ]
            refine anyU_take (i := 12) (v := .agg #[.int .i64 t, .int .i64 (cn : Nat)]) rfl (by kernel_rfl) (by kernel_rfl) (by kernel_rfl) (fun _ _ _ h => h) ⟨by rfl, fun w' hS' => (by obtain ⟨s1, s2, s3, s4⟩ := hS'; go_simp)⟩ hS33 ?_
            simp only [List.getElem_toArray, List.getElem_cons_succ, List.getElem_cons_zero, Act.put, List.setIfInBounds_toArray, List.set_cons_zero, List.set_cons_succ]
            refine anyU_ready (rs := [13]) (by kernel_rfl) (by simp) ?_
            refine ReadyU.cons (i := 13) rfl (fun K hK => ?_) ReadyU.nil
            simp only [List.getElem_toArray, List.getElem_cons_succ, List.getElem_cons_zero]
            refine ite_is (by rfl) ?_
            simp [go_sem]
            refine nameA ?_
            intro W34 HW34
            have hg34 : W32.grownBy W34 none := by rw [HW34.out]; exact grown_alloc _ _
            have BV := Lib.hid (show BoxN W34 W32.heap.size #[.int .i64 t, .int .i64 (cn : Nat)] 60 by rw [HW34.out]; exact BoxN.new _ _ _)
            have hz34 : W32.heap.size < W34.heap.size := BV.out.lt
            clear HW34
            have hs34 := hg34.size
            have HF34 := Lib.hid (HF32.out.still hg34); clear HF32
            have BE34 := Lib.hid (BoxN.still BE32.out hg34); clear BE32
            have T134 := Lib.hid (CellH.still T132.out hg34); clear T132
            have T234 := Lib.hid (CellH.still T232.out hg34); clear T232
            have OW34 := Lib.hid (OwnE.still OW32.out hg34); clear OW32
            have hS35 : W34.cell? ⟨wu.heap.size, 0, none⟩ = some (.int .i64 t) ∧ W34.cell? ⟨wu.heap.size, 1, none⟩ = some (.int .i64 r) ∧ W34.cell? ⟨WA.heap.size, t, none⟩ = some (.slice (some ⟨b3, o3, none⟩) d c3) ∧ W34.cell? ⟨b3, o3 + r, none⟩ = some (.int .i64 (cn : Nat)) := ⟨BE34.out.cell 0 (by simp), BE34.out.cell 1 (by simp), T134.out.cell, T234.out.cell⟩
            refine hK.out _ _ ⟨fun _ => hS35, ?_⟩
            clear hK K hS33
            try simp only [List.getElem_toArray, List.getElem_cons_succ, List.getElem_cons_zero, Act.put, List.setIfInBounds_toArray, List.set_cons_zero, List.set_cons_succ]
            refine anyU_ready (rs := [14]) (by kernel_rfl) (by simp) ?_
            refine ReadyU.cons (i := 14) rfl (fun K hK => ?_) ReadyU.nil
            refine step_append_own2 Try.underlying61 infoEndK rfl (by omega) (by omega) W34 (by rfl) _ (by rfl) OW34.out (by rfl) _ (owns_box BV.out rfl 0 (Nat.zero_le _)) (by rfl) (by intro u hu; simp only [List.mem_cons, List.not_mem_nil, or_false] at hu; rcases hu with rfl | rfl <;> rfl) (by omega) (by omega) ?_
            intro v5 W36 ho5 hg36 hat5
            have hs36 := hg36.size
            have BE36 := Lib.hid (BoxN.far BE34.out hg36 (fun g e => by have := hapE.out g e; omega))
            have T136 := Lib.hid (CellH.far T134.out hg36 (fun g e => by have := hapE.out g e; show g ≠ WA.heap.size; omega))
            have T236 := Lib.hid (CellH.far T234.out hg36 (fun g e => by have := hapE.out g e; show g ≠ b3; omega))
            have HO5 := Lib.hid (show OwnE W36 wt.heap.size 60 v5 (l ++ [(t, cn)]) by unfold OwnE; rw [flatP_snoc, List.length_append]; exact ho5)
            have HB5 := Lib.hid ((HF34.out.below_of HB2.out (by omega) (by omega)).grown hg36 (by omega) fun g e => by have := hapE.out g e; omega)
            clear ho5 hat5
            have hS37 : W36.cell? ⟨wu.heap.size, 0, none⟩ = some (.int .i64 t) ∧ W36.cell? ⟨wu.heap.size, 1, none⟩ = some (.int .i64 r) ∧ W36.cell? ⟨WA.heap.size, t, none⟩ = some (.slice (some ⟨b3, o3, none⟩) d c3) ∧ W36.cell? ⟨b3, o3 + r, none⟩ = some (.int .i64 (cn : Nat)) := ⟨BE36.out.cell 0 (by simp), BE36.out.cell 1 (by simp), T136.out.cell, T236.out.cell⟩
            refine hK.out _ _ ⟨fun _ => hS37, ?_⟩
            clear hK K hS35
            try simp only [List.getElem_toArray, List.getElem_cons_succ, List.getElem_cons_zero, Act.put, List.setIfInBounds_toArray, List.set_cons_zero, List.set_cons_succ]
            refine anyU_ready (rs := [15]) (by kernel_rfl) (by simp) ?_
            refine ReadyU.cons (i := 15) rfl (fun K hK => ?_) ReadyU.nil
            simp only [List.getElem_toArray, List.getElem_cons_succ, List.getElem_cons_zero]
            refine ite_is (by rfl) ?_
            simp [go_sem]
            refine hK.out _ _ ⟨fun _ => hS37, ?_⟩
            clear hK K
            try simp only [List.getElem_toArray, List.getElem_cons_succ, List.getElem_cons_zero, Act.put, List.setIfInBounds_toArray, List.set_cons_zero, List.set_cons_succ]
            clear hS37
            refine anyU_done (by kernel_rfl) ?_ _
            go_wp2_with fail
            go_roundw
            case rel => exact ⟨m + 1, by omega, by go_num, Lib.hid (by rw [HCY.out]; exact HO5.out), HB5⟩
            case measure => simp [intOf]; omega
          obtain rfl : m = (nthL N.ends v).length := by omega
          have HCR2 := Lib.hid (show cutRows N kp (v + 1) = rows ++ [castL (cutP N kp v (nthL N.ends v).length)] by rw [cutRows_succ, HRS.out, cutP_row HG.out hvn _ (Nat.le_refl _)])
          obtain ⟨l, HL⟩ : ∃ l, Hid (cutP N kp v (nthL N.ends v).length = l) := ⟨_, Lib.hid rfl⟩
          rw [HL.out] at HOE HCR2 hpl hcu
          rw [HL.out]
          have HOE2 := Lib.hid (show EndS wu wt.heap.size wu.heap.size (.slice Au l.length cu) (castL l) from HOE.out.ends)
          have HB2 := Lib.hid (BoxN.still HB.out (grown_below HBW.out))
          have HO2 := Lib.hid (OwnES.below HO.out HBW.out)
          have HF2 := Lib.hid (HF29.out.still (grown_below HBW.out))
          have hrw := HCR.out
          have hrl : rows.length ≤ 40 := by omega
          clear hrw HOE HB HO HBW HF29
          have ko0 : wu.cell? ⟨gO, 0, none⟩ = some (.slice AE rows.length cE) := HB2.out.cell 0 (by simp)
          have kof := HB2.out.frozen 0
          go_upto_region 26 with (at_builtin; refine append_es (s := .tmp 100) Try.underlying32 infoRowE (by decide) wu rfl _ rfl HO2.out HOE2.out htop (by omega) (by omega) (fun g e => .inl (by have := HLE.out g e; omega)) _ (by simp [Act.eval, go_sem]) (by simp [Act.eval, go_sem]) (by omega) ?_; intro vE2 w7 ho7 hg7 hat7; obtain ⟨A7, c7, hq7, _⟩ := ho7.len; simp only [List.length_append, List.length_cons, List.length_nil, Nat.zero_add] at hq7; subst hq7; have HO7 := Lib.hid ho7; have HG7 := Lib.hid hg7; have HB7 := Lib.hid (BoxN.far HB2.out hg7 (fun g e => by have := HLE.out g e; omega)); have ko7 : w7.cell? ⟨gO, 0, none⟩ = some (.slice AE rows.length cE) := HB7.out.cell 0 (by simp); have kof7 := HB7.out.frozen 0; clear ho7 hg7)
          clear ko0 kof ko7 kof7
          have hg7 := HG7.out
          have hs7 := hg7.size
          refine nameC ?_
          intro W80 HW80
          have hg80 : w7.grownBy W80 (some gO) := by rw [HW80.out]; exact grown_set _ ⟨gO, 0, none⟩ _
          have hs80 := hg80.size
          have HB80 := Lib.hid (show BoxN W80 gO #[.slice A7 (rows.length + 1) c7, .slice A8 n8 c8, .slice A9 n9 c9] 34 by rw [HW80.out]; exact HB7.out.set 0 _)
          have HO80 := Lib.hid (OwnES.far HO7.out hg80 (fun g e => by cases e; omega))
          have HF80 := Lib.hid ((HF2.out.grown hg7 (fun g e => .inr (by have := (HLE.out g e).1; omega))).grown hg80 (fun g e => .inr (by cases e; omega)))
          clear HW80 HB7 HO7 HF2 HB2 HO2
          go_wp2_with fail
          go_roundw
          case rel => exact ⟨v + 1, .slice A7 (rows.length + 1) c7, wu.heap.size, by omega, by go_num, HB80, Lib.hid (by rw [HCR2.out]; exact HO80.out), HF80⟩
          case measure => simp [intOf]; omega

end Go.Proofs.Ytcmmklcampmkjaa
