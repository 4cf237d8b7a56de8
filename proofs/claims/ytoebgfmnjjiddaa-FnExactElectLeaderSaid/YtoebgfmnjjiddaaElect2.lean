/-
  Contracts: ElectLeader (the reference).
-/
import Derived.Test.YtoebgfmnjjiddaaElect
import Derived.Test.YtoebgfmnjjiddaaWave2
import Derived.Test.YtoebgfmnjjiddaaBoolS
namespace Go.Proofs.Ytoebgfmnjjiddaa
open Go.ChangeShapes Go.WideShapes Go.ChangeAt Go.RowKit
set_option linter.unusedVariables false

theorem l1Least_any (a b : Int) (w : World) : Calls Try.prog 69 #[.int .i64 a, .int .i64 b] w fun e w' => e = .returned (.int .i64 (min a b)) ∧ w = w' := by
  by_cases h : a < b
  · go_enter Try.func69, Try.ntmps69
    go_wp2
    go_ret
    exact ⟨ret_int (by omega), rfl⟩
  · go_enter Try.func69, Try.ntmps69
    go_wp2
    go_ret
    exact ⟨ret_int (by omega), rfl⟩
theorem Try.infoBool' : (Try.prog.info? 4).map (fun i => (i.zero, i.size, i.bytes)) = some (some (.bool false), 1, 1) := by kernel_rfl

set_option maxHeartbeats 1000000 in
set_option maxRecDepth 100000 in
theorem ElectLeader_spec (v1 : Value) (N : NetD) (lo1 hi1 : Nat) (w : World) (h1 : Net w lo1 hi1 v1 N) (hh1 : hi1 ≤ w.heap.size) (hz1 : N.sz ≤ 1048576) (ok1 : N.Ok) :
    Calls Try.prog 28 #[v1] w fun e w' => e = .returned (.tuple #[.int .i64 (elLead N), .int .i64 (elRnd N : Nat), .int .i64 (elMsg N : Nat), .bool (electOk N)]) ∧ Below w.heap.size w w' := by
  clear ok1
  have F1 := Lib.hid h1
  obtain ⟨A1, c1, A1', c1', A1'', c1'', rfl, hc1, hd1, _⟩ := h1.parts
  clear h1
  obtain ⟨WA, HWA⟩ : ∃ W, Hid (W = (w.alloc (.cells #[.slice A1 N.ends.length c1, .slice A1' N.ids.length c1', .slice A1'' N.inputs.length c1''] 33))) := ⟨_, Lib.hid rfl⟩
  have hbA : Below w.heap.size w WA := by rw [HWA.out]; exact ((Below.refl _ _).alloc (Nat.le_refl _) _)
  have hsA : w.heap.size + 1 ≤ WA.heap.size := by rw [HWA.out]; simp; try omega
  have bx1 : BoxN WA (w.heap.size) #[.slice A1 N.ends.length c1, .slice A1' N.ids.length c1', .slice A1'' N.inputs.length c1''] 33 := by rw [HWA.out]; exact (BoxN.new' _ _ _ (by simp))
  have G1 := Lib.hid (Net.below F1.out hbA hh1); clear F1
  go_enter Try.func28, Try.ntmps28
  go_upto_region 1 with (fail)
  rw [← HWA.out]; clear HWA
  have kbx1_0 : WA.cell? ⟨w.heap.size, 0, none⟩ = some (.slice A1 N.ends.length c1) := bx1.cell 0 (by simp)
  have kbx1_1 : WA.cell? ⟨w.heap.size, 1, none⟩ = some (.slice A1' N.ids.length c1') := bx1.cell 1 (by simp)
  have kbx1_2 : WA.cell? ⟨w.heap.size, 2, none⟩ = some (.slice A1'' N.inputs.length c1'') := bx1.cell 2 (by simp)
  go_wp2_with fail
  clear kbx1_0 kbx1_1 kbx1_2
  refine (neGood_any _ N lo1 hi1 _ G1.out (by omega) hz1).mono ?_
  rintro e W1 ⟨rfl, hb1⟩
  have hg1 := grown_below hb1; clear hb1
  have hs1 := hg1.size
  have HF1 := Lib.hid ((Turned.refl WA.heap.size WA.heap.size WA).still hg1)
  by_cases hg : N.good = true
  case neg =>
    have hg' : N.good = false := by simpa using hg
    rw [hg']
    have HG := Lib.hid hg'; clear hg hg'
    go_wp2_with fail
    ((try simp only [Exit.inBlock, Exit.then]); refine bodyPost_ret (results_tmp4 rfl _ _ _) rfl ?_)
    exact ⟨ret_iiib' (elNo (show electOk N = false by unfold electOk; rw [HG.out]; rfl)).1.symm (by rw [(elNo (show electOk N = false by unfold electOk; rw [HG.out]; rfl)).2.1]; rfl) (by rw [(elNo (show electOk N = false by unfold electOk; rw [HG.out]; rfl)).2.2]; rfl) (show electOk N = false by unfold electOk; rw [HG.out]; rfl).symm, (HF1.out.below_of hbA (by omega) (by omega))⟩
  rw [hg]
  have HG := Lib.hid hg; clear hg
  obtain ⟨n1, n40⟩ := good_n HG.out
  obtain ⟨b1, o1, _, _, rfl, _⟩ := Net.rowAt (Net.turned G1.out HF1.out (by omega) (by omega)) (u := 0) (by omega)
  by_cases hi0 : N.ids.length = 0
  case pos =>
    have hi0' : ((N.ids.length : Int) == 0) = true := by simp; exact List.eq_nil_of_length_eq_zero hi0
    have HNO := Lib.hid (show electOk N = false by unfold electOk; rw [HG.out, decide_eq_true hi0]; rfl)
    clear hi0
    have kbx1_0 : W1.cell? ⟨w.heap.size, 0, none⟩ = some (.slice (some ⟨b1, o1, none⟩) N.ends.length c1) := (HF1.out.boxN bx1 (by omega)).cell 0 (by simp)
    have kbx1_1 : W1.cell? ⟨w.heap.size, 1, none⟩ = some (.slice A1' N.ids.length c1') := (HF1.out.boxN bx1 (by omega)).cell 1 (by simp)
    have kbx1_2 : W1.cell? ⟨w.heap.size, 2, none⟩ = some (.slice A1'' N.inputs.length c1'') := (HF1.out.boxN bx1 (by omega)).cell 2 (by simp)
    go_wp2_with fail
    ((try simp only [Exit.inBlock, Exit.then]); refine bodyPost_ret (results_tmp4 rfl _ _ _) rfl ?_)
    exact ⟨ret_iiib' (elNo (HNO.out)).1.symm (by rw [(elNo (HNO.out)).2.1]; rfl) (by rw [(elNo (HNO.out)).2.2]; rfl) (HNO.out).symm, (HF1.out.below_of hbA (by omega) (by omega))⟩
  have hi0' : ((N.ids.length : Int) == 0) = false := by simp; intro h; exact hi0 (by rw [h]; rfl)
  have HEL := Lib.hid (good_ids HG.out hi0)
  have HI0 := Lib.hid (decide_eq_false hi0)
  clear hi0
  have kbx1_0 : W1.cell? ⟨w.heap.size, 0, none⟩ = some (.slice (some ⟨b1, o1, none⟩) N.ends.length c1) := (HF1.out.boxN bx1 (by omega)).cell 0 (by simp)
  have kbx1_1 : W1.cell? ⟨w.heap.size, 1, none⟩ = some (.slice A1' N.ids.length c1') := (HF1.out.boxN bx1 (by omega)).cell 1 (by simp)
  have kbx1_2 : W1.cell? ⟨w.heap.size, 2, none⟩ = some (.slice A1'' N.inputs.length c1'') := (HF1.out.boxN bx1 (by omega)).cell 2 (by simp)
  go_wp2_with fail
  clear kbx1_0 kbx1_1 kbx1_2
  refine (coConnected_any _ N lo1 hi1 _ (Net.turned G1.out HF1.out (by omega) (by omega)) (by omega) HG.out).mono ?_
  rintro e W2 ⟨rfl, hb2⟩
  have hg2 := grown_below hb2; clear hb2
  have hs2 := hg2.size
  have HF2 := Lib.hid (HF1.out.still hg2); clear HF1
  cases hc : conn N with
  | false =>
    have HNO := Lib.hid (show electOk N = false by unfold electOk; rw [HG.out, hc, HI0.out]; rfl)
    clear hc
    go_wp2_with fail
    ((try simp only [Exit.inBlock, Exit.then]); refine bodyPost_ret (results_tmp4 rfl _ _ _) rfl ?_)
    exact ⟨ret_iiib' (elNo (HNO.out)).1.symm (by rw [(elNo (HNO.out)).2.1]; rfl) (by rw [(elNo (HNO.out)).2.2]; rfl) (HNO.out).symm, (HF2.out.below_of hbA (by omega) (by omega))⟩
  | true =>
    have HC := Lib.hid hc; clear hc
    have HOK := Lib.hid (show electOk N = true by unfold electOk; rw [HG.out, HC.out, HI0.out]; rfl)
    have kbx1_0 : W2.cell? ⟨w.heap.size, 0, none⟩ = some (.slice (some ⟨b1, o1, none⟩) N.ends.length c1) := (HF2.out.boxN bx1 (by omega)).cell 0 (by simp)
    have kbx1_1 : W2.cell? ⟨w.heap.size, 1, none⟩ = some (.slice A1' N.ids.length c1') := (HF2.out.boxN bx1 (by omega)).cell 1 (by simp)
    have kbx1_2 : W2.cell? ⟨w.heap.size, 2, none⟩ = some (.slice A1'' N.inputs.length c1'') := (HF2.out.boxN bx1 (by omega)).cell 2 (by simp)
    go_wp2_with fail
    clear kbx1_0 kbx1_1 kbx1_2
    obtain ⟨_, _, _, _, _, _, hve, _, _, hI, _, _⟩ := Net.parts (Net.turned G1.out HF2.out (by omega) (by omega))
    injection hve with hve
    have hve2 := congrArg (fun x => x.getD 1 undef) hve
    simp at hve2
    obtain ⟨e1x, e2x⟩ := hve2
    subst e1x; subst e2x
    have HIDS := Lib.hid hI; clear hI hve
    refine (l1Own_any _ N.ids _ _ _ HIDS.out (by omega) (by have := HEL.out.len; omega) (by have := HEL.out.len; omega)).mono ?_
    rintro e W3 ⟨rk, rfl, hrk, hb3⟩
    have hg3 := grown_below hb3; clear hb3
    have hs3 := hg3.size
    have HF3 := Lib.hid (HF2.out.still hg3); clear HF2
    clear HIDS
    have KN3 := Lib.hid hrk; clear hrk
    have hil := HEL.out.len
    obtain ⟨Ak, ck, rfl, hck, hdk⟩ := KN3.out.dims
    rw [hil] at hck KN3 ⊢
    clear hil
    have hmk := fun W => run_make_row' (P := Try.prog) 83 4 (.bool false) 1 Try.underlying83 Try.infoBool' rfl .i64 .i64 N.ends.length (by omega) (by omega) W
    go_upto_region 5 with (fail)
    refine nameC ?_
    intro W4 HW4
    have hg4 : W3.grownBy W4 none := by rw [HW4.out]; exact grown_alloc _ _
    have hs4 := hg4.size
    have HF4 := Lib.hid (HF3.out.still hg4); clear HF3
    have KN4 := Lib.hid (IntS.still KN3.out hg4 (by omega)); clear KN3
    have FB := Lib.hid (show BoolS W4 W3.heap.size (W3.heap.size + 1) (.slice (some ⟨W3.heap.size, 0, none⟩) N.ends.length N.ends.length) (List.replicate N.ends.length false) by rw [HW4.out]; exact made_bools _ _ _ rfl (by omega))
    have hzf : W3.heap.size + 1 ≤ W4.heap.size := by rw [HW4.out]; simp
    clear HW4 hmk
    go_wp2_with fail
    go_loopw [40] (fun iv wr => ∃ (k : Nat) (bs : List Bool), k ≤ N.ends.length ∧ iv = .int .i64 k ∧ Hid (BoolS wr W3.heap.size (W3.heap.size + 1) (.slice (some ⟨W3.heap.size, 0, none⟩) N.ends.length N.ends.length) bs) ∧ Hid (bs.length = N.ends.length) ∧ Hid (∀ j, j < k → nthB bs j = true) ∧ Hid (IntS wr W2.heap.size W3.heap.size (.slice Ak N.ends.length ck) N.ids) ∧ W3.heap.size + 1 ≤ wr.heap.size ∧ Hid (Turned WA.heap.size WA.heap.size WA wr)) (fun iv _ => N.ends.length - (intOf iv).toNat)
    case atStart => exact ⟨0, List.replicate N.ends.length false, Nat.zero_le _, rfl, FB, Lib.hid (by simp), Lib.hid fun j hj => absurd hj (by omega), KN4, hzf, HF4⟩
    case round =>
      clear HF4
      obtain ⟨k, bs, hk, rfl, HFB, HL, HBT, HKN, hz, HF5⟩ := hrel
      have hs5 := HF5.out.size
      by_cases hlt : k < N.ends.length
      case pos =>
        obtain ⟨y1, y2⟩ := HFB.out.at0 (j := k) (by rw [HL.out]; exact hlt)
        have HS := Lib.hid (HFB.out.set0 (j := k) (by rw [HL.out]; exact hlt) true)
        obtain ⟨yb, HYB⟩ : ∃ y, Hid (nthB bs k = y) := ⟨_, Lib.hid rfl⟩
        rw [HYB.out] at y1
        have hki : (k : Int) < N.ends.length := by omega
        have hgs := grown_set wr ⟨W3.heap.size, k, none⟩ (.bool true)
        have HKN2 := Lib.hid (IntS.far HKN.out hgs (by omega) (fun g hg => by injection hg with hg; subst hg; show W3.heap.size < _ ∨ _ ≤ W3.heap.size; omega))
        have HFN := Lib.hid (HF5.out.grown hgs (fun g hg => by injection hg with hg; subst hg; right; show _ ≤ W3.heap.size; omega))
        go_wp2_with fail
        go_roundw
        case rel =>
          refine ⟨k + 1, _, by omega, by go_num, HS, Lib.hid (by rw [List.length_set]; exact HL.out), Lib.hid fun j hj => ?_, HKN2, by rw [size_setCell]; omega, HFN⟩
          rw [nthB_set _ _ _ _ (by rw [HL.out]; exact hlt)]
          by_cases e : j = k
          · rw [if_pos e]
          · rw [if_neg e]; exact HBT.out j (by omega)
        case measure => simp [intOf]; omega
      obtain rfl : k = N.ends.length := by omega
      go_wp2_with fail
      go_loopw [6, 9, 10] (fun kv rv mv wr => ∃ (r m lk hk : Nat) (p : Nat → Bool) (kn : List Int) (bs : List Bool), rv = .int .i64 r ∧ mv = .int .i64 m ∧ Hid (IntS wr lk hk kv kn) ∧ hk ≤ wr.heap.size ∧ (hk ≤ W3.heap.size ∨ W3.heap.size + 1 ≤ lk) ∧ Hid (BoolS wr W3.heap.size (W3.heap.size + 1) (.slice (some ⟨W3.heap.size, 0, none⟩) N.ends.length N.ends.length) bs) ∧ Hid (bs.length = N.ends.length) ∧ Hid (∀ j, j < N.ends.length → nthB bs j = p j) ∧ Hid (ETop N kn p r m) ∧ W3.heap.size + 1 ≤ wr.heap.size ∧ Hid (Turned WA.heap.size WA.heap.size WA wr)) (fun kv rv mv _ => 80000001 - (intOf rv).toNat)
      case atStart => exact ⟨0, 0, W2.heap.size, W3.heap.size, fun _ => true, N.ids, bs, rfl, rfl, HKN, by omega, by omega, HFB, HL, HBT, Lib.hid (ETop.zero HG.out HEL.out), by omega, HF5⟩
      case round =>
        clear HF5
        obtain ⟨r, m, lk, hk, p, kn, bs, rfl, rfl, HKN, hkw, hkw2, HFB, HL, HBP, HT, hz, HF6⟩ := hrel
        have hs6 := HF6.out.size
        have hcap := HT.out.cap
        have hmsg := HT.out.msg
        have hkl := HT.out.el.len
        have hcn := cntP_le p N.ends.length
        have hes := Lib.hid (fun (a : Nat) (ha : a ≤ (sndOf N.ends.length p).length) => elSent_le HG.out p ha)
        obtain ⟨Ak, ck, rfl, hck, hdk⟩ := HKN.out.dims
        obtain ⟨bk, ok, rfl, lbk, hbk, _, _⟩ := HKN.out.opened (j := 0) (by omega)
        have HCL := Lib.hid (fun k (hk : k ≤ N.ends.length) => show cntP p k ≤ (sndOf N.ends.length p).length by
          rw [snd_len]
          unfold cntP
          have : List.range N.ends.length = List.range k ++ (List.range (N.ends.length - k)).map (k + ·) := by rw [← List.range_add]; congr 1; omega
          rw [this, List.filter_append, List.length_append]; omega)
        rw [hkl] at hck HKN
        obtain ⟨wq, rfl⟩ : ∃ wq : World, wq = wr := ⟨_, rfl⟩
        go_wp2_with fail
        refine (l1Own_any _ kn _ _ _ HKN.out (by omega) (by omega) (by omega)).mono ?_
        rintro e W7 ⟨rn, rfl, hrn, hb7⟩
        have hg7 := grown_below hb7; clear hb7
        have hs7 := hg7.size
        have HF7 := Lib.hid (HF6.out.still hg7); clear HF6
        have KN7 := Lib.hid (IntS.still HKN.out hg7 (by omega)); clear HKN
        have FB7 := Lib.hid (BoolS.still HFB.out hg7 (by omega)); clear HFB
        have NX7 := Lib.hid hrn; clear hrn
        obtain ⟨An, cn, rfl, hcn2, hdn⟩ := NX7.out.dims
        obtain ⟨bn, on, rfl, lbn, hbn, _, _⟩ := NX7.out.opened (j := 0) (by omega)
        rw [hkl] at hcn2 NX7
        try rw [hkl]
        have kbx1_0 : W7.cell? ⟨w.heap.size, 0, none⟩ = some (.slice (some ⟨b1, o1, none⟩) N.ends.length c1) := (HF7.out.boxN bx1 (by omega)).cell 0 (by simp)
        have kbx1_1 : W7.cell? ⟨w.heap.size, 1, none⟩ = some (.slice A1' N.ids.length c1') := (HF7.out.boxN bx1 (by omega)).cell 1 (by simp)
        have kbx1_2 : W7.cell? ⟨w.heap.size, 2, none⟩ = some (.slice A1'' N.inputs.length c1'') := (HF7.out.boxN bx1 (by omega)).cell 2 (by simp)
        go_wp2_with fail
        clear kbx1_0 kbx1_1 kbx1_2
        go_loopw [52, 11] (fun iv cv wr => ∃ (k : Nat), k ≤ N.ends.length ∧ iv = .int .i64 k ∧ cv = .int .i64 (elSentA N (sndOf N.ends.length p) (cntP p k) : Nat) ∧ Hid (IntS wr wq.heap.size W7.heap.size (.slice (some ⟨bn, on, none⟩) N.ends.length cn) (tellA N kn (sndOf N.ends.length p) (cntP p k))) ∧ Hid (IntS wr lk hk (.slice (some ⟨bk, ok, none⟩) N.ends.length ck) kn) ∧ Hid (BoolS wr W3.heap.size (W3.heap.size + 1) (.slice (some ⟨W3.heap.size, 0, none⟩) N.ends.length N.ends.length) bs) ∧ W7.heap.size ≤ wr.heap.size ∧ Hid (Turned WA.heap.size WA.heap.size WA wr)) (fun iv cv _ => N.ends.length - (intOf iv).toNat)
        case atStart => exact ⟨0, Nat.zero_le _, rfl, rfl, NX7, KN7, FB7, Nat.le_refl _, HF7⟩
        case round =>
          clear HF7
          obtain ⟨k, hk9, rfl, rfl, HNX, HKN, HFB, hz2, HF8⟩ := hrel
          have hs8 := HF8.out.size
          have hcl := HCL.out k hk9
          have hea := hes.out (cntP p k) hcl
          have hck2 := cntP_le p k
          have hal := elAt_len HG.out HT.out.el p hcl
          by_cases hlt : k < N.ends.length
          case pos =>
            have hki : (k : Int) < N.ends.length := by omega
            have hd6 := good_deg HG.out hlt
            obtain ⟨y1, _⟩ := HFB.out.at0 (j := k) (by rw [HL.out]; exact hlt)
            rw [HBP.out k hlt] at y1
            have HCS := Lib.hid (cntP_succ p k)
            obtain ⟨Ar, cr, hbr, qr, hcr, hdr, hRr⟩ := Net.rowIn G1.out hlt
            replace qr := (HF8.out.cell (by omega) (by omega)).trans qr
            have Rr := Lib.hid hRr; clear hRr
            cases hpk : p k with
            | false =>
              rw [hpk] at y1
              have HCE := Lib.hid (show cntP p (k + 1) = cntP p k by rw [HCS.out, hpk]; rfl)
              clear hpk
              go_wp2_with fail
              go_roundw
              case rel => exact ⟨k + 1, by omega, by go_num, by rw [HCE.out], by rw [HCE.out]; exact HNX, HKN, HFB, by omega, HF8⟩
              case measure => simp [intOf]; omega
            | true =>
              rw [hpk] at y1
              have HCE := Lib.hid (show cntP p (k + 1) = cntP p k + 1 by rw [HCS.out, hpk]; rfl)
              obtain ⟨q1x, q2x⟩ := snd_at hlt hpk
              have HEV := Lib.hid q2x
              clear hpk q2x
              have HSA := Lib.hid (show elSentA N (sndOf N.ends.length p) (cntP p k + 1) = elSentA N (sndOf N.ends.length p) (cntP p k) + (nthL N.ends k).length by unfold elSentA; rw [sumN, HEV.out, Int.toNat_natCast])
              have HTA := Lib.hid (show tellA N kn (sndOf N.ends.length p) (cntP p k + 1) = tellK N kn k (tellA N kn (sndOf N.ends.length p) (cntP p k)) (nthL N.ends k).length by rw [tellA, HEV.out, Int.toNat_natCast])
              have HAO := Lib.hid (tellA_ok HG.out HT.out.el (p := p) _ hcl).1
              go_wp2_with fail
              clear qr y1
              go_loopw [64, 11] (fun iv cv wr => ∃ (i : Nat), i ≤ (nthL N.ends k).length ∧ iv = .int .i64 i ∧ cv = .int .i64 (elSentA N (sndOf N.ends.length p) (cntP p k) + i : Nat) ∧ Hid (IntS wr wq.heap.size W7.heap.size (.slice (some ⟨bn, on, none⟩) N.ends.length cn) (tellK N kn k (tellA N kn (sndOf N.ends.length p) (cntP p k)) i)) ∧ Hid (IntS wr lk hk (.slice (some ⟨bk, ok, none⟩) N.ends.length ck) kn) ∧ Hid (BoolS wr W3.heap.size (W3.heap.size + 1) (.slice (some ⟨W3.heap.size, 0, none⟩) N.ends.length N.ends.length) bs) ∧ W7.heap.size ≤ wr.heap.size ∧ Hid (Turned WA.heap.size WA.heap.size WA wr)) (fun iv cv _ => (nthL N.ends k).length - (intOf iv).toNat)
              case atStart => exact ⟨0, Nat.zero_le _, rfl, by go_num, HNX, HKN, HFB, hz2, HF8⟩
              case round =>
                clear HF8
                obtain ⟨i, hi, rfl, rfl, HNX, HKN, HFB, hz2, HF9⟩ := hrel
                have hs9 := HF9.out.size
                have hkl2 := (tellK_ok HG.out HT.out.el HAO.out hlt i hi).1.len
                by_cases hil : i < (nthL N.ends k).length
                case neg =>
                  obtain rfl : i = (nthL N.ends k).length := by omega
                  have HNN : Hid (IntS wr wq.heap.size W7.heap.size (.slice (some ⟨bn, on, none⟩) N.ends.length cn) (tellA N kn (sndOf N.ends.length p) (cntP p (k + 1)))) := by rw [HCE.out, HTA.out]; exact HNX
                  go_wp2_with fail
                  go_roundw
                  case rel => exact ⟨k + 1, by omega, by go_num, by rw [HCE.out, HSA.out], HNN, HKN, HFB, by omega, HF9⟩
                  case measure => simp [intOf]; omega
                obtain ⟨br, or, rfl, _, hbr', er, er'⟩ := (EndS.turned Rr.out HF9.out (by omega) (by omega)).opened hil
                obtain ⟨t, r, etr, ht, hr, eur⟩ := good_end HG.out hlt hil
                rw [etr] at er er'
                dsimp only at er er'
                have ETr := Lib.hid etr
                have EUr := Lib.hid eur
                clear etr eur
                go_upto_region 20 with (fail)
                refine nameC ?_
                intro W10 HW10
                have hg10 : wr.grownBy W10 none := by rw [HW10.out]; exact grown_alloc _ _
                have hs10 := hg10.size
                have HF10 := Lib.hid (HF9.out.still hg10); clear HF9
                have NX10 := Lib.hid (IntS.still HNX.out hg10 (by omega)); clear HNX
                have KN10 := Lib.hid (IntS.still HKN.out hg10 (by omega)); clear HKN
                have FB10 := Lib.hid (BoolS.still HFB.out hg10 (by omega)); clear HFB
                have bxe10 := Lib.hid (show BoxN W10 wr.heap.size #[.int .i64 t, .int .i64 r] 74 by rw [HW10.out]; exact BoxN.new _ _ _)
                clear HW10
                clear er er'
                have HPN := Lib.hid (show portNode N k i = t by unfold portNode; rw [ETr.out]; simp)
                obtain ⟨l, HLL⟩ : ∃ l, Hid (tellK N kn k (tellA N kn (sndOf N.ends.length p) (cntP p k)) i = l) := ⟨_, Lib.hid rfl⟩
                have HTK := Lib.hid (show tellK N kn k (tellA N kn (sndOf N.ends.length p) (cntP p k)) (i + 1) = l.set t (min (nth l t) (nth kn k)) by rw [tellK, HPN.out, HLL.out])
                rw [HLL.out] at NX10 hkl2
                have hti : (t : Int) < N.ends.length := by omega
                obtain ⟨yt, HYT⟩ : ∃ y, Hid (nth l t = y) := ⟨_, Lib.hid rfl⟩
                obtain ⟨yv, HYV⟩ : ∃ y, Hid (nth kn k = y) := ⟨_, Lib.hid rfl⟩
                obtain ⟨mn, HMN⟩ : ∃ y, Hid (min yt yv = y) := ⟨_, Lib.hid rfl⟩
                rw [HYT.out, HYV.out, HMN.out] at HTK
                go_wp2_with fail
                refine wp_region_U (fun w' => w'.cell? ⟨wr.heap.size, 0, none⟩ = some (.int .i64 t) ∧ w'.cell? ⟨bn, on + t, none⟩ = some (.int .i64 yt) ∧ w'.cell? ⟨bk, ok + k, none⟩ = some (.int .i64 yv)) [13, 14] (by kernel_rfl) ?_
                refine nameU ?_
                intro W11 HW11
                have hg11 : W10.grownBy W11 none := by rw [HW11.out]; exact grown_drew _
                clear HW11
                have hs11 := hg11.size
                have HF11 := Lib.hid (HF10.out.still hg11); clear HF10
                have NX11 := Lib.hid (IntS.still NX10.out hg11 (by omega)); clear NX10
                have KN11 := Lib.hid (IntS.still KN10.out hg11 (by omega)); clear KN10
                have FB11 := Lib.hid (BoolS.still FB10.out hg11 (by omega)); clear FB10
                have bxe11 := Lib.hid (BoxN.still bxe10.out hg11); clear bxe10
                have hS12 : W11.cell? ⟨wr.heap.size, 0, none⟩ = some (.int .i64 t) ∧ W11.cell? ⟨bn, on + t, none⟩ = some (.int .i64 yt) ∧ W11.cell? ⟨bk, ok + k, none⟩ = some (.int .i64 yv) := ⟨bxe11.out.cell 0 (by simp), (by have := (IntS.at_ NX11.out (j := t) (by rw [hkl2]; exact ht)).1; rw [HYT.out] at this; exact this), (by have := (IntS.at_ KN11.out (j := k) (by rw [hkl]; exact hlt)).1; rw [HYV.out] at this; exact this)⟩
                refine anyU_take (i := 0) (v := .slice (some ⟨bn, on, none⟩) N.ends.length cn) rfl (by kernel_rfl) (by kernel_rfl) (by kernel_rfl) (fun _ _ _ h => h) ⟨by rfl, fun w' hS' => (by obtain ⟨s1, s2, s3⟩ := hS'; go_simp)⟩ hS12 ?_
                simp only [List.getElem_toArray, List.getElem_cons_zero, Act.put, List.setIfInBounds_toArray, List.set_cons_zero, List.set_cons_succ]
                refine anyU_take (i := 1) (v := .pointer (some ⟨wr.heap.size, 0, none⟩)) rfl (by kernel_rfl) (by kernel_rfl) (by kernel_rfl) (fun _ _ _ h => h) ⟨by rfl, fun w' hS' => (by obtain ⟨s1, s2, s3⟩ := hS'; go_simp)⟩ hS12 ?_
                simp only [List.getElem_toArray, List.getElem_cons_succ, List.getElem_cons_zero, Act.put, List.setIfInBounds_toArray, List.set_cons_zero, List.set_cons_succ]
                refine anyU_take (i := 2) (v := .int .i64 t) rfl (by kernel_rfl) (by kernel_rfl) (by kernel_rfl) (fun _ _ _ h => h) ⟨by rfl, fun w' hS' => (by obtain ⟨s1, s2, s3⟩ := hS'; go_simp)⟩ hS12 ?_
                simp only [List.getElem_toArray, List.getElem_cons_succ, List.getElem_cons_zero, Act.put, List.setIfInBounds_toArray, List.set_cons_zero, List.set_cons_succ]
                refine anyU_take (i := 3) (v := .slice (some ⟨bn, on, none⟩) N.ends.length cn) rfl (by kernel_rfl) (by kernel_rfl) (by kernel_rfl) (fun _ _ _ h => h) ⟨by rfl, fun w' hS' => (by obtain ⟨s1, s2, s3⟩ := hS'; go_simp)⟩ hS12 ?_
                simp only [List.getElem_toArray, List.getElem_cons_succ, List.getElem_cons_zero, Act.put, List.setIfInBounds_toArray, List.set_cons_zero, List.set_cons_succ]
                refine anyU_take (i := 4) (v := .pointer (some ⟨wr.heap.size, 0, none⟩)) rfl (by kernel_rfl) (by kernel_rfl) (by kernel_rfl) (fun _ _ _ h => h) ⟨by rfl, fun w' hS' => (by obtain ⟨s1, s2, s3⟩ := hS'; go_simp)⟩ hS12 ?_
                simp only [List.getElem_toArray, List.getElem_cons_succ, List.getElem_cons_zero, Act.put, List.setIfInBounds_toArray, List.set_cons_zero, List.set_cons_succ]
                refine anyU_take (i := 5) (v := .int .i64 t) rfl (by kernel_rfl) (by kernel_rfl) (by kernel_rfl) (fun _ _ _ h => h) ⟨by rfl, fun w' hS' => (by obtain ⟨s1, s2, s3⟩ := hS'; go_simp)⟩ hS12 ?_
                simp only [List.getElem_toArray, List.getElem_cons_succ, List.getElem_cons_zero, Act.put, List.setIfInBounds_toArray, List.set_cons_zero, List.set_cons_succ]
                refine anyU_take (i := 6) (v := .pointer (some ⟨bn, on + t, none⟩)) rfl (by kernel_rfl) (by kernel_rfl) (by kernel_rfl) (fun _ _ _ h => h) ⟨by rfl, fun w' hS' => (by obtain ⟨s1, s2, s3⟩ := hS'; simp [go_sem, hti])⟩ hS12 ?_
                simp only [List.getElem_toArray, List.getElem_cons_succ, List.getElem_cons_zero, Act.put, List.setIfInBounds_toArray, List.set_cons_zero, List.set_cons_succ]
                refine anyU_take (i := 7) (v := .int .i64 yt) rfl (by kernel_rfl) (by kernel_rfl) (by kernel_rfl) (fun _ _ _ h => h) ⟨by rfl, fun w' hS' => (by obtain ⟨s1, s2, s3⟩ := hS'; go_simp)⟩ hS12 ?_
                simp only [List.getElem_toArray, List.getElem_cons_succ, List.getElem_cons_zero, Act.put, List.setIfInBounds_toArray, List.set_cons_zero, List.set_cons_succ]
                refine anyU_take (i := 8) (v := .slice (some ⟨bk, ok, none⟩) N.ends.length ck) rfl (by kernel_rfl) (by kernel_rfl) (by kernel_rfl) (fun _ _ _ h => h) ⟨by rfl, fun w' hS' => (by obtain ⟨s1, s2, s3⟩ := hS'; go_simp)⟩ hS12 ?_
                simp only [List.getElem_toArray, List.getElem_cons_succ, List.getElem_cons_zero, Act.put, List.setIfInBounds_toArray, List.set_cons_zero, List.set_cons_succ]
                refine anyU_take (i := 9) (v := .int .i64 k) rfl (by kernel_rfl) (by kernel_rfl) (by kernel_rfl) (fun _ _ _ h => h) ⟨by rfl, fun w' hS' => (by obtain ⟨s1, s2, s3⟩ := hS'; go_simp)⟩ hS12 ?_
                simp only [List.getElem_toArray, List.getElem_cons_succ, List.getElem_cons_zero, Act.put, List.setIfInBounds_toArray, List.set_cons_zero, List.set_cons_succ]
                refine anyU_take (i := 10) (v := .pointer (some ⟨bk, ok + k, none⟩)) rfl (by kernel_rfl) (by kernel_rfl) (by kernel_rfl) (fun _ _ _ h => h) ⟨by rfl, fun w' hS' => (by obtain ⟨s1, s2, s3⟩ := hS'; simp [go_sem, hki])⟩ hS12 ?_
                simp only [List.getElem_toArray, List.getElem_cons_succ, List.getElem_cons_zero, Act.put, List.setIfInBounds_toArray, List.set_cons_zero, List.set_cons_succ]
                refine anyU_take (i := 11) (v := .int .i64 yv) rfl (by kernel_rfl) (by kernel_rfl) (by kernel_rfl) (fun _ _ _ h => h) ⟨by rfl, fun w' hS' => (by obtain ⟨s1, s2, s3⟩ := hS'; go_simp)⟩ hS12 ?_
                simp only [List.getElem_toArray, List.getElem_cons_succ, List.getElem_cons_zero, Act.put, List.setIfInBounds_toArray, List.set_cons_zero, List.set_cons_succ]
                refine anyU_ready (rs := [12]) (by kernel_rfl) (by simp) ?_
                refine ReadyU.cons (i := 12) rfl (fun K hK => ?_) ReadyU.nil
                simp only [List.getElem_toArray, List.getElem_cons_succ, List.getElem_cons_zero]
                refine ite_is (by rfl) ?_
                simp [go_sem]
                refine (l1Least_any _ _ _).mono ?_
                rintro e w' ⟨rfl, rfl⟩
                rw [HMN.out]
                refine hK.out _ _ ⟨fun _ => hS12, ?_⟩
                clear hK K
                try simp only [List.getElem_toArray, List.getElem_cons_succ, List.getElem_cons_zero, Act.put, List.setIfInBounds_toArray, List.set_cons_zero, List.set_cons_succ]
                refine anyU_ready (rs := [13]) (by kernel_rfl) (by simp) ?_
                refine ReadyU.cons (i := 13) rfl (fun K hK => ?_) ReadyU.nil
                simp only [List.getElem_toArray, List.getElem_cons_succ, List.getElem_cons_zero]
                refine ite_is (by rfl) ?_
                simp [go_sem, hti]
                refine hK.out _ _ ⟨fun h => absurd h (by decide), ?_⟩
                clear hK K
                try simp only [List.getElem_toArray, List.getElem_cons_succ, List.getElem_cons_zero, Act.put, List.setIfInBounds_toArray, List.set_cons_zero, List.set_cons_succ]
                have x3d : W11.cell? ⟨bn, on + t, none⟩ = some (.int .i64 yt) := by have := (IntS.at_ NX11.out (j := t) (by rw [hkl2]; exact ht)).1; rw [HYT.out] at this; exact this
                have x3e := (IntS.at_ NX11.out (j := t) (by rw [hkl2]; exact ht)).2
                have HSX := Lib.hid (IntS.set NX11.out (j := t) (by rw [hkl2]; exact ht) mn)
                refine anyU_ready (rs := [14]) (by kernel_rfl) (by simp) ?_
                refine ReadyU.cons (i := 14) rfl (fun K hK => ?_) ReadyU.nil
                simp only [List.getElem_toArray, List.getElem_cons_succ, List.getElem_cons_zero]
                refine ite_is (by rfl) ?_
                simp [go_sem, x3d, x3e]
                refine hK.out _ _ ⟨fun h => absurd h (by decide), ?_⟩
                clear hK K
                try simp only [List.getElem_toArray, List.getElem_cons_succ, List.getElem_cons_zero, Act.put, List.setIfInBounds_toArray, List.set_cons_zero, List.set_cons_succ]
                refine nameU ?_
                intro W13 HW13
                have hg13 : W11.grownBy W13 (some bn) := by rw [HW13.out]; exact grown_set _ _ _
                have hs13 := hg13.size
                have HF13 := Lib.hid (HF11.out.grown hg13 (fun g hg => by cases hg; omega)); clear HF11
                have KN13 := Lib.hid (IntS.far KN11.out hg13 (by omega) (fun g hg => by cases hg; omega)); clear KN11
                have FB13 := Lib.hid (BoolS.far FB11.out hg13 (by omega) (fun g hg => by cases hg; omega)); clear FB11
                have bxe13 := Lib.hid (BoxN.far bxe11.out hg13 (fun g hg => by cases hg; omega)); clear bxe11
                have HNN : Hid (IntS W13 wq.heap.size W7.heap.size (.slice (some ⟨bn, on, none⟩) N.ends.length cn) (tellK N kn k (tellA N kn (sndOf N.ends.length p) (cntP p k)) (i + 1))) := by rw [HW13.out, HTK.out]; exact HSX
                clear HW13 HSX x3d x3e NX11
                clear hS12
                refine anyU_done (by kernel_rfl) ?_ _
                go_wp2_with fail
                go_roundw
                case rel => exact ⟨i + 1, by omega, by go_num, by go_num, HNN, KN13, FB13, by omega, HF13⟩
                case measure => simp [intOf]; omega
          obtain rfl : k = N.ends.length := by omega
          obtain ⟨sn, HSE⟩ : ∃ y, Hid (elSent N (sndOf N.ends.length p) = y) := ⟨_, Lib.hid rfl⟩
          have hse : elSentA N (sndOf N.ends.length p) (cntP p N.ends.length) = sn := by rw [← snd_len]; exact HSE.out
          rw [hse] at hea ⊢
          have hNX : Hid (IntS wr wq.heap.size W7.heap.size (.slice (some ⟨bn, on, none⟩) N.ends.length cn) (elNext N kn (sndOf N.ends.length p))) := by unfold elNext; rw [snd_len]; exact HNX
          clear hse
          obtain ⟨y0, _⟩ := IntS.at_ HKN.out (j := 0) (by omega)
          obtain ⟨yk, HYK⟩ : ∃ y, Hid (nth kn 0 = y) := ⟨_, Lib.hid rfl⟩
          rw [HYK.out] at y0
          have hn0 : (0 : Int) < N.ends.length := by omega
          by_cases hs0 : sn = 0
          case pos =>
            have hs0' : ((sn : Int) == 0) = true := by simp; exact hs0
            have HST := Lib.hid (HT.out.stop (by rw [HSE.out]; exact hs0))
            have y0' : wr.cell? ⟨bk, ok, none⟩ = some (.int .i64 yk) := y0
            clear hs0
            go_wp2_with fail
            ((try simp only [Exit.inBlock, Exit.then]); refine bodyPost_ret (results_tmp4 rfl _ _ _) rfl ?_)
            exact ⟨ret_iiib' (by rw [(elYes HOK.out).1, HST.out, ← HYK.out]) (by rw [(elYes HOK.out).2.1, HST.out]) (by rw [(elYes HOK.out).2.2, HST.out]) HOK.out.symm, (HF8.out.below_of hbA (by omega) (by omega))⟩
          have hs0' : ((sn : Int) == 0) = false := by simp; exact hs0
          have HT2 := Lib.hid (HT.out.step HG.out (by rw [HSE.out]; exact hs0))
          rw [HSE.out] at HT2
          have hxl := (next_ok HG.out HT.out.el p).1.len
          obtain ⟨nx, HX⟩ : ∃ l, Hid (elNext N kn (sndOf N.ends.length p) = l) := ⟨_, Lib.hid rfl⟩
          rw [HX.out] at HT2 hNX hxl
          have hcap2 := HT2.out.cap
          clear hs0 HNX y0
          go_wp2_with fail
          go_loopw [100] (fun iv wr => ∃ (k : Nat) (bs' : List Bool), k ≤ N.ends.length ∧ iv = .int .i64 k ∧ Hid (IntS wr wq.heap.size W7.heap.size (.slice (some ⟨bn, on, none⟩) N.ends.length cn) (nx)) ∧ Hid (IntS wr lk hk (.slice (some ⟨bk, ok, none⟩) N.ends.length ck) kn) ∧ Hid (BoolS wr W3.heap.size (W3.heap.size + 1) (.slice (some ⟨W3.heap.size, 0, none⟩) N.ends.length N.ends.length) bs') ∧ W7.heap.size ≤ wr.heap.size ∧ Hid (bs'.length = N.ends.length) ∧ Hid (∀ j, j < k → nthB bs' j = freshP kn nx j) ∧ Hid (Turned WA.heap.size WA.heap.size WA wr)) (fun iv _ => N.ends.length - (intOf iv).toNat)
          case atStart => exact ⟨0, bs, Nat.zero_le _, rfl, hNX, HKN, HFB, by omega, HL, Lib.hid fun j hj => absurd hj (by omega), HF8⟩
          case round =>
            clear HF8
            obtain ⟨k, bs', hk9, rfl, HNX, HKN, HFB, hz2, HL2, HBF, HF14⟩ := hrel
            have hs14 := HF14.out.size
            by_cases hlt : k < N.ends.length
            case neg =>
              obtain rfl : k = N.ends.length := by omega
              go_wp2_with fail
              go_roundw
              case rel => exact ⟨r + 1, m + sn, wq.heap.size, W7.heap.size, freshP kn nx, nx, bs', by go_num, by go_num, HNX, by omega, by omega, HFB, HL2, HBF, HT2, by omega, HF14⟩
              case measure => simp [intOf]; omega
            have hki : (k : Int) < N.ends.length := by omega
            obtain ⟨ya, HYA⟩ : ∃ y, Hid (nth nx k = y) := ⟨_, Lib.hid rfl⟩
            obtain ⟨yb, HYB⟩ : ∃ y, Hid (nth kn k = y) := ⟨_, Lib.hid rfl⟩
            have HFP := Lib.hid (show freshP kn nx k = decide (ya < yb) by unfold freshP; rw [HYA.out, HYB.out])
            obtain ⟨bo, HBO⟩ : ∃ y, Hid (nthB bs' k = y) := ⟨_, Lib.hid rfl⟩
            go_wp2_with fail
            refine wp_region_U (fun w' => w'.cell? ⟨bn, on + k, none⟩ = some (.int .i64 ya) ∧ w'.cell? ⟨bk, ok + k, none⟩ = some (.int .i64 yb)) [11, 12] (by kernel_rfl) ?_
            refine nameU ?_
            intro W15 HW15
            have hg15 : wr.grownBy W15 none := by rw [HW15.out]; exact grown_drew _
            clear HW15
            have hs15 := hg15.size
            have HF15 := Lib.hid (HF14.out.still hg15); clear HF14
            have NX15 := Lib.hid (IntS.still HNX.out hg15 (by omega)); clear HNX
            have KN15 := Lib.hid (IntS.still HKN.out hg15 (by omega)); clear HKN
            have FB15 := Lib.hid (BoolS.still HFB.out hg15 (by omega)); clear HFB
            have hS16 : W15.cell? ⟨bn, on + k, none⟩ = some (.int .i64 ya) ∧ W15.cell? ⟨bk, ok + k, none⟩ = some (.int .i64 yb) := ⟨(by have := (IntS.at_ NX15.out (j := k) (by rw [hxl]; exact hlt)).1; rw [HYA.out] at this; exact this), (by have := (IntS.at_ KN15.out (j := k) (by rw [hkl]; exact hlt)).1; rw [HYB.out] at this; exact this)⟩
            refine anyU_take (i := 0) (v := .slice (some ⟨W3.heap.size, 0, none⟩) N.ends.length N.ends.length) rfl (by kernel_rfl) (by kernel_rfl) (by kernel_rfl) (fun _ _ _ h => h) ⟨by rfl, fun w' hS' => (by obtain ⟨s1, s2⟩ := hS'; go_simp)⟩ hS16 ?_
            simp only [List.getElem_toArray, List.getElem_cons_zero, Act.put, List.setIfInBounds_toArray, List.set_cons_zero, List.set_cons_succ]
            refine anyU_take (i := 1) (v := .int .i64 k) rfl (by kernel_rfl) (by kernel_rfl) (by kernel_rfl) (fun _ _ _ h => h) ⟨by rfl, fun w' hS' => (by obtain ⟨s1, s2⟩ := hS'; go_simp)⟩ hS16 ?_
            simp only [List.getElem_toArray, List.getElem_cons_succ, List.getElem_cons_zero, Act.put, List.setIfInBounds_toArray, List.set_cons_zero, List.set_cons_succ]
            refine anyU_take (i := 2) (v := .slice (some ⟨bn, on, none⟩) N.ends.length cn) rfl (by kernel_rfl) (by kernel_rfl) (by kernel_rfl) (fun _ _ _ h => h) ⟨by rfl, fun w' hS' => (by obtain ⟨s1, s2⟩ := hS'; go_simp)⟩ hS16 ?_
            simp only [List.getElem_toArray, List.getElem_cons_succ, List.getElem_cons_zero, Act.put, List.setIfInBounds_toArray, List.set_cons_zero, List.set_cons_succ]
            refine anyU_take (i := 3) (v := .int .i64 k) rfl (by kernel_rfl) (by kernel_rfl) (by kernel_rfl) (fun _ _ _ h => h) ⟨by rfl, fun w' hS' => (by obtain ⟨s1, s2⟩ := hS'; go_simp)⟩ hS16 ?_
            simp only [List.getElem_toArray, List.getElem_cons_succ, List.getElem_cons_zero, Act.put, List.setIfInBounds_toArray, List.set_cons_zero, List.set_cons_succ]
            refine anyU_take (i := 4) (v := .pointer (some ⟨bn, on + k, none⟩)) rfl (by kernel_rfl) (by kernel_rfl) (by kernel_rfl) (fun _ _ _ h => h) ⟨by rfl, fun w' hS' => (by obtain ⟨s1, s2⟩ := hS'; simp [go_sem, hki])⟩ hS16 ?_
            simp only [List.getElem_toArray, List.getElem_cons_succ, List.getElem_cons_zero, Act.put, List.setIfInBounds_toArray, List.set_cons_zero, List.set_cons_succ]
            refine anyU_take (i := 5) (v := .int .i64 ya) rfl (by kernel_rfl) (by kernel_rfl) (by kernel_rfl) (fun _ _ _ h => h) ⟨by rfl, fun w' hS' => (by obtain ⟨s1, s2⟩ := hS'; go_simp)⟩ hS16 ?_
            simp only [List.getElem_toArray, List.getElem_cons_succ, List.getElem_cons_zero, Act.put, List.setIfInBounds_toArray, List.set_cons_zero, List.set_cons_succ]
            refine anyU_take (i := 6) (v := .slice (some ⟨bk, ok, none⟩) N.ends.length ck) rfl (by kernel_rfl) (by kernel_rfl) (by kernel_rfl) (fun _ _ _ h => h) ⟨by rfl, fun w' hS' => (by obtain ⟨s1, s2⟩ := hS'; go_simp)⟩ hS16 ?_
            simp only [List.getElem_toArray, List.getElem_cons_succ, List.getElem_cons_zero, Act.put, List.setIfInBounds_toArray, List.set_cons_zero, List.set_cons_succ]
            refine anyU_take (i := 7) (v := .int .i64 k) rfl (by kernel_rfl) (by kernel_rfl) (by kernel_rfl) (fun _ _ _ h => h) ⟨by rfl, fun w' hS' => (by obtain ⟨s1, s2⟩ := hS'; go_simp)⟩ hS16 ?_
            simp only [List.getElem_toArray, List.getElem_cons_succ, List.getElem_cons_zero, Act.put, List.setIfInBounds_toArray, List.set_cons_zero, List.set_cons_succ]
            refine anyU_take (i := 8) (v := .pointer (some ⟨bk, ok + k, none⟩)) rfl (by kernel_rfl) (by kernel_rfl) (by kernel_rfl) (fun _ _ _ h => h) ⟨by rfl, fun w' hS' => (by obtain ⟨s1, s2⟩ := hS'; simp [go_sem, hki])⟩ hS16 ?_
            simp only [List.getElem_toArray, List.getElem_cons_succ, List.getElem_cons_zero, Act.put, List.setIfInBounds_toArray, List.set_cons_zero, List.set_cons_succ]
            refine anyU_take (i := 9) (v := .int .i64 yb) rfl (by kernel_rfl) (by kernel_rfl) (by kernel_rfl) (fun _ _ _ h => h) ⟨by rfl, fun w' hS' => (by obtain ⟨s1, s2⟩ := hS'; go_simp)⟩ hS16 ?_
            simp only [List.getElem_toArray, List.getElem_cons_succ, List.getElem_cons_zero, Act.put, List.setIfInBounds_toArray, List.set_cons_zero, List.set_cons_succ]
            refine anyU_take (i := 10) (v := .bool (decide (ya < yb))) rfl (by kernel_rfl) (by kernel_rfl) (by kernel_rfl) (fun _ _ _ h => h) ⟨by rfl, fun w' hS' => (by obtain ⟨s1, s2⟩ := hS'; go_simp)⟩ hS16 ?_
            simp only [List.getElem_toArray, List.getElem_cons_succ, List.getElem_cons_zero, Act.put, List.setIfInBounds_toArray, List.set_cons_zero, List.set_cons_succ]
            refine anyU_ready (rs := [11]) (by kernel_rfl) (by simp) ?_
            refine ReadyU.cons (i := 11) rfl (fun K hK => ?_) ReadyU.nil
            simp only [List.getElem_toArray, List.getElem_cons_succ, List.getElem_cons_zero]
            refine ite_is (by rfl) ?_
            simp [go_sem, hki]
            refine hK.out _ _ ⟨fun h => absurd h (by decide), ?_⟩
            clear hK K
            try simp only [List.getElem_toArray, List.getElem_cons_succ, List.getElem_cons_zero, Act.put, List.setIfInBounds_toArray, List.set_cons_zero, List.set_cons_succ]
            obtain ⟨z1, z2⟩ := FB15.out.at0 (j := k) (by rw [HL2.out]; exact hlt)
            rw [HBO.out] at z1
            have HSX := Lib.hid (FB15.out.set0 (j := k) (by rw [HL2.out]; exact hlt) (decide (ya < yb)))
            refine anyU_ready (rs := [12]) (by kernel_rfl) (by simp) ?_
            refine ReadyU.cons (i := 12) rfl (fun K hK => ?_) ReadyU.nil
            simp only [List.getElem_toArray, List.getElem_cons_succ, List.getElem_cons_zero]
            refine ite_is (by rfl) ?_
            simp [go_sem, z1, z2]
            refine hK.out _ _ ⟨fun h => absurd h (by decide), ?_⟩
            clear hK K
            try simp only [List.getElem_toArray, List.getElem_cons_succ, List.getElem_cons_zero, Act.put, List.setIfInBounds_toArray, List.set_cons_zero, List.set_cons_succ]
            refine nameU ?_
            intro W17 HW17
            have hg17 : W15.grownBy W17 (some (W3.heap.size)) := by rw [HW17.out]; exact grown_set _ _ _
            have hs17 := hg17.size
            have HF17 := Lib.hid (HF15.out.grown hg17 (fun g hg => by cases hg; omega)); clear HF15
            have NX17 := Lib.hid (IntS.far NX15.out hg17 (by omega) (fun g hg => by cases hg; omega)); clear NX15
            have KN17 := Lib.hid (IntS.far KN15.out hg17 (by omega) (fun g hg => by cases hg; omega)); clear KN15
            have HFN : Hid (BoolS W17 W3.heap.size (W3.heap.size + 1) (.slice (some ⟨W3.heap.size, 0, none⟩) N.ends.length N.ends.length) (bs'.set k (decide (ya < yb)))) := by rw [HW17.out]; exact HSX
            clear HW17 HSX z1 z2 FB15
            clear hS16
            refine anyU_done (by kernel_rfl) ?_ _
            go_wp2_with fail
            go_roundw
            case rel =>
              refine ⟨k + 1, _, by omega, by go_num, NX17, KN17, HFN, by omega, Lib.hid (by rw [List.length_set]; exact HL2.out), Lib.hid fun j hj => ?_, HF17⟩
              rw [nthB_set _ _ _ _ (by rw [HL2.out]; exact hlt)]
              by_cases e : j = k
              · rw [if_pos e, e, HFP.out]
              · rw [if_neg e]; exact HBF.out j (by omega)
            case measure => simp [intOf]; omega

end Go.Proofs.Ytoebgfmnjjiddaa
