/-
  Several texts in one: Part. No condition on any program.
-/
import Derived.Test.YtcmmklcampmkjaaBcM
import Derived.Test.YtcmmklcampmkjaaBcE
import Derived.Test.YtcmmklcampmkjaaBcH
import Derived.Deep.AppendLies

/- Contract: the network of some nodes with the ports that a function keeps (program). -/
namespace Go.Proofs.Ytcmmklcampmkjaa
open Go.ChangeShapes Go.WideShapes Go.ChangeAt Go.RowKit
set_option linter.unusedVariables false

set_option maxHeartbeats 8000000 in
set_option maxRecDepth 100000 in
theorem partB_any (v1 : Value) (N : NetD) (lo1 hi1 : Nat) (v2 : Value) (zs : List Int) (lo2 hi2 : Nat) (keep : Nat) (caps : Array Value) (w : World) (h1 : Net w lo1 hi1 v1 N) (hh1 : hi1 ≤ w.heap.size) (h2 : IntS w lo2 hi2 v2 zs) (hh2 : hi2 ≤ w.heap.size) (eg : ∀ args w, (callFunc keep args).run Try.prog w = .ok (.enter keep args) w) (kp : Nat → Nat → Bool) (hkp : ∀ v i : Nat, v < N.ends.length → i < (nthL N.ends v).length → ∀ W, Below w.heap.size w W → Calls Try.prog keep (#[.int .i64 (v : Nat), .int .i64 (i : Nat)] ++ caps) W fun e w' => e = .returned (.bool (kp v i)) ∧ Below W.heap.size W w') (hg : N.good = true) (hzn : ∀ j, j < zs.length → ∃ t : Nat, nth zs j = t ∧ t < N.ends.length) (hzl : zs.length ≤ 40) :
    Calls Try.prog 31 #[v1, v2, .func (.func keep) #[] caps] w fun e w' => ∃ r, e = .returned (r) ∧ NetB w' w.heap.size w'.heap.size r (partN N zs kp) ∧ Below w.heap.size w w' := by
  obtain ⟨n1, n40⟩ := good_n hg
  have HG := Lib.hid hg; clear hg
  have hmm := @run_makeMap Try.prog
  have HKP := Lib.hid hkp; clear hkp
  have HZN := Lib.hid hzn; clear hzn
  have HNI := Lib.hid (good_idsl HG.out)
  have HNN := Lib.hid (good_insl HG.out)
  have F1 := Lib.hid h1
  obtain ⟨A1, c1, A1', c1', A1'', c1'', rfl, hc1, hd1, _⟩ := h1.parts
  obtain ⟨b1, o1, _, _, rfl, _⟩ := Net.rowAt F1.out (u := 0) (by omega)
  clear h1
  have F2 := Lib.hid h2
  obtain ⟨A2, c2, rfl, hc2, hd2⟩ := h2.dims
  clear h2
  obtain ⟨WA, HWA⟩ : ∃ W, Hid (W = ((w.alloc (.cells #[.slice (some ⟨b1, o1, none⟩) N.ends.length c1, .slice A1' N.ids.length c1', .slice A1'' N.inputs.length c1''] 34)).alloc (.cells #[.slice none 0 0, .slice none 0 0, .slice none 0 0] 34))) := ⟨_, Lib.hid rfl⟩
  have hbA : Below w.heap.size w WA := by rw [HWA.out]; exact (((Below.refl _ _).alloc (Nat.le_refl _) _).alloc (by simp; try omega) _)
  have hsA : w.heap.size + 2 ≤ WA.heap.size := by rw [HWA.out]; simp; try omega
  have bx1 : BoxN WA (w.heap.size) #[.slice (some ⟨b1, o1, none⟩) N.ends.length c1, .slice A1' N.ids.length c1', .slice A1'' N.inputs.length c1''] 34 := by rw [HWA.out]; exact ((BoxN.new' _ _ _ (by simp)).still (grown_alloc _ _))
  have bxx0 : BoxN WA (w.heap.size + 1) #[.slice none 0 0, .slice none 0 0, .slice none 0 0] 34 := by rw [HWA.out]; exact (BoxN.new' _ _ _ (by simp))
  have G1 := Lib.hid (Net.below F1.out hbA hh1); clear F1
  have G2 := Lib.hid (IntS.below F2.out hbA hh2); clear F2
  go_enter Try.func31, Try.ntmps31
  go_upto_region 1 with (fail)
  rw [← HWA.out]; clear HWA
  obtain ⟨bI, oI, rfl, _, hbI, _, _⟩ := (netIns G1.out).opened (j := 0) (by rw [HNN.out]; omega)
  go_upto_region 2 with (fail)
  refine nameC ?_
  intro W1 HW1
  have hg1 : WA.grownBy W1 none := by rw [HW1.out]; exact grown_alloc _ _
  have hs1 := hg1.size
  have HF1 := Lib.hid ((Turned.refl WA.heap.size WA.heap.size WA).still hg1)
  have OUT1 := Lib.hid (show BoxN W1 WA.heap.size #[.slice none 0 0, .slice none 0 0, .slice none 0 0] 34 by rw [HW1.out]; exact BoxN.new _ _ _)
  clear HW1
  have hgo := OUT1.out.lt
  go_upto_region 3 with (fail)
  refine nameC ?_
  intro W2 HW2
  have hg2 : W1.grownBy W2 none := by rw [HW2.out]; exact grown_alloc _ _
  have hs2 := hg2.size
  have HF2 := Lib.hid (HF1.out.still hg2); clear HF1
  have OUT2 := Lib.hid (BoxN.still OUT1.out hg2); clear OUT1
  have HM0 := Lib.hid (show MpE W2 W1.heap.size (fun _ _ => (0, 0)) 0 by rw [HW2.out]; exact MpE.new _)
  have hzm : W1.heap.size + 1 ≤ W2.heap.size := by rw [HW2.out]; simp
  clear HW2
  skip
  have N_2 := Lib.hid (Net.turned G1.out HF2.out (by omega) (by omega)); clear G1
  have zs_2 := Lib.hid (IntS.turned G2.out HF2.out (by omega) (by omega)); clear G2
  have bx1_2 := HF2.out.boxN bx1 (by omega); clear bx1
  have bxx0_2 := HF2.out.boxN bxx0 (by omega); clear bxx0
  have hbA2 : Below w.heap.size w W2 := (HF2.out.below_of hbA (by omega) (by omega)); clear hbA HF2
  have HB0 := Lib.hid (show BoxN W2 WA.heap.size #[.slice none 0 0, .slice none 0 0, .slice none 0 0] 34 from OUT2.out)
  go_wp2_with fail
  go_loopw [21] (fun kv wr => ∃ (k : Nat), k ≤ zs.length ∧ kv = .int .i64 k ∧ Hid (MpE wr W1.heap.size (allU N kp zs k) (6 * k)) ∧ Hid (BoxN wr WA.heap.size #[.slice none 0 0, .slice none 0 0, .slice none 0 0] 34) ∧ Hid (Turned WA.heap.size (W1.heap.size + 1) W2 wr)) (fun kv _ => zs.length - (intOf kv).toNat)
  case atStart => exact ⟨0, Nat.zero_le _, rfl, HM0, HB0, Lib.hid (Turned.refl WA.heap.size (W1.heap.size + 1) W2)⟩
  case round =>
    obtain ⟨k, hk, rfl, HM, HB, HF3⟩ := hrel
    have hs3 := HF3.out.size
    obtain ⟨wq, rfl⟩ : ∃ wq : World, wq = wr := ⟨_, rfl⟩
    by_cases hkl : k < zs.length
    case pos =>
      obtain ⟨v, hv, hvn⟩ := HZN.out k hkl
      obtain ⟨bz, oz, rfl, _, _, xz, _⟩ := IntS.opened (IntS.turned zs_2.out HF3.out (by omega) (by omega)) hkl
      rw [hv] at xz
      have hki : (k : Int) < zs.length := by omega
      have hd6 := good_deg HG.out hvn
      have HAU := Lib.hid (show allU N kp zs (k + 1) = rowU kp (allU N kp zs k) v k (nthL N.ends v).length by show rowU kp (allU N kp zs k) (nth zs k).toNat k _ = _; rw [hv, Int.toNat_natCast])
      have HV := Lib.hid hv; clear hv
      obtain ⟨Aa, ca, hba, qa, hca, hda, hRa⟩ := Net.rowIn N_2.out hvn
      replace qa := (HF3.out.cell (by omega) (by omega)).trans qa
      have Ra := Lib.hid hRa; clear hRa
      have kbx1_0 : wq.cell? ⟨w.heap.size, 0, none⟩ = some (.slice (some ⟨b1, o1, none⟩) N.ends.length c1) := (HF3.out.boxN bx1_2 (by omega)).cell 0 (by simp)
      have kbx1_1 : wq.cell? ⟨w.heap.size, 1, none⟩ = some (.slice A1' N.ids.length c1') := (HF3.out.boxN bx1_2 (by omega)).cell 1 (by simp)
      have kbx1_2 : wq.cell? ⟨w.heap.size, 2, none⟩ = some (.slice (some ⟨bI, oI, none⟩) N.inputs.length c1'') := (HF3.out.boxN bx1_2 (by omega)).cell 2 (by simp)
      have hvi : (v : Int) < N.ends.length := by omega
      go_wp2_with fail
      clear xz kbx1_0 kbx1_1 kbx1_2
      go_loopw [32, 11] (fun mv pv wr => ∃ (m : Nat), m ≤ (nthL N.ends v).length ∧ mv = .int .i64 m ∧ pv = .int .i64 (cntK kp v m : Nat) ∧ Hid (MpE wr W1.heap.size (rowU kp (allU N kp zs k) v k m) (6 * k + m)) ∧ Hid (BoxN wr WA.heap.size #[.slice none 0 0, .slice none 0 0, .slice none 0 0] 34) ∧ Hid (Turned WA.heap.size (W1.heap.size + 1) W2 wr)) (fun mv pv _ => (nthL N.ends v).length - (intOf mv).toNat)
      case atStart => exact ⟨0, Nat.zero_le _, rfl, rfl, HM, HB, HF3⟩
      case round =>
        clear HF3
        obtain ⟨m, hm, rfl, rfl, HM, HB, HF4⟩ := hrel
        have hs4 := HF4.out.size
        obtain ⟨ws, rfl⟩ : ∃ ws : World, ws = wr := ⟨_, rfl⟩
        have hck := cntK_le kp v m
        by_cases hml : m < (nthL N.ends v).length
        case neg =>
          obtain rfl : m = (nthL N.ends v).length := by omega
          go_wp2_with fail
          go_roundw
          case rel => exact ⟨k + 1, by omega, by go_num, Lib.hid (by rw [HAU.out]; exact HM.out.mono (by omega)), HB, HF4⟩
          case measure => simp [intOf]; omega
        have HCK := Lib.hid (HKP.out v m hvn hml ws (HF4.out.below_of hbA2 (by omega) (by omega)))
        have HCS := Lib.hid (cntK_succ kp v m)
        cases hb : kp v m with
        | false =>
          rw [hb] at HCK
          have HKB := Lib.hid hb; clear hb
          go_upto_region 13 with (go_at_fn keep; refine HCK.out.mono ?_; rintro e W5 ⟨rfl, hbl5⟩; have hg5 := grown_below hbl5; clear hbl5)
          have hs5 := hg5.size
          have HF5 := Lib.hid (HF4.out.still hg5); clear HF4
          have HM5 := Lib.hid (MpE.kept HM.out hg5 (by simp))
          have HB5 := Lib.hid (BoxN.still HB.out hg5)
          clear HM HB HCK
          have HRU := Lib.hid (show rowU kp (allU N kp zs k) v k (m + 1) = rowU kp (allU N kp zs k) v k m by simp only [rowU]; rw [HKB.out]; rfl)
          rw [HKB.out] at HCS
          go_wp2_with fail
          go_roundw
          case rel => exact ⟨m + 1, by omega, by go_num, by rw [HCS.out]; rfl, Lib.hid (by rw [HRU.out]; exact HM5.out.mono (by omega)), HB5, HF5⟩
          case measure => simp [intOf]; omega
        | true =>
          rw [hb] at HCK
          have HKB := Lib.hid hb; clear hb
          go_upto_region 11 with (go_at_fn keep; refine HCK.out.mono ?_; rintro e W6 ⟨rfl, hbl6⟩; have hg6 := grown_below hbl6; clear hbl6)
          have hs6 := hg6.size
          have HF6 := Lib.hid (HF4.out.still hg6); clear HF4
          have HM6 := Lib.hid (MpE.kept HM.out hg6 (by simp))
          have HB6 := Lib.hid (BoxN.still HB.out hg6)
          clear HM HB HCK
          have HRU := Lib.hid (show rowU kp (allU N kp zs k) v k (m + 1) = setUE (rowU kp (allU N kp zs k) v k m) v m (k, cntK kp v m) by simp only [rowU]; rw [if_pos HKB.out])
          rw [HKB.out] at HCS
          obtain ⟨w5, hU, hg5, HM5⟩ := HM6.out.put (by omega) (x := (v : Int)) (y := (m : Int)) (by unfold I64; omega) (by unfold I64; omega) (k, cntK kp v m)
          have HMM := Lib.hid HM5; clear HM5
          unfold endP at hU
          dsimp only at hU
          have HBB := Lib.hid (BoxN.far HB6.out hg5 (fun g e => by cases e; omega))
          have HF5 := Lib.hid (HF6.out.grown hg5 fun g e => .inl (by cases e; omega))
          go_wp2_with fail
          go_roundw
          case rel => exact ⟨m + 1, by omega, by go_num, by rw [HCS.out]; go_num, Lib.hid (by rw [HRU.out]; exact HMM.out.mono (by omega)), HBB, HF5⟩
          case measure => simp [intOf]; omega
    obtain rfl : k = zs.length := by omega
    obtain ⟨U, HU⟩ : ∃ U, Hid (allU N kp zs zs.length = U) := ⟨_, Lib.hid rfl⟩
    rw [HU.out] at HM
    go_wp2_with fail
    obtain ⟨hm0, HMU⟩ : ∃ m0, Hid (MpE wq W1.heap.size U m0) := ⟨_, HM⟩
    clear HM
    go_loopw [52] (fun kv wr => ∃ (k : Nat) (vE vD vI : Value), k ≤ zs.length ∧ kv = .int .i64 k ∧ Hid (MpE wr W1.heap.size U hm0) ∧ Hid (BoxN wr WA.heap.size #[vE, vD, vI] 34) ∧ Hid (GNT wr W2.heap.size wr.heap.size vE vD vI (partRows N kp U (zs.take k)) (if 0 < N.ids.length then pickL N.ids (zs.take k) else []) (pickL N.inputs (zs.take k))) ∧ W2.heap.size ≤ wr.heap.size ∧ Hid (Turned WA.heap.size (W1.heap.size + 1) W2 wr)) (fun kv _ => zs.length - (intOf kv).toNat)
    case atStart => exact ⟨0, .slice none 0 0, .slice none 0 0, .slice none 0 0, Nat.zero_le _, rfl, HMU, HB, Lib.hid (by rw [List.take_zero]; simp only [partRows, pickL, List.map_nil, ite_self]; exact GNT.nil _ _ _), by omega, HF3⟩
    case round =>
      clear HF3
      obtain ⟨k, vE, vD, vI, hk, rfl, HM, HB, HGN, hz, HF7⟩ := hrel
      have hs7 := HF7.out.size
      obtain ⟨wt, rfl⟩ : ∃ wt : World, wt = wr := ⟨_, rfl⟩
      by_cases hkl : k < zs.length
      case neg =>
        obtain rfl : k = zs.length := by omega
        rw [List.take_length] at HGN
        have HPE := Lib.hid (show partN N zs kp = ⟨(partRows N kp U zs).map castL, if 0 < N.ids.length then pickL N.ids zs else [], pickL N.inputs zs⟩ by unfold partN; rw [HU.out])
        obtain ⟨rows, HRS⟩ : ∃ l, Hid (partRows N kp U zs = l) := ⟨_, Lib.hid rfl⟩
        obtain ⟨ids, HIDS⟩ : ∃ l, Hid ((if 0 < N.ids.length then pickL N.ids zs else []) = l) := ⟨_, Lib.hid rfl⟩
        obtain ⟨ins, HINS⟩ : ∃ l, Hid (pickL N.inputs zs = l) := ⟨_, Lib.hid rfl⟩
        rw [HRS.out, HIDS.out, HINS.out] at HGN HPE
        obtain ⟨AE, cE, rfl, _⟩ := HGN.out.lenE
        obtain ⟨AD, cD, rfl, _⟩ := HGN.out.idsO.ints.dims
        obtain ⟨AI, cI, rfl, _⟩ := HGN.out.insO.ints.dims
        have HR := Lib.hid HGN.out.netB
        have ko0 : wt.cell? ⟨WA.heap.size, 0, none⟩ = some (.slice AE rows.length cE) := HB.out.cell 0 (by simp)
        have ko1 : wt.cell? ⟨WA.heap.size, 1, none⟩ = some (.slice AD ids.length cD) := HB.out.cell 1 (by simp)
        have ko2 : wt.cell? ⟨WA.heap.size, 2, none⟩ = some (.slice AI ins.length cI) := HB.out.cell 2 (by simp)
        have HBR := Lib.hid (HF7.out.boxN bxx0_2 (by omega))
        have kr0 : wt.cell? ⟨w.heap.size + 1, 0, none⟩ = some (.slice none 0 0) := HBR.out.cell 0 (by simp)
        have kr1 : wt.cell? ⟨w.heap.size + 1, 1, none⟩ = some (.slice none 0 0) := HBR.out.cell 1 (by simp)
        have kr2 : wt.cell? ⟨w.heap.size + 1, 2, none⟩ = some (.slice none 0 0) := HBR.out.cell 2 (by simp)
        have kf0 := HBR.out.frozen 0
        have kf1 := HBR.out.frozen 1
        have kf2 := HBR.out.frozen 2
        go_wp2_with fail
        ((try simp only [Exit.inBlock, Exit.then]); refine bodyPost_ret (results_cell1 rfl _ _ _ rfl (load_net (((HBR.out.set 0 (.slice AE rows.length cE)).set 1 (.slice AD ids.length cD)).set 2 (.slice AI ins.length cI)))) rfl ?_)
        have hg9 : wt.grownBy (((wt.setCell ⟨w.heap.size + 1, 0, none⟩ (.slice AE rows.length cE)).setCell ⟨w.heap.size + 1, 1, none⟩ (.slice AD ids.length cD)).setCell ⟨w.heap.size + 1, 2, none⟩ (.slice AI ins.length cI)) (some (w.heap.size + 1)) := grownBy_setCell (p := ⟨w.heap.size + 1, 2, none⟩) (grownBy_setCell (p := ⟨w.heap.size + 1, 1, none⟩) (grown_set wt ⟨w.heap.size + 1, 0, none⟩ _) rfl _) rfl _
        refine ⟨_, rfl, ?_, ((HF7.out.below_of hbA2 (by omega) (by omega)).grown hg9 (by omega) fun g e => by cases e; omega)⟩
        rw [HPE.out]
        exact NetB.mono (NetB.turned HR.out ((Turned.refl (w.heap.size + 1) (w.heap.size + 1 + 1) wt).grown hg9 (fun g e => .inl (by cases e; omega))) (Nat.le_refl _) (.inr (by omega))) (by omega) (by simp)
      obtain ⟨v, hv, hvn⟩ := HZN.out k hkl
      obtain ⟨bz, oz, rfl, _, _, xz, _⟩ := IntS.opened (IntS.turned zs_2.out HF7.out (by omega) (by omega)) hkl
      rw [hv] at xz
      have hki : (k : Int) < zs.length := by omega
      have hd6 := good_deg HG.out hvn
      have HV := Lib.hid hv; clear hv
      obtain ⟨Aa, ca, hba, qa, hca, hda, hRa⟩ := Net.rowIn N_2.out hvn
      replace qa := (HF7.out.cell (by omega) (by omega)).trans qa
      have Ra := Lib.hid hRa; clear hRa
      have kbx1_0 : wt.cell? ⟨w.heap.size, 0, none⟩ = some (.slice (some ⟨b1, o1, none⟩) N.ends.length c1) := (HF7.out.boxN bx1_2 (by omega)).cell 0 (by simp)
      have kbx1_1 : wt.cell? ⟨w.heap.size, 1, none⟩ = some (.slice A1' N.ids.length c1') := (HF7.out.boxN bx1_2 (by omega)).cell 1 (by simp)
      have kbx1_2 : wt.cell? ⟨w.heap.size, 2, none⟩ = some (.slice (some ⟨bI, oI, none⟩) N.inputs.length c1'') := (HF7.out.boxN bx1_2 (by omega)).cell 2 (by simp)
      have hvi : (v : Int) < N.ends.length := by omega
      go_wp2_with fail
      clear xz kbx1_0 kbx1_1 kbx1_2
      go_loopw [62, 15] (fun mv ov wr => ∃ (m : Nat), m ≤ (nthL N.ends v).length ∧ mv = .int .i64 m ∧ Hid (OwnE wr wt.heap.size 60 ov (partRow N kp U v m)) ∧ Hid (Below wt.heap.size wt wr)) (fun mv ov _ => (nthL N.ends v).length - (intOf mv).toNat)
      case atStart => exact ⟨0, Nat.zero_le _, rfl, Lib.hid (OwnE.nil _ _ _), Lib.hid (Below.refl _ _)⟩
      case round =>
        obtain ⟨m, hm, rfl, HO, HBW⟩ := hrel
        obtain ⟨wu, rfl⟩ : ∃ wu : World, wu = wr := ⟨_, rfl⟩
        have hs9 := HBW.out.size
        by_cases hml : m < (nthL N.ends v).length
        case pos =>
          obtain ⟨be, oe, rfl, _, _, xe, xe'⟩ := (EndS.below (EndS.turned Ra.out HF7.out (by omega) (by omega)) HBW.out (by omega)).opened hml
          obtain ⟨t, r, et, ht, hr, eu⟩ := good_end HG.out hvn hml
          rw [et] at xe xe'
          dsimp only at xe xe'
          have ET := Lib.hid et
          clear et eu
          have hrd := good_deg HG.out ht
          go_upto_region 22 with (fail)
          refine nameC ?_
          intro W9 HW9
          have hg9 : wu.grownBy W9 none := by rw [HW9.out]; exact grown_alloc _ _
          have hs9 := hg9.size
          have BE := Lib.hid (show BoxN W9 wu.heap.size #[.int .i64 t, .int .i64 r] 60 by rw [HW9.out]; exact BoxN.new _ _ _)
          clear HW9 xe xe'
          have HB2 := Lib.hid (HBW.out.trans ((grown_to_below hg9).mono (by omega)))
          have HO2 := Lib.hid (OwnE.still HO.out hg9)
          clear HO hg9
          have HCK := Lib.hid (HKP.out v m hvn hml W9 (Below.trans (HF7.out.below_of hbA2 (by omega) (by omega)) (HB2.out.mono (by omega))))
          cases hb : kp v m with
          | false =>
            rw [hb] at HCK
            have HKB := Lib.hid hb; clear hb
            go_wp2_with (go_at_fn keep; refine HCK.out.mono ?_; rintro e w6 ⟨rfl, hb6⟩; have hs6 := hb6.size; have HO6 := Lib.hid (OwnE.still HO2.out (grown_below hb6)); have HB6 := Lib.hid (HB2.out.trans (hb6.mono (by omega))))
            go_roundw
            case rel => exact ⟨m + 1, by omega, by go_num, Lib.hid (by rw [partRow_no HKB.out]; exact HO6.out), HB6⟩
            case measure => simp [intOf]; omega
          | true =>
            rw [hb] at HCK
            have HKB := Lib.hid hb; clear hb
            go_upto_region 23 with (go_at_fn keep; refine HCK.out.mono ?_; rintro e w6 ⟨rfl, hb6⟩; have hs6 := hb6.size; have HO6 := Lib.hid (OwnE.still HO2.out (grown_below hb6)); have HB6 := Lib.hid (HB2.out.trans (hb6.mono (by omega))); have BE6 := Lib.hid (BoxN.still BE.out (grown_below hb6)))
            have ke0 : w6.cell? ⟨wu.heap.size, 0, none⟩ = some (.int .i64 t) := BE6.out.cell 0 (by simp)
            have ke1 : w6.cell? ⟨wu.heap.size, 1, none⟩ = some (.int .i64 r) := BE6.out.cell 1 (by simp)
            have hlk := (MpE.kept HM.out (grown_below HB6.out) (by simp)).look (x := (t : Int)) (y := (r : Int)) (by unfold I64; omega) (by unfold I64; omega)
            have HRY := Lib.hid (show partRow N kp U v (m + 1) = partRow N kp U v m ++ [U t r] by rw [partRow_yes HKB.out, ET.out])
            have hpl := partRow_len N kp U v m
            have hck := cntK_le kp v m
            obtain ⟨l, HL⟩ : ∃ l, Hid (partRow N kp U v m = l) := ⟨_, Lib.hid rfl⟩
            rw [HL.out] at HO6 HRY hpl
            obtain ⟨p, HP⟩ : ∃ p, Hid (U t r = p) := ⟨_, Lib.hid rfl⟩
            rw [HP.out] at hlk HRY
            unfold endP at hlk
            have hlv := HO6.out.lt
            go_wp2_with (at_builtin; refine append_end (s := .tmp 71) Try.underlying61 Try.info60 rfl (by decide) w6 rfl _ rfl HO6.out p _ rfl (by simp [Act.eval, go_sem]) (by omega) (by omega) ?_; intro v' w' ho' hg' hat')
            go_roundw
            case rel =>
              exact ⟨m + 1, by omega, by go_num, Lib.hid (by rw [HRY.out]; exact ho'), Lib.hid (HB6.out.grown hg' (by omega) fun g hg => by have := hlv g hg; omega)⟩
            case measure => simp [intOf]; omega
        obtain rfl : m = (nthL N.ends v).length := by omega
        have HGN2 := Lib.hid (GNT.still HGN.out (grown_below HBW.out))
        have HLE := Lib.hid HGN.out.ltE; have HLD := Lib.hid HGN.out.ltD; have HLI := Lib.hid HGN.out.ltI
        have HB2 := Lib.hid (BoxN.still HB.out (grown_below HBW.out))
        have HM2 := Lib.hid (MpE.kept HM.out (grown_below HBW.out) (by simp))
        have HF2 := Lib.hid (HF7.out.still (grown_below HBW.out))
        clear HGN HB HM HF7
        have hag : ∀ q : Value, (∀ g, q.ownBlock = some g → W2.heap.size ≤ g ∧ g < wt.heap.size) → Ap u15 q := fun q hq g h1 h2 => by have := HO.out.lt g h1; have := (hq g h2).2; omega
        have HAE := Lib.hid (hag vE HLE.out); have HAD := Lib.hid (hag vD HLD.out); have HAI := Lib.hid (hag vI HLI.out)
        clear hag
        obtain ⟨row, HRW⟩ : ∃ row, Hid (partRow N kp U v (nthL N.ends v).length = row) := ⟨_, Lib.hid rfl⟩
        rw [HRW.out] at HO
        obtain ⟨Au, cu, rfl, hcu, hdu⟩ := HO.out.len
        have HPR := Lib.hid (show partRows N kp U (zs.take (k + 1)) = partRows N kp U (zs.take k) ++ [row] by rw [partRows_take hkl, HV.out, Int.toNat_natCast, HRW.out])
        obtain ⟨rows, HRS⟩ : ∃ rows, Hid (partRows N kp U (zs.take k) = rows) := ⟨_, Lib.hid rfl⟩
        have hrl : rows.length ≤ 40 := by rw [← HRS.out, partRows_len, List.length_take]; omega
        rw [HRS.out] at HGN2 HPR
        have HOW := Lib.hid (OwnE.weak HO.out (show W2.heap.size ≤ wt.heap.size by omega)); have HUT := Lib.hid (fun g e => (HO.out.lt g e).1 : ∀ g, (Value.slice Au row.length cu).ownBlock = some g → wt.heap.size ≤ g); clear HO
        have ko0 : wu.cell? ⟨WA.heap.size, 0, none⟩ = some vE := HB2.out.cell 0 (by simp)
        have kof := HB2.out.frozen 0
        go_upto_region 26 with (at_builtin; refine append_gnt (s := .tmp 79) Try.underlying32 Try.info61 (by decide) wu rfl _ rfl HGN2.out HOW.out HUT.out HAE.out HAD.out HAI.out _ (by simp [Act.eval, go_sem]) (by simp [Act.eval, go_sem]) (by omega) (by omega) (by omega) ?_; intro vE2 w7 hgn7 hg7; obtain ⟨A7, c7, hq7, _⟩ := hgn7.lenE; simp only [List.length_append, List.length_cons, List.length_nil, Nat.zero_add] at hq7; subst hq7; have HGN7 := Lib.hid hgn7; have HG7 := Lib.hid hg7; have HB7 := Lib.hid (BoxN.far HB2.out hg7 (fun g e => by have := HLE.out g e; omega)); have ko7 : w7.cell? ⟨WA.heap.size, 0, none⟩ = some vE := HB7.out.cell 0 (by simp); have kof7 := HB7.out.frozen 0; clear hgn7 hg7)
        clear ko0 kof ko7 kof7
        have hg7 := HG7.out
        have hs7 := hg7.size
        refine nameC ?_
        intro W80 HW80
        have hg80 : w7.grownBy W80 (some WA.heap.size) := by rw [HW80.out]; exact grown_set _ ⟨WA.heap.size, 0, none⟩ _
        have hs80 := hg80.size
        have HB80 := Lib.hid (show BoxN W80 WA.heap.size #[.slice A7 (rows.length + 1) c7, vD, vI] 34 by rw [HW80.out]; exact HB7.out.set 0 _)
        have HGN80 := Lib.hid (GNT.keptB HGN7.out hg80 (fun g e => by cases e; omega))
        have HM80 := Lib.hid (MpE.far (MpE.far HM2.out hg7 (fun g e => by have := HLE.out g e; omega)) hg80 (fun g e => by cases e; omega))
        have HF80 := Lib.hid ((HF2.out.grown hg7 (fun g e => .inr (by have := (HLE.out g e).1; omega))).grown hg80 (fun g e => .inl (by cases e; omega)))
        clear HW80 HB7 HGN7 HM2 HF2 HB2 HGN2 HOW HUT HAE HAD HAI HLE hg7 HG7 hg80
        obtain ⟨i1, hi1', hz1⟩ := Option.map_eq_some_iff.1 Try.info3
        simp only [Prod.mk.injEq] at hz1
        obtain ⟨hz1a, hz1b, hz1c⟩ := hz1
        have HI1 := Lib.hid hz1a; have HI2 := Lib.hid hz1b; have HI3 := Lib.hid hz1c; have HII := Lib.hid hi1'
        clear hz1a hz1b hz1c hi1'
        have hpi1 := pickL_len N.inputs (zs.take k)
        rw [List.length_take] at hpi1
        have HPI := Lib.hid (show pickL N.inputs (zs.take (k + 1)) = pickL N.inputs (zs.take k) ++ [nth N.inputs v] by rw [pickL_take hkl, HV.out, Int.toNat_natCast])
        have HPD := Lib.hid (show pickL N.ids (zs.take (k + 1)) = pickL N.ids (zs.take k) ++ [nth N.ids v] by rw [pickL_take hkl, HV.out, Int.toNat_natCast])
        obtain ⟨ins, HINS⟩ : ∃ l, Hid (pickL N.inputs (zs.take k) = l) := ⟨_, Lib.hid rfl⟩
        obtain ⟨x, HX⟩ : ∃ x, Hid (nth N.inputs v = x) := ⟨_, Lib.hid rfl⟩
        obtain ⟨ids, HIDS⟩ : ∃ l, Hid ((if 0 < N.ids.length then pickL N.ids (zs.take k) else []) = l) := ⟨_, Lib.hid rfl⟩
        rw [HINS.out] at hpi1 HPI HGN80
        rw [HX.out] at HPI
        rw [HIDS.out] at HGN80
        have hidl : ids.length ≤ 40 := by
          rw [← HIDS.out]
          split
          · rw [pickL_len, List.length_take]; omega
          · simp
        have hinl : ins.length ≤ 40 := by omega
        have hvin : (v : Int) < N.inputs.length := by rw [HNN.out]; exact hvi
        have hvinn : v < N.inputs.length := by rw [HNN.out]; exact hvn
        have GI := Lib.hid (netIns N_2.out)
        go_wp2_with fail
        refine wp_region_U (fun w' => w'.cell? ⟨WA.heap.size, 0, none⟩ = some (.slice A7 (rows.length + 1) c7) ∧ w'.cell? ⟨WA.heap.size, 1, none⟩ = some (vD) ∧ w'.cell? ⟨WA.heap.size, 2, none⟩ = some (vI) ∧ w'.cell? ⟨w.heap.size, 0, none⟩ = some (.slice (some ⟨b1, o1, none⟩) N.ends.length c1) ∧ w'.cell? ⟨w.heap.size, 1, none⟩ = some (.slice A1' N.ids.length c1') ∧ w'.cell? ⟨w.heap.size, 2, none⟩ = some (.slice (some ⟨bI, oI, none⟩) N.inputs.length c1'') ∧ w'.cell? ⟨bI, oI + v, none⟩ = some (.int .i64 x)) [10] (by kernel_rfl) ?_
        refine nameU ?_
        intro W81 HW81
        have hg81 : W80.grownBy W81 none := by rw [HW81.out]; exact grown_drew _
        clear HW81
        have hs81 := hg81.size
        have HF81 := Lib.hid (HF80.out.still hg81); clear HF80
        have OUT81 := Lib.hid (BoxN.still HB80.out hg81); clear HB80
        have M81 := Lib.hid (MpE.still HM80.out hg81); clear HM80
        have G81 := Lib.hid (GNT.still HGN80.out hg81); clear HGN80
        have hS82 : W81.cell? ⟨WA.heap.size, 0, none⟩ = some (.slice A7 (rows.length + 1) c7) ∧ W81.cell? ⟨WA.heap.size, 1, none⟩ = some (vD) ∧ W81.cell? ⟨WA.heap.size, 2, none⟩ = some (vI) ∧ W81.cell? ⟨w.heap.size, 0, none⟩ = some (.slice (some ⟨b1, o1, none⟩) N.ends.length c1) ∧ W81.cell? ⟨w.heap.size, 1, none⟩ = some (.slice A1' N.ids.length c1') ∧ W81.cell? ⟨w.heap.size, 2, none⟩ = some (.slice (some ⟨bI, oI, none⟩) N.inputs.length c1'') ∧ W81.cell? ⟨bI, oI + v, none⟩ = some (.int .i64 x) := ⟨OUT81.out.cell 0 (by simp), OUT81.out.cell 1 (by simp), OUT81.out.cell 2 (by simp), (HF81.out.boxN bx1_2 (by omega)).cell 0 (by simp), (HF81.out.boxN bx1_2 (by omega)).cell 1 (by simp), (HF81.out.boxN bx1_2 (by omega)).cell 2 (by simp), (by have := (IntS.at_ (IntS.turned GI.out HF81.out (by omega) (by omega)) hvinn).1; rw [HX.out] at this; exact this)⟩
        refine anyU_take (i := 0) (v := .pointer (some ⟨WA.heap.size, 2, none⟩)) rfl (by kernel_rfl) (by kernel_rfl) (by kernel_rfl) (fun _ _ _ h => h) ⟨by rfl, fun w' hS' => (by obtain ⟨s1, s2, s3, s4, s5, s6, s7⟩ := hS'; go_simp)⟩ hS82 ?_
        simp only [List.getElem_toArray, List.getElem_cons_zero, Act.put, List.setIfInBounds_toArray, List.set_cons_zero, List.set_cons_succ]
        refine anyU_take (i := 1) (v := vI) rfl (by kernel_rfl) (by kernel_rfl) (by kernel_rfl) (fun _ _ _ h => h) ⟨by rfl, fun w' hS' => (by obtain ⟨s1, s2, s3, s4, s5, s6, s7⟩ := hS'; go_simp)⟩ hS82 ?_
        simp only [List.getElem_toArray, List.getElem_cons_succ, List.getElem_cons_zero, Act.put, List.setIfInBounds_toArray, List.set_cons_zero, List.set_cons_succ]
        refine anyU_take (i := 2) (v := .pointer (some ⟨w.heap.size, 2, none⟩)) rfl (by kernel_rfl) (by kernel_rfl) (by kernel_rfl) (fun _ _ _ h => h) ⟨by rfl, fun w' hS' => (by obtain ⟨s1, s2, s3, s4, s5, s6, s7⟩ := hS'; go_simp)⟩ hS82 ?_
        simp only [List.getElem_toArray, List.getElem_cons_succ, List.getElem_cons_zero, Act.put, List.setIfInBounds_toArray, List.set_cons_zero, List.set_cons_succ]
        refine anyU_take (i := 3) (v := .slice (some ⟨bI, oI, none⟩) N.inputs.length c1'') rfl (by kernel_rfl) (by kernel_rfl) (by kernel_rfl) (fun _ _ _ h => h) ⟨by rfl, fun w' hS' => (by obtain ⟨s1, s2, s3, s4, s5, s6, s7⟩ := hS'; go_simp)⟩ hS82 ?_
        simp only [List.getElem_toArray, List.getElem_cons_succ, List.getElem_cons_zero, Act.put, List.setIfInBounds_toArray, List.set_cons_zero, List.set_cons_succ]
        refine anyU_take (i := 4) (v := .int .i64 v) rfl (by kernel_rfl) (by kernel_rfl) (by kernel_rfl) (fun _ _ _ h => h) ⟨by rfl, fun w' hS' => (by obtain ⟨s1, s2, s3, s4, s5, s6, s7⟩ := hS'; go_simp)⟩ hS82 ?_
        simp only [List.getElem_toArray, List.getElem_cons_succ, List.getElem_cons_zero, Act.put, List.setIfInBounds_toArray, List.set_cons_zero, List.set_cons_succ]
        refine anyU_take (i := 5) (v := .pointer (some ⟨bI, oI + v, none⟩)) rfl (by kernel_rfl) (by kernel_rfl) (by kernel_rfl) (fun _ _ _ h => h) ⟨by rfl, fun w' hS' => (by obtain ⟨s1, s2, s3, s4, s5, s6, s7⟩ := hS'; simp [go_sem, hvin])⟩ hS82 ?_
        simp only [List.getElem_toArray, List.getElem_cons_succ, List.getElem_cons_zero, Act.put, List.setIfInBounds_toArray, List.set_cons_zero, List.set_cons_succ]
        refine anyU_take (i := 6) (v := .int .i64 x) rfl (by kernel_rfl) (by kernel_rfl) (by kernel_rfl) (fun _ _ _ h => h) ⟨by rfl, fun w' hS' => (by obtain ⟨s1, s2, s3, s4, s5, s6, s7⟩ := hS'; go_simp)⟩ hS82 ?_
        simp only [List.getElem_toArray, List.getElem_cons_succ, List.getElem_cons_zero, Act.put, List.setIfInBounds_toArray, List.set_cons_zero, List.set_cons_succ]
        refine anyU_ready (rs := [7]) (by kernel_rfl) (by simp) ?_
        refine ReadyU.cons (i := 7) rfl (fun K hK => ?_) ReadyU.nil
        simp only [List.getElem_toArray, List.getElem_cons_succ, List.getElem_cons_zero]
        refine ite_is (by rfl) ?_
        simp [go_sem]
        refine hK.out _ _ ⟨fun _ => ⟨(OUT81.out.still (grown_alloc _ _)).cell 0 (by simp), (OUT81.out.still (grown_alloc _ _)).cell 1 (by simp), (OUT81.out.still (grown_alloc _ _)).cell 2 (by simp), ((HF81.out.boxN bx1_2 (by omega)).still (grown_alloc _ _)).cell 0 (by simp), ((HF81.out.boxN bx1_2 (by omega)).still (grown_alloc _ _)).cell 1 (by simp), ((HF81.out.boxN bx1_2 (by omega)).still (grown_alloc _ _)).cell 2 (by simp), (by have := (IntS.at_ (IntS.still (IntS.turned GI.out HF81.out (by omega) (by omega)) (grown_alloc W81 (.cells #[.int .i64 x] 3)) (by omega)) hvinn).1; rw [HX.out] at this; exact this)⟩, ?_⟩
        clear hK K
        try simp only [List.getElem_toArray, List.getElem_cons_succ, List.getElem_cons_zero, Act.put, List.setIfInBounds_toArray, List.set_cons_zero, List.set_cons_succ]
        refine nameU ?_
        intro W83 HW83
        have hg83 : W81.grownBy W83 none := by rw [HW83.out]; exact grown_alloc _ _
        have BV83 := Lib.hid (show BoxN W83 W81.heap.size #[.int .i64 x] 3 by rw [HW83.out]; exact BoxN.new _ _ _)
        have hz83 : W81.heap.size < W83.heap.size := BV83.out.lt
        clear HW83
        have hs83 := hg83.size
        have HF83 := Lib.hid (HF81.out.still hg83); clear HF81
        have OUT83 := Lib.hid (BoxN.still OUT81.out hg83); clear OUT81
        have M83 := Lib.hid (MpE.still M81.out hg83); clear M81
        have G83 := Lib.hid (GNT.still G81.out hg83); clear G81
        have hS84 : W83.cell? ⟨WA.heap.size, 0, none⟩ = some (.slice A7 (rows.length + 1) c7) ∧ W83.cell? ⟨WA.heap.size, 1, none⟩ = some (vD) ∧ W83.cell? ⟨WA.heap.size, 2, none⟩ = some (vI) ∧ W83.cell? ⟨w.heap.size, 0, none⟩ = some (.slice (some ⟨b1, o1, none⟩) N.ends.length c1) ∧ W83.cell? ⟨w.heap.size, 1, none⟩ = some (.slice A1' N.ids.length c1') ∧ W83.cell? ⟨w.heap.size, 2, none⟩ = some (.slice (some ⟨bI, oI, none⟩) N.inputs.length c1'') ∧ W83.cell? ⟨bI, oI + v, none⟩ = some (.int .i64 x) := ⟨OUT83.out.cell 0 (by simp), OUT83.out.cell 1 (by simp), OUT83.out.cell 2 (by simp), (HF83.out.boxN bx1_2 (by omega)).cell 0 (by simp), (HF83.out.boxN bx1_2 (by omega)).cell 1 (by simp), (HF83.out.boxN bx1_2 (by omega)).cell 2 (by simp), (by have := (IntS.at_ (IntS.turned GI.out HF83.out (by omega) (by omega)) hvinn).1; rw [HX.out] at this; exact this)⟩
        clear hS82
        have HOI83 := Lib.hid (G83.out.insO)
        have LOX := Lib.hid HOI83.out.lt
        refine anyU_ready (rs := [8]) (by kernel_rfl) (by simp) ?_
        refine ReadyU.cons (i := 8) rfl (fun K hK => ?_) ReadyU.nil
        refine step_append_lies W83 (by rfl) _ _ _ (by rfl) W2.heap.size 3 i1 _ 1 _ Try.underlying23 HII.out HI1.out HI2.out HI3.out rfl (by omega) vI _ (ins.map (Value.int .i64)) (by rfl) HOI83.out ⟨W81.heap.size, 0, none⟩ 1 1 [.int .i64 x] (by rfl) (by rfl) (World.news_of_block BV83.out) (by simp [Value.oneCell']) (by omega) (by rw [List.length_map]; unfold maxLen; omega) (by rw [List.length_map]; omega) (by omega) _ rfl ?_
        intro gp2 cp2 W85 hown hg85 hatp hltp
        simp only [List.length_map] at hown ⊢
        have hs85 := hg85.size
        have HF85 := Lib.hid (HF83.out.grown hg85 (fun g e => by have := LOX.out g e; omega)); clear HF83
        have OUT85 := Lib.hid (BoxN.far OUT83.out hg85 (fun g e => by have := LOX.out g e; omega)); clear OUT83
        have M85 := Lib.hid (MpE.far M83.out hg85 (fun g e => by have := LOX.out g e; omega)); clear M83
        have HOO85 := Lib.hid (own_appP hown)
        have G85 := Lib.hid (GNT.addI G83.out hg85 HOO85.out (hatp.imp (fun e => e.symm) (fun e => ⟨_, rfl, Nat.le_of_eq e.symm⟩)))
        clear hown LOX hatp hltp HOI83 HOO85 BV83 G83
        have hS86 : W85.cell? ⟨WA.heap.size, 0, none⟩ = some (.slice A7 (rows.length + 1) c7) ∧ W85.cell? ⟨WA.heap.size, 1, none⟩ = some (vD) ∧ W85.cell? ⟨WA.heap.size, 2, none⟩ = some (vI) ∧ W85.cell? ⟨w.heap.size, 0, none⟩ = some (.slice (some ⟨b1, o1, none⟩) N.ends.length c1) ∧ W85.cell? ⟨w.heap.size, 1, none⟩ = some (.slice A1' N.ids.length c1') ∧ W85.cell? ⟨w.heap.size, 2, none⟩ = some (.slice (some ⟨bI, oI, none⟩) N.inputs.length c1'') ∧ W85.cell? ⟨bI, oI + v, none⟩ = some (.int .i64 x) := ⟨OUT85.out.cell 0 (by simp), OUT85.out.cell 1 (by simp), OUT85.out.cell 2 (by simp), (HF85.out.boxN bx1_2 (by omega)).cell 0 (by simp), (HF85.out.boxN bx1_2 (by omega)).cell 1 (by simp), (HF85.out.boxN bx1_2 (by omega)).cell 2 (by simp), (by have := (IntS.at_ (IntS.turned GI.out HF85.out (by omega) (by omega)) hvinn).1; rw [HX.out] at this; exact this)⟩
        refine hK.out _ _ ⟨fun _ => hS86, ?_⟩
        clear hK K hS84
        try simp only [List.getElem_toArray, List.getElem_cons_succ, List.getElem_cons_zero, Act.put, List.setIfInBounds_toArray, List.set_cons_zero, List.set_cons_succ]
        refine anyU_ready (rs := [9]) (by kernel_rfl) (by simp) ?_
        refine ReadyU.cons (i := 9) rfl (fun K hK => ?_) ReadyU.nil
        simp only [List.getElem_toArray, List.getElem_cons_succ, List.getElem_cons_zero]
        refine ite_is (by rfl) ?_
        simp [go_sem]
        refine hK.out _ _ ⟨fun _ => hS86, ?_⟩
        clear hK K
        try simp only [List.getElem_toArray, List.getElem_cons_succ, List.getElem_cons_zero, Act.put, List.setIfInBounds_toArray, List.set_cons_zero, List.set_cons_succ]
        have kd1 : W85.cell? ⟨WA.heap.size, 2, none⟩ = some vI := OUT85.out.cell 2 (by simp)
        have kdf := OUT85.out.frozen 2
        refine anyU_ready (rs := [10]) (by kernel_rfl) (by simp) ?_
        refine ReadyU.cons (i := 10) rfl (fun K hK => ?_) ReadyU.nil
        simp only [List.getElem_toArray, List.getElem_cons_succ, List.getElem_cons_zero]
        refine ite_is (by rfl) ?_
        simp [go_sem, kd1, kdf]
        refine hK.out _ _ ⟨fun h => absurd h (by decide), ?_⟩
        clear hK K
        try simp only [List.getElem_toArray, List.getElem_cons_succ, List.getElem_cons_zero, Act.put, List.setIfInBounds_toArray, List.set_cons_zero, List.set_cons_succ]
        refine nameU ?_
        intro W87 HW87
        have hg87 : W85.grownBy W87 (some WA.heap.size) := by rw [HW87.out]; exact grown_set _ _ _
        have hs87 := hg87.size
        have HF87 := Lib.hid (HF85.out.grown hg87 (fun g e => by cases e; omega)); clear HF85
        have M87 := Lib.hid (MpE.far M85.out hg87 (fun g e => by cases e; omega)); clear M85
        have HDN87 := Lib.hid (show BoxN W87 WA.heap.size #[.slice A7 (rows.length + 1) c7, vD, .slice (some ⟨gp2, 0, none⟩) (ins.length + 1) cp2] 34 by rw [HW87.out]; exact OUT85.out.set 2 _)
        have G87 := Lib.hid (GNT.keptB G85.out hg87 (fun g e => by cases e; omega))
        clear HW87 kd1 kdf OUT85 G85
        clear hS86
        refine anyU_done (by kernel_rfl) ?_ _
        by_cases hid : 0 < N.ids.length
        case neg =>
          have kbx1_0 : W87.cell? ⟨w.heap.size, 0, none⟩ = some (.slice (some ⟨b1, o1, none⟩) N.ends.length c1) := (HF87.out.boxN bx1_2 (by omega)).cell 0 (by simp)
          have kbx1_1 : W87.cell? ⟨w.heap.size, 1, none⟩ = some (.slice A1' N.ids.length c1') := (HF87.out.boxN bx1_2 (by omega)).cell 1 (by simp)
          have kbx1_2 : W87.cell? ⟨w.heap.size, 2, none⟩ = some (.slice (some ⟨bI, oI, none⟩) N.inputs.length c1'') := (HF87.out.boxN bx1_2 (by omega)).cell 2 (by simp)
          have hidi : ¬ (0 : Int) < N.ids.length := by omega
          go_wp2_with fail
          go_roundw
          case rel =>
            have HRR := G87.out
            refine ⟨k + 1, .slice A7 (rows.length + 1) c7, vD, .slice (some ⟨gp2, 0, none⟩) (ins.length + 1) cp2, by omega, by go_num, M87, HDN87, Lib.hid ?_, by omega, HF87⟩
            rw [if_neg hid]; rw [if_neg hid] at HIDS; rw [← HIDS.out] at HRR
            rw [HPR.out, HPI.out]
            exact GNT.up HRR (by omega)
          case measure => simp [intOf]; omega
        have hidi : (0 : Int) < N.ids.length := by omega
        have hidn : N.ids.length = N.ends.length := by have := HNI.out; omega
        have hvid : (v : Int) < N.ids.length := by rw [hidn]; exact hvi
        have hvidn : v < N.ids.length := by rw [hidn]; exact hvn
        have HIDN := Lib.hid hidn; clear hidn
        have GD := Lib.hid (netIds N_2.out)
        obtain ⟨bD, oD, rfl, _, hbD, _, _⟩ := GD.out.opened (j := 0) hid
        obtain ⟨xd, HXD⟩ : ∃ x, Hid (nth N.ids v = x) := ⟨_, Lib.hid rfl⟩
        rw [HXD.out] at HPD
        rw [if_pos hid] at HIDS
        rw [HIDS.out] at HPD
        have kbx1_0 : W87.cell? ⟨w.heap.size, 0, none⟩ = some (.slice (some ⟨b1, o1, none⟩) N.ends.length c1) := (HF87.out.boxN bx1_2 (by omega)).cell 0 (by simp)
        have kbx1_1 : W87.cell? ⟨w.heap.size, 1, none⟩ = some (.slice (some ⟨bD, oD, none⟩) N.ids.length c1') := (HF87.out.boxN bx1_2 (by omega)).cell 1 (by simp)
        have kbx1_2 : W87.cell? ⟨w.heap.size, 2, none⟩ = some (.slice (some ⟨bI, oI, none⟩) N.inputs.length c1'') := (HF87.out.boxN bx1_2 (by omega)).cell 2 (by simp)
        go_wp2_with fail
        clear kbx1_0 kbx1_1 kbx1_2
        refine wp_region_U (fun w' => w'.cell? ⟨WA.heap.size, 0, none⟩ = some (.slice A7 (rows.length + 1) c7) ∧ w'.cell? ⟨WA.heap.size, 1, none⟩ = some (vD) ∧ w'.cell? ⟨WA.heap.size, 2, none⟩ = some (.slice (some ⟨gp2, 0, none⟩) (ins.length + 1) cp2) ∧ w'.cell? ⟨w.heap.size, 0, none⟩ = some (.slice (some ⟨b1, o1, none⟩) N.ends.length c1) ∧ w'.cell? ⟨w.heap.size, 1, none⟩ = some (.slice (some ⟨bD, oD, none⟩) N.ids.length c1') ∧ w'.cell? ⟨w.heap.size, 2, none⟩ = some (.slice (some ⟨bI, oI, none⟩) N.inputs.length c1'') ∧ w'.cell? ⟨bD, oD + v, none⟩ = some (.int .i64 xd)) [10] (by kernel_rfl) ?_
        refine nameU ?_
        intro W88 HW88
        have hg88 : W87.grownBy W88 none := by rw [HW88.out]; exact grown_drew _
        clear HW88
        have hs88 := hg88.size
        have HF88 := Lib.hid (HF87.out.still hg88); clear HF87
        have OUT88 := Lib.hid (BoxN.still HDN87.out hg88); clear HDN87
        have M88 := Lib.hid (MpE.still M87.out hg88); clear M87
        have G88 := Lib.hid (GNT.still G87.out hg88); clear G87
        have hS89 : W88.cell? ⟨WA.heap.size, 0, none⟩ = some (.slice A7 (rows.length + 1) c7) ∧ W88.cell? ⟨WA.heap.size, 1, none⟩ = some (vD) ∧ W88.cell? ⟨WA.heap.size, 2, none⟩ = some (.slice (some ⟨gp2, 0, none⟩) (ins.length + 1) cp2) ∧ W88.cell? ⟨w.heap.size, 0, none⟩ = some (.slice (some ⟨b1, o1, none⟩) N.ends.length c1) ∧ W88.cell? ⟨w.heap.size, 1, none⟩ = some (.slice (some ⟨bD, oD, none⟩) N.ids.length c1') ∧ W88.cell? ⟨w.heap.size, 2, none⟩ = some (.slice (some ⟨bI, oI, none⟩) N.inputs.length c1'') ∧ W88.cell? ⟨bD, oD + v, none⟩ = some (.int .i64 xd) := ⟨OUT88.out.cell 0 (by simp), OUT88.out.cell 1 (by simp), OUT88.out.cell 2 (by simp), (HF88.out.boxN bx1_2 (by omega)).cell 0 (by simp), (HF88.out.boxN bx1_2 (by omega)).cell 1 (by simp), (HF88.out.boxN bx1_2 (by omega)).cell 2 (by simp), (by have := (IntS.at_ (IntS.turned GD.out HF88.out (by omega) (by omega)) hvidn).1; rw [HXD.out] at this; exact this)⟩
        refine anyU_take (i := 0) (v := .pointer (some ⟨WA.heap.size, 1, none⟩)) rfl (by kernel_rfl) (by kernel_rfl) (by kernel_rfl) (fun _ _ _ h => h) ⟨by rfl, fun w' hS' => (by obtain ⟨s1, s2, s3, s4, s5, s6, s7⟩ := hS'; go_simp)⟩ hS89 ?_
        simp only [List.getElem_toArray, List.getElem_cons_zero, Act.put, List.setIfInBounds_toArray, List.set_cons_zero, List.set_cons_succ]
        refine anyU_take (i := 1) (v := vD) rfl (by kernel_rfl) (by kernel_rfl) (by kernel_rfl) (fun _ _ _ h => h) ⟨by rfl, fun w' hS' => (by obtain ⟨s1, s2, s3, s4, s5, s6, s7⟩ := hS'; go_simp)⟩ hS89 ?_
        simp only [List.getElem_toArray, List.getElem_cons_succ, List.getElem_cons_zero, Act.put, List.setIfInBounds_toArray, List.set_cons_zero, List.set_cons_succ]
        refine anyU_take (i := 2) (v := .pointer (some ⟨w.heap.size, 1, none⟩)) rfl (by kernel_rfl) (by kernel_rfl) (by kernel_rfl) (fun _ _ _ h => h) ⟨by rfl, fun w' hS' => (by obtain ⟨s1, s2, s3, s4, s5, s6, s7⟩ := hS'; go_simp)⟩ hS89 ?_
        simp only [List.getElem_toArray, List.getElem_cons_succ, List.getElem_cons_zero, Act.put, List.setIfInBounds_toArray, List.set_cons_zero, List.set_cons_succ]
        refine anyU_take (i := 3) (v := .slice (some ⟨bD, oD, none⟩) N.ids.length c1') rfl (by kernel_rfl) (by kernel_rfl) (by kernel_rfl) (fun _ _ _ h => h) ⟨by rfl, fun w' hS' => (by obtain ⟨s1, s2, s3, s4, s5, s6, s7⟩ := hS'; go_simp)⟩ hS89 ?_
        simp only [List.getElem_toArray, List.getElem_cons_succ, List.getElem_cons_zero, Act.put, List.setIfInBounds_toArray, List.set_cons_zero, List.set_cons_succ]
        refine anyU_take (i := 4) (v := .int .i64 v) rfl (by kernel_rfl) (by kernel_rfl) (by kernel_rfl) (fun _ _ _ h => h) ⟨by rfl, fun w' hS' => (by obtain ⟨s1, s2, s3, s4, s5, s6, s7⟩ := hS'; go_simp)⟩ hS89 ?_
        simp only [List.getElem_toArray, List.getElem_cons_succ, List.getElem_cons_zero, Act.put, List.setIfInBounds_toArray, List.set_cons_zero, List.set_cons_succ]
        refine anyU_take (i := 5) (v := .pointer (some ⟨bD, oD + v, none⟩)) rfl (by kernel_rfl) (by kernel_rfl) (by kernel_rfl) (fun _ _ _ h => h) ⟨by rfl, fun w' hS' => (by obtain ⟨s1, s2, s3, s4, s5, s6, s7⟩ := hS'; simp [go_sem, hvid])⟩ hS89 ?_
        simp only [List.getElem_toArray, List.getElem_cons_succ, List.getElem_cons_zero, Act.put, List.setIfInBounds_toArray, List.set_cons_zero, List.set_cons_succ]
        refine anyU_take (i := 6) (v := .int .i64 xd) rfl (by kernel_rfl) (by kernel_rfl) (by kernel_rfl) (fun _ _ _ h => h) ⟨by rfl, fun w' hS' => (by obtain ⟨s1, s2, s3, s4, s5, s6, s7⟩ := hS'; go_simp)⟩ hS89 ?_
        simp only [List.getElem_toArray, List.getElem_cons_succ, List.getElem_cons_zero, Act.put, List.setIfInBounds_toArray, List.set_cons_zero, List.set_cons_succ]
        refine anyU_ready (rs := [7]) (by kernel_rfl) (by simp) ?_
        refine ReadyU.cons (i := 7) rfl (fun K hK => ?_) ReadyU.nil
        simp only [List.getElem_toArray, List.getElem_cons_succ, List.getElem_cons_zero]
        refine ite_is (by rfl) ?_
        simp [go_sem]
        refine hK.out _ _ ⟨fun _ => ⟨(OUT88.out.still (grown_alloc _ _)).cell 0 (by simp), (OUT88.out.still (grown_alloc _ _)).cell 1 (by simp), (OUT88.out.still (grown_alloc _ _)).cell 2 (by simp), ((HF88.out.boxN bx1_2 (by omega)).still (grown_alloc _ _)).cell 0 (by simp), ((HF88.out.boxN bx1_2 (by omega)).still (grown_alloc _ _)).cell 1 (by simp), ((HF88.out.boxN bx1_2 (by omega)).still (grown_alloc _ _)).cell 2 (by simp), (by have := (IntS.at_ (IntS.still (IntS.turned GD.out HF88.out (by omega) (by omega)) (grown_alloc W88 (.cells #[.int .i64 xd] 3)) (by omega)) hvidn).1; rw [HXD.out] at this; exact this)⟩, ?_⟩
        clear hK K
        try simp only [List.getElem_toArray, List.getElem_cons_succ, List.getElem_cons_zero, Act.put, List.setIfInBounds_toArray, List.set_cons_zero, List.set_cons_succ]
        refine nameU ?_
        intro W90 HW90
        have hg90 : W88.grownBy W90 none := by rw [HW90.out]; exact grown_alloc _ _
        have BV90 := Lib.hid (show BoxN W90 W88.heap.size #[.int .i64 xd] 3 by rw [HW90.out]; exact BoxN.new _ _ _)
        have hz90 : W88.heap.size < W90.heap.size := BV90.out.lt
        clear HW90
        have hs90 := hg90.size
        have HF90 := Lib.hid (HF88.out.still hg90); clear HF88
        have OUT90 := Lib.hid (BoxN.still OUT88.out hg90); clear OUT88
        have M90 := Lib.hid (MpE.still M88.out hg90); clear M88
        have G90 := Lib.hid (GNT.still G88.out hg90); clear G88
        have hS91 : W90.cell? ⟨WA.heap.size, 0, none⟩ = some (.slice A7 (rows.length + 1) c7) ∧ W90.cell? ⟨WA.heap.size, 1, none⟩ = some (vD) ∧ W90.cell? ⟨WA.heap.size, 2, none⟩ = some (.slice (some ⟨gp2, 0, none⟩) (ins.length + 1) cp2) ∧ W90.cell? ⟨w.heap.size, 0, none⟩ = some (.slice (some ⟨b1, o1, none⟩) N.ends.length c1) ∧ W90.cell? ⟨w.heap.size, 1, none⟩ = some (.slice (some ⟨bD, oD, none⟩) N.ids.length c1') ∧ W90.cell? ⟨w.heap.size, 2, none⟩ = some (.slice (some ⟨bI, oI, none⟩) N.inputs.length c1'') ∧ W90.cell? ⟨bD, oD + v, none⟩ = some (.int .i64 xd) := ⟨OUT90.out.cell 0 (by simp), OUT90.out.cell 1 (by simp), OUT90.out.cell 2 (by simp), (HF90.out.boxN bx1_2 (by omega)).cell 0 (by simp), (HF90.out.boxN bx1_2 (by omega)).cell 1 (by simp), (HF90.out.boxN bx1_2 (by omega)).cell 2 (by simp), (by have := (IntS.at_ (IntS.turned GD.out HF90.out (by omega) (by omega)) hvidn).1; rw [HXD.out] at this; exact this)⟩
        clear hS89
        have HOI90 := Lib.hid (G90.out.idsO)
        have LOX := Lib.hid HOI90.out.lt
        refine anyU_ready (rs := [8]) (by kernel_rfl) (by simp) ?_
        refine ReadyU.cons (i := 8) rfl (fun K hK => ?_) ReadyU.nil
        refine step_append_lies W90 (by rfl) _ _ _ (by rfl) W2.heap.size 3 i1 _ 1 _ Try.underlying23 HII.out HI1.out HI2.out HI3.out rfl (by omega) vD _ (ids.map (Value.int .i64)) (by rfl) HOI90.out ⟨W88.heap.size, 0, none⟩ 1 1 [.int .i64 xd] (by rfl) (by rfl) (World.news_of_block BV90.out) (by simp [Value.oneCell']) (by omega) (by rw [List.length_map]; unfold maxLen; omega) (by rw [List.length_map]; omega) (by omega) _ rfl ?_
        intro gp1 cp1 W92 hown hg92 hatp hltp
        simp only [List.length_map] at hown ⊢
        have hs92 := hg92.size
        have HF92 := Lib.hid (HF90.out.grown hg92 (fun g e => by have := LOX.out g e; omega)); clear HF90
        have OUT92 := Lib.hid (BoxN.far OUT90.out hg92 (fun g e => by have := LOX.out g e; omega)); clear OUT90
        have M92 := Lib.hid (MpE.far M90.out hg92 (fun g e => by have := LOX.out g e; omega)); clear M90
        have HOO92 := Lib.hid (own_appP hown)
        have G92 := Lib.hid (GNT.addD G90.out hg92 HOO92.out (hatp.imp (fun e => e.symm) (fun e => ⟨_, rfl, Nat.le_of_eq e.symm⟩)))
        clear hown LOX hatp hltp HOI90 HOO92 BV90 G90
        have hS93 : W92.cell? ⟨WA.heap.size, 0, none⟩ = some (.slice A7 (rows.length + 1) c7) ∧ W92.cell? ⟨WA.heap.size, 1, none⟩ = some (vD) ∧ W92.cell? ⟨WA.heap.size, 2, none⟩ = some (.slice (some ⟨gp2, 0, none⟩) (ins.length + 1) cp2) ∧ W92.cell? ⟨w.heap.size, 0, none⟩ = some (.slice (some ⟨b1, o1, none⟩) N.ends.length c1) ∧ W92.cell? ⟨w.heap.size, 1, none⟩ = some (.slice (some ⟨bD, oD, none⟩) N.ids.length c1') ∧ W92.cell? ⟨w.heap.size, 2, none⟩ = some (.slice (some ⟨bI, oI, none⟩) N.inputs.length c1'') ∧ W92.cell? ⟨bD, oD + v, none⟩ = some (.int .i64 xd) := ⟨OUT92.out.cell 0 (by simp), OUT92.out.cell 1 (by simp), OUT92.out.cell 2 (by simp), (HF92.out.boxN bx1_2 (by omega)).cell 0 (by simp), (HF92.out.boxN bx1_2 (by omega)).cell 1 (by simp), (HF92.out.boxN bx1_2 (by omega)).cell 2 (by simp), (by have := (IntS.at_ (IntS.turned GD.out HF92.out (by omega) (by omega)) hvidn).1; rw [HXD.out] at this; exact this)⟩
        refine hK.out _ _ ⟨fun _ => hS93, ?_⟩
        clear hK K hS91
        try simp only [List.getElem_toArray, List.getElem_cons_succ, List.getElem_cons_zero, Act.put, List.setIfInBounds_toArray, List.set_cons_zero, List.set_cons_succ]
        refine anyU_ready (rs := [9]) (by kernel_rfl) (by simp) ?_
        refine ReadyU.cons (i := 9) rfl (fun K hK => ?_) ReadyU.nil
        simp only [List.getElem_toArray, List.getElem_cons_succ, List.getElem_cons_zero]
        refine ite_is (by rfl) ?_
        simp [go_sem]
        refine hK.out _ _ ⟨fun _ => hS93, ?_⟩
        clear hK K
        try simp only [List.getElem_toArray, List.getElem_cons_succ, List.getElem_cons_zero, Act.put, List.setIfInBounds_toArray, List.set_cons_zero, List.set_cons_succ]
        have kd1 : W92.cell? ⟨WA.heap.size, 1, none⟩ = some vD := OUT92.out.cell 1 (by simp)
        have kdf := OUT92.out.frozen 1
        refine anyU_ready (rs := [10]) (by kernel_rfl) (by simp) ?_
        refine ReadyU.cons (i := 10) rfl (fun K hK => ?_) ReadyU.nil
        simp only [List.getElem_toArray, List.getElem_cons_succ, List.getElem_cons_zero]
        refine ite_is (by rfl) ?_
        simp [go_sem, kd1, kdf]
        refine hK.out _ _ ⟨fun h => absurd h (by decide), ?_⟩
        clear hK K
        try simp only [List.getElem_toArray, List.getElem_cons_succ, List.getElem_cons_zero, Act.put, List.setIfInBounds_toArray, List.set_cons_zero, List.set_cons_succ]
        refine nameU ?_
        intro W94 HW94
        have hg94 : W92.grownBy W94 (some WA.heap.size) := by rw [HW94.out]; exact grown_set _ _ _
        have hs94 := hg94.size
        have HF94 := Lib.hid (HF92.out.grown hg94 (fun g e => by cases e; omega)); clear HF92
        have M94 := Lib.hid (MpE.far M92.out hg94 (fun g e => by cases e; omega)); clear M92
        have HDN94 := Lib.hid (show BoxN W94 WA.heap.size #[.slice A7 (rows.length + 1) c7, .slice (some ⟨gp1, 0, none⟩) (ids.length + 1) cp1, .slice (some ⟨gp2, 0, none⟩) (ins.length + 1) cp2] 34 by rw [HW94.out]; exact OUT92.out.set 1 _)
        have G94 := Lib.hid (GNT.keptB G92.out hg94 (fun g e => by cases e; omega))
        clear HW94 kd1 kdf OUT92 G92
        clear hS93
        refine anyU_done (by kernel_rfl) ?_ _
        go_wp2_with fail
        go_roundw
        case rel =>
          have HRR := G94.out
          refine ⟨k + 1, .slice A7 (rows.length + 1) c7, .slice (some ⟨gp1, 0, none⟩) (ids.length + 1) cp1, .slice (some ⟨gp2, 0, none⟩) (ins.length + 1) cp2, by omega, by go_num, M94, HDN94, Lib.hid ?_, by omega, HF94⟩
          rw [if_pos hid, HPD.out]
          rw [HPR.out, HPI.out]
          exact GNT.up HRR (by omega)
        case measure => simp [intOf]; omega

theorem part_any (v1 : Value) (N : NetD) (lo1 hi1 : Nat) (v2 : Value) (zs : List Int) (lo2 hi2 : Nat) (keep : Nat) (caps : Array Value) (w : World) (h1 : Net w lo1 hi1 v1 N) (hh1 : hi1 ≤ w.heap.size) (h2 : IntS w lo2 hi2 v2 zs) (hh2 : hi2 ≤ w.heap.size) (eg : ∀ args w, (callFunc keep args).run Try.prog w = .ok (.enter keep args) w) (kp : Nat → Nat → Bool) (hkp : ∀ v i : Nat, v < N.ends.length → i < (nthL N.ends v).length → ∀ W, Below w.heap.size w W → Calls Try.prog keep (#[.int .i64 (v : Nat), .int .i64 (i : Nat)] ++ caps) W fun e w' => e = .returned (.bool (kp v i)) ∧ Below W.heap.size W w') (hg : N.good = true) (hzn : ∀ j, j < zs.length → ∃ t : Nat, nth zs j = t ∧ t < N.ends.length) (hzl : zs.length ≤ 40) :
    Calls Try.prog 31 #[v1, v2, .func (.func keep) #[] caps] w fun e w' => ∃ r, e = .returned (r) ∧ Net w' w.heap.size w'.heap.size r (partN N zs kp) ∧ Below w.heap.size w w' :=
  (partB_any v1 N lo1 hi1 v2 zs lo2 hi2 keep caps w h1 hh1 h2 hh2 eg kp hkp hg hzn hzl).mono fun e w' ⟨r, a, b, c⟩ => ⟨r, a, b.net, c⟩

end Go.Proofs.Ytcmmklcampmkjaa
