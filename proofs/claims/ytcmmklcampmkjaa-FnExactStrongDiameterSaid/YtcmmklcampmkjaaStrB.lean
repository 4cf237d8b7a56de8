/-
  Several texts in one: Part, Str, Str2, Str3. No condition on any program.
-/
import Derived.Test.YtcmmklcampmkjaaStrC
import Derived.Test.YtcmmklcampmkjaaQuadP
import Derived.Test.YtcmmklcampmkjaaBasics
import Derived.Deep.AppendLies
import Derived.Test.YtcmmklcampmkjaaStrA
import Derived.Test.YtcmmklcampmkjaaDistI
import Derived.Test.YtcmmklcampmkjaaNearP
import Derived.Test.YtcmmklcampmkjaaDistS
import Derived.Test.YtcmmklcampmkjaaComp
import Derived.BigQuiet
import Derived.Deep.QuietTactic
import Derived.Test.YtcmmklcampmkjaaDiam

/- Contract: the network of some nodes with the ports that a function keeps (program). -/
namespace Go.Proofs.Ytcmmklcampmkjaa
open Go.ChangeShapes Go.WideShapes Go.ChangeAt Go.RowKit
set_option linter.unusedVariables false

set_option maxHeartbeats 8000000 in
set_option maxRecDepth 100000 in
theorem part_any (v1 : Value) (N : NetD) (lo1 hi1 : Nat) (v2 : Value) (zs : List Int) (lo2 hi2 : Nat) (keep : Nat) (caps : Array Value) (w : World) (h1 : Net w lo1 hi1 v1 N) (hh1 : hi1 ≤ w.heap.size) (h2 : IntS w lo2 hi2 v2 zs) (hh2 : hi2 ≤ w.heap.size) (eg : ∀ args w, (callFunc keep args).run Try.prog w = .ok (.enter keep args) w) (kp : Nat → Nat → Bool) (hkp : ∀ v i : Nat, v < N.ends.length → i < (nthL N.ends v).length → ∀ W, Below w.heap.size w W → Calls Try.prog keep (#[.int .i64 (v : Nat), .int .i64 (i : Nat)] ++ caps) W fun e w' => e = .returned (.bool (kp v i)) ∧ Below W.heap.size W w') (hg : N.good = true) (hzn : ∀ j, j < zs.length → ∃ t : Nat, nth zs j = t ∧ t < N.ends.length) (hzl : zs.length ≤ 40) :
    Calls Try.prog 31 #[v1, v2, .func (.func keep) #[] caps] w fun e w' => ∃ r, e = .returned (r) ∧ Net w' w.heap.size w'.heap.size r (partN N zs kp) ∧ Below w.heap.size w w' := by
  obtain ⟨n1, n40⟩ := good_n hg
  have HG := Lib.hid hg; clear hg
  have hmm := @run_makeMap Try.prog
  have HKP := Lib.hid hkp; clear hkp
  have HZN := Lib.hid hzn; clear hzn
  have HNI := Lib.hid (good_idsl HG.out)
  have HNN := Lib.hid (good_insl HG.out)
  have F1 := Lib.hid h1
  obtain ⟨A1, c1, A1', c1', A1'', c1'', rfl, hc1, hd1, _⟩ := h1.parts
  obtain ⟨b1, o1, _, _, rfl, _⟩ := Net.rowAt F1.out (u := 0) (by omega)
  clear h1
  have F2 := Lib.hid h2
  obtain ⟨A2, c2, rfl, hc2, hd2⟩ := h2.dims
  clear h2
  obtain ⟨WA, HWA⟩ : ∃ W, Hid (W = ((w.alloc (.cells #[.slice (some ⟨b1, o1, none⟩) N.ends.length c1, .slice A1' N.ids.length c1', .slice A1'' N.inputs.length c1''] 34)).alloc (.cells #[.slice none 0 0, .slice none 0 0, .slice none 0 0] 34))) := ⟨_, Lib.hid rfl⟩
  have hbA : Below w.heap.size w WA := by rw [HWA.out]; exact (((Below.refl _ _).alloc (Nat.le_refl _) _).alloc (by simp; try omega) _)
  have hsA : w.heap.size + 2 ≤ WA.heap.size := by rw [HWA.out]; simp; try omega
  have bx1 : BoxN WA (w.heap.size) #[.slice (some ⟨b1, o1, none⟩) N.ends.length c1, .slice A1' N.ids.length c1', .slice A1'' N.inputs.length c1''] 34 := by rw [HWA.out]; exact ((BoxN.new' _ _ _ (by simp)).still (grown_alloc _ _))
  have bxx0 : BoxN WA (w.heap.size + 1) #[.slice none 0 0, .slice none 0 0, .slice none 0 0] 34 := by rw [HWA.out]; exact (BoxN.new' _ _ _ (by simp))
  have G1 := Lib.hid (Net.below F1.out hbA hh1); clear F1
  have G2 := Lib.hid (IntS.below F2.out hbA hh2); clear F2
  go_enter Try.func31, Try.ntmps31
  go_upto_region 1 with (fail)
  rw [← HWA.out]; clear HWA
  obtain ⟨bI, oI, rfl, _, hbI, _, _⟩ := (netIns G1.out).opened (j := 0) (by rw [HNN.out]; omega)
  go_upto_region 2 with (fail)
  refine nameC ?_
  intro W1 HW1
  have hg1 : WA.grownBy W1 none := by rw [HW1.out]; exact grown_alloc _ _
  have hs1 := hg1.size
  have HF1 := Lib.hid ((Turned.refl WA.heap.size WA.heap.size WA).still hg1)
  have OUT1 := Lib.hid (show BoxN W1 WA.heap.size #[.slice none 0 0, .slice none 0 0, .slice none 0 0] 34 by rw [HW1.out]; exact BoxN.new _ _ _)
  clear HW1
  have hgo := OUT1.out.lt
  go_upto_region 3 with (fail)
  refine nameC ?_
  intro W2 HW2
  have hg2 : W1.grownBy W2 none := by rw [HW2.out]; exact grown_alloc _ _
  have hs2 := hg2.size
  have HF2 := Lib.hid (HF1.out.still hg2); clear HF1
  have OUT2 := Lib.hid (BoxN.still OUT1.out hg2); clear OUT1
  have HM0 := Lib.hid (show MpE W2 W1.heap.size (fun _ _ => (0, 0)) 0 by rw [HW2.out]; exact MpE.new _)
  have hzm : W1.heap.size + 1 ≤ W2.heap.size := by rw [HW2.out]; simp
  clear HW2
  skip
  have N_2 := Lib.hid (Net.turned G1.out HF2.out (by omega) (by omega)); clear G1
  have zs_2 := Lib.hid (IntS.turned G2.out HF2.out (by omega) (by omega)); clear G2
  have bx1_2 := HF2.out.boxN bx1 (by omega); clear bx1
  have bxx0_2 := HF2.out.boxN bxx0 (by omega); clear bxx0
  have hbA2 : Below w.heap.size w W2 := (HF2.out.below_of hbA (by omega) (by omega)); clear hbA HF2
  have HB0 := Lib.hid (show BoxN W2 WA.heap.size #[.slice none 0 0, .slice none 0 0, .slice none 0 0] 34 from OUT2.out)
  go_wp2_with fail
  go_loopw [21] (fun kv wr => ∃ (k : Nat), k ≤ zs.length ∧ kv = .int .i64 k ∧ Hid (MpE wr W1.heap.size (allU N kp zs k) (6 * k)) ∧ Hid (BoxN wr WA.heap.size #[.slice none 0 0, .slice none 0 0, .slice none 0 0] 34) ∧ Hid (Turned WA.heap.size (W1.heap.size + 1) W2 wr)) (fun kv _ => zs.length - (intOf kv).toNat)
  case atStart => exact ⟨0, Nat.zero_le _, rfl, HM0, HB0, Lib.hid (Turned.refl WA.heap.size (W1.heap.size + 1) W2)⟩
  case round =>
    obtain ⟨k, hk, rfl, HM, HB, HF3⟩ := hrel
    have hs3 := HF3.out.size
    obtain ⟨wq, rfl⟩ : ∃ wq : World, wq = wr := ⟨_, rfl⟩
    by_cases hkl : k < zs.length
    case pos =>
      obtain ⟨v, hv, hvn⟩ := HZN.out k hkl
      obtain ⟨bz, oz, rfl, _, _, xz, _⟩ := IntS.opened (IntS.turned zs_2.out HF3.out (by omega) (by omega)) hkl
      rw [hv] at xz
      have hki : (k : Int) < zs.length := by omega
      have hd6 := good_deg HG.out hvn
      have HAU := Lib.hid (show allU N kp zs (k + 1) = rowU kp (allU N kp zs k) v k (nthL N.ends v).length by show rowU kp (allU N kp zs k) (nth zs k).toNat k _ = _; rw [hv, Int.toNat_natCast])
      have HV := Lib.hid hv; clear hv
      obtain ⟨Aa, ca, hba, qa, hca, hda, hRa⟩ := Net.rowIn N_2.out hvn
      replace qa := (HF3.out.cell (by omega) (by omega)).trans qa
      have Ra := Lib.hid hRa; clear hRa
      have kbx1_0 : wq.cell? ⟨w.heap.size, 0, none⟩ = some (.slice (some ⟨b1, o1, none⟩) N.ends.length c1) := (HF3.out.boxN bx1_2 (by omega)).cell 0 (by simp)
      have kbx1_1 : wq.cell? ⟨w.heap.size, 1, none⟩ = some (.slice A1' N.ids.length c1') := (HF3.out.boxN bx1_2 (by omega)).cell 1 (by simp)
      have kbx1_2 : wq.cell? ⟨w.heap.size, 2, none⟩ = some (.slice (some ⟨bI, oI, none⟩) N.inputs.length c1'') := (HF3.out.boxN bx1_2 (by omega)).cell 2 (by simp)
      have hvi : (v : Int) < N.ends.length := by omega
      go_wp2_with fail
      clear xz kbx1_0 kbx1_1 kbx1_2
      go_loopw [32, 11] (fun mv pv wr => ∃ (m : Nat), m ≤ (nthL N.ends v).length ∧ mv = .int .i64 m ∧ pv = .int .i64 (cntK kp v m : Nat) ∧ Hid (MpE wr W1.heap.size (rowU kp (allU N kp zs k) v k m) (6 * k + m)) ∧ Hid (BoxN wr WA.heap.size #[.slice none 0 0, .slice none 0 0, .slice none 0 0] 34) ∧ Hid (Turned WA.heap.size (W1.heap.size + 1) W2 wr)) (fun mv pv _ => (nthL N.ends v).length - (intOf mv).toNat)
      case atStart => exact ⟨0, Nat.zero_le _, rfl, rfl, HM, HB, HF3⟩
      case round =>
        clear HF3
        obtain ⟨m, hm, rfl, rfl, HM, HB, HF4⟩ := hrel
        have hs4 := HF4.out.size
        obtain ⟨ws, rfl⟩ : ∃ ws : World, ws = wr := ⟨_, rfl⟩
        have hck := cntK_le kp v m
        by_cases hml : m < (nthL N.ends v).length
        case neg =>
          obtain rfl : m = (nthL N.ends v).length := by omega
          go_wp2_with fail
          go_roundw
          case rel => exact ⟨k + 1, by omega, by go_num, Lib.hid (by rw [HAU.out]; exact HM.out.mono (by omega)), HB, HF4⟩
          case measure => simp [intOf]; omega
        have HCK := Lib.hid (HKP.out v m hvn hml ws (HF4.out.below_of hbA2 (by omega) (by omega)))
        have HCS := Lib.hid (cntK_succ kp v m)
        cases hb : kp v m with
        | false =>
          rw [hb] at HCK
          have HKB := Lib.hid hb; clear hb
          go_upto_region 13 with (go_at_fn keep; refine HCK.out.mono ?_; rintro e W5 ⟨rfl, hbl5⟩; have hg5 := grown_below hbl5; clear hbl5)
          have hs5 := hg5.size
          have HF5 := Lib.hid (HF4.out.still hg5); clear HF4
          have HM5 := Lib.hid (MpE.kept HM.out hg5 (by simp))
          have HB5 := Lib.hid (BoxN.still HB.out hg5)
          clear HM HB HCK
          have HRU := Lib.hid (show rowU kp (allU N kp zs k) v k (m + 1) = rowU kp (allU N kp zs k) v k m by simp only [rowU]; rw [HKB.out]; rfl)
          rw [HKB.out] at HCS
          go_wp2_with fail
          go_roundw
          case rel => exact ⟨m + 1, by omega, by go_num, by rw [HCS.out]; rfl, Lib.hid (by rw [HRU.out]; exact HM5.out.mono (by omega)), HB5, HF5⟩
          case measure => simp [intOf]; omega
        | true =>
          rw [hb] at HCK
          have HKB := Lib.hid hb; clear hb
          go_upto_region 11 with (go_at_fn keep; refine HCK.out.mono ?_; rintro e W6 ⟨rfl, hbl6⟩; have hg6 := grown_below hbl6; clear hbl6)
          have hs6 := hg6.size
          have HF6 := Lib.hid (HF4.out.still hg6); clear HF4
          have HM6 := Lib.hid (MpE.kept HM.out hg6 (by simp))
          have HB6 := Lib.hid (BoxN.still HB.out hg6)
          clear HM HB HCK
          have HRU := Lib.hid (show rowU kp (allU N kp zs k) v k (m + 1) = setUE (rowU kp (allU N kp zs k) v k m) v m (k, cntK kp v m) by simp only [rowU]; rw [if_pos HKB.out])
          rw [HKB.out] at HCS
          obtain ⟨w5, hU, hg5, HM5⟩ := HM6.out.put (by omega) (x := (v : Int)) (y := (m : Int)) (by unfold I64; omega) (by unfold I64; omega) (k, cntK kp v m)
          have HMM := Lib.hid HM5; clear HM5
          unfold endP at hU
          dsimp only at hU
          have HBB := Lib.hid (BoxN.far HB6.out hg5 (fun g e => by cases e; omega))
          have HF5 := Lib.hid (HF6.out.grown hg5 fun g e => .inl (by cases e; omega))
          go_wp2_with fail
          go_roundw
          case rel => exact ⟨m + 1, by omega, by go_num, by rw [HCS.out]; go_num, Lib.hid (by rw [HRU.out]; exact HMM.out.mono (by omega)), HBB, HF5⟩
          case measure => simp [intOf]; omega
    obtain rfl : k = zs.length := by omega
    obtain ⟨U, HU⟩ : ∃ U, Hid (allU N kp zs zs.length = U) := ⟨_, Lib.hid rfl⟩
    rw [HU.out] at HM
    go_wp2_with fail
    obtain ⟨hm0, HMU⟩ : ∃ m0, Hid (MpE wq W1.heap.size U m0) := ⟨_, HM⟩
    clear HM
    go_loopw [52] (fun kv wr => ∃ (k : Nat) (vE vD vI : Value), k ≤ zs.length ∧ kv = .int .i64 k ∧ Hid (MpE wr W1.heap.size U hm0) ∧ Hid (BoxN wr WA.heap.size #[vE, vD, vI] 34) ∧ Hid (GN wr W2.heap.size vE vD vI (partRows N kp U (zs.take k)) (if 0 < N.ids.length then pickL N.ids (zs.take k) else []) (pickL N.inputs (zs.take k))) ∧ W2.heap.size ≤ wr.heap.size ∧ Hid (Turned WA.heap.size (W1.heap.size + 1) W2 wr)) (fun kv _ => zs.length - (intOf kv).toNat)
    case atStart => exact ⟨0, .slice none 0 0, .slice none 0 0, .slice none 0 0, Nat.zero_le _, rfl, HMU, HB, Lib.hid (by rw [List.take_zero]; simp only [partRows, pickL, List.map_nil, ite_self]; exact GN.nil _ _), by omega, HF3⟩
    case round =>
      clear HF3
      obtain ⟨k, vE, vD, vI, hk, rfl, HM, HB, HGN, hz, HF7⟩ := hrel
      have hs7 := HF7.out.size
      obtain ⟨wt, rfl⟩ : ∃ wt : World, wt = wr := ⟨_, rfl⟩
      by_cases hkl : k < zs.length
      case neg =>
        obtain rfl : k = zs.length := by omega
        rw [List.take_length] at HGN
        have HPE := Lib.hid (show partN N zs kp = ⟨(partRows N kp U zs).map castL, if 0 < N.ids.length then pickL N.ids zs else [], pickL N.inputs zs⟩ by unfold partN; rw [HU.out])
        obtain ⟨rows, HRS⟩ : ∃ l, Hid (partRows N kp U zs = l) := ⟨_, Lib.hid rfl⟩
        obtain ⟨ids, HIDS⟩ : ∃ l, Hid ((if 0 < N.ids.length then pickL N.ids zs else []) = l) := ⟨_, Lib.hid rfl⟩
        obtain ⟨ins, HINS⟩ : ∃ l, Hid (pickL N.inputs zs = l) := ⟨_, Lib.hid rfl⟩
        rw [HRS.out, HIDS.out, HINS.out] at HGN HPE
        obtain ⟨AE, cE, rfl, _⟩ := HGN.out.lenE
        obtain ⟨AD, cD, rfl, _⟩ := HGN.out.idsO.ints.dims
        obtain ⟨AI, cI, rfl, _⟩ := HGN.out.insO.ints.dims
        have HR := Lib.hid HGN.out.net
        have ko0 : wt.cell? ⟨WA.heap.size, 0, none⟩ = some (.slice AE rows.length cE) := HB.out.cell 0 (by simp)
        have ko1 : wt.cell? ⟨WA.heap.size, 1, none⟩ = some (.slice AD ids.length cD) := HB.out.cell 1 (by simp)
        have ko2 : wt.cell? ⟨WA.heap.size, 2, none⟩ = some (.slice AI ins.length cI) := HB.out.cell 2 (by simp)
        have HBR := Lib.hid (HF7.out.boxN bxx0_2 (by omega))
        have kr0 : wt.cell? ⟨w.heap.size + 1, 0, none⟩ = some (.slice none 0 0) := HBR.out.cell 0 (by simp)
        have kr1 : wt.cell? ⟨w.heap.size + 1, 1, none⟩ = some (.slice none 0 0) := HBR.out.cell 1 (by simp)
        have kr2 : wt.cell? ⟨w.heap.size + 1, 2, none⟩ = some (.slice none 0 0) := HBR.out.cell 2 (by simp)
        have kf0 := HBR.out.frozen 0
        have kf1 := HBR.out.frozen 1
        have kf2 := HBR.out.frozen 2
        go_wp2_with fail
        ((try simp only [Exit.inBlock, Exit.then]); refine bodyPost_ret (results_cell1 rfl _ _ _ rfl (load_net (((HBR.out.set 0 (.slice AE rows.length cE)).set 1 (.slice AD ids.length cD)).set 2 (.slice AI ins.length cI)))) rfl ?_)
        have hg9 : wt.grownBy (((wt.setCell ⟨w.heap.size + 1, 0, none⟩ (.slice AE rows.length cE)).setCell ⟨w.heap.size + 1, 1, none⟩ (.slice AD ids.length cD)).setCell ⟨w.heap.size + 1, 2, none⟩ (.slice AI ins.length cI)) (some (w.heap.size + 1)) := grownBy_setCell (p := ⟨w.heap.size + 1, 2, none⟩) (grownBy_setCell (p := ⟨w.heap.size + 1, 1, none⟩) (grown_set wt ⟨w.heap.size + 1, 0, none⟩ _) rfl _) rfl _
        refine ⟨_, rfl, ?_, ((HF7.out.below_of hbA2 (by omega) (by omega)).grown hg9 (by omega) fun g e => by cases e; omega)⟩
        rw [HPE.out]
        exact Net.mono (Net.turned HR.out ((Turned.refl (w.heap.size + 1) (w.heap.size + 1 + 1) wt).grown hg9 (fun g e => .inl (by cases e; omega))) (Nat.le_refl _) (.inr (by omega))) (by omega) (by simp)
      obtain ⟨v, hv, hvn⟩ := HZN.out k hkl
      obtain ⟨bz, oz, rfl, _, _, xz, _⟩ := IntS.opened (IntS.turned zs_2.out HF7.out (by omega) (by omega)) hkl
      rw [hv] at xz
      have hki : (k : Int) < zs.length := by omega
      have hd6 := good_deg HG.out hvn
      have HV := Lib.hid hv; clear hv
      obtain ⟨Aa, ca, hba, qa, hca, hda, hRa⟩ := Net.rowIn N_2.out hvn
      replace qa := (HF7.out.cell (by omega) (by omega)).trans qa
      have Ra := Lib.hid hRa; clear hRa
      have kbx1_0 : wt.cell? ⟨w.heap.size, 0, none⟩ = some (.slice (some ⟨b1, o1, none⟩) N.ends.length c1) := (HF7.out.boxN bx1_2 (by omega)).cell 0 (by simp)
      have kbx1_1 : wt.cell? ⟨w.heap.size, 1, none⟩ = some (.slice A1' N.ids.length c1') := (HF7.out.boxN bx1_2 (by omega)).cell 1 (by simp)
      have kbx1_2 : wt.cell? ⟨w.heap.size, 2, none⟩ = some (.slice (some ⟨bI, oI, none⟩) N.inputs.length c1'') := (HF7.out.boxN bx1_2 (by omega)).cell 2 (by simp)
      have hvi : (v : Int) < N.ends.length := by omega
      go_wp2_with fail
      clear xz kbx1_0 kbx1_1 kbx1_2
      go_loopw [62, 15] (fun mv ov wr => ∃ (m : Nat), m ≤ (nthL N.ends v).length ∧ mv = .int .i64 m ∧ Hid (OwnE wr wt.heap.size 60 ov (partRow N kp U v m)) ∧ Hid (Below wt.heap.size wt wr)) (fun mv ov _ => (nthL N.ends v).length - (intOf mv).toNat)
      case atStart => exact ⟨0, Nat.zero_le _, rfl, Lib.hid (OwnE.nil _ _ _), Lib.hid (Below.refl _ _)⟩
      case round =>
        obtain ⟨m, hm, rfl, HO, HBW⟩ := hrel
        obtain ⟨wu, rfl⟩ : ∃ wu : World, wu = wr := ⟨_, rfl⟩
        have hs9 := HBW.out.size
        by_cases hml : m < (nthL N.ends v).length
        case pos =>
          obtain ⟨be, oe, rfl, _, _, xe, xe'⟩ := (EndS.below (EndS.turned Ra.out HF7.out (by omega) (by omega)) HBW.out (by omega)).opened hml
          obtain ⟨t, r, et, ht, hr, eu⟩ := good_end HG.out hvn hml
          rw [et] at xe xe'
          dsimp only at xe xe'
          have ET := Lib.hid et
          clear et eu
          have hrd := good_deg HG.out ht
          go_upto_region 22 with (fail)
          refine nameC ?_
          intro W9 HW9
          have hg9 : wu.grownBy W9 none := by rw [HW9.out]; exact grown_alloc _ _
          have hs9 := hg9.size
          have BE := Lib.hid (show BoxN W9 wu.heap.size #[.int .i64 t, .int .i64 r] 60 by rw [HW9.out]; exact BoxN.new _ _ _)
          clear HW9 xe xe'
          have HB2 := Lib.hid (HBW.out.trans ((grown_to_below hg9).mono (by omega)))
          have HO2 := Lib.hid (OwnE.still HO.out hg9)
          clear HO hg9
          have HCK := Lib.hid (HKP.out v m hvn hml W9 (Below.trans (HF7.out.below_of hbA2 (by omega) (by omega)) (HB2.out.mono (by omega))))
          cases hb : kp v m with
          | false =>
            rw [hb] at HCK
            have HKB := Lib.hid hb; clear hb
            go_wp2_with (go_at_fn keep; refine HCK.out.mono ?_; rintro e w6 ⟨rfl, hb6⟩; have hs6 := hb6.size; have HO6 := Lib.hid (OwnE.still HO2.out (grown_below hb6)); have HB6 := Lib.hid (HB2.out.trans (hb6.mono (by omega))))
            go_roundw
            case rel => exact ⟨m + 1, by omega, by go_num, Lib.hid (by rw [partRow_no HKB.out]; exact HO6.out), HB6⟩
            case measure => simp [intOf]; omega
          | true =>
            rw [hb] at HCK
            have HKB := Lib.hid hb; clear hb
            go_upto_region 23 with (go_at_fn keep; refine HCK.out.mono ?_; rintro e w6 ⟨rfl, hb6⟩; have hs6 := hb6.size; have HO6 := Lib.hid (OwnE.still HO2.out (grown_below hb6)); have HB6 := Lib.hid (HB2.out.trans (hb6.mono (by omega))); have BE6 := Lib.hid (BoxN.still BE.out (grown_below hb6)))
            have ke0 : w6.cell? ⟨wu.heap.size, 0, none⟩ = some (.int .i64 t) := BE6.out.cell 0 (by simp)
            have ke1 : w6.cell? ⟨wu.heap.size, 1, none⟩ = some (.int .i64 r) := BE6.out.cell 1 (by simp)
            have hlk := (MpE.kept HM.out (grown_below HB6.out) (by simp)).look (x := (t : Int)) (y := (r : Int)) (by unfold I64; omega) (by unfold I64; omega)
            have HRY := Lib.hid (show partRow N kp U v (m + 1) = partRow N kp U v m ++ [U t r] by rw [partRow_yes HKB.out, ET.out])
            have hpl := partRow_len N kp U v m
            have hck := cntK_le kp v m
            obtain ⟨l, HL⟩ : ∃ l, Hid (partRow N kp U v m = l) := ⟨_, Lib.hid rfl⟩
            rw [HL.out] at HO6 HRY hpl
            obtain ⟨p, HP⟩ : ∃ p, Hid (U t r = p) := ⟨_, Lib.hid rfl⟩
            rw [HP.out] at hlk HRY
            unfold endP at hlk
            have hlv := HO6.out.lt
            go_wp2_with (at_builtin; refine append_end (s := .tmp 71) Try.underlying61 Try.info60 rfl (by decide) w6 rfl _ rfl HO6.out p _ rfl (by simp [Act.eval, go_sem]) (by omega) (by omega) ?_; intro v' w' ho' hg' hat')
            go_roundw
            case rel =>
              exact ⟨m + 1, by omega, by go_num, Lib.hid (by rw [HRY.out]; exact ho'), Lib.hid (HB6.out.grown hg' (by omega) fun g hg => by have := hlv g hg; omega)⟩
            case measure => simp [intOf]; omega
        obtain rfl : m = (nthL N.ends v).length := by omega
        have HGN2 := Lib.hid (GN.still HGN.out (grown_below HBW.out))
        have HLE := Lib.hid HGN.out.ltE; have HLD := Lib.hid HGN.out.ltD; have HLI := Lib.hid HGN.out.ltI
        have HB2 := Lib.hid (BoxN.still HB.out (grown_below HBW.out))
        have HM2 := Lib.hid (MpE.kept HM.out (grown_below HBW.out) (by simp))
        have HF2 := Lib.hid (HF7.out.still (grown_below HBW.out))
        clear HGN HB HM HF7
        have hag : ∀ q : Value, (∀ g, q.ownBlock = some g → W2.heap.size ≤ g ∧ g < wt.heap.size) → Ap u15 q := fun q hq g h1 h2 => by have := HO.out.lt g h1; have := (hq g h2).2; omega
        have HAE := Lib.hid (hag vE HLE.out); have HAD := Lib.hid (hag vD HLD.out); have HAI := Lib.hid (hag vI HLI.out)
        clear hag
        obtain ⟨row, HRW⟩ : ∃ row, Hid (partRow N kp U v (nthL N.ends v).length = row) := ⟨_, Lib.hid rfl⟩
        rw [HRW.out] at HO
        obtain ⟨Au, cu, rfl, hcu, hdu⟩ := HO.out.len
        have HPR := Lib.hid (show partRows N kp U (zs.take (k + 1)) = partRows N kp U (zs.take k) ++ [row] by rw [partRows_take hkl, HV.out, Int.toNat_natCast, HRW.out])
        obtain ⟨rows, HRS⟩ : ∃ rows, Hid (partRows N kp U (zs.take k) = rows) := ⟨_, Lib.hid rfl⟩
        have hrl : rows.length ≤ 40 := by rw [← HRS.out, partRows_len, List.length_take]; omega
        rw [HRS.out] at HGN2 HPR
        have HOW := Lib.hid (OwnE.weak HO.out (show W2.heap.size ≤ wt.heap.size by omega)); clear HO
        have ko0 : wu.cell? ⟨WA.heap.size, 0, none⟩ = some vE := HB2.out.cell 0 (by simp)
        have kof := HB2.out.frozen 0
        go_upto_region 26 with (at_builtin; refine append_gn (s := .tmp 79) Try.underlying32 Try.info61 (by decide) wu rfl _ rfl HGN2.out HOW.out HAE.out HAD.out HAI.out _ (by simp [Act.eval, go_sem]) (by simp [Act.eval, go_sem]) (by omega) (by omega) ?_; intro vE2 w7 hgn7 hg7; obtain ⟨A7, c7, hq7, _⟩ := hgn7.lenE; simp only [List.length_append, List.length_cons, List.length_nil, Nat.zero_add] at hq7; subst hq7; have HGN7 := Lib.hid hgn7; have HG7 := Lib.hid hg7; have HB7 := Lib.hid (BoxN.far HB2.out hg7 (fun g e => by have := HLE.out g e; omega)); have ko7 : w7.cell? ⟨WA.heap.size, 0, none⟩ = some vE := HB7.out.cell 0 (by simp); have kof7 := HB7.out.frozen 0; clear hgn7 hg7)
        clear ko0 kof ko7 kof7
        have hg7 := HG7.out
        have hs7 := hg7.size
        refine nameC ?_
        intro W80 HW80
        have hg80 : w7.grownBy W80 (some WA.heap.size) := by rw [HW80.out]; exact grown_set _ ⟨WA.heap.size, 0, none⟩ _
        have hs80 := hg80.size
        have HB80 := Lib.hid (show BoxN W80 WA.heap.size #[.slice A7 (rows.length + 1) c7, vD, vI] 34 by rw [HW80.out]; exact HB7.out.set 0 _)
        have HGN80 := Lib.hid (GN.keptB HGN7.out hg80 (fun g e => by cases e; omega))
        have HM80 := Lib.hid (MpE.far (MpE.far HM2.out hg7 (fun g e => by have := HLE.out g e; omega)) hg80 (fun g e => by cases e; omega))
        have HF80 := Lib.hid ((HF2.out.grown hg7 (fun g e => .inr (by have := (HLE.out g e).1; omega))).grown hg80 (fun g e => .inl (by cases e; omega)))
        clear HW80 HB7 HGN7 HM2 HF2 HB2 HGN2 HOW HAE HAD HAI HLE hg7 HG7 hg80
        obtain ⟨i1, hi1', hz1⟩ := Option.map_eq_some_iff.1 Try.info3
        simp only [Prod.mk.injEq] at hz1
        obtain ⟨hz1a, hz1b, hz1c⟩ := hz1
        have HI1 := Lib.hid hz1a; have HI2 := Lib.hid hz1b; have HI3 := Lib.hid hz1c; have HII := Lib.hid hi1'
        clear hz1a hz1b hz1c hi1'
        have hpi1 := pickL_len N.inputs (zs.take k)
        rw [List.length_take] at hpi1
        have HPI := Lib.hid (show pickL N.inputs (zs.take (k + 1)) = pickL N.inputs (zs.take k) ++ [nth N.inputs v] by rw [pickL_take hkl, HV.out, Int.toNat_natCast])
        have HPD := Lib.hid (show pickL N.ids (zs.take (k + 1)) = pickL N.ids (zs.take k) ++ [nth N.ids v] by rw [pickL_take hkl, HV.out, Int.toNat_natCast])
        obtain ⟨ins, HINS⟩ : ∃ l, Hid (pickL N.inputs (zs.take k) = l) := ⟨_, Lib.hid rfl⟩
        obtain ⟨x, HX⟩ : ∃ x, Hid (nth N.inputs v = x) := ⟨_, Lib.hid rfl⟩
        obtain ⟨ids, HIDS⟩ : ∃ l, Hid ((if 0 < N.ids.length then pickL N.ids (zs.take k) else []) = l) := ⟨_, Lib.hid rfl⟩
        rw [HINS.out] at hpi1 HPI HGN80
        rw [HX.out] at HPI
        rw [HIDS.out] at HGN80
        have hidl : ids.length ≤ 40 := by
          rw [← HIDS.out]
          split
          · rw [pickL_len, List.length_take]; omega
          · simp
        have hinl : ins.length ≤ 40 := by omega
        have hvin : (v : Int) < N.inputs.length := by rw [HNN.out]; exact hvi
        have hvinn : v < N.inputs.length := by rw [HNN.out]; exact hvn
        have GI := Lib.hid (netIns N_2.out)
        go_wp2_with fail
        refine wp_region_U (fun w' => w'.cell? ⟨WA.heap.size, 0, none⟩ = some (.slice A7 (rows.length + 1) c7) ∧ w'.cell? ⟨WA.heap.size, 1, none⟩ = some (vD) ∧ w'.cell? ⟨WA.heap.size, 2, none⟩ = some (vI) ∧ w'.cell? ⟨w.heap.size, 0, none⟩ = some (.slice (some ⟨b1, o1, none⟩) N.ends.length c1) ∧ w'.cell? ⟨w.heap.size, 1, none⟩ = some (.slice A1' N.ids.length c1') ∧ w'.cell? ⟨w.heap.size, 2, none⟩ = some (.slice (some ⟨bI, oI, none⟩) N.inputs.length c1'') ∧ w'.cell? ⟨bI, oI + v, none⟩ = some (.int .i64 x)) [10] (by kernel_rfl) ?_
        refine nameU ?_
        intro W81 HW81
        have hg81 : W80.grownBy W81 none := by rw [HW81.out]; exact grown_drew _
        clear HW81
        have hs81 := hg81.size
        have HF81 := Lib.hid (HF80.out.still hg81); clear HF80
        have OUT81 := Lib.hid (BoxN.still HB80.out hg81); clear HB80
        have M81 := Lib.hid (MpE.still HM80.out hg81); clear HM80
        have G81 := Lib.hid (GN.still HGN80.out hg81); clear HGN80
        have hS82 : W81.cell? ⟨WA.heap.size, 0, none⟩ = some (.slice A7 (rows.length + 1) c7) ∧ W81.cell? ⟨WA.heap.size, 1, none⟩ = some (vD) ∧ W81.cell? ⟨WA.heap.size, 2, none⟩ = some (vI) ∧ W81.cell? ⟨w.heap.size, 0, none⟩ = some (.slice (some ⟨b1, o1, none⟩) N.ends.length c1) ∧ W81.cell? ⟨w.heap.size, 1, none⟩ = some (.slice A1' N.ids.length c1') ∧ W81.cell? ⟨w.heap.size, 2, none⟩ = some (.slice (some ⟨bI, oI, none⟩) N.inputs.length c1'') ∧ W81.cell? ⟨bI, oI + v, none⟩ = some (.int .i64 x) := ⟨OUT81.out.cell 0 (by simp), OUT81.out.cell 1 (by simp), OUT81.out.cell 2 (by simp), (HF81.out.boxN bx1_2 (by omega)).cell 0 (by simp), (HF81.out.boxN bx1_2 (by omega)).cell 1 (by simp), (HF81.out.boxN bx1_2 (by omega)).cell 2 (by simp), (by have := (IntS.at_ (IntS.turned GI.out HF81.out (by omega) (by omega)) hvinn).1; rw [HX.out] at this; exact this)⟩
        refine anyU_take (i := 0) (v := .pointer (some ⟨WA.heap.size, 2, none⟩)) rfl (by kernel_rfl) (by kernel_rfl) (by kernel_rfl) (fun _ _ _ h => h) ⟨by rfl, fun w' hS' => (by obtain ⟨s1, s2, s3, s4, s5, s6, s7⟩ := hS'; go_simp)⟩ hS82 ?_
        simp only [List.getElem_toArray, List.getElem_cons_zero, Act.put, List.setIfInBounds_toArray, List.set_cons_zero, List.set_cons_succ]
        refine anyU_take (i := 1) (v := vI) rfl (by kernel_rfl) (by kernel_rfl) (by kernel_rfl) (fun _ _ _ h => h) ⟨by rfl, fun w' hS' => (by obtain ⟨s1, s2, s3, s4, s5, s6, s7⟩ := hS'; go_simp)⟩ hS82 ?_
        simp only [List.getElem_toArray, List.getElem_cons_succ, List.getElem_cons_zero, Act.put, List.setIfInBounds_toArray, List.set_cons_zero, List.set_cons_succ]
        refine anyU_take (i := 2) (v := .pointer (some ⟨w.heap.size, 2, none⟩)) rfl (by kernel_rfl) (by kernel_rfl) (by kernel_rfl) (fun _ _ _ h => h) ⟨by rfl, fun w' hS' => (by obtain ⟨s1, s2, s3, s4, s5, s6, s7⟩ := hS'; go_simp)⟩ hS82 ?_
        simp only [List.getElem_toArray, List.getElem_cons_succ, List.getElem_cons_zero, Act.put, List.setIfInBounds_toArray, List.set_cons_zero, List.set_cons_succ]
        refine anyU_take (i := 3) (v := .slice (some ⟨bI, oI, none⟩) N.inputs.length c1'') rfl (by kernel_rfl) (by kernel_rfl) (by kernel_rfl) (fun _ _ _ h => h) ⟨by rfl, fun w' hS' => (by obtain ⟨s1, s2, s3, s4, s5, s6, s7⟩ := hS'; go_simp)⟩ hS82 ?_
        simp only [List.getElem_toArray, List.getElem_cons_succ, List.getElem_cons_zero, Act.put, List.setIfInBounds_toArray, List.set_cons_zero, List.set_cons_succ]
        refine anyU_take (i := 4) (v := .int .i64 v) rfl (by kernel_rfl) (by kernel_rfl) (by kernel_rfl) (fun _ _ _ h => h) ⟨by rfl, fun w' hS' => (by obtain ⟨s1, s2, s3, s4, s5, s6, s7⟩ := hS'; go_simp)⟩ hS82 ?_
        simp only [List.getElem_toArray, List.getElem_cons_succ, List.getElem_cons_zero, Act.put, List.setIfInBounds_toArray, List.set_cons_zero, List.set_cons_succ]
        refine anyU_take (i := 5) (v := .pointer (some ⟨bI, oI + v, none⟩)) rfl (by kernel_rfl) (by kernel_rfl) (by kernel_rfl) (fun _ _ _ h => h) ⟨by rfl, fun w' hS' => (by obtain ⟨s1, s2, s3, s4, s5, s6, s7⟩ := hS'; simp [go_sem, hvin])⟩ hS82 ?_
        simp only [List.getElem_toArray, List.getElem_cons_succ, List.getElem_cons_zero, Act.put, List.setIfInBounds_toArray, List.set_cons_zero, List.set_cons_succ]
        refine anyU_take (i := 6) (v := .int .i64 x) rfl (by kernel_rfl) (by kernel_rfl) (by kernel_rfl) (fun _ _ _ h => h) ⟨by rfl, fun w' hS' => (by obtain ⟨s1, s2, s3, s4, s5, s6, s7⟩ := hS'; go_simp)⟩ hS82 ?_
        simp only [List.getElem_toArray, List.getElem_cons_succ, List.getElem_cons_zero, Act.put, List.setIfInBounds_toArray, List.set_cons_zero, List.set_cons_succ]
        refine anyU_ready (rs := [7]) (by kernel_rfl) (by simp) ?_
        refine ReadyU.cons (i := 7) rfl (fun K hK => ?_) ReadyU.nil
        simp only [List.getElem_toArray, List.getElem_cons_succ, List.getElem_cons_zero]
        refine ite_is (by rfl) ?_
        simp [go_sem]
        refine hK.out _ _ ⟨fun _ => ⟨(OUT81.out.still (grown_alloc _ _)).cell 0 (by simp), (OUT81.out.still (grown_alloc _ _)).cell 1 (by simp), (OUT81.out.still (grown_alloc _ _)).cell 2 (by simp), ((HF81.out.boxN bx1_2 (by omega)).still (grown_alloc _ _)).cell 0 (by simp), ((HF81.out.boxN bx1_2 (by omega)).still (grown_alloc _ _)).cell 1 (by simp), ((HF81.out.boxN bx1_2 (by omega)).still (grown_alloc _ _)).cell 2 (by simp), (by have := (IntS.at_ (IntS.still (IntS.turned GI.out HF81.out (by omega) (by omega)) (grown_alloc W81 (.cells #[.int .i64 x] 3)) (by omega)) hvinn).1; rw [HX.out] at this; exact this)⟩, ?_⟩
        clear hK K
        try simp only [List.getElem_toArray, List.getElem_cons_succ, List.getElem_cons_zero, Act.put, List.setIfInBounds_toArray, List.set_cons_zero, List.set_cons_succ]
        refine nameU ?_
        intro W83 HW83
        have hg83 : W81.grownBy W83 none := by rw [HW83.out]; exact grown_alloc _ _
        have BV83 := Lib.hid (show BoxN W83 W81.heap.size #[.int .i64 x] 3 by rw [HW83.out]; exact BoxN.new _ _ _)
        have hz83 : W81.heap.size < W83.heap.size := BV83.out.lt
        clear HW83
        have hs83 := hg83.size
        have HF83 := Lib.hid (HF81.out.still hg83); clear HF81
        have OUT83 := Lib.hid (BoxN.still OUT81.out hg83); clear OUT81
        have M83 := Lib.hid (MpE.still M81.out hg83); clear M81
        have G83 := Lib.hid (GN.still G81.out hg83); clear G81
        have hS84 : W83.cell? ⟨WA.heap.size, 0, none⟩ = some (.slice A7 (rows.length + 1) c7) ∧ W83.cell? ⟨WA.heap.size, 1, none⟩ = some (vD) ∧ W83.cell? ⟨WA.heap.size, 2, none⟩ = some (vI) ∧ W83.cell? ⟨w.heap.size, 0, none⟩ = some (.slice (some ⟨b1, o1, none⟩) N.ends.length c1) ∧ W83.cell? ⟨w.heap.size, 1, none⟩ = some (.slice A1' N.ids.length c1') ∧ W83.cell? ⟨w.heap.size, 2, none⟩ = some (.slice (some ⟨bI, oI, none⟩) N.inputs.length c1'') ∧ W83.cell? ⟨bI, oI + v, none⟩ = some (.int .i64 x) := ⟨OUT83.out.cell 0 (by simp), OUT83.out.cell 1 (by simp), OUT83.out.cell 2 (by simp), (HF83.out.boxN bx1_2 (by omega)).cell 0 (by simp), (HF83.out.boxN bx1_2 (by omega)).cell 1 (by simp), (HF83.out.boxN bx1_2 (by omega)).cell 2 (by simp), (by have := (IntS.at_ (IntS.turned GI.out HF83.out (by omega) (by omega)) hvinn).1; rw [HX.out] at this; exact this)⟩
        clear hS82
        have HOI83 := Lib.hid (G83.out.insO)
        have LOX := Lib.hid HOI83.out.lt
        refine anyU_ready (rs := [8]) (by kernel_rfl) (by simp) ?_
        refine ReadyU.cons (i := 8) rfl (fun K hK => ?_) ReadyU.nil
        refine step_append_lies W83 (by rfl) _ _ _ (by rfl) W2.heap.size 3 i1 _ 1 _ Try.underlying23 HII.out HI1.out HI2.out HI3.out rfl (by omega) vI _ (ins.map (Value.int .i64)) (by rfl) HOI83.out ⟨W81.heap.size, 0, none⟩ 1 1 [.int .i64 x] (by rfl) (by rfl) (World.news_of_block BV83.out) (by simp [Value.oneCell']) (by omega) (by rw [List.length_map]; unfold maxLen; omega) (by rw [List.length_map]; omega) (by omega) _ rfl ?_
        intro gp2 cp2 W85 hown hg85 hatp hltp
        simp only [List.length_map] at hown ⊢
        have hs85 := hg85.size
        have HF85 := Lib.hid (HF83.out.grown hg85 (fun g e => by have := LOX.out g e; omega)); clear HF83
        have OUT85 := Lib.hid (BoxN.far OUT83.out hg85 (fun g e => by have := LOX.out g e; omega)); clear OUT83
        have M85 := Lib.hid (MpE.far M83.out hg85 (fun g e => by have := LOX.out g e; omega)); clear M83
        have HOO85 := Lib.hid (own_appP hown)
        have G85 := Lib.hid (GN.addI G83.out hg85 HOO85.out (hatp.imp (fun e => e.symm) (fun e => ⟨_, rfl, Nat.le_of_eq e.symm⟩)))
        clear hown LOX hatp hltp HOI83 HOO85 BV83 G83
        have hS86 : W85.cell? ⟨WA.heap.size, 0, none⟩ = some (.slice A7 (rows.length + 1) c7) ∧ W85.cell? ⟨WA.heap.size, 1, none⟩ = some (vD) ∧ W85.cell? ⟨WA.heap.size, 2, none⟩ = some (vI) ∧ W85.cell? ⟨w.heap.size, 0, none⟩ = some (.slice (some ⟨b1, o1, none⟩) N.ends.length c1) ∧ W85.cell? ⟨w.heap.size, 1, none⟩ = some (.slice A1' N.ids.length c1') ∧ W85.cell? ⟨w.heap.size, 2, none⟩ = some (.slice (some ⟨bI, oI, none⟩) N.inputs.length c1'') ∧ W85.cell? ⟨bI, oI + v, none⟩ = some (.int .i64 x) := ⟨OUT85.out.cell 0 (by simp), OUT85.out.cell 1 (by simp), OUT85.out.cell 2 (by simp), (HF85.out.boxN bx1_2 (by omega)).cell 0 (by simp), (HF85.out.boxN bx1_2 (by omega)).cell 1 (by simp), (HF85.out.boxN bx1_2 (by omega)).cell 2 (by simp), (by have := (IntS.at_ (IntS.turned GI.out HF85.out (by omega) (by omega)) hvinn).1; rw [HX.out] at this; exact this)⟩
        refine hK.out _ _ ⟨fun _ => hS86, ?_⟩
        clear hK K hS84
        try simp only [List.getElem_toArray, List.getElem_cons_succ, List.getElem_cons_zero, Act.put, List.setIfInBounds_toArray, List.set_cons_zero, List.set_cons_succ]
        refine anyU_ready (rs := [9]) (by kernel_rfl) (by simp) ?_
        refine ReadyU.cons (i := 9) rfl (fun K hK => ?_) ReadyU.nil
        simp only [List.getElem_toArray, List.getElem_cons_succ, List.getElem_cons_zero]
        refine ite_is (by rfl) ?_
        simp [go_sem]
        refine hK.out _ _ ⟨fun _ => hS86, ?_⟩
        clear hK K
        try simp only [List.getElem_toArray, List.getElem_cons_succ, List.getElem_cons_zero, Act.put, List.setIfInBounds_toArray, List.set_cons_zero, List.set_cons_succ]
        have kd1 : W85.cell? ⟨WA.heap.size, 2, none⟩ = some vI := OUT85.out.cell 2 (by simp)
        have kdf := OUT85.out.frozen 2
        refine anyU_ready (rs := [10]) (by kernel_rfl) (by simp) ?_
        refine ReadyU.cons (i := 10) rfl (fun K hK => ?_) ReadyU.nil
        simp only [List.getElem_toArray, List.getElem_cons_succ, List.getElem_cons_zero]
        refine ite_is (by rfl) ?_
        simp [go_sem, kd1, kdf]
        refine hK.out _ _ ⟨fun h => absurd h (by decide), ?_⟩
        clear hK K
        try simp only [List.getElem_toArray, List.getElem_cons_succ, List.getElem_cons_zero, Act.put, List.setIfInBounds_toArray, List.set_cons_zero, List.set_cons_succ]
        refine nameU ?_
        intro W87 HW87
        have hg87 : W85.grownBy W87 (some WA.heap.size) := by rw [HW87.out]; exact grown_set _ _ _
        have hs87 := hg87.size
        have HF87 := Lib.hid (HF85.out.grown hg87 (fun g e => by cases e; omega)); clear HF85
        have M87 := Lib.hid (MpE.far M85.out hg87 (fun g e => by cases e; omega)); clear M85
        have HDN87 := Lib.hid (show BoxN W87 WA.heap.size #[.slice A7 (rows.length + 1) c7, vD, .slice (some ⟨gp2, 0, none⟩) (ins.length + 1) cp2] 34 by rw [HW87.out]; exact OUT85.out.set 2 _)
        have G87 := Lib.hid (GN.keptB G85.out hg87 (fun g e => by cases e; omega))
        clear HW87 kd1 kdf OUT85 G85
        clear hS86
        refine anyU_done (by kernel_rfl) ?_ _
        by_cases hid : 0 < N.ids.length
        case neg =>
          have kbx1_0 : W87.cell? ⟨w.heap.size, 0, none⟩ = some (.slice (some ⟨b1, o1, none⟩) N.ends.length c1) := (HF87.out.boxN bx1_2 (by omega)).cell 0 (by simp)
          have kbx1_1 : W87.cell? ⟨w.heap.size, 1, none⟩ = some (.slice A1' N.ids.length c1') := (HF87.out.boxN bx1_2 (by omega)).cell 1 (by simp)
          have kbx1_2 : W87.cell? ⟨w.heap.size, 2, none⟩ = some (.slice (some ⟨bI, oI, none⟩) N.inputs.length c1'') := (HF87.out.boxN bx1_2 (by omega)).cell 2 (by simp)
          have hidi : ¬ (0 : Int) < N.ids.length := by omega
          go_wp2_with fail
          go_roundw
          case rel =>
            have HRR := G87.out
            refine ⟨k + 1, .slice A7 (rows.length + 1) c7, vD, .slice (some ⟨gp2, 0, none⟩) (ins.length + 1) cp2, by omega, by go_num, M87, HDN87, Lib.hid ?_, by omega, HF87⟩
            rw [if_neg hid]; rw [if_neg hid] at HIDS; rw [← HIDS.out] at HRR
            rw [HPR.out, HPI.out]
            exact HRR
          case measure => simp [intOf]; omega
        have hidi : (0 : Int) < N.ids.length := by omega
        have hidn : N.ids.length = N.ends.length := by have := HNI.out; omega
        have hvid : (v : Int) < N.ids.length := by rw [hidn]; exact hvi
        have hvidn : v < N.ids.length := by rw [hidn]; exact hvn
        have HIDN := Lib.hid hidn; clear hidn
        have GD := Lib.hid (netIds N_2.out)
        obtain ⟨bD, oD, rfl, _, hbD, _, _⟩ := GD.out.opened (j := 0) hid
        obtain ⟨xd, HXD⟩ : ∃ x, Hid (nth N.ids v = x) := ⟨_, Lib.hid rfl⟩
        rw [HXD.out] at HPD
        rw [if_pos hid] at HIDS
        rw [HIDS.out] at HPD
        have kbx1_0 : W87.cell? ⟨w.heap.size, 0, none⟩ = some (.slice (some ⟨b1, o1, none⟩) N.ends.length c1) := (HF87.out.boxN bx1_2 (by omega)).cell 0 (by simp)
        have kbx1_1 : W87.cell? ⟨w.heap.size, 1, none⟩ = some (.slice (some ⟨bD, oD, none⟩) N.ids.length c1') := (HF87.out.boxN bx1_2 (by omega)).cell 1 (by simp)
        have kbx1_2 : W87.cell? ⟨w.heap.size, 2, none⟩ = some (.slice (some ⟨bI, oI, none⟩) N.inputs.length c1'') := (HF87.out.boxN bx1_2 (by omega)).cell 2 (by simp)
        go_wp2_with fail
        clear kbx1_0 kbx1_1 kbx1_2
        refine wp_region_U (fun w' => w'.cell? ⟨WA.heap.size, 0, none⟩ = some (.slice A7 (rows.length + 1) c7) ∧ w'.cell? ⟨WA.heap.size, 1, none⟩ = some (vD) ∧ w'.cell? ⟨WA.heap.size, 2, none⟩ = some (.slice (some ⟨gp2, 0, none⟩) (ins.length + 1) cp2) ∧ w'.cell? ⟨w.heap.size, 0, none⟩ = some (.slice (some ⟨b1, o1, none⟩) N.ends.length c1) ∧ w'.cell? ⟨w.heap.size, 1, none⟩ = some (.slice (some ⟨bD, oD, none⟩) N.ids.length c1') ∧ w'.cell? ⟨w.heap.size, 2, none⟩ = some (.slice (some ⟨bI, oI, none⟩) N.inputs.length c1'') ∧ w'.cell? ⟨bD, oD + v, none⟩ = some (.int .i64 xd)) [10] (by kernel_rfl) ?_
        refine nameU ?_
        intro W88 HW88
        have hg88 : W87.grownBy W88 none := by rw [HW88.out]; exact grown_drew _
        clear HW88
        have hs88 := hg88.size
        have HF88 := Lib.hid (HF87.out.still hg88); clear HF87
        have OUT88 := Lib.hid (BoxN.still HDN87.out hg88); clear HDN87
        have M88 := Lib.hid (MpE.still M87.out hg88); clear M87
        have G88 := Lib.hid (GN.still G87.out hg88); clear G87
        have hS89 : W88.cell? ⟨WA.heap.size, 0, none⟩ = some (.slice A7 (rows.length + 1) c7) ∧ W88.cell? ⟨WA.heap.size, 1, none⟩ = some (vD) ∧ W88.cell? ⟨WA.heap.size, 2, none⟩ = some (.slice (some ⟨gp2, 0, none⟩) (ins.length + 1) cp2) ∧ W88.cell? ⟨w.heap.size, 0, none⟩ = some (.slice (some ⟨b1, o1, none⟩) N.ends.length c1) ∧ W88.cell? ⟨w.heap.size, 1, none⟩ = some (.slice (some ⟨bD, oD, none⟩) N.ids.length c1') ∧ W88.cell? ⟨w.heap.size, 2, none⟩ = some (.slice (some ⟨bI, oI, none⟩) N.inputs.length c1'') ∧ W88.cell? ⟨bD, oD + v, none⟩ = some (.int .i64 xd) := ⟨OUT88.out.cell 0 (by simp), OUT88.out.cell 1 (by simp), OUT88.out.cell 2 (by simp), (HF88.out.boxN bx1_2 (by omega)).cell 0 (by simp), (HF88.out.boxN bx1_2 (by omega)).cell 1 (by simp), (HF88.out.boxN bx1_2 (by omega)).cell 2 (by simp), (by have := (IntS.at_ (IntS.turned GD.out HF88.out (by omega) (by omega)) hvidn).1; rw [HXD.out] at this; exact this)⟩
        refine anyU_take (i := 0) (v := .pointer (some ⟨WA.heap.size, 1, none⟩)) rfl (by kernel_rfl) (by kernel_rfl) (by kernel_rfl) (fun _ _ _ h => h) ⟨by rfl, fun w' hS' => (by obtain ⟨s1, s2, s3, s4, s5, s6, s7⟩ := hS'; go_simp)⟩ hS89 ?_
        simp only [List.getElem_toArray, List.getElem_cons_zero, Act.put, List.setIfInBounds_toArray, List.set_cons_zero, List.set_cons_succ]
        refine anyU_take (i := 1) (v := vD) rfl (by kernel_rfl) (by kernel_rfl) (by kernel_rfl) (fun _ _ _ h => h) ⟨by rfl, fun w' hS' => (by obtain ⟨s1, s2, s3, s4, s5, s6, s7⟩ := hS'; go_simp)⟩ hS89 ?_
        simp only [List.getElem_toArray, List.getElem_cons_succ, List.getElem_cons_zero, Act.put, List.setIfInBounds_toArray, List.set_cons_zero, List.set_cons_succ]
        refine anyU_take (i := 2) (v := .pointer (some ⟨w.heap.size, 1, none⟩)) rfl (by kernel_rfl) (by kernel_rfl) (by kernel_rfl) (fun _ _ _ h => h) ⟨by rfl, fun w' hS' => (by obtain ⟨s1, s2, s3, s4, s5, s6, s7⟩ := hS'; go_simp)⟩ hS89 ?_
        simp only [List.getElem_toArray, List.getElem_cons_succ, List.getElem_cons_zero, Act.put, List.setIfInBounds_toArray, List.set_cons_zero, List.set_cons_succ]
        refine anyU_take (i := 3) (v := .slice (some ⟨bD, oD, none⟩) N.ids.length c1') rfl (by kernel_rfl) (by kernel_rfl) (by kernel_rfl) (fun _ _ _ h => h) ⟨by rfl, fun w' hS' => (by obtain ⟨s1, s2, s3, s4, s5, s6, s7⟩ := hS'; go_simp)⟩ hS89 ?_
        simp only [List.getElem_toArray, List.getElem_cons_succ, List.getElem_cons_zero, Act.put, List.setIfInBounds_toArray, List.set_cons_zero, List.set_cons_succ]
        refine anyU_take (i := 4) (v := .int .i64 v) rfl (by kernel_rfl) (by kernel_rfl) (by kernel_rfl) (fun _ _ _ h => h) ⟨by rfl, fun w' hS' => (by obtain ⟨s1, s2, s3, s4, s5, s6, s7⟩ := hS'; go_simp)⟩ hS89 ?_
        simp only [List.getElem_toArray, List.getElem_cons_succ, List.getElem_cons_zero, Act.put, List.setIfInBounds_toArray, List.set_cons_zero, List.set_cons_succ]
        refine anyU_take (i := 5) (v := .pointer (some ⟨bD, oD + v, none⟩)) rfl (by kernel_rfl) (by kernel_rfl) (by kernel_rfl) (fun _ _ _ h => h) ⟨by rfl, fun w' hS' => (by obtain ⟨s1, s2, s3, s4, s5, s6, s7⟩ := hS'; simp [go_sem, hvid])⟩ hS89 ?_
        simp only [List.getElem_toArray, List.getElem_cons_succ, List.getElem_cons_zero, Act.put, List.setIfInBounds_toArray, List.set_cons_zero, List.set_cons_succ]
        refine anyU_take (i := 6) (v := .int .i64 xd) rfl (by kernel_rfl) (by kernel_rfl) (by kernel_rfl) (fun _ _ _ h => h) ⟨by rfl, fun w' hS' => (by obtain ⟨s1, s2, s3, s4, s5, s6, s7⟩ := hS'; go_simp)⟩ hS89 ?_
        simp only [List.getElem_toArray, List.getElem_cons_succ, List.getElem_cons_zero, Act.put, List.setIfInBounds_toArray, List.set_cons_zero, List.set_cons_succ]
        refine anyU_ready (rs := [7]) (by kernel_rfl) (by simp) ?_
        refine ReadyU.cons (i := 7) rfl (fun K hK => ?_) ReadyU.nil
        simp only [List.getElem_toArray, List.getElem_cons_succ, List.getElem_cons_zero]
        refine ite_is (by rfl) ?_
        simp [go_sem]
        refine hK.out _ _ ⟨fun _ => ⟨(OUT88.out.still (grown_alloc _ _)).cell 0 (by simp), (OUT88.out.still (grown_alloc _ _)).cell 1 (by simp), (OUT88.out.still (grown_alloc _ _)).cell 2 (by simp), ((HF88.out.boxN bx1_2 (by omega)).still (grown_alloc _ _)).cell 0 (by simp), ((HF88.out.boxN bx1_2 (by omega)).still (grown_alloc _ _)).cell 1 (by simp), ((HF88.out.boxN bx1_2 (by omega)).still (grown_alloc _ _)).cell 2 (by simp), (by have := (IntS.at_ (IntS.still (IntS.turned GD.out HF88.out (by omega) (by omega)) (grown_alloc W88 (.cells #[.int .i64 xd] 3)) (by omega)) hvidn).1; rw [HXD.out] at this; exact this)⟩, ?_⟩
        clear hK K
        try simp only [List.getElem_toArray, List.getElem_cons_succ, List.getElem_cons_zero, Act.put, List.setIfInBounds_toArray, List.set_cons_zero, List.set_cons_succ]
        refine nameU ?_
        intro W90 HW90
        have hg90 : W88.grownBy W90 none := by rw [HW90.out]; exact grown_alloc _ _
        have BV90 := Lib.hid (show BoxN W90 W88.heap.size #[.int .i64 xd] 3 by rw [HW90.out]; exact BoxN.new _ _ _)
        have hz90 : W88.heap.size < W90.heap.size := BV90.out.lt
        clear HW90
        have hs90 := hg90.size
        have HF90 := Lib.hid (HF88.out.still hg90); clear HF88
        have OUT90 := Lib.hid (BoxN.still OUT88.out hg90); clear OUT88
        have M90 := Lib.hid (MpE.still M88.out hg90); clear M88
        have G90 := Lib.hid (GN.still G88.out hg90); clear G88
        have hS91 : W90.cell? ⟨WA.heap.size, 0, none⟩ = some (.slice A7 (rows.length + 1) c7) ∧ W90.cell? ⟨WA.heap.size, 1, none⟩ = some (vD) ∧ W90.cell? ⟨WA.heap.size, 2, none⟩ = some (.slice (some ⟨gp2, 0, none⟩) (ins.length + 1) cp2) ∧ W90.cell? ⟨w.heap.size, 0, none⟩ = some (.slice (some ⟨b1, o1, none⟩) N.ends.length c1) ∧ W90.cell? ⟨w.heap.size, 1, none⟩ = some (.slice (some ⟨bD, oD, none⟩) N.ids.length c1') ∧ W90.cell? ⟨w.heap.size, 2, none⟩ = some (.slice (some ⟨bI, oI, none⟩) N.inputs.length c1'') ∧ W90.cell? ⟨bD, oD + v, none⟩ = some (.int .i64 xd) := ⟨OUT90.out.cell 0 (by simp), OUT90.out.cell 1 (by simp), OUT90.out.cell 2 (by simp), (HF90.out.boxN bx1_2 (by omega)).cell 0 (by simp), (HF90.out.boxN bx1_2 (by omega)).cell 1 (by simp), (HF90.out.boxN bx1_2 (by omega)).cell 2 (by simp), (by have := (IntS.at_ (IntS.turned GD.out HF90.out (by omega) (by omega)) hvidn).1; rw [HXD.out] at this; exact this)⟩
        clear hS89
        have HOI90 := Lib.hid (G90.out.idsO)
        have LOX := Lib.hid HOI90.out.lt
        refine anyU_ready (rs := [8]) (by kernel_rfl) (by simp) ?_
        refine ReadyU.cons (i := 8) rfl (fun K hK => ?_) ReadyU.nil
        refine step_append_lies W90 (by rfl) _ _ _ (by rfl) W2.heap.size 3 i1 _ 1 _ Try.underlying23 HII.out HI1.out HI2.out HI3.out rfl (by omega) vD _ (ids.map (Value.int .i64)) (by rfl) HOI90.out ⟨W88.heap.size, 0, none⟩ 1 1 [.int .i64 xd] (by rfl) (by rfl) (World.news_of_block BV90.out) (by simp [Value.oneCell']) (by omega) (by rw [List.length_map]; unfold maxLen; omega) (by rw [List.length_map]; omega) (by omega) _ rfl ?_
        intro gp1 cp1 W92 hown hg92 hatp hltp
        simp only [List.length_map] at hown ⊢
        have hs92 := hg92.size
        have HF92 := Lib.hid (HF90.out.grown hg92 (fun g e => by have := LOX.out g e; omega)); clear HF90
        have OUT92 := Lib.hid (BoxN.far OUT90.out hg92 (fun g e => by have := LOX.out g e; omega)); clear OUT90
        have M92 := Lib.hid (MpE.far M90.out hg92 (fun g e => by have := LOX.out g e; omega)); clear M90
        have HOO92 := Lib.hid (own_appP hown)
        have G92 := Lib.hid (GN.addD G90.out hg92 HOO92.out (hatp.imp (fun e => e.symm) (fun e => ⟨_, rfl, Nat.le_of_eq e.symm⟩)))
        clear hown LOX hatp hltp HOI90 HOO92 BV90 G90
        have hS93 : W92.cell? ⟨WA.heap.size, 0, none⟩ = some (.slice A7 (rows.length + 1) c7) ∧ W92.cell? ⟨WA.heap.size, 1, none⟩ = some (vD) ∧ W92.cell? ⟨WA.heap.size, 2, none⟩ = some (.slice (some ⟨gp2, 0, none⟩) (ins.length + 1) cp2) ∧ W92.cell? ⟨w.heap.size, 0, none⟩ = some (.slice (some ⟨b1, o1, none⟩) N.ends.length c1) ∧ W92.cell? ⟨w.heap.size, 1, none⟩ = some (.slice (some ⟨bD, oD, none⟩) N.ids.length c1') ∧ W92.cell? ⟨w.heap.size, 2, none⟩ = some (.slice (some ⟨bI, oI, none⟩) N.inputs.length c1'') ∧ W92.cell? ⟨bD, oD + v, none⟩ = some (.int .i64 xd) := ⟨OUT92.out.cell 0 (by simp), OUT92.out.cell 1 (by simp), OUT92.out.cell 2 (by simp), (HF92.out.boxN bx1_2 (by omega)).cell 0 (by simp), (HF92.out.boxN bx1_2 (by omega)).cell 1 (by simp), (HF92.out.boxN bx1_2 (by omega)).cell 2 (by simp), (by have := (IntS.at_ (IntS.turned GD.out HF92.out (by omega) (by omega)) hvidn).1; rw [HXD.out] at this; exact this)⟩
        refine hK.out _ _ ⟨fun _ => hS93, ?_⟩
        clear hK K hS91
        try simp only [List.getElem_toArray, List.getElem_cons_succ, List.getElem_cons_zero, Act.put, List.setIfInBounds_toArray, List.set_cons_zero, List.set_cons_succ]
        refine anyU_ready (rs := [9]) (by kernel_rfl) (by simp) ?_
        refine ReadyU.cons (i := 9) rfl (fun K hK => ?_) ReadyU.nil
        simp only [List.getElem_toArray, List.getElem_cons_succ, List.getElem_cons_zero]
        refine ite_is (by rfl) ?_
        simp [go_sem]
        refine hK.out _ _ ⟨fun _ => hS93, ?_⟩
        clear hK K
        try simp only [List.getElem_toArray, List.getElem_cons_succ, List.getElem_cons_zero, Act.put, List.setIfInBounds_toArray, List.set_cons_zero, List.set_cons_succ]
        have kd1 : W92.cell? ⟨WA.heap.size, 1, none⟩ = some vD := OUT92.out.cell 1 (by simp)
        have kdf := OUT92.out.frozen 1
        refine anyU_ready (rs := [10]) (by kernel_rfl) (by simp) ?_
        refine ReadyU.cons (i := 10) rfl (fun K hK => ?_) ReadyU.nil
        simp only [List.getElem_toArray, List.getElem_cons_succ, List.getElem_cons_zero]
        refine ite_is (by rfl) ?_
        simp [go_sem, kd1, kdf]
        refine hK.out _ _ ⟨fun h => absurd h (by decide), ?_⟩
        clear hK K
        try simp only [List.getElem_toArray, List.getElem_cons_succ, List.getElem_cons_zero, Act.put, List.setIfInBounds_toArray, List.set_cons_zero, List.set_cons_succ]
        refine nameU ?_
        intro W94 HW94
        have hg94 : W92.grownBy W94 (some WA.heap.size) := by rw [HW94.out]; exact grown_set _ _ _
        have hs94 := hg94.size
        have HF94 := Lib.hid (HF92.out.grown hg94 (fun g e => by cases e; omega)); clear HF92
        have M94 := Lib.hid (MpE.far M92.out hg94 (fun g e => by cases e; omega)); clear M92
        have HDN94 := Lib.hid (show BoxN W94 WA.heap.size #[.slice A7 (rows.length + 1) c7, .slice (some ⟨gp1, 0, none⟩) (ids.length + 1) cp1, .slice (some ⟨gp2, 0, none⟩) (ins.length + 1) cp2] 34 by rw [HW94.out]; exact OUT92.out.set 1 _)
        have G94 := Lib.hid (GN.keptB G92.out hg94 (fun g e => by cases e; omega))
        clear HW94 kd1 kdf OUT92 G92
        clear hS93
        refine anyU_done (by kernel_rfl) ?_ _
        go_wp2_with fail
        go_roundw
        case rel =>
          have HRR := G94.out
          refine ⟨k + 1, .slice A7 (rows.length + 1) c7, .slice (some ⟨gp1, 0, none⟩) (ids.length + 1) cp1, .slice (some ⟨gp2, 0, none⟩) (ins.length + 1) cp2, by omega, by go_num, M94, HDN94, Lib.hid ?_, by omega, HF94⟩
          rw [if_pos hid, HPD.out]
          rw [HPR.out, HPI.out]
          exact HRR
        case measure => simp [intOf]; omega

end Go.Proofs.Ytcmmklcampmkjaa

/- Contracts: meConnected, meDiameter (reference); the closure of StrongDiameter (program). -/
namespace Go.Proofs.Ytcmmklcampmkjaa
open Go.ChangeShapes Go.WideShapes Go.ChangeAt Go.RowKit
set_option linter.unusedVariables false

theorem strong_false {N : NetD} {l : List Int} {v w : Nat} (hv : v < N.ends.length) (hw : w < N.ends.length) (h : strongAt N l v w = false) : strongB N l = false := by
  cases e : strongB N l with
  | false => rfl
  | true =>
    unfold strongB at e
    simp only [List.all_eq_true, List.mem_range] at e
    rw [e v hv w hw] at h; cases h
theorem strong_true {N : NetD} {l : List Int} (h : ∀ v, v < N.ends.length → ∀ w, w < N.ends.length → strongAt N l v w = true) : strongB N l = true := by
  unfold strongB
  simp only [List.all_eq_true, List.mem_range]
  exact h
theorem NetF.far {w w' : World} {lo hi : Nat} {v : Value} {N : NetD} {row : Option Nat} (h : Net w lo hi v N) (hg : w.grownBy w' row) (hB : hi ≤ w.heap.size) (hr : ∀ g, row = some g → g < lo ∨ hi ≤ g) : Net w' lo hi v N := by
  obtain ⟨a, b, c, rfl, h1, h2, h3⟩ := h
  exact ⟨a, b, c, rfl, SS.keep (fun h => EndS.far h hg hB hr) h1 fun k k1 k2 => hg.block k (by omega) (fun e => by have := hr k e.symm; omega), h2.far hg hB hr, h3.far hg hB hr⟩
theorem NetF.still {w w' : World} {lo hi : Nat} {v : Value} {N : NetD} (h : Net w lo hi v N) (hg : w.grownBy w' none) (hB : hi ≤ w.heap.size) : Net w' lo hi v N := NetF.far h hg hB (no_row _ _)
theorem netEnds {w : World} {lo hi : Nat} {v1 v2 v3 : Value} {N : NetD} (h : Net w lo hi (.agg #[v1, v2, v3]) N) : EndSS w lo hi v1 N.ends := by
  obtain ⟨a, b, c, e, h1, _⟩ := h
  simp only [Value.agg.injEq, Array.mk.injEq, List.cons.injEq, and_true] at e
  obtain ⟨rfl, rfl, rfl⟩ := e
  exact h1
theorem net_deg {N : NetD} (hg : N.good = true) : ∀ u, u < N.ends.length → (nthL N.ends u).length ≤ 1048576 := fun u hu => by have := good_deg hg hu; omega

set_option maxHeartbeats 4000000 in
set_option maxRecDepth 100000 in
theorem sd1_any (v i gn gd : Nat) (N : NetD) (l : List Int) (VC VE : Value) (lo1 hi1 lo2 hi2 : Nat) (w : World) (x1 : w.cell? ⟨gd, 0, none⟩ = some VC) (x2 : w.cell? ⟨gn, 0, none⟩ = some VE) (hC : IntS w lo2 hi2 VC l) (hE : EndSS w lo1 hi1 VE N.ends) (hg : N.good = true) (hl : l.length = N.ends.length) (hv : v < N.ends.length) (hi : i < (nthL N.ends v).length) :
    Calls Try.prog 33 (#[.int .i64 (v : Nat), .int .i64 (i : Nat)] ++ #[.pointer (some ⟨gd, 0, none⟩), .pointer (some ⟨gn, 0, none⟩)]) w fun e w' => e = .returned (.bool (kpC N l v i)) ∧ Below w.heap.size w w' := by
  obtain ⟨t, r, et, ht, _, _⟩ := good_end hg hv hi
  obtain ⟨A, k, rfl, hk1, hk2⟩ := SS.dims hE
  obtain ⟨b, o, u, rfl, _, hb, z, hu⟩ := SS.opened hE hv
  obtain ⟨A2, k2, rfl, hk3, hk4⟩ := hu.dims
  obtain ⟨b2, o2, rfl, _, hb2, y, _⟩ := hu.opened hi
  rw [et] at y
  dsimp only at y
  obtain ⟨A3, k3, rfl, hk5, hk6⟩ := hC.dims
  obtain ⟨b3, o3, rfl, _, hb3, y1, _⟩ := hC.opened (j := v) (by rw [hl]; exact hv)
  have y2 := (hC.at_ (j := t) (by rw [hl]; exact ht)).1
  obtain ⟨p, HP⟩ : ∃ x, Hid (nth l v = x) := ⟨_, Lib.hid rfl⟩
  obtain ⟨q, HQ⟩ : ∃ x, Hid (nth l t = x) := ⟨_, Lib.hid rfl⟩
  have HK := Lib.hid (show kpC N l v i = (p == q) by unfold kpC; rw [et, Int.toNat_natCast, HP.out, HQ.out, Bool.eq_iff_iff]; simp)
  rw [HP.out] at y1
  rw [HQ.out] at y2
  have hvi : (v : Int) < N.ends.length := by omega
  have hvl : (v : Int) < l.length := by omega
  have htl : (t : Int) < l.length := by omega
  have hii : (i : Int) < (nthL N.ends v).length := by omega
  have HL := Lib.hid hl
  clear hE hu hC hl et
  show Calls Try.prog 33 #[.int .i64 (v : Nat), .int .i64 (i : Nat), .pointer (some ⟨gd, 0, none⟩), .pointer (some ⟨gn, 0, none⟩)] w _
  go_enter Try.func33, Try.ntmps33
  go_wp2_with fail
  go_quiet (fail)
  go_wp2_with fail
  go_ret
  exact ⟨ret_bool HK.out.symm, below_drewN (Below.refl _ _) _⟩

set_option maxHeartbeats 2000000 in
set_option maxRecDepth 100000 in
theorem meConnected_any (v1 : Value) (N : NetD) (lo1 hi1 : Nat) (w : World) (h1 : Net w lo1 hi1 v1 N) (hh1 : hi1 ≤ w.heap.size) (hg : N.good = true) :
    Calls Try.prog 26 #[v1] w fun e w' => e = .returned (.bool (connB N)) ∧ Below w.heap.size w w' := by
  obtain ⟨n1, n40⟩ := good_n hg
  have HG := Lib.hid hg; clear hg
  have F1 := Lib.hid h1
  obtain ⟨A1, c1, A1', c1', A1'', c1'', rfl, hc1, hd1, _⟩ := h1.parts
  obtain ⟨b1, o1, _, _, rfl, _⟩ := Net.rowAt F1.out (u := 0) (by omega)
  clear h1
  obtain ⟨WA, HWA⟩ : ∃ W, Hid (W = (w.alloc (.cells #[.slice (some ⟨b1, o1, none⟩) N.ends.length c1, .slice A1' N.ids.length c1', .slice A1'' N.inputs.length c1''] 34))) := ⟨_, Lib.hid rfl⟩
  have hbA : Below w.heap.size w WA := by rw [HWA.out]; exact ((Below.refl _ _).alloc (Nat.le_refl _) _)
  have hsA : w.heap.size + 1 ≤ WA.heap.size := by rw [HWA.out]; simp; try omega
  have bx1 : BoxN WA (w.heap.size) #[.slice (some ⟨b1, o1, none⟩) N.ends.length c1, .slice A1' N.ids.length c1', .slice A1'' N.inputs.length c1''] 34 := by rw [HWA.out]; exact (BoxN.new' _ _ _ (by simp))
  have G1 := Lib.hid (Net.below F1.out hbA hh1); clear F1
  go_enter Try.func26, Try.ntmps26
  go_upto_region 1 with (fail)
  rw [← HWA.out]; clear HWA
  have kbx1_0 : WA.cell? ⟨w.heap.size, 0, none⟩ = some (.slice (some ⟨b1, o1, none⟩) N.ends.length c1) := bx1.cell 0 (by simp)
  have kbx1_1 : WA.cell? ⟨w.heap.size, 1, none⟩ = some (.slice A1' N.ids.length c1') := bx1.cell 1 (by simp)
  have kbx1_2 : WA.cell? ⟨w.heap.size, 2, none⟩ = some (.slice A1'' N.inputs.length c1'') := bx1.cell 2 (by simp)
  go_wp2_with fail
  clear kbx1_0 kbx1_1 kbx1_2
  refine (meFrom_any _ N 0 lo1 hi1 _ G1.out (by omega) (by omega) (by omega) (good_nodes HG.out) (net_deg HG.out)).mono ?_
  rintro e W1 ⟨r, rfl, hr, hb1⟩
  have hg1 := grown_below hb1; clear hb1
  have hs1 := hg1.size
  have HF1 := Lib.hid ((Turned.refl WA.heap.size WA.heap.size WA).still hg1)
  have R1 := Lib.hid hr; clear hr
  obtain ⟨Ar, cr, rfl, hcr, hdr⟩ := R1.out.dims
  go_wp2_with fail
  refine (l1All_any _ (dist N 0) 0 40 _ _ _ R1.out).mono ?_
  rintro e w' ⟨rfl, rfl⟩
  go_wp2_with fail
  go_ret
  exact ⟨rfl, (HF1.out.below_of hbA (by omega) (by omega))⟩

set_option maxHeartbeats 2000000 in
set_option maxRecDepth 100000 in
theorem meDiameter_any (v1 : Value) (N : NetD) (lo1 hi1 : Nat) (w : World) (h1 : Net w lo1 hi1 v1 N) (hh1 : hi1 ≤ w.heap.size) (hg : N.good = true) :
    Calls Try.prog 28 #[v1] w fun e w' => e = .returned (.int .i64 (diaN N)) ∧ Below w.heap.size w w' := by
  obtain ⟨n1, n40⟩ := good_n hg
  have HG := Lib.hid hg; clear hg
  have F1 := Lib.hid h1
  obtain ⟨A1, c1, A1', c1', A1'', c1'', rfl, hc1, hd1, _⟩ := h1.parts
  obtain ⟨b1, o1, _, _, rfl, _⟩ := Net.rowAt F1.out (u := 0) (by omega)
  clear h1
  obtain ⟨WA, HWA⟩ : ∃ W, Hid (W = (w.alloc (.cells #[.slice (some ⟨b1, o1, none⟩) N.ends.length c1, .slice A1' N.ids.length c1', .slice A1'' N.inputs.length c1''] 34))) := ⟨_, Lib.hid rfl⟩
  have hbA : Below w.heap.size w WA := by rw [HWA.out]; exact ((Below.refl _ _).alloc (Nat.le_refl _) _)
  have hsA : w.heap.size + 1 ≤ WA.heap.size := by rw [HWA.out]; simp; try omega
  have bx1 : BoxN WA (w.heap.size) #[.slice (some ⟨b1, o1, none⟩) N.ends.length c1, .slice A1' N.ids.length c1', .slice A1'' N.inputs.length c1''] 34 := by rw [HWA.out]; exact (BoxN.new' _ _ _ (by simp))
  have G1 := Lib.hid (Net.below F1.out hbA hh1); clear F1
  go_enter Try.func28, Try.ntmps28
  go_upto_region 1 with (fail)
  rw [← HWA.out]; clear HWA
  have kbx1_0 : WA.cell? ⟨w.heap.size, 0, none⟩ = some (.slice (some ⟨b1, o1, none⟩) N.ends.length c1) := bx1.cell 0 (by simp)
  have kbx1_1 : WA.cell? ⟨w.heap.size, 1, none⟩ = some (.slice A1' N.ids.length c1') := bx1.cell 1 (by simp)
  have kbx1_2 : WA.cell? ⟨w.heap.size, 2, none⟩ = some (.slice A1'' N.inputs.length c1'') := bx1.cell 2 (by simp)
  go_wp2_with fail
  clear kbx1_0 kbx1_1 kbx1_2
  go_loopw [8, 3] (fun kv ov wr => ∃ (k : Nat) (y : Int), k ≤ N.ends.length ∧ kv = .int .i64 k ∧ ov = .int .i64 y ∧ Hid (y = mostI (diaL N k)) ∧ Hid (Turned WA.heap.size WA.heap.size WA wr)) (fun kv ov _ => N.ends.length - (intOf kv).toNat)
  case atStart => exact ⟨0, 0, Nat.zero_le _, rfl, rfl, Lib.hid (by simp [diaL, mostI]), Lib.hid (Turned.refl WA.heap.size WA.heap.size WA)⟩
  case round =>
    obtain ⟨k, y, hk, rfl, rfl, HY, HF1⟩ := hrel
    have hs1 := HF1.out.size
    by_cases hkn : k < N.ends.length
    case neg =>
      obtain rfl : k = N.ends.length := by omega
      go_wp2_with fail
      go_ret
      exact ⟨ret_int HY.out, (HF1.out.below_of hbA (by omega) (by omega))⟩
    have hki : (k : Int) < N.ends.length := by omega
    have HYN := Lib.hid (show mostI (diaL N (k + 1)) = if mostI (dist N k) < y then y else mostI (dist N k) by rw [diaL_succ, mostI_append, HY.out])
    have kbx1_0 : wr.cell? ⟨w.heap.size, 0, none⟩ = some (.slice (some ⟨b1, o1, none⟩) N.ends.length c1) := (HF1.out.boxN bx1 (by omega)).cell 0 (by simp)
    have kbx1_1 : wr.cell? ⟨w.heap.size, 1, none⟩ = some (.slice A1' N.ids.length c1') := (HF1.out.boxN bx1 (by omega)).cell 1 (by simp)
    have kbx1_2 : wr.cell? ⟨w.heap.size, 2, none⟩ = some (.slice A1'' N.inputs.length c1'') := (HF1.out.boxN bx1 (by omega)).cell 2 (by simp)
    go_wp2_with fail
    clear kbx1_0 kbx1_1 kbx1_2
    refine (meFrom_any _ N k lo1 hi1 _ (Net.turned G1.out HF1.out (by omega) (by omega)) (by omega) hkn (by omega) (good_nodes HG.out) (net_deg HG.out)).mono ?_
    rintro e W2 ⟨r, rfl, hr, hb2⟩
    have hg2 := grown_below hb2; clear hb2
    have hs2 := hg2.size
    have HF2 := Lib.hid (HF1.out.still hg2); clear HF1
    have R2 := Lib.hid hr; clear hr
    obtain ⟨Ar, cr, rfl, hcr, hdr⟩ := R2.out.dims
    go_wp2_with fail
    refine (meMost_any _ (dist N k) _ _ _ R2.out (by omega)).mono ?_
    rintro e w' ⟨rfl, rfl⟩
    go_wp2_with fail
    refine (l1Most_any _ _ _).mono ?_
    rintro e w' ⟨rfl, rfl⟩
    go_wp2_with fail
    go_roundw
    case rel => exact ⟨k + 1, _, by omega, by go_num, rfl, Lib.hid HYN.out.symm, HF2⟩
    case measure => simp [intOf]; omega

end Go.Proofs.Ytcmmklcampmkjaa

/- Contracts: StrongDiameter, program and reference. -/
namespace Go.Proofs.Ytcmmklcampmkjaa
open Go.ChangeShapes Go.WideShapes Go.ChangeAt Go.RowKit
set_option linter.unusedVariables false

set_option maxHeartbeats 8000000 in
set_option maxRecDepth 100000 in
theorem StrongDiameter_impl (v1 : Value) (N : NetD) (lo1 hi1 : Nat) (v2 : Value) (D : DecD) (lo2 hi2 : Nat) (w : World) (h1 : Net w lo1 hi1 v1 N) (hh1 : hi1 ≤ w.heap.size) (h2 : Dec w lo2 hi2 v2 D) (hh2 : hi2 ≤ w.heap.size) (hz1 : N.sz ≤ 1048576) (hz2 : D.sz ≤ 1048576) (ok1 : N.Ok) (ok2 : D.Ok) :
    Calls Try.prog 10 #[v1, v2] w fun e w' => e = .returned (.tuple #[.int .i64 (strongV N D), .bool (strongOk N D)]) ∧ Below w.heap.size w w' := by
  clear ok1 ok2
  have F1 := Lib.hid h1
  obtain ⟨A1, c1, A1', c1', A1'', c1'', rfl, hc1, hd1, _⟩ := h1.parts
  clear h1
  have F2 := Lib.hid h2
  obtain ⟨A2, c2, A2', c2', rfl, hc2, hd2⟩ := h2.parts
  clear h2
  obtain ⟨WA, HWA⟩ : ∃ W, Hid (W = ((w.alloc (.cells #[.slice A1 N.ends.length c1, .slice A1' N.ids.length c1', .slice A1'' N.inputs.length c1''] 34)).alloc (.cells #[.slice A2 D.cluster.length c2, .slice A2' D.colour.length c2'] 36))) := ⟨_, Lib.hid rfl⟩
  have hbA : Below w.heap.size w WA := by rw [HWA.out]; exact (((Below.refl _ _).alloc (Nat.le_refl _) _).alloc (by simp; try omega) _)
  have hsA : w.heap.size + 2 ≤ WA.heap.size := by rw [HWA.out]; simp; try omega
  have bx1 : BoxN WA (w.heap.size) #[.slice A1 N.ends.length c1, .slice A1' N.ids.length c1', .slice A1'' N.inputs.length c1''] 34 := by rw [HWA.out]; exact ((BoxN.new' _ _ _ (by simp)).still (grown_alloc _ _))
  have bx2 : BoxN WA (w.heap.size + 1) #[.slice A2 D.cluster.length c2, .slice A2' D.colour.length c2'] 36 := by rw [HWA.out]; exact (BoxN.new' _ _ _ (by simp))
  have G1 := Lib.hid (Net.below F1.out hbA hh1); clear F1
  have G2 := Lib.hid (Dec.below F2.out hbA hh2); clear F2
  go_enter Try.func10, Try.ntmps10
  go_upto_region 1 with (fail)
  rw [← HWA.out]; clear HWA
  have gC := Lib.hid (Dec.clusterS G2.out)
  have gL := Lib.hid (Dec.colourS G2.out)
  have kbx1_0 : WA.cell? ⟨w.heap.size, 0, none⟩ = some (.slice A1 N.ends.length c1) := bx1.cell 0 (by simp)
  have kbx1_1 : WA.cell? ⟨w.heap.size, 1, none⟩ = some (.slice A1' N.ids.length c1') := bx1.cell 1 (by simp)
  have kbx1_2 : WA.cell? ⟨w.heap.size, 2, none⟩ = some (.slice A1'' N.inputs.length c1'') := bx1.cell 2 (by simp)
  have kbx2_0 : WA.cell? ⟨w.heap.size + 1, 0, none⟩ = some (.slice A2 D.cluster.length c2) := bx2.cell 0 (by simp)
  have kbx2_1 : WA.cell? ⟨w.heap.size + 1, 1, none⟩ = some (.slice A2' D.colour.length c2') := bx2.cell 1 (by simp)
  go_wp2_with fail
  clear kbx1_0 kbx1_1 kbx1_2 kbx2_0 kbx2_1
  refine (decompositionOk_any _ N lo1 hi1 _ D lo2 hi2 _ G1.out (by omega) G2.out (by omega) hz1 hz2).mono ?_
  rintro e W1 ⟨rfl, hb1⟩
  have hg1 := grown_below hb1; clear hb1
  have hs1 := hg1.size
  have HF1 := Lib.hid ((Turned.refl WA.heap.size WA.heap.size WA).still hg1)
  by_cases hA : askedB N D = true
  case neg =>
    have hA' : askedB N D = false := by simpa using hA
    rw [hA']
    have HA := Lib.hid hA'; clear hA hA'
    go_wp2_with fail
    go_ret2
    exact ⟨by rw [strongV_no (by unfold strongOk; rw [HA.out]; rfl), show strongOk N D = false by unfold strongOk; rw [HA.out]; rfl]; rfl, (HF1.out.below_of hbA (by omega) (by omega))⟩
  rw [hA]
  have HA := Lib.hid hA; clear hA
  have HG := Lib.hid (askedB_parts HA.out).1
  have HK := Lib.hid (askedB_parts HA.out).2
  obtain ⟨n1, n40⟩ := good_n HG.out
  have hcl := HK.out.clus.len
  have HCL := Lib.hid hcl
  obtain ⟨m, hm, hm3⟩ := HK.out.clus.most HG.out
  have hcol := HK.out.len
  rw [hm, Int.toNat_natCast] at hcol
  have HMC := Lib.hid (show mostI D.cluster + 1 = (D.colour.length : Int) by omega)
  have hcol1 : 1 ≤ D.colour.length := by omega
  have hcol2 : D.colour.length ≤ N.ends.length := by omega
  have HOK := Lib.hid (show strongOk N D = strongB N D.cluster by unfold strongOk; rw [HA.out, Bool.true_and])
  clear hcl hm hcol
  have N_1 := Lib.hid (Net.turned G1.out HF1.out (by omega) (by omega)); clear G1
  have D_1 := Lib.hid (Dec.turned G2.out HF1.out (by omega) (by omega)); clear G2
  have bx1_1 := HF1.out.boxN bx1 (by omega); clear bx1
  have bx2_1 := HF1.out.boxN bx2 (by omega); clear bx2
  have Cl_1 := Lib.hid (IntS.turned gC.out HF1.out (by omega) (by omega)); clear gC
  have Co_1 := Lib.hid (IntS.turned gL.out HF1.out (by omega) (by omega)); clear gL
  have hbA1 : Below w.heap.size w W1 := (HF1.out.below_of hbA (by omega) (by omega)); clear hbA HF1
  go_wp2_with fail
  refine region_cut [15, 16, 17, 18, 19, 20, 21, 6] (fun vs W => ∃ (gO : Nat) (Az A5 A6 A7 : Option Addr) (cz c5 c6 c7 : Nat), vs = [.agg #[.slice A1 N.ends.length c1, .slice A1' N.ids.length c1', .slice A1'' N.inputs.length c1''], .pointer (some ⟨w.heap.size, 0, none⟩), .slice A1 N.ends.length c1, .int .i64 N.ends.length, .slice Az (upTo N.ends.length).length cz, .func (.func 33) #[] #[.pointer (some ⟨w.heap.size + 1, 0, none⟩), .pointer (some ⟨w.heap.size, 0, none⟩)], .agg #[.slice A5 (innerN N D.cluster).ends.length c5, .slice A6 (innerN N D.cluster).ids.length c6, .slice A7 (innerN N D.cluster).inputs.length c7], .pointer (some ⟨gO, 0, none⟩)] ∧ Hid (BoxN W gO #[.slice A5 (innerN N D.cluster).ends.length c5, .slice A6 (innerN N D.cluster).ids.length c6, .slice A7 (innerN N D.cluster).inputs.length c7] 34) ∧ Hid (Net W W1.heap.size W.heap.size (.agg #[.slice A5 (innerN N D.cluster).ends.length c5, .slice A6 (innerN N D.cluster).ids.length c6, .slice A7 (innerN N D.cluster).inputs.length c7]) (innerN N D.cluster)) ∧ W1.heap.size ≤ gO ∧ Hid (Turned W1.heap.size W1.heap.size W1 W)) ?_ ?_
  case refine_1 =>
    refine wp_region_U (fun w' => w'.cell? ⟨w.heap.size, 0, none⟩ = some (.slice A1 N.ends.length c1) ∧ w'.cell? ⟨w.heap.size, 1, none⟩ = some (.slice A1' N.ids.length c1') ∧ w'.cell? ⟨w.heap.size, 2, none⟩ = some (.slice A1'' N.inputs.length c1'') ∧ w'.cell? ⟨w.heap.size + 1, 0, none⟩ = some (.slice A2 D.cluster.length c2) ∧ w'.cell? ⟨w.heap.size + 1, 1, none⟩ = some (.slice A2' D.colour.length c2')) [] (by kernel_rfl) ?_
    refine nameU ?_
    intro W2 HW2
    have hg2 : W1.grownBy W2 none := by rw [HW2.out]; exact grown_drew _
    clear HW2
    have hs2 := hg2.size
    have HF2 := Lib.hid ((Turned.refl W1.heap.size W1.heap.size W1).still hg2)
    have hS3 : W2.cell? ⟨w.heap.size, 0, none⟩ = some (.slice A1 N.ends.length c1) ∧ W2.cell? ⟨w.heap.size, 1, none⟩ = some (.slice A1' N.ids.length c1') ∧ W2.cell? ⟨w.heap.size, 2, none⟩ = some (.slice A1'' N.inputs.length c1'') ∧ W2.cell? ⟨w.heap.size + 1, 0, none⟩ = some (.slice A2 D.cluster.length c2) ∧ W2.cell? ⟨w.heap.size + 1, 1, none⟩ = some (.slice A2' D.colour.length c2') := ⟨(HF2.out.boxN bx1_1 (by omega)).cell 0 (by simp), (HF2.out.boxN bx1_1 (by omega)).cell 1 (by simp), (HF2.out.boxN bx1_1 (by omega)).cell 2 (by simp), (HF2.out.boxN bx2_1 (by omega)).cell 0 (by simp), (HF2.out.boxN bx2_1 (by omega)).cell 1 (by simp)⟩
    refine anyU_take (i := 0) (v := .agg #[.slice A1 N.ends.length c1, .slice A1' N.ids.length c1', .slice A1'' N.inputs.length c1'']) rfl (by kernel_rfl) (by kernel_rfl) (by kernel_rfl) (fun _ _ _ ⟨_, _, h, _⟩ => by cases h) ⟨by rfl, fun w' hS' => (by obtain ⟨s1, s2, s3, s4, s5⟩ := hS'; go_simp)⟩ hS3 ?_
    simp only [List.getElem_toArray, List.getElem_cons_zero, Act.put, List.setIfInBounds_toArray, List.set_cons_zero, List.set_cons_succ]
    refine anyU_take (i := 1) (v := .pointer (some ⟨w.heap.size, 0, none⟩)) rfl (by kernel_rfl) (by kernel_rfl) (by kernel_rfl) (fun _ _ _ ⟨_, _, h, _⟩ => by cases h) ⟨by rfl, fun w' hS' => (by obtain ⟨s1, s2, s3, s4, s5⟩ := hS'; go_simp)⟩ hS3 ?_
    simp only [List.getElem_toArray, List.getElem_cons_succ, List.getElem_cons_zero, Act.put, List.setIfInBounds_toArray, List.set_cons_zero, List.set_cons_succ]
    refine anyU_take (i := 2) (v := .slice A1 N.ends.length c1) rfl (by kernel_rfl) (by kernel_rfl) (by kernel_rfl) (fun _ _ _ ⟨_, _, h, _⟩ => by cases h) ⟨by rfl, fun w' hS' => (by obtain ⟨s1, s2, s3, s4, s5⟩ := hS'; go_simp)⟩ hS3 ?_
    simp only [List.getElem_toArray, List.getElem_cons_succ, List.getElem_cons_zero, Act.put, List.setIfInBounds_toArray, List.set_cons_zero, List.set_cons_succ]
    refine anyU_take (i := 3) (v := .int .i64 N.ends.length) rfl (by kernel_rfl) (by kernel_rfl) (by kernel_rfl) (fun _ _ _ ⟨_, _, h, _⟩ => by cases h) ⟨by rfl, fun w' hS' => (by obtain ⟨s1, s2, s3, s4, s5⟩ := hS'; go_simp)⟩ hS3 ?_
    simp only [List.getElem_toArray, List.getElem_cons_succ, List.getElem_cons_zero, Act.put, List.setIfInBounds_toArray, List.set_cons_zero, List.set_cons_succ]
    refine anyU_take (i := 5) (v := .func (.func 33) #[] #[.pointer (some ⟨w.heap.size + 1, 0, none⟩), .pointer (some ⟨w.heap.size, 0, none⟩)]) rfl (by kernel_rfl) (by kernel_rfl) (by kernel_rfl) (fun _ _ _ ⟨_, _, h, _⟩ => by cases h) ⟨by rfl, fun w' hS' => (by obtain ⟨s1, s2, s3, s4, s5⟩ := hS'; simp [go_sem])⟩ hS3 ?_
    simp only [List.getElem_toArray, List.getElem_cons_succ, List.getElem_cons_zero, Act.put, List.setIfInBounds_toArray, List.set_cons_zero, List.set_cons_succ]
    refine anyU_ready (rs := [4, 7]) (by kernel_rfl) (by simp) ?_
    refine ReadyU.cons (i := 4) rfl (fun K hK => ?_) ?_
    case refine_1 =>
      simp only [List.getElem_toArray, List.getElem_cons_succ, List.getElem_cons_zero]
      refine ite_is (by rfl) ?_
      simp [go_sem]
      refine (numbersTo_any N.ends.length _ (by omega)).mono ?_
      rintro e W4 ⟨rz, rfl, hrz, hb4⟩
      have hg4 := grown_below hb4; clear hb4
      have hs4 := hg4.size
      have HF4 := Lib.hid (HF2.out.still hg4); clear HF2
      obtain ⟨Az, cz, rfl, hcz, hdz⟩ := hrz.dims
      have Z4 := Lib.hid hrz; clear hrz
      have hS5 : W4.cell? ⟨w.heap.size, 0, none⟩ = some (.slice A1 N.ends.length c1) ∧ W4.cell? ⟨w.heap.size, 1, none⟩ = some (.slice A1' N.ids.length c1') ∧ W4.cell? ⟨w.heap.size, 2, none⟩ = some (.slice A1'' N.inputs.length c1'') ∧ W4.cell? ⟨w.heap.size + 1, 0, none⟩ = some (.slice A2 D.cluster.length c2) ∧ W4.cell? ⟨w.heap.size + 1, 1, none⟩ = some (.slice A2' D.colour.length c2') := ⟨(HF4.out.boxN bx1_1 (by omega)).cell 0 (by simp), (HF4.out.boxN bx1_1 (by omega)).cell 1 (by simp), (HF4.out.boxN bx1_1 (by omega)).cell 2 (by simp), (HF4.out.boxN bx2_1 (by omega)).cell 0 (by simp), (HF4.out.boxN bx2_1 (by omega)).cell 1 (by simp)⟩
      refine hK.out _ _ ⟨fun _ => hS5, ?_⟩
      clear hK K hS3
      try simp only [List.getElem_toArray, List.getElem_cons_succ, List.getElem_cons_zero, Act.put, List.setIfInBounds_toArray, List.set_cons_zero, List.set_cons_succ]
      refine anyU_ready (rs := [6, 7]) (by kernel_rfl) (by simp) ?_
      refine ReadyU.cons (i := 6) rfl (fun K hK => ?_) ?_
      case refine_1 =>
        simp only [List.getElem_toArray, List.getElem_cons_succ, List.getElem_cons_zero]
        refine ite_is (by rfl) ?_
        simp [go_sem]
        have HB1 := Lib.hid (show W4.cell? ⟨w.heap.size + 1, 0, none⟩ = some (.slice A2 D.cluster.length c2) from (HF4.out.boxN bx2_1 (by omega)).cell 0 (by simp))
        have HB2 := Lib.hid (show W4.cell? ⟨w.heap.size, 0, none⟩ = some (.slice A1 N.ends.length c1) from (HF4.out.boxN bx1_1 (by omega)).cell 0 (by simp))
        have HCS := Lib.hid (IntS.turned Cl_1.out HF4.out (by omega) (by omega))
        have HES := Lib.hid (netEnds (Net.turned N_1.out HF4.out (by omega) (by omega)))
        have hgd : w.heap.size + 1 < W4.heap.size := by omega
        have hgn : w.heap.size < W4.heap.size := by omega
        have hh1' : hi1 ≤ W4.heap.size := by omega
        have hh2' : hi2 ≤ W4.heap.size := by omega
        have HCLO := Lib.hid (show ∀ v i : Nat, v < N.ends.length → i < (nthL N.ends v).length → ∀ W, Below W4.heap.size W4 W → Calls Try.prog 33 (#[.int .i64 (v : Nat), .int .i64 (i : Nat)] ++ #[.pointer (some ⟨w.heap.size + 1, 0, none⟩), .pointer (some ⟨w.heap.size, 0, none⟩)]) W fun e w' => e = .returned (.bool (kpC N D.cluster v i)) ∧ Below W.heap.size W w' from fun v i hv hi W hW =>
          sd1_any v i (w.heap.size) (w.heap.size + 1) N D.cluster _ _ lo1 hi1 lo2 hi2 W ((hW.cell (p := ⟨w.heap.size + 1, 0, none⟩) hgd).trans HB1.out) ((hW.cell (p := ⟨w.heap.size, 0, none⟩) hgn).trans HB2.out) (IntS.below HCS.out hW hh2') (ESS.below HES.out hW hh1') HG.out HCL.out hv hi)
        refine (part_any _ N lo1 hi1 _ (upTo N.ends.length) _ _ 33 _ _ (Net.turned N_1.out HF4.out (by omega) (by omega)) (by omega) Z4.out (by omega) (enters_of Try.func33 (by kernel_rfl) rfl) (kpC N D.cluster) HCLO.out HG.out (fun j hj => ⟨j, nth_upTo (by rw [upTo_length] at hj; exact hj), by rw [upTo_length] at hj; exact hj⟩) (by rw [upTo_length]; omega)).mono ?_
        rintro e W6 ⟨rp, rfl, hrp, hb6⟩
        have hg6 := grown_below hb6; clear hb6 HB1 HB2 HCS HES HCLO hgd hgn hh1' hh2'
        have hs6 := hg6.size
        have HF6 := Lib.hid (HF4.out.still hg6); clear HF4
        have Z6 := Lib.hid (IntS.still Z4.out hg6 (by omega)); clear Z4
        obtain ⟨A5, c5, A6, c6, A7, c7, rfl, hc5, hd5, _⟩ := hrp.parts
        have M6 := Lib.hid (show Net W6 _ _ _ (innerN N D.cluster) from hrp); clear hrp
        have hS7 : W6.cell? ⟨w.heap.size, 0, none⟩ = some (.slice A1 N.ends.length c1) ∧ W6.cell? ⟨w.heap.size, 1, none⟩ = some (.slice A1' N.ids.length c1') ∧ W6.cell? ⟨w.heap.size, 2, none⟩ = some (.slice A1'' N.inputs.length c1'') ∧ W6.cell? ⟨w.heap.size + 1, 0, none⟩ = some (.slice A2 D.cluster.length c2) ∧ W6.cell? ⟨w.heap.size + 1, 1, none⟩ = some (.slice A2' D.colour.length c2') := ⟨(HF6.out.boxN bx1_1 (by omega)).cell 0 (by simp), (HF6.out.boxN bx1_1 (by omega)).cell 1 (by simp), (HF6.out.boxN bx1_1 (by omega)).cell 2 (by simp), (HF6.out.boxN bx2_1 (by omega)).cell 0 (by simp), (HF6.out.boxN bx2_1 (by omega)).cell 1 (by simp)⟩
        refine hK.out _ _ ⟨fun _ => hS7, ?_⟩
        clear hK K hS5
        try simp only [List.getElem_toArray, List.getElem_cons_succ, List.getElem_cons_zero, Act.put, List.setIfInBounds_toArray, List.set_cons_zero, List.set_cons_succ]
        refine anyU_ready (rs := [7]) (by kernel_rfl) (by simp) ?_
        refine ReadyU.cons (i := 7) rfl (fun K hK => ?_) ?_
        case refine_1 =>
          simp only [List.getElem_toArray, List.getElem_cons_succ, List.getElem_cons_zero]
          refine ite_is (by rfl) ?_
          simp [go_sem]
          refine nameA ?_
          intro W8 HW8
          have hg8 : W6.grownBy W8 none := by rw [HW8.out]; exact grown_alloc _ _
          have OUT8 := Lib.hid (show BoxN W8 W6.heap.size #[.slice none 0 0, .slice none 0 0, .slice none 0 0] 34 by rw [HW8.out]; exact BoxN.new _ _ _)
          have hz8 : W6.heap.size < W8.heap.size := OUT8.out.lt
          clear HW8
          have hs8 := hg8.size
          have HF8 := Lib.hid (HF6.out.still hg8); clear HF6
          have Z8 := Lib.hid (IntS.still Z6.out hg8 (by omega)); clear Z6
          have M8 := Lib.hid (NetF.still M6.out hg8 (by omega)); clear M6
          have hS9 : W8.cell? ⟨w.heap.size, 0, none⟩ = some (.slice A1 N.ends.length c1) ∧ W8.cell? ⟨w.heap.size, 1, none⟩ = some (.slice A1' N.ids.length c1') ∧ W8.cell? ⟨w.heap.size, 2, none⟩ = some (.slice A1'' N.inputs.length c1'') ∧ W8.cell? ⟨w.heap.size + 1, 0, none⟩ = some (.slice A2 D.cluster.length c2) ∧ W8.cell? ⟨w.heap.size + 1, 1, none⟩ = some (.slice A2' D.colour.length c2') := ⟨(HF8.out.boxN bx1_1 (by omega)).cell 0 (by simp), (HF8.out.boxN bx1_1 (by omega)).cell 1 (by simp), (HF8.out.boxN bx1_1 (by omega)).cell 2 (by simp), (HF8.out.boxN bx2_1 (by omega)).cell 0 (by simp), (HF8.out.boxN bx2_1 (by omega)).cell 1 (by simp)⟩
          refine hK.out _ _ ⟨fun _ => hS9, ?_⟩
          clear hK K hS7
          try simp only [List.getElem_toArray, List.getElem_cons_succ, List.getElem_cons_zero, Act.put, List.setIfInBounds_toArray, List.set_cons_zero, List.set_cons_succ]
          refine anyU_ready (rs := [8]) (by kernel_rfl) (by simp) ?_
          refine ReadyU.cons (i := 8) rfl (fun K hK => ?_) ?_
          case refine_1 =>
            simp only [List.getElem_toArray, List.getElem_cons_succ, List.getElem_cons_zero]
            refine ite_is (by rfl) ?_
            have kd0 : W8.cell? ⟨W6.heap.size, 0, none⟩ = some (.slice none 0 0) := OUT8.out.cell 0 (by simp)
            have kf0 := OUT8.out.frozen 0
            have kd1 : W8.cell? ⟨W6.heap.size, 1, none⟩ = some (.slice none 0 0) := OUT8.out.cell 1 (by simp)
            have kf1 := OUT8.out.frozen 1
            have kd2 : W8.cell? ⟨W6.heap.size, 2, none⟩ = some (.slice none 0 0) := OUT8.out.cell 2 (by simp)
            have kf2 := OUT8.out.frozen 2
            simp [go_sem, kd0, kf0, kd1, kf1, kd2, kf2]
            refine nameA ?_
            intro W10 HW10
            have hg10 : W8.grownBy W10 (some (W6.heap.size)) := by rw [HW10.out]; exact grownBy_setCell (p := ⟨W6.heap.size, 2, none⟩) (grownBy_setCell (p := ⟨W6.heap.size, 1, none⟩) (grown_set _ ⟨W6.heap.size, 0, none⟩ _) rfl _) rfl _
            have hs10 := hg10.size
            have HF10 := Lib.hid (HF8.out.grown hg10 (fun g e => .inr (by cases e; omega)))
            have Z10 := Lib.hid (IntS.far Z8.out hg10 (by omega) (fun g e => by cases e; omega)); clear Z8
            have M10 := Lib.hid (NetF.far M8.out hg10 (by omega) (fun g e => by cases e; omega)); clear M8
            have OUT10 := Lib.hid (show BoxN W10 (W6.heap.size) #[.slice A5 (partN N (upTo N.ends.length) (kpC N D.cluster)).ends.length c5, .slice A6 (partN N (upTo N.ends.length) (kpC N D.cluster)).ids.length c6, .slice A7 (partN N (upTo N.ends.length) (kpC N D.cluster)).inputs.length c7] 34 by rw [HW10.out]; exact ((OUT8.out.set 0 _).set 1 _).set 2 _)
            clear HW10 kd0 kf0 kd1 kf1 kd2 kf2 OUT8
            have hS11 : W10.cell? ⟨w.heap.size, 0, none⟩ = some (.slice A1 N.ends.length c1) ∧ W10.cell? ⟨w.heap.size, 1, none⟩ = some (.slice A1' N.ids.length c1') ∧ W10.cell? ⟨w.heap.size, 2, none⟩ = some (.slice A1'' N.inputs.length c1'') ∧ W10.cell? ⟨w.heap.size + 1, 0, none⟩ = some (.slice A2 D.cluster.length c2) ∧ W10.cell? ⟨w.heap.size + 1, 1, none⟩ = some (.slice A2' D.colour.length c2') := ⟨(HF10.out.boxN bx1_1 (by omega)).cell 0 (by simp), (HF10.out.boxN bx1_1 (by omega)).cell 1 (by simp), (HF10.out.boxN bx1_1 (by omega)).cell 2 (by simp), (HF10.out.boxN bx2_1 (by omega)).cell 0 (by simp), (HF10.out.boxN bx2_1 (by omega)).cell 1 (by simp)⟩
            refine hK.out _ _ ⟨fun _ => hS11, ?_⟩
            clear hK K hS9
            try simp only [List.getElem_toArray, List.getElem_cons_succ, List.getElem_cons_zero, Act.put, List.setIfInBounds_toArray, List.set_cons_zero, List.set_cons_succ]
            clear hS11
            refine anyU_done (by kernel_rfl) ?_ _
            exact ⟨[.agg #[.slice A1 N.ends.length c1, .slice A1' N.ids.length c1', .slice A1'' N.inputs.length c1''], .pointer (some ⟨w.heap.size, 0, none⟩), .slice A1 N.ends.length c1, .int .i64 N.ends.length, .slice Az (upTo N.ends.length).length cz, .func (.func 33) #[] #[.pointer (some ⟨w.heap.size + 1, 0, none⟩), .pointer (some ⟨w.heap.size, 0, none⟩)], .agg #[.slice A5 (partN N (upTo N.ends.length) (kpC N D.cluster)).ends.length c5, .slice A6 (partN N (upTo N.ends.length) (kpC N D.cluster)).ids.length c6, .slice A7 (partN N (upTo N.ends.length) (kpC N D.cluster)).inputs.length c7], .pointer (some ⟨W6.heap.size, 0, none⟩)], ⟨_, _, _, _, _, _, _, _, _, rfl, OUT10, Lib.hid (Net.mono M10.out (by omega) (by omega)), by omega, HF10⟩, rfl, by simp only [puts, Act.put, List.setIfInBounds_toArray, List.set_cons_zero, List.set_cons_succ]⟩
          exact ReadyU.nil
        exact ReadyU.nil
      refine ReadyU.cons (i := 7) rfl (fun K hK => ?_) ?_
      case refine_1 =>
        simp only [List.getElem_toArray, List.getElem_cons_succ, List.getElem_cons_zero]
        refine ite_is (by rfl) ?_
        simp [go_sem]
        refine nameA ?_
        intro W12 HW12
        have hg12 : W4.grownBy W12 none := by rw [HW12.out]; exact grown_alloc _ _
        have OUT12 := Lib.hid (show BoxN W12 W4.heap.size #[.slice none 0 0, .slice none 0 0, .slice none 0 0] 34 by rw [HW12.out]; exact BoxN.new _ _ _)
        have hz12 : W4.heap.size < W12.heap.size := OUT12.out.lt
        clear HW12
        have hs12 := hg12.size
        have HF12 := Lib.hid (HF4.out.still hg12); clear HF4
        have Z12 := Lib.hid (IntS.still Z4.out hg12 (by omega)); clear Z4
        have hS13 : W12.cell? ⟨w.heap.size, 0, none⟩ = some (.slice A1 N.ends.length c1) ∧ W12.cell? ⟨w.heap.size, 1, none⟩ = some (.slice A1' N.ids.length c1') ∧ W12.cell? ⟨w.heap.size, 2, none⟩ = some (.slice A1'' N.inputs.length c1'') ∧ W12.cell? ⟨w.heap.size + 1, 0, none⟩ = some (.slice A2 D.cluster.length c2) ∧ W12.cell? ⟨w.heap.size + 1, 1, none⟩ = some (.slice A2' D.colour.length c2') := ⟨(HF12.out.boxN bx1_1 (by omega)).cell 0 (by simp), (HF12.out.boxN bx1_1 (by omega)).cell 1 (by simp), (HF12.out.boxN bx1_1 (by omega)).cell 2 (by simp), (HF12.out.boxN bx2_1 (by omega)).cell 0 (by simp), (HF12.out.boxN bx2_1 (by omega)).cell 1 (by simp)⟩
        refine hK.out _ _ ⟨fun _ => hS13, ?_⟩
        clear hK K hS5
        try simp only [List.getElem_toArray, List.getElem_cons_succ, List.getElem_cons_zero, Act.put, List.setIfInBounds_toArray, List.set_cons_zero, List.set_cons_succ]
        refine anyU_ready (rs := [6]) (by kernel_rfl) (by simp) ?_
        refine ReadyU.cons (i := 6) rfl (fun K hK => ?_) ?_
        case refine_1 =>
          simp only [List.getElem_toArray, List.getElem_cons_succ, List.getElem_cons_zero]
          refine ite_is (by rfl) ?_
          simp [go_sem]
          have HB1 := Lib.hid (show W12.cell? ⟨w.heap.size + 1, 0, none⟩ = some (.slice A2 D.cluster.length c2) from (HF12.out.boxN bx2_1 (by omega)).cell 0 (by simp))
          have HB2 := Lib.hid (show W12.cell? ⟨w.heap.size, 0, none⟩ = some (.slice A1 N.ends.length c1) from (HF12.out.boxN bx1_1 (by omega)).cell 0 (by simp))
          have HCS := Lib.hid (IntS.turned Cl_1.out HF12.out (by omega) (by omega))
          have HES := Lib.hid (netEnds (Net.turned N_1.out HF12.out (by omega) (by omega)))
          have hgd : w.heap.size + 1 < W12.heap.size := by omega
          have hgn : w.heap.size < W12.heap.size := by omega
          have hh1' : hi1 ≤ W12.heap.size := by omega
          have hh2' : hi2 ≤ W12.heap.size := by omega
          have HCLO := Lib.hid (show ∀ v i : Nat, v < N.ends.length → i < (nthL N.ends v).length → ∀ W, Below W12.heap.size W12 W → Calls Try.prog 33 (#[.int .i64 (v : Nat), .int .i64 (i : Nat)] ++ #[.pointer (some ⟨w.heap.size + 1, 0, none⟩), .pointer (some ⟨w.heap.size, 0, none⟩)]) W fun e w' => e = .returned (.bool (kpC N D.cluster v i)) ∧ Below W.heap.size W w' from fun v i hv hi W hW =>
            sd1_any v i (w.heap.size) (w.heap.size + 1) N D.cluster _ _ lo1 hi1 lo2 hi2 W ((hW.cell (p := ⟨w.heap.size + 1, 0, none⟩) hgd).trans HB1.out) ((hW.cell (p := ⟨w.heap.size, 0, none⟩) hgn).trans HB2.out) (IntS.below HCS.out hW hh2') (ESS.below HES.out hW hh1') HG.out HCL.out hv hi)
          refine (part_any _ N lo1 hi1 _ (upTo N.ends.length) _ _ 33 _ _ (Net.turned N_1.out HF12.out (by omega) (by omega)) (by omega) Z12.out (by omega) (enters_of Try.func33 (by kernel_rfl) rfl) (kpC N D.cluster) HCLO.out HG.out (fun j hj => ⟨j, nth_upTo (by rw [upTo_length] at hj; exact hj), by rw [upTo_length] at hj; exact hj⟩) (by rw [upTo_length]; omega)).mono ?_
          rintro e W14 ⟨rp, rfl, hrp, hb14⟩
          have hg14 := grown_below hb14; clear hb14 HB1 HB2 HCS HES HCLO hgd hgn hh1' hh2'
          have hs14 := hg14.size
          have HF14 := Lib.hid (HF12.out.still hg14); clear HF12
          have Z14 := Lib.hid (IntS.still Z12.out hg14 (by omega)); clear Z12
          have OUT14 := Lib.hid (BoxN.still OUT12.out hg14); clear OUT12
          obtain ⟨A5, c5, A6, c6, A7, c7, rfl, hc5, hd5, _⟩ := hrp.parts
          have M14 := Lib.hid (show Net W14 _ _ _ (innerN N D.cluster) from hrp); clear hrp
          have hS15 : W14.cell? ⟨w.heap.size, 0, none⟩ = some (.slice A1 N.ends.length c1) ∧ W14.cell? ⟨w.heap.size, 1, none⟩ = some (.slice A1' N.ids.length c1') ∧ W14.cell? ⟨w.heap.size, 2, none⟩ = some (.slice A1'' N.inputs.length c1'') ∧ W14.cell? ⟨w.heap.size + 1, 0, none⟩ = some (.slice A2 D.cluster.length c2) ∧ W14.cell? ⟨w.heap.size + 1, 1, none⟩ = some (.slice A2' D.colour.length c2') := ⟨(HF14.out.boxN bx1_1 (by omega)).cell 0 (by simp), (HF14.out.boxN bx1_1 (by omega)).cell 1 (by simp), (HF14.out.boxN bx1_1 (by omega)).cell 2 (by simp), (HF14.out.boxN bx2_1 (by omega)).cell 0 (by simp), (HF14.out.boxN bx2_1 (by omega)).cell 1 (by simp)⟩
          refine hK.out _ _ ⟨fun _ => hS15, ?_⟩
          clear hK K hS13
          try simp only [List.getElem_toArray, List.getElem_cons_succ, List.getElem_cons_zero, Act.put, List.setIfInBounds_toArray, List.set_cons_zero, List.set_cons_succ]
          refine anyU_ready (rs := [8]) (by kernel_rfl) (by simp) ?_
          refine ReadyU.cons (i := 8) rfl (fun K hK => ?_) ?_
          case refine_1 =>
            simp only [List.getElem_toArray, List.getElem_cons_succ, List.getElem_cons_zero]
            refine ite_is (by rfl) ?_
            have kd0 : W14.cell? ⟨W4.heap.size, 0, none⟩ = some (.slice none 0 0) := OUT14.out.cell 0 (by simp)
            have kf0 := OUT14.out.frozen 0
            have kd1 : W14.cell? ⟨W4.heap.size, 1, none⟩ = some (.slice none 0 0) := OUT14.out.cell 1 (by simp)
            have kf1 := OUT14.out.frozen 1
            have kd2 : W14.cell? ⟨W4.heap.size, 2, none⟩ = some (.slice none 0 0) := OUT14.out.cell 2 (by simp)
            have kf2 := OUT14.out.frozen 2
            simp [go_sem, kd0, kf0, kd1, kf1, kd2, kf2]
            refine nameA ?_
            intro W16 HW16
            have hg16 : W14.grownBy W16 (some (W4.heap.size)) := by rw [HW16.out]; exact grownBy_setCell (p := ⟨W4.heap.size, 2, none⟩) (grownBy_setCell (p := ⟨W4.heap.size, 1, none⟩) (grown_set _ ⟨W4.heap.size, 0, none⟩ _) rfl _) rfl _
            have hs16 := hg16.size
            have HF16 := Lib.hid (HF14.out.grown hg16 (fun g e => .inr (by cases e; omega)))
            have Z16 := Lib.hid (IntS.far Z14.out hg16 (by omega) (fun g e => by cases e; omega)); clear Z14
            have M16 := Lib.hid (NetF.far M14.out hg16 (by omega) (fun g e => by cases e; omega)); clear M14
            have OUT16 := Lib.hid (show BoxN W16 (W4.heap.size) #[.slice A5 (partN N (upTo N.ends.length) (kpC N D.cluster)).ends.length c5, .slice A6 (partN N (upTo N.ends.length) (kpC N D.cluster)).ids.length c6, .slice A7 (partN N (upTo N.ends.length) (kpC N D.cluster)).inputs.length c7] 34 by rw [HW16.out]; exact ((OUT14.out.set 0 _).set 1 _).set 2 _)
            clear HW16 kd0 kf0 kd1 kf1 kd2 kf2 OUT14
            have hS17 : W16.cell? ⟨w.heap.size, 0, none⟩ = some (.slice A1 N.ends.length c1) ∧ W16.cell? ⟨w.heap.size, 1, none⟩ = some (.slice A1' N.ids.length c1') ∧ W16.cell? ⟨w.heap.size, 2, none⟩ = some (.slice A1'' N.inputs.length c1'') ∧ W16.cell? ⟨w.heap.size + 1, 0, none⟩ = some (.slice A2 D.cluster.length c2) ∧ W16.cell? ⟨w.heap.size + 1, 1, none⟩ = some (.slice A2' D.colour.length c2') := ⟨(HF16.out.boxN bx1_1 (by omega)).cell 0 (by simp), (HF16.out.boxN bx1_1 (by omega)).cell 1 (by simp), (HF16.out.boxN bx1_1 (by omega)).cell 2 (by simp), (HF16.out.boxN bx2_1 (by omega)).cell 0 (by simp), (HF16.out.boxN bx2_1 (by omega)).cell 1 (by simp)⟩
            refine hK.out _ _ ⟨fun _ => hS17, ?_⟩
            clear hK K hS15
            try simp only [List.getElem_toArray, List.getElem_cons_succ, List.getElem_cons_zero, Act.put, List.setIfInBounds_toArray, List.set_cons_zero, List.set_cons_succ]
            clear hS17
            refine anyU_done (by kernel_rfl) ?_ _
            exact ⟨[.agg #[.slice A1 N.ends.length c1, .slice A1' N.ids.length c1', .slice A1'' N.inputs.length c1''], .pointer (some ⟨w.heap.size, 0, none⟩), .slice A1 N.ends.length c1, .int .i64 N.ends.length, .slice Az (upTo N.ends.length).length cz, .func (.func 33) #[] #[.pointer (some ⟨w.heap.size + 1, 0, none⟩), .pointer (some ⟨w.heap.size, 0, none⟩)], .agg #[.slice A5 (partN N (upTo N.ends.length) (kpC N D.cluster)).ends.length c5, .slice A6 (partN N (upTo N.ends.length) (kpC N D.cluster)).ids.length c6, .slice A7 (partN N (upTo N.ends.length) (kpC N D.cluster)).inputs.length c7], .pointer (some ⟨W4.heap.size, 0, none⟩)], ⟨_, _, _, _, _, _, _, _, _, rfl, OUT16, Lib.hid (Net.mono M16.out (by omega) (by omega)), by omega, HF16⟩, rfl, by simp only [puts, Act.put, List.setIfInBounds_toArray, List.set_cons_zero, List.set_cons_succ]⟩
          exact ReadyU.nil
        exact ReadyU.nil
      exact ReadyU.nil
    refine ReadyU.cons (i := 7) rfl (fun K hK => ?_) ?_
    case refine_1 =>
      simp only [List.getElem_toArray, List.getElem_cons_succ, List.getElem_cons_zero]
      refine ite_is (by rfl) ?_
      simp [go_sem]
      refine nameA ?_
      intro W18 HW18
      have hg18 : W2.grownBy W18 none := by rw [HW18.out]; exact grown_alloc _ _
      have OUT18 := Lib.hid (show BoxN W18 W2.heap.size #[.slice none 0 0, .slice none 0 0, .slice none 0 0] 34 by rw [HW18.out]; exact BoxN.new _ _ _)
      have hz18 : W2.heap.size < W18.heap.size := OUT18.out.lt
      clear HW18
      have hs18 := hg18.size
      have HF18 := Lib.hid (HF2.out.still hg18); clear HF2
      have hS19 : W18.cell? ⟨w.heap.size, 0, none⟩ = some (.slice A1 N.ends.length c1) ∧ W18.cell? ⟨w.heap.size, 1, none⟩ = some (.slice A1' N.ids.length c1') ∧ W18.cell? ⟨w.heap.size, 2, none⟩ = some (.slice A1'' N.inputs.length c1'') ∧ W18.cell? ⟨w.heap.size + 1, 0, none⟩ = some (.slice A2 D.cluster.length c2) ∧ W18.cell? ⟨w.heap.size + 1, 1, none⟩ = some (.slice A2' D.colour.length c2') := ⟨(HF18.out.boxN bx1_1 (by omega)).cell 0 (by simp), (HF18.out.boxN bx1_1 (by omega)).cell 1 (by simp), (HF18.out.boxN bx1_1 (by omega)).cell 2 (by simp), (HF18.out.boxN bx2_1 (by omega)).cell 0 (by simp), (HF18.out.boxN bx2_1 (by omega)).cell 1 (by simp)⟩
      refine hK.out _ _ ⟨fun _ => hS19, ?_⟩
      clear hK K hS3
      try simp only [List.getElem_toArray, List.getElem_cons_succ, List.getElem_cons_zero, Act.put, List.setIfInBounds_toArray, List.set_cons_zero, List.set_cons_succ]
      refine anyU_ready (rs := [4]) (by kernel_rfl) (by simp) ?_
      refine ReadyU.cons (i := 4) rfl (fun K hK => ?_) ?_
      case refine_1 =>
        simp only [List.getElem_toArray, List.getElem_cons_succ, List.getElem_cons_zero]
        refine ite_is (by rfl) ?_
        simp [go_sem]
        refine (numbersTo_any N.ends.length _ (by omega)).mono ?_
        rintro e W20 ⟨rz, rfl, hrz, hb20⟩
        have hg20 := grown_below hb20; clear hb20
        have hs20 := hg20.size
        have HF20 := Lib.hid (HF18.out.still hg20); clear HF18
        have OUT20 := Lib.hid (BoxN.still OUT18.out hg20); clear OUT18
        obtain ⟨Az, cz, rfl, hcz, hdz⟩ := hrz.dims
        have Z20 := Lib.hid hrz; clear hrz
        have hS21 : W20.cell? ⟨w.heap.size, 0, none⟩ = some (.slice A1 N.ends.length c1) ∧ W20.cell? ⟨w.heap.size, 1, none⟩ = some (.slice A1' N.ids.length c1') ∧ W20.cell? ⟨w.heap.size, 2, none⟩ = some (.slice A1'' N.inputs.length c1'') ∧ W20.cell? ⟨w.heap.size + 1, 0, none⟩ = some (.slice A2 D.cluster.length c2) ∧ W20.cell? ⟨w.heap.size + 1, 1, none⟩ = some (.slice A2' D.colour.length c2') := ⟨(HF20.out.boxN bx1_1 (by omega)).cell 0 (by simp), (HF20.out.boxN bx1_1 (by omega)).cell 1 (by simp), (HF20.out.boxN bx1_1 (by omega)).cell 2 (by simp), (HF20.out.boxN bx2_1 (by omega)).cell 0 (by simp), (HF20.out.boxN bx2_1 (by omega)).cell 1 (by simp)⟩
        refine hK.out _ _ ⟨fun _ => hS21, ?_⟩
        clear hK K hS19
        try simp only [List.getElem_toArray, List.getElem_cons_succ, List.getElem_cons_zero, Act.put, List.setIfInBounds_toArray, List.set_cons_zero, List.set_cons_succ]
        refine anyU_ready (rs := [6]) (by kernel_rfl) (by simp) ?_
        refine ReadyU.cons (i := 6) rfl (fun K hK => ?_) ?_
        case refine_1 =>
          simp only [List.getElem_toArray, List.getElem_cons_succ, List.getElem_cons_zero]
          refine ite_is (by rfl) ?_
          simp [go_sem]
          have HB1 := Lib.hid (show W20.cell? ⟨w.heap.size + 1, 0, none⟩ = some (.slice A2 D.cluster.length c2) from (HF20.out.boxN bx2_1 (by omega)).cell 0 (by simp))
          have HB2 := Lib.hid (show W20.cell? ⟨w.heap.size, 0, none⟩ = some (.slice A1 N.ends.length c1) from (HF20.out.boxN bx1_1 (by omega)).cell 0 (by simp))
          have HCS := Lib.hid (IntS.turned Cl_1.out HF20.out (by omega) (by omega))
          have HES := Lib.hid (netEnds (Net.turned N_1.out HF20.out (by omega) (by omega)))
          have hgd : w.heap.size + 1 < W20.heap.size := by omega
          have hgn : w.heap.size < W20.heap.size := by omega
          have hh1' : hi1 ≤ W20.heap.size := by omega
          have hh2' : hi2 ≤ W20.heap.size := by omega
          have HCLO := Lib.hid (show ∀ v i : Nat, v < N.ends.length → i < (nthL N.ends v).length → ∀ W, Below W20.heap.size W20 W → Calls Try.prog 33 (#[.int .i64 (v : Nat), .int .i64 (i : Nat)] ++ #[.pointer (some ⟨w.heap.size + 1, 0, none⟩), .pointer (some ⟨w.heap.size, 0, none⟩)]) W fun e w' => e = .returned (.bool (kpC N D.cluster v i)) ∧ Below W.heap.size W w' from fun v i hv hi W hW =>
            sd1_any v i (w.heap.size) (w.heap.size + 1) N D.cluster _ _ lo1 hi1 lo2 hi2 W ((hW.cell (p := ⟨w.heap.size + 1, 0, none⟩) hgd).trans HB1.out) ((hW.cell (p := ⟨w.heap.size, 0, none⟩) hgn).trans HB2.out) (IntS.below HCS.out hW hh2') (ESS.below HES.out hW hh1') HG.out HCL.out hv hi)
          refine (part_any _ N lo1 hi1 _ (upTo N.ends.length) _ _ 33 _ _ (Net.turned N_1.out HF20.out (by omega) (by omega)) (by omega) Z20.out (by omega) (enters_of Try.func33 (by kernel_rfl) rfl) (kpC N D.cluster) HCLO.out HG.out (fun j hj => ⟨j, nth_upTo (by rw [upTo_length] at hj; exact hj), by rw [upTo_length] at hj; exact hj⟩) (by rw [upTo_length]; omega)).mono ?_
          rintro e W22 ⟨rp, rfl, hrp, hb22⟩
          have hg22 := grown_below hb22; clear hb22 HB1 HB2 HCS HES HCLO hgd hgn hh1' hh2'
          have hs22 := hg22.size
          have HF22 := Lib.hid (HF20.out.still hg22); clear HF20
          have OUT22 := Lib.hid (BoxN.still OUT20.out hg22); clear OUT20
          have Z22 := Lib.hid (IntS.still Z20.out hg22 (by omega)); clear Z20
          obtain ⟨A5, c5, A6, c6, A7, c7, rfl, hc5, hd5, _⟩ := hrp.parts
          have M22 := Lib.hid (show Net W22 _ _ _ (innerN N D.cluster) from hrp); clear hrp
          have hS23 : W22.cell? ⟨w.heap.size, 0, none⟩ = some (.slice A1 N.ends.length c1) ∧ W22.cell? ⟨w.heap.size, 1, none⟩ = some (.slice A1' N.ids.length c1') ∧ W22.cell? ⟨w.heap.size, 2, none⟩ = some (.slice A1'' N.inputs.length c1'') ∧ W22.cell? ⟨w.heap.size + 1, 0, none⟩ = some (.slice A2 D.cluster.length c2) ∧ W22.cell? ⟨w.heap.size + 1, 1, none⟩ = some (.slice A2' D.colour.length c2') := ⟨(HF22.out.boxN bx1_1 (by omega)).cell 0 (by simp), (HF22.out.boxN bx1_1 (by omega)).cell 1 (by simp), (HF22.out.boxN bx1_1 (by omega)).cell 2 (by simp), (HF22.out.boxN bx2_1 (by omega)).cell 0 (by simp), (HF22.out.boxN bx2_1 (by omega)).cell 1 (by simp)⟩
          refine hK.out _ _ ⟨fun _ => hS23, ?_⟩
          clear hK K hS21
          try simp only [List.getElem_toArray, List.getElem_cons_succ, List.getElem_cons_zero, Act.put, List.setIfInBounds_toArray, List.set_cons_zero, List.set_cons_succ]
          refine anyU_ready (rs := [8]) (by kernel_rfl) (by simp) ?_
          refine ReadyU.cons (i := 8) rfl (fun K hK => ?_) ?_
          case refine_1 =>
            simp only [List.getElem_toArray, List.getElem_cons_succ, List.getElem_cons_zero]
            refine ite_is (by rfl) ?_
            have kd0 : W22.cell? ⟨W2.heap.size, 0, none⟩ = some (.slice none 0 0) := OUT22.out.cell 0 (by simp)
            have kf0 := OUT22.out.frozen 0
            have kd1 : W22.cell? ⟨W2.heap.size, 1, none⟩ = some (.slice none 0 0) := OUT22.out.cell 1 (by simp)
            have kf1 := OUT22.out.frozen 1
            have kd2 : W22.cell? ⟨W2.heap.size, 2, none⟩ = some (.slice none 0 0) := OUT22.out.cell 2 (by simp)
            have kf2 := OUT22.out.frozen 2
            simp [go_sem, kd0, kf0, kd1, kf1, kd2, kf2]
            refine nameA ?_
            intro W24 HW24
            have hg24 : W22.grownBy W24 (some (W2.heap.size)) := by rw [HW24.out]; exact grownBy_setCell (p := ⟨W2.heap.size, 2, none⟩) (grownBy_setCell (p := ⟨W2.heap.size, 1, none⟩) (grown_set _ ⟨W2.heap.size, 0, none⟩ _) rfl _) rfl _
            have hs24 := hg24.size
            have HF24 := Lib.hid (HF22.out.grown hg24 (fun g e => .inr (by cases e; omega)))
            have Z24 := Lib.hid (IntS.far Z22.out hg24 (by omega) (fun g e => by cases e; omega)); clear Z22
            have M24 := Lib.hid (NetF.far M22.out hg24 (by omega) (fun g e => by cases e; omega)); clear M22
            have OUT24 := Lib.hid (show BoxN W24 (W2.heap.size) #[.slice A5 (partN N (upTo N.ends.length) (kpC N D.cluster)).ends.length c5, .slice A6 (partN N (upTo N.ends.length) (kpC N D.cluster)).ids.length c6, .slice A7 (partN N (upTo N.ends.length) (kpC N D.cluster)).inputs.length c7] 34 by rw [HW24.out]; exact ((OUT22.out.set 0 _).set 1 _).set 2 _)
            clear HW24 kd0 kf0 kd1 kf1 kd2 kf2 OUT22
            have hS25 : W24.cell? ⟨w.heap.size, 0, none⟩ = some (.slice A1 N.ends.length c1) ∧ W24.cell? ⟨w.heap.size, 1, none⟩ = some (.slice A1' N.ids.length c1') ∧ W24.cell? ⟨w.heap.size, 2, none⟩ = some (.slice A1'' N.inputs.length c1'') ∧ W24.cell? ⟨w.heap.size + 1, 0, none⟩ = some (.slice A2 D.cluster.length c2) ∧ W24.cell? ⟨w.heap.size + 1, 1, none⟩ = some (.slice A2' D.colour.length c2') := ⟨(HF24.out.boxN bx1_1 (by omega)).cell 0 (by simp), (HF24.out.boxN bx1_1 (by omega)).cell 1 (by simp), (HF24.out.boxN bx1_1 (by omega)).cell 2 (by simp), (HF24.out.boxN bx2_1 (by omega)).cell 0 (by simp), (HF24.out.boxN bx2_1 (by omega)).cell 1 (by simp)⟩
            refine hK.out _ _ ⟨fun _ => hS25, ?_⟩
            clear hK K hS23
            try simp only [List.getElem_toArray, List.getElem_cons_succ, List.getElem_cons_zero, Act.put, List.setIfInBounds_toArray, List.set_cons_zero, List.set_cons_succ]
            clear hS25
            refine anyU_done (by kernel_rfl) ?_ _
            exact ⟨[.agg #[.slice A1 N.ends.length c1, .slice A1' N.ids.length c1', .slice A1'' N.inputs.length c1''], .pointer (some ⟨w.heap.size, 0, none⟩), .slice A1 N.ends.length c1, .int .i64 N.ends.length, .slice Az (upTo N.ends.length).length cz, .func (.func 33) #[] #[.pointer (some ⟨w.heap.size + 1, 0, none⟩), .pointer (some ⟨w.heap.size, 0, none⟩)], .agg #[.slice A5 (partN N (upTo N.ends.length) (kpC N D.cluster)).ends.length c5, .slice A6 (partN N (upTo N.ends.length) (kpC N D.cluster)).ids.length c6, .slice A7 (partN N (upTo N.ends.length) (kpC N D.cluster)).inputs.length c7], .pointer (some ⟨W2.heap.size, 0, none⟩)], ⟨_, _, _, _, _, _, _, _, _, rfl, OUT24, Lib.hid (Net.mono M24.out (by omega) (by omega)), by omega, HF24⟩, rfl, by simp only [puts, Act.put, List.setIfInBounds_toArray, List.set_cons_zero, List.set_cons_succ]⟩
          exact ReadyU.nil
        exact ReadyU.nil
      exact ReadyU.nil
    exact ReadyU.nil
  case refine_2 =>
    rintro vs W26 ⟨gO, Az, A5, A6, A7, cz, c5, c6, c7, rfl, HB, HM, hgO, HF26⟩
    simp only [puts, Act.put, List.setIfInBounds_toArray, List.set_cons_zero, List.set_cons_succ]
    have hs26 := HF26.out.size
    have hgl := HB.out.lt
    have kbx1_0 : W26.cell? ⟨w.heap.size, 0, none⟩ = some (.slice A1 N.ends.length c1) := (HF26.out.boxN bx1_1 (by omega)).cell 0 (by simp)
    have kbx1_1 : W26.cell? ⟨w.heap.size, 1, none⟩ = some (.slice A1' N.ids.length c1') := (HF26.out.boxN bx1_1 (by omega)).cell 1 (by simp)
    have kbx1_2 : W26.cell? ⟨w.heap.size, 2, none⟩ = some (.slice A1'' N.inputs.length c1'') := (HF26.out.boxN bx1_1 (by omega)).cell 2 (by simp)
    clear kbx1_0 kbx1_1 kbx1_2
    obtain ⟨P, HP⟩ : ∃ P, Hid ((innerN N D.cluster) = P) := ⟨_, Lib.hid rfl⟩
    have HPG := Lib.hid (show P.good = true by rw [← HP.out]; exact inner_good HG.out)
    have HPN := Lib.hid (show P.ends.length = N.ends.length by rw [← HP.out]; exact inner_n _ _)
    rw [HP.out] at HB HM ⊢
    have N_26 := Lib.hid (Net.turned N_1.out HF26.out (by omega) (by omega)); clear N_1
    have D_26 := Lib.hid (Dec.turned D_1.out HF26.out (by omega) (by omega)); clear D_1
    have bx1_26 := HF26.out.boxN bx1_1 (by omega); clear bx1_1
    have bx2_26 := HF26.out.boxN bx2_1 (by omega); clear bx2_1
    have Cl_26 := Lib.hid (IntS.turned Cl_1.out HF26.out (by omega) (by omega)); clear Cl_1
    have Co_26 := Lib.hid (IntS.turned Co_1.out HF26.out (by omega) (by omega)); clear Co_1
    have hbA26 : Below w.heap.size w W26 := (HF26.out.below_of hbA1 (by omega) (by omega)); clear hbA1 HF26
    have kOUT_0 : W26.cell? ⟨gO, 0, none⟩ = some (.slice A5 P.ends.length c5) := HB.out.cell 0 (by simp)
    have kOUT_1 : W26.cell? ⟨gO, 1, none⟩ = some (.slice A6 P.ids.length c6) := HB.out.cell 1 (by simp)
    have kOUT_2 : W26.cell? ⟨gO, 2, none⟩ = some (.slice A7 P.inputs.length c7) := HB.out.cell 2 (by simp)
    go_wp2_with fail
    clear kOUT_0 kOUT_1 kOUT_2
    refine (allDistances_any _ P _ _ _ HM.out (by omega) (by rw [HPN.out]; omega) (good_nodes HPG.out) (net_deg HPG.out)).mono ?_
    rintro e W27 ⟨r, rfl, hr, hb27⟩
    have hg27 := grown_below hb27; clear hb27
    have hs27 := hg27.size
    have HF27 := Lib.hid ((Turned.refl W26.heap.size W26.heap.size W26).still hg27)
    have R27 := Lib.hid hr; clear hr
    obtain ⟨Ar, cr, rfl, hcr, hdr⟩ := SS.dims R27.out
    rw [allDist_length, HPN.out] at hcr ⊢
    go_wp2_with fail
    have N_27 := Lib.hid (Net.turned N_26.out HF27.out (by omega) (by omega)); clear N_26
    have D_27 := Lib.hid (Dec.turned D_26.out HF27.out (by omega) (by omega)); clear D_26
    have bx1_27 := HF27.out.boxN bx1_26 (by omega); clear bx1_26
    have bx2_27 := HF27.out.boxN bx2_26 (by omega); clear bx2_26
    have Cl_27 := Lib.hid (IntS.turned Cl_26.out HF27.out (by omega) (by omega)); clear Cl_26
    have Co_27 := Lib.hid (IntS.turned Co_26.out HF27.out (by omega) (by omega)); clear Co_26
    have OUT_27 := Lib.hid (HF27.out.boxN HB.out (by omega)); clear HB
    have P_27 := Lib.hid (Net.turned HM.out HF27.out (by omega) (by omega)); clear HM
    have hbA27 : Below w.heap.size w W27 := (HF27.out.below_of hbA26 (by omega) (by omega)); clear hbA26 HF27
    go_loopw [25] (fun kv wr => ∃ (v : Nat), v ≤ N.ends.length ∧ kv = .int .i64 v ∧ Hid (∀ a, a < v → ∀ b, b < N.ends.length → strongAt N D.cluster a b = true) ∧ Hid (Turned W27.heap.size W27.heap.size W27 wr)) (fun kv _ => N.ends.length - (intOf kv).toNat)
    case atStart => exact ⟨0, Nat.zero_le _, rfl, Lib.hid (fun a ha => absurd ha (by omega)), Lib.hid (Turned.refl W27.heap.size W27.heap.size W27)⟩
    case round =>
      obtain ⟨v, hv, rfl, HU, HF28⟩ := hrel
      have hs28 := HF28.out.size
      by_cases hvn : v < N.ends.length
      case pos =>
        have hvi : (v : Int) < N.ends.length := by omega
        have hvp : v < (allDist P).length := by rw [allDist_length, HPN.out]; exact hvn
        obtain ⟨ba, oa, ua, rfl, _, hba, za, hua⟩ := SS.opened R27.out hvp
        replace za := (HF28.out.cell (by omega) (by omega)).trans za
        obtain ⟨Aa, ca, rfl, hca, hda⟩ := hua.dims
        have Ua := Lib.hid hua; clear hua
        rw [nthL_allDist P (show v < P.ends.length by rw [HPN.out]; exact hvn)] at Ua
        have hdl := dist_len (good_nodes HPG.out) (show v < P.ends.length by rw [HPN.out]; exact hvn)
        rw [HPN.out] at hdl
        have e9 : (nthL (allDist P) v).length = N.ends.length := by rw [nthL_allDist P (show v < P.ends.length by rw [HPN.out]; exact hvn)]; exact hdl
        rw [e9] at za hca
        have HDL := Lib.hid hdl
        clear e9 hdl hvp
        go_wp2_with fail
        clear za
        go_loopw [32] (fun jv wr => ∃ (j : Nat), j ≤ N.ends.length ∧ jv = .int .i64 j ∧ Hid (∀ b, b < j → strongAt N D.cluster v b = true) ∧ Hid (Turned W27.heap.size W27.heap.size W27 wr)) (fun jv _ => N.ends.length - (intOf jv).toNat)
        case atStart => exact ⟨0, Nat.zero_le _, rfl, Lib.hid (fun b hb => absurd hb (by omega)), HF28⟩
        case round =>
          clear HF28
          obtain ⟨j, hj, rfl, HU2, HF29⟩ := hrel
          have hs29 := HF29.out.size
          by_cases hjn : j < N.ends.length
          case neg =>
            obtain rfl : j = N.ends.length := by omega
            go_wp2_with fail
            go_roundw
            case rel => exact ⟨v + 1, by omega, by go_num, Lib.hid (fun a ha b hb => if e : a = v then by rw [e]; exact HU2.out b hb else HU.out a (by omega) b hb), HF29⟩
            case measure => simp [intOf]; omega
          have hji : (j : Int) < N.ends.length := by omega
          obtain ⟨bD, oD, eD, _, hbD, xD, _⟩ := (IntS.turned Ua.out HF29.out (by omega) (by omega)).opened (j := j) (by rw [HDL.out]; exact hjn)
          subst eD
          obtain ⟨x, HX⟩ : ∃ x, Hid (nth (dist P v) j = x) := ⟨_, Lib.hid rfl⟩
          rw [HX.out] at xD
          obtain ⟨bC, oC, eC, _, hbC, y1, _⟩ := ((IntS.turned Cl_27.out HF29.out (by omega) (by omega))).opened (j := v) (by rw [HCL.out]; exact hvn)
          subst eC
          have y2 := (((IntS.turned Cl_27.out HF29.out (by omega) (by omega))).at_ (j := j) (by rw [HCL.out]; exact hjn)).1
          obtain ⟨p, HPP⟩ : ∃ x, Hid (nth D.cluster v = x) := ⟨_, Lib.hid rfl⟩
          obtain ⟨q, HQQ⟩ : ∃ x, Hid (nth D.cluster j = x) := ⟨_, Lib.hid rfl⟩
          rw [HPP.out] at y1
          rw [HQQ.out] at y2
          have HSA := Lib.hid (show strongAt N D.cluster v j = (!decide (p = q) || decide (0 ≤ x)) by unfold strongAt; rw [HPP.out, HQQ.out, HP.out, HX.out])
          go_wp2_with fail
          clear xD
          by_cases hx : 0 ≤ x
          case pos =>
            have hx0 : ¬ x < 0 := by omega
            have HS1 := Lib.hid (show strongAt N D.cluster v j = true by rw [HSA.out, decide_eq_true hx, Bool.or_true])
            have hvl : (v : Int) < D.cluster.length := by rw [HCL.out]; exact hvi
            have hjl : (j : Int) < D.cluster.length := by rw [HCL.out]; exact hji
            have ey1 : ∀ p', (ext wr p').cell? ⟨bC, oC + v, none⟩ = some (.int .i64 p) := ext_cell wr (a := ⟨bC, oC + v, none⟩) (by show bC < _; omega) y1
            have ey2 : ∀ p', (ext wr p').cell? ⟨bC, oC + j, none⟩ = some (.int .i64 q) := ext_cell wr (a := ⟨bC, oC + j, none⟩) (by show bC < _; omega) y2
            clear y1 y2
            have ebx2_0 : ∀ p, (ext wr p).cell? ⟨w.heap.size + 1, 0, none⟩ = some (.slice (some ⟨bC, oC, none⟩) D.cluster.length c2) := ext_cell wr (a := ⟨w.heap.size + 1, 0, none⟩) ((HF29.out.boxN bx2_27 (by omega))).lt ((HF29.out.boxN bx2_27 (by omega)).cell 0 (by simp))
            have ebx2_1 : ∀ p, (ext wr p).cell? ⟨w.heap.size + 1, 1, none⟩ = some (.slice A2' D.colour.length c2') := ext_cell wr (a := ⟨w.heap.size + 1, 1, none⟩) ((HF29.out.boxN bx2_27 (by omega))).lt ((HF29.out.boxN bx2_27 (by omega)).cell 1 (by simp))
            refine wp_region_ext (by kernel_rfl) (by kernel_rfl) ?_
            repeat (go_big_quiet_step (fail))
            refine wpQuiet_nil ?_
            rintro w1 ⟨p, rfl⟩
            clear ebx2_0 ebx2_1
            obtain ⟨W30, HW30⟩ : ∃ W, Hid (W = ext wr p) := ⟨_, Lib.hid rfl⟩
            rw [← HW30.out]
            have hg30 : wr.grownBy W30 none := by rw [HW30.out]; exact grown_below (ext_below _ _)
            clear HW30
            have hs30 := hg30.size
            have HF30 := Lib.hid (HF29.out.still hg30); clear HF29
            clear ey1 ey2 hvl hjl
            go_wp2_with fail
            go_roundw
            case rel => exact ⟨j + 1, by omega, by go_num, Lib.hid (fun b hb => if e : b = j then by rw [e]; exact HS1.out else HU2.out b (by omega)), HF30⟩
            case measure => simp [intOf]; omega
          have hx0 : x < 0 := by omega
          by_cases hpq : p = q
          case neg =>
            have hpq2 : (p == q) = false := by simpa using hpq
            have HS1 := Lib.hid (show strongAt N D.cluster v j = true by rw [HSA.out, decide_eq_false hpq]; rfl)
            clear hpq
            have hvl : (v : Int) < D.cluster.length := by rw [HCL.out]; exact hvi
            have hjl : (j : Int) < D.cluster.length := by rw [HCL.out]; exact hji
            have ey1 : ∀ p', (ext wr p').cell? ⟨bC, oC + v, none⟩ = some (.int .i64 p) := ext_cell wr (a := ⟨bC, oC + v, none⟩) (by show bC < _; omega) y1
            have ey2 : ∀ p', (ext wr p').cell? ⟨bC, oC + j, none⟩ = some (.int .i64 q) := ext_cell wr (a := ⟨bC, oC + j, none⟩) (by show bC < _; omega) y2
            clear y1 y2
            have ebx2_0 : ∀ p, (ext wr p).cell? ⟨w.heap.size + 1, 0, none⟩ = some (.slice (some ⟨bC, oC, none⟩) D.cluster.length c2) := ext_cell wr (a := ⟨w.heap.size + 1, 0, none⟩) ((HF29.out.boxN bx2_27 (by omega))).lt ((HF29.out.boxN bx2_27 (by omega)).cell 0 (by simp))
            have ebx2_1 : ∀ p, (ext wr p).cell? ⟨w.heap.size + 1, 1, none⟩ = some (.slice A2' D.colour.length c2') := ext_cell wr (a := ⟨w.heap.size + 1, 1, none⟩) ((HF29.out.boxN bx2_27 (by omega))).lt ((HF29.out.boxN bx2_27 (by omega)).cell 1 (by simp))
            refine wp_region_ext (by kernel_rfl) (by kernel_rfl) ?_
            repeat (go_big_quiet_step (fail))
            refine wpQuiet_nil ?_
            rintro w1 ⟨p, rfl⟩
            clear ebx2_0 ebx2_1
            obtain ⟨W31, HW31⟩ : ∃ W, Hid (W = ext wr p) := ⟨_, Lib.hid rfl⟩
            rw [← HW31.out]
            have hg31 : wr.grownBy W31 none := by rw [HW31.out]; exact grown_below (ext_below _ _)
            clear HW31
            have hs31 := hg31.size
            have HF31 := Lib.hid (HF29.out.still hg31); clear HF29
            clear ey1 ey2 hvl hjl
            go_wp2_with fail
            go_roundw
            case rel => exact ⟨j + 1, by omega, by go_num, Lib.hid (fun b hb => if e : b = j then by rw [e]; exact HS1.out else HU2.out b (by omega)), HF31⟩
            case measure => simp [intOf]; omega
          have hpq2 : (p == q) = true := by simpa using hpq
          have HS1 := Lib.hid (show strongB N D.cluster = false from strong_false hvn hjn (by rw [HSA.out, decide_eq_true hpq, decide_eq_false hx]; rfl))
          clear hpq
          have hvl : (v : Int) < D.cluster.length := by rw [HCL.out]; exact hvi
          have hjl : (j : Int) < D.cluster.length := by rw [HCL.out]; exact hji
          have ey1 : ∀ p', (ext wr p').cell? ⟨bC, oC + v, none⟩ = some (.int .i64 p) := ext_cell wr (a := ⟨bC, oC + v, none⟩) (by show bC < _; omega) y1
          have ey2 : ∀ p', (ext wr p').cell? ⟨bC, oC + j, none⟩ = some (.int .i64 q) := ext_cell wr (a := ⟨bC, oC + j, none⟩) (by show bC < _; omega) y2
          clear y1 y2
          have ebx2_0 : ∀ p, (ext wr p).cell? ⟨w.heap.size + 1, 0, none⟩ = some (.slice (some ⟨bC, oC, none⟩) D.cluster.length c2) := ext_cell wr (a := ⟨w.heap.size + 1, 0, none⟩) ((HF29.out.boxN bx2_27 (by omega))).lt ((HF29.out.boxN bx2_27 (by omega)).cell 0 (by simp))
          have ebx2_1 : ∀ p, (ext wr p).cell? ⟨w.heap.size + 1, 1, none⟩ = some (.slice A2' D.colour.length c2') := ext_cell wr (a := ⟨w.heap.size + 1, 1, none⟩) ((HF29.out.boxN bx2_27 (by omega))).lt ((HF29.out.boxN bx2_27 (by omega)).cell 1 (by simp))
          refine wp_region_ext (by kernel_rfl) (by kernel_rfl) ?_
          repeat (go_big_quiet_step (fail))
          refine wpQuiet_nil ?_
          rintro w1 ⟨p, rfl⟩
          clear ebx2_0 ebx2_1
          obtain ⟨W32, HW32⟩ : ∃ W, Hid (W = ext wr p) := ⟨_, Lib.hid rfl⟩
          rw [← HW32.out]
          have hg32 : wr.grownBy W32 none := by rw [HW32.out]; exact grown_below (ext_below _ _)
          clear HW32
          have hs32 := hg32.size
          have HF32 := Lib.hid (HF29.out.still hg32); clear HF29
          clear ey1 ey2 hvl hjl
          go_wp2_with fail
          go_ret2
          have e1 : strongOk N D = false := by rw [HOK.out, HS1.out]
          exact ⟨by rw [strongV_no e1, e1]; rfl, (HF32.out.below_of hbA27 (by omega) (by omega))⟩
      obtain rfl : v = N.ends.length := by omega
      have HSB := Lib.hid (strong_true HU.out)
      have HPC := Lib.hid (show Clus P D.cluster by rw [← HP.out]; exact strong_clus HG.out HK.out.clus HSB.out)
      have kOUT_0 : wr.cell? ⟨gO, 0, none⟩ = some (.slice A5 P.ends.length c5) := (HF28.out.boxN OUT_27.out (by omega)).cell 0 (by simp)
      have kOUT_1 : wr.cell? ⟨gO, 1, none⟩ = some (.slice A6 P.ids.length c6) := (HF28.out.boxN OUT_27.out (by omega)).cell 1 (by simp)
      have kOUT_2 : wr.cell? ⟨gO, 2, none⟩ = some (.slice A7 P.inputs.length c7) := (HF28.out.boxN OUT_27.out (by omega)).cell 2 (by simp)
      have kbx2_0 : wr.cell? ⟨w.heap.size + 1, 0, none⟩ = some (.slice A2 D.cluster.length c2) := (HF28.out.boxN bx2_27 (by omega)).cell 0 (by simp)
      have kbx2_1 : wr.cell? ⟨w.heap.size + 1, 1, none⟩ = some (.slice A2' D.colour.length c2') := (HF28.out.boxN bx2_27 (by omega)).cell 1 (by simp)
      go_wp2_with fail
      clear kOUT_0 kOUT_1 kOUT_2 kbx2_0 kbx2_1
      refine (diameters_any _ P _ _ _ D.cluster _ _ _ (Net.turned P_27.out HF28.out (by omega) (by omega)) (by omega) (IntS.turned Cl_27.out HF28.out (by omega) (by omega)) (by omega) D.colour.length HPG.out HPC.out HMC.out).mono ?_
      rintro e W33 ⟨r, rfl, hr, hb33⟩
      have hg33 := grown_below hb33; clear hb33
      have hs33 := hg33.size
      have HF33 := Lib.hid (HF28.out.still hg33); clear HF28
      have DR33 := Lib.hid hr; clear hr
      obtain ⟨Ad, cd, rfl, hcd, hdd⟩ := DR33.out.dims
      rw [diams_length] at hcd ⊢
      go_wp2_with fail
      have R9 := Lib.hid DR33.out
      rw [diams_length] at R9
      have HCL2 := Lib.hid (show D.cluster.length = P.ends.length by rw [HCL.out, HPN.out])
      refine (slicesMax_any _ (diams P D.cluster D.colour.length) _ _ _ R9.out (by rw [diams_length]; omega) (fun x hx => (diams_at HPG.out HCL2.out hx).1)).mono ?_
      rintro e w' ⟨rfl, rfl⟩
      go_wp2_with fail
      go_ret2
      have e1 : strongOk N D = true := by rw [HOK.out, HSB.out]
      exact ⟨by rw [strongV_yes e1, e1, HP.out]; rfl, (HF33.out.below_of hbA27 (by omega) (by omega))⟩

end Go.Proofs.Ytcmmklcampmkjaa

/- Contract: StrongDiameter (reference). -/
namespace Go.Proofs.Ytcmmklcampmkjaa
open Go.ChangeShapes Go.WideShapes Go.ChangeAt Go.RowKit
set_option linter.unusedVariables false

set_option maxHeartbeats 8000000 in
set_option maxRecDepth 100000 in
theorem StrongDiameter_spec (v1 : Value) (N : NetD) (lo1 hi1 : Nat) (v2 : Value) (D : DecD) (lo2 hi2 : Nat) (w : World) (h1 : Net w lo1 hi1 v1 N) (hh1 : hi1 ≤ w.heap.size) (h2 : Dec w lo2 hi2 v2 D) (hh2 : hi2 ≤ w.heap.size) (hz1 : N.sz ≤ 1048576) (hz2 : D.sz ≤ 1048576) (ok1 : N.Ok) (ok2 : D.Ok) :
    Calls Try.prog 7 #[v1, v2] w fun e w' => e = .returned (.tuple #[.int .i64 (strongV N D), .bool (strongOk N D)]) ∧ Below w.heap.size w w' := by
  clear ok1 ok2
  have F1 := Lib.hid h1
  obtain ⟨A1, c1, A1', c1', A1'', c1'', rfl, hc1, hd1, _⟩ := h1.parts
  clear h1
  have F2 := Lib.hid h2
  obtain ⟨A2, c2, A2', c2', rfl, hc2, hd2⟩ := h2.parts
  clear h2
  obtain ⟨WA, HWA⟩ : ∃ W, Hid (W = ((w.alloc (.cells #[.slice A1 N.ends.length c1, .slice A1' N.ids.length c1', .slice A1'' N.inputs.length c1''] 34)).alloc (.cells #[.slice A2 D.cluster.length c2, .slice A2' D.colour.length c2'] 36))) := ⟨_, Lib.hid rfl⟩
  have hbA : Below w.heap.size w WA := by rw [HWA.out]; exact (((Below.refl _ _).alloc (Nat.le_refl _) _).alloc (by simp; try omega) _)
  have hsA : w.heap.size + 2 ≤ WA.heap.size := by rw [HWA.out]; simp; try omega
  have bx1 : BoxN WA (w.heap.size) #[.slice A1 N.ends.length c1, .slice A1' N.ids.length c1', .slice A1'' N.inputs.length c1''] 34 := by rw [HWA.out]; exact ((BoxN.new' _ _ _ (by simp)).still (grown_alloc _ _))
  have bx2 : BoxN WA (w.heap.size + 1) #[.slice A2 D.cluster.length c2, .slice A2' D.colour.length c2'] 36 := by rw [HWA.out]; exact (BoxN.new' _ _ _ (by simp))
  have G1 := Lib.hid (Net.below F1.out hbA hh1); clear F1
  have G2 := Lib.hid (Dec.below F2.out hbA hh2); clear F2
  go_enter Try.func7, Try.ntmps7
  go_upto_region 1 with (fail)
  rw [← HWA.out]; clear HWA
  have gC := Lib.hid (Dec.clusterS G2.out)
  have gL := Lib.hid (Dec.colourS G2.out)
  have kbx1_0 : WA.cell? ⟨w.heap.size, 0, none⟩ = some (.slice A1 N.ends.length c1) := bx1.cell 0 (by simp)
  have kbx1_1 : WA.cell? ⟨w.heap.size, 1, none⟩ = some (.slice A1' N.ids.length c1') := bx1.cell 1 (by simp)
  have kbx1_2 : WA.cell? ⟨w.heap.size, 2, none⟩ = some (.slice A1'' N.inputs.length c1'') := bx1.cell 2 (by simp)
  have kbx2_0 : WA.cell? ⟨w.heap.size + 1, 0, none⟩ = some (.slice A2 D.cluster.length c2) := bx2.cell 0 (by simp)
  have kbx2_1 : WA.cell? ⟨w.heap.size + 1, 1, none⟩ = some (.slice A2' D.colour.length c2') := bx2.cell 1 (by simp)
  go_wp2_with fail
  clear kbx1_0 kbx1_1 kbx1_2 kbx2_0 kbx2_1
  refine (deAsked_any _ N lo1 hi1 _ D lo2 hi2 _ G1.out (by omega) G2.out (by omega) hz1 hz2).mono ?_
  rintro e W1 ⟨rfl, hb1⟩
  have hg1 := grown_below hb1; clear hb1
  have hs1 := hg1.size
  have HF1 := Lib.hid ((Turned.refl WA.heap.size WA.heap.size WA).still hg1)
  by_cases hA : askedB N D = true
  case neg =>
    have hA' : askedB N D = false := by simpa using hA
    rw [hA']
    have HA := Lib.hid hA'; clear hA hA'
    go_wp2_with fail
    go_ret2
    exact ⟨by rw [strongV_no (by unfold strongOk; rw [HA.out]; rfl), show strongOk N D = false by unfold strongOk; rw [HA.out]; rfl]; rfl, (HF1.out.below_of hbA (by omega) (by omega))⟩
  rw [hA]
  have HA := Lib.hid hA; clear hA
  have HG := Lib.hid (askedB_parts HA.out).1
  have HK := Lib.hid (askedB_parts HA.out).2
  obtain ⟨n1, n40⟩ := good_n HG.out
  have hcl := HK.out.clus.len
  have HCL := Lib.hid hcl
  obtain ⟨m, hm, hm3⟩ := HK.out.clus.most HG.out
  have hcol := HK.out.len
  rw [hm, Int.toNat_natCast] at hcol
  have HMC := Lib.hid (show mostI D.cluster + 1 = (D.colour.length : Int) by omega)
  have hcol1 : 1 ≤ D.colour.length := by omega
  have hcol2 : D.colour.length ≤ N.ends.length := by omega
  have HOK := Lib.hid (show strongOk N D = strongB N D.cluster by unfold strongOk; rw [HA.out, Bool.true_and])
  clear hcl hm hcol
  obtain ⟨P, HP⟩ : ∃ P, Hid (innerN N D.cluster = P) := ⟨_, Lib.hid rfl⟩
  have N_1 := Lib.hid (Net.turned G1.out HF1.out (by omega) (by omega)); clear G1
  have D_1 := Lib.hid (Dec.turned G2.out HF1.out (by omega) (by omega)); clear G2
  have bx1_1 := HF1.out.boxN bx1 (by omega); clear bx1
  have bx2_1 := HF1.out.boxN bx2 (by omega); clear bx2
  have Cl_1 := Lib.hid (IntS.turned gC.out HF1.out (by omega) (by omega)); clear gC
  have Co_1 := Lib.hid (IntS.turned gL.out HF1.out (by omega) (by omega)); clear gL
  have hbA1 : Below w.heap.size w W1 := (HF1.out.below_of hbA (by omega) (by omega)); clear hbA HF1
  have kbx2_0 : W1.cell? ⟨w.heap.size + 1, 0, none⟩ = some (.slice A2 D.cluster.length c2) := bx2_1.cell 0 (by simp)
  have kbx2_1 : W1.cell? ⟨w.heap.size + 1, 1, none⟩ = some (.slice A2' D.colour.length c2') := bx2_1.cell 1 (by simp)
  go_wp2_with fail
  clear kbx2_0 kbx2_1
  go_loopw [16, 6] (fun kv ov wr => ∃ (k : Nat) (y : Int), k ≤ D.colour.length ∧ kv = .int .i64 k ∧ ov = .int .i64 y ∧ Hid (y = mostI ((diams P D.cluster D.colour.length).take k)) ∧ Hid (∀ j, j < k → connB (ownN N D.cluster j) = true) ∧ Hid (Turned W1.heap.size W1.heap.size W1 wr)) (fun kv ov _ => D.colour.length - (intOf kv).toNat)
  case atStart => exact ⟨0, 0, Nat.zero_le _, rfl, rfl, Lib.hid rfl, Lib.hid (fun j hj => absurd hj (by omega)), Lib.hid (Turned.refl W1.heap.size W1.heap.size W1)⟩
  case round =>
    obtain ⟨k, y, hk, rfl, rfl, HY, HU, HF2⟩ := hrel
    have hs2 := HF2.out.size
    obtain ⟨wq, rfl⟩ : ∃ wq : World, wq = wr := ⟨_, rfl⟩
    by_cases hkc : k < D.colour.length
    case neg =>
      obtain rfl : k = D.colour.length := by omega
      have HSB := Lib.hid ((strong_iff HG.out HK.out.clus).2 fun j hj => HU.out j (by have := HMC.out; omega))
      go_wp2_with fail
      go_ret2
      have e1 : strongOk N D = true := by rw [HOK.out, HSB.out]
      have e2 : strongV N D = y := by rw [strongV_yes e1, HP.out, HY.out, List.take_of_length_le (by rw [diams_length]; exact Nat.le_refl _)]
      exact ⟨by rw [e2, e1]; rfl, (HF2.out.below_of hbA1 (by omega) (by omega))⟩
    have hki : (k : Int) < D.colour.length := by omega
    have hkm : (k : Int) ≤ mostI D.cluster := by have := HMC.out; omega
    have h0 := clus_pos HK.out.clus hkm
    have HQG := Lib.hid (own_good HG.out HCL.out h0)
    have HDW := Lib.hid (dia_wide HG.out HCL.out h0)
    have HTK := Lib.hid (diams_take (N := P) (l := D.cluster) hkc)
    have HST := Lib.hid (strong_iff HG.out HK.out.clus)
    have HPK := Lib.hid (clus_pick HCL.out k)
    have HCN := Lib.hid (clus_len HCL.out k)
    rw [HP.out] at HDW
    rw [← HY.out] at HTK
    have HKM := Lib.hid hkm
    clear hkm h0
    go_wp2_with fail
    refine region_cut [19, 20, 21, 22, 23, 24, 8] (fun vs W => ∃ (gO : Nat) (Az A5 A6 A7 : Option Addr) (cz c5 c6 c7 : Nat), vs = [.agg #[.slice A1 N.ends.length c1, .slice A1' N.ids.length c1', .slice A1'' N.inputs.length c1''], .pointer (some ⟨w.heap.size + 1, 0, none⟩), .slice A2 D.cluster.length c2, .int .i64 k, .slice Az (clusN D.cluster k).length cz, .agg #[.slice A5 (ownN N D.cluster k).ends.length c5, .slice A6 (ownN N D.cluster k).ids.length c6, .slice A7 (ownN N D.cluster k).inputs.length c7], .pointer (some ⟨gO, 0, none⟩)] ∧ Hid (BoxN W gO #[.slice A5 (ownN N D.cluster k).ends.length c5, .slice A6 (ownN N D.cluster k).ids.length c6, .slice A7 (ownN N D.cluster k).inputs.length c7] 34) ∧ Hid (Net W W1.heap.size W.heap.size (.agg #[.slice A5 (ownN N D.cluster k).ends.length c5, .slice A6 (ownN N D.cluster k).ids.length c6, .slice A7 (ownN N D.cluster k).inputs.length c7]) (ownN N D.cluster k)) ∧ W1.heap.size ≤ gO ∧ Hid (Turned W1.heap.size W1.heap.size W1 W)) ?_ ?_
    case refine_1 =>
      refine wp_region_U (fun w' => w'.cell? ⟨w.heap.size, 0, none⟩ = some (.slice A1 N.ends.length c1) ∧ w'.cell? ⟨w.heap.size, 1, none⟩ = some (.slice A1' N.ids.length c1') ∧ w'.cell? ⟨w.heap.size, 2, none⟩ = some (.slice A1'' N.inputs.length c1'') ∧ w'.cell? ⟨w.heap.size + 1, 0, none⟩ = some (.slice A2 D.cluster.length c2) ∧ w'.cell? ⟨w.heap.size + 1, 1, none⟩ = some (.slice A2' D.colour.length c2')) [] (by kernel_rfl) ?_
      refine nameU ?_
      intro W3 HW3
      have hg3 : wq.grownBy W3 none := by rw [HW3.out]; exact grown_drew _
      clear HW3
      have hs3 := hg3.size
      have HF3 := Lib.hid (HF2.out.still hg3); clear HF2
      have hS4 : W3.cell? ⟨w.heap.size, 0, none⟩ = some (.slice A1 N.ends.length c1) ∧ W3.cell? ⟨w.heap.size, 1, none⟩ = some (.slice A1' N.ids.length c1') ∧ W3.cell? ⟨w.heap.size, 2, none⟩ = some (.slice A1'' N.inputs.length c1'') ∧ W3.cell? ⟨w.heap.size + 1, 0, none⟩ = some (.slice A2 D.cluster.length c2) ∧ W3.cell? ⟨w.heap.size + 1, 1, none⟩ = some (.slice A2' D.colour.length c2') := ⟨(HF3.out.boxN bx1_1 (by omega)).cell 0 (by simp), (HF3.out.boxN bx1_1 (by omega)).cell 1 (by simp), (HF3.out.boxN bx1_1 (by omega)).cell 2 (by simp), (HF3.out.boxN bx2_1 (by omega)).cell 0 (by simp), (HF3.out.boxN bx2_1 (by omega)).cell 1 (by simp)⟩
      refine anyU_take (i := 0) (v := .agg #[.slice A1 N.ends.length c1, .slice A1' N.ids.length c1', .slice A1'' N.inputs.length c1'']) rfl (by kernel_rfl) (by kernel_rfl) (by kernel_rfl) (fun _ _ _ ⟨_, _, h, _⟩ => by cases h) ⟨by rfl, fun w' hS' => (by obtain ⟨s1, s2, s3, s4, s5⟩ := hS'; go_simp)⟩ hS4 ?_
      simp only [List.getElem_toArray, List.getElem_cons_zero, Act.put, List.setIfInBounds_toArray, List.set_cons_zero, List.set_cons_succ]
      refine anyU_take (i := 1) (v := .pointer (some ⟨w.heap.size + 1, 0, none⟩)) rfl (by kernel_rfl) (by kernel_rfl) (by kernel_rfl) (fun _ _ _ ⟨_, _, h, _⟩ => by cases h) ⟨by rfl, fun w' hS' => (by obtain ⟨s1, s2, s3, s4, s5⟩ := hS'; go_simp)⟩ hS4 ?_
      simp only [List.getElem_toArray, List.getElem_cons_succ, List.getElem_cons_zero, Act.put, List.setIfInBounds_toArray, List.set_cons_zero, List.set_cons_succ]
      refine anyU_take (i := 2) (v := .slice A2 D.cluster.length c2) rfl (by kernel_rfl) (by kernel_rfl) (by kernel_rfl) (fun _ _ _ ⟨_, _, h, _⟩ => by cases h) ⟨by rfl, fun w' hS' => (by obtain ⟨s1, s2, s3, s4, s5⟩ := hS'; go_simp)⟩ hS4 ?_
      simp only [List.getElem_toArray, List.getElem_cons_succ, List.getElem_cons_zero, Act.put, List.setIfInBounds_toArray, List.set_cons_zero, List.set_cons_succ]
      refine anyU_take (i := 3) (v := .int .i64 k) rfl (by kernel_rfl) (by kernel_rfl) (by kernel_rfl) (fun _ _ _ ⟨_, _, h, _⟩ => by cases h) ⟨by rfl, fun w' hS' => (by obtain ⟨s1, s2, s3, s4, s5⟩ := hS'; go_simp)⟩ hS4 ?_
      simp only [List.getElem_toArray, List.getElem_cons_succ, List.getElem_cons_zero, Act.put, List.setIfInBounds_toArray, List.set_cons_zero, List.set_cons_succ]
      refine anyU_ready (rs := [4, 6]) (by kernel_rfl) (by simp) ?_
      refine ReadyU.cons (i := 4) rfl (fun K hK => ?_) ?_
      case refine_1 =>
        simp only [List.getElem_toArray, List.getElem_cons_succ, List.getElem_cons_zero]
        refine ite_is (by rfl) ?_
        simp [go_sem]
        refine (deNodes_any _ D.cluster lo2 hi2 k _ (IntS.turned Cl_1.out HF3.out (by omega) (by omega)) (by omega) (by rw [HCL.out]; omega)).mono ?_
        rintro e W5 ⟨rz, rfl, hrz, hb5⟩
        have hg5 := grown_below hb5; clear hb5
        have hs5 := hg5.size
        have HF5 := Lib.hid (HF3.out.still hg5); clear HF3
        obtain ⟨Az, cz, rfl, hcz, hdz⟩ := hrz.dims
        have Z5 := Lib.hid hrz; clear hrz
        have hS6 : W5.cell? ⟨w.heap.size, 0, none⟩ = some (.slice A1 N.ends.length c1) ∧ W5.cell? ⟨w.heap.size, 1, none⟩ = some (.slice A1' N.ids.length c1') ∧ W5.cell? ⟨w.heap.size, 2, none⟩ = some (.slice A1'' N.inputs.length c1'') ∧ W5.cell? ⟨w.heap.size + 1, 0, none⟩ = some (.slice A2 D.cluster.length c2) ∧ W5.cell? ⟨w.heap.size + 1, 1, none⟩ = some (.slice A2' D.colour.length c2') := ⟨(HF5.out.boxN bx1_1 (by omega)).cell 0 (by simp), (HF5.out.boxN bx1_1 (by omega)).cell 1 (by simp), (HF5.out.boxN bx1_1 (by omega)).cell 2 (by simp), (HF5.out.boxN bx2_1 (by omega)).cell 0 (by simp), (HF5.out.boxN bx2_1 (by omega)).cell 1 (by simp)⟩
        refine hK.out _ _ ⟨fun _ => hS6, ?_⟩
        clear hK K hS4
        try simp only [List.getElem_toArray, List.getElem_cons_succ, List.getElem_cons_zero, Act.put, List.setIfInBounds_toArray, List.set_cons_zero, List.set_cons_succ]
        refine anyU_ready (rs := [5, 6]) (by kernel_rfl) (by simp) ?_
        refine ReadyU.cons (i := 5) rfl (fun K hK => ?_) ?_
        case refine_1 =>
          simp only [List.getElem_toArray, List.getElem_cons_succ, List.getElem_cons_zero]
          refine ite_is (by rfl) ?_
          simp [go_sem]
          refine (neKeep_any _ N lo1 hi1 _ (clusN D.cluster k) _ _ _ (Net.turned N_1.out HF5.out (by omega) (by omega)) (by omega) Z5.out (by omega) HG.out HPK.out (by have := HCN.out; omega)).mono ?_
          rintro e W7 ⟨rp, rfl, hrp, hb7⟩
          have hg7 := grown_below hb7; clear hb7
          have hs7 := hg7.size
          have HF7 := Lib.hid (HF5.out.still hg7); clear HF5
          have Z7 := Lib.hid (IntS.still Z5.out hg7 (by omega)); clear Z5
          obtain ⟨A5, c5, A6, c6, A7, c7, rfl, hc5, hd5, _⟩ := hrp.parts
          have M7 := Lib.hid (show Net W7 _ _ _ (ownN N D.cluster k) from hrp); clear hrp
          have hS8 : W7.cell? ⟨w.heap.size, 0, none⟩ = some (.slice A1 N.ends.length c1) ∧ W7.cell? ⟨w.heap.size, 1, none⟩ = some (.slice A1' N.ids.length c1') ∧ W7.cell? ⟨w.heap.size, 2, none⟩ = some (.slice A1'' N.inputs.length c1'') ∧ W7.cell? ⟨w.heap.size + 1, 0, none⟩ = some (.slice A2 D.cluster.length c2) ∧ W7.cell? ⟨w.heap.size + 1, 1, none⟩ = some (.slice A2' D.colour.length c2') := ⟨(HF7.out.boxN bx1_1 (by omega)).cell 0 (by simp), (HF7.out.boxN bx1_1 (by omega)).cell 1 (by simp), (HF7.out.boxN bx1_1 (by omega)).cell 2 (by simp), (HF7.out.boxN bx2_1 (by omega)).cell 0 (by simp), (HF7.out.boxN bx2_1 (by omega)).cell 1 (by simp)⟩
          refine hK.out _ _ ⟨fun _ => hS8, ?_⟩
          clear hK K hS6
          try simp only [List.getElem_toArray, List.getElem_cons_succ, List.getElem_cons_zero, Act.put, List.setIfInBounds_toArray, List.set_cons_zero, List.set_cons_succ]
          refine anyU_ready (rs := [6]) (by kernel_rfl) (by simp) ?_
          refine ReadyU.cons (i := 6) rfl (fun K hK => ?_) ?_
          case refine_1 =>
            simp only [List.getElem_toArray, List.getElem_cons_succ, List.getElem_cons_zero]
            refine ite_is (by rfl) ?_
            simp [go_sem]
            refine nameA ?_
            intro W9 HW9
            have hg9 : W7.grownBy W9 none := by rw [HW9.out]; exact grown_alloc _ _
            have OUT9 := Lib.hid (show BoxN W9 W7.heap.size #[.slice none 0 0, .slice none 0 0, .slice none 0 0] 34 by rw [HW9.out]; exact BoxN.new _ _ _)
            have hz9 : W7.heap.size < W9.heap.size := OUT9.out.lt
            clear HW9
            have hs9 := hg9.size
            have HF9 := Lib.hid (HF7.out.still hg9); clear HF7
            have Z9 := Lib.hid (IntS.still Z7.out hg9 (by omega)); clear Z7
            have M9 := Lib.hid (NetF.still M7.out hg9 (by omega)); clear M7
            have hS10 : W9.cell? ⟨w.heap.size, 0, none⟩ = some (.slice A1 N.ends.length c1) ∧ W9.cell? ⟨w.heap.size, 1, none⟩ = some (.slice A1' N.ids.length c1') ∧ W9.cell? ⟨w.heap.size, 2, none⟩ = some (.slice A1'' N.inputs.length c1'') ∧ W9.cell? ⟨w.heap.size + 1, 0, none⟩ = some (.slice A2 D.cluster.length c2) ∧ W9.cell? ⟨w.heap.size + 1, 1, none⟩ = some (.slice A2' D.colour.length c2') := ⟨(HF9.out.boxN bx1_1 (by omega)).cell 0 (by simp), (HF9.out.boxN bx1_1 (by omega)).cell 1 (by simp), (HF9.out.boxN bx1_1 (by omega)).cell 2 (by simp), (HF9.out.boxN bx2_1 (by omega)).cell 0 (by simp), (HF9.out.boxN bx2_1 (by omega)).cell 1 (by simp)⟩
            refine hK.out _ _ ⟨fun _ => hS10, ?_⟩
            clear hK K hS8
            try simp only [List.getElem_toArray, List.getElem_cons_succ, List.getElem_cons_zero, Act.put, List.setIfInBounds_toArray, List.set_cons_zero, List.set_cons_succ]
            refine anyU_ready (rs := [7]) (by kernel_rfl) (by simp) ?_
            refine ReadyU.cons (i := 7) rfl (fun K hK => ?_) ?_
            case refine_1 =>
              simp only [List.getElem_toArray, List.getElem_cons_succ, List.getElem_cons_zero]
              refine ite_is (by rfl) ?_
              have kd0 : W9.cell? ⟨W7.heap.size, 0, none⟩ = some (.slice none 0 0) := OUT9.out.cell 0 (by simp)
              have kf0 := OUT9.out.frozen 0
              have kd1 : W9.cell? ⟨W7.heap.size, 1, none⟩ = some (.slice none 0 0) := OUT9.out.cell 1 (by simp)
              have kf1 := OUT9.out.frozen 1
              have kd2 : W9.cell? ⟨W7.heap.size, 2, none⟩ = some (.slice none 0 0) := OUT9.out.cell 2 (by simp)
              have kf2 := OUT9.out.frozen 2
              simp [go_sem, kd0, kf0, kd1, kf1, kd2, kf2]
              refine nameA ?_
              intro W11 HW11
              have hg11 : W9.grownBy W11 (some (W7.heap.size)) := by rw [HW11.out]; exact grownBy_setCell (p := ⟨W7.heap.size, 2, none⟩) (grownBy_setCell (p := ⟨W7.heap.size, 1, none⟩) (grown_set _ ⟨W7.heap.size, 0, none⟩ _) rfl _) rfl _
              have hs11 := hg11.size
              have HF11 := Lib.hid (HF9.out.grown hg11 (fun g e => .inr (by cases e; omega)))
              have Z11 := Lib.hid (IntS.far Z9.out hg11 (by omega) (fun g e => by cases e; omega)); clear Z9
              have M11 := Lib.hid (NetF.far M9.out hg11 (by omega) (fun g e => by cases e; omega)); clear M9
              have OUT11 := Lib.hid (show BoxN W11 (W7.heap.size) #[.slice A5 (partN N (clusN D.cluster k) (kpB N (clusN D.cluster k))).ends.length c5, .slice A6 (partN N (clusN D.cluster k) (kpB N (clusN D.cluster k))).ids.length c6, .slice A7 (partN N (clusN D.cluster k) (kpB N (clusN D.cluster k))).inputs.length c7] 34 by rw [HW11.out]; exact ((OUT9.out.set 0 _).set 1 _).set 2 _)
              clear HW11 kd0 kf0 kd1 kf1 kd2 kf2 OUT9
              have hS12 : W11.cell? ⟨w.heap.size, 0, none⟩ = some (.slice A1 N.ends.length c1) ∧ W11.cell? ⟨w.heap.size, 1, none⟩ = some (.slice A1' N.ids.length c1') ∧ W11.cell? ⟨w.heap.size, 2, none⟩ = some (.slice A1'' N.inputs.length c1'') ∧ W11.cell? ⟨w.heap.size + 1, 0, none⟩ = some (.slice A2 D.cluster.length c2) ∧ W11.cell? ⟨w.heap.size + 1, 1, none⟩ = some (.slice A2' D.colour.length c2') := ⟨(HF11.out.boxN bx1_1 (by omega)).cell 0 (by simp), (HF11.out.boxN bx1_1 (by omega)).cell 1 (by simp), (HF11.out.boxN bx1_1 (by omega)).cell 2 (by simp), (HF11.out.boxN bx2_1 (by omega)).cell 0 (by simp), (HF11.out.boxN bx2_1 (by omega)).cell 1 (by simp)⟩
              refine hK.out _ _ ⟨fun _ => hS12, ?_⟩
              clear hK K hS10
              try simp only [List.getElem_toArray, List.getElem_cons_succ, List.getElem_cons_zero, Act.put, List.setIfInBounds_toArray, List.set_cons_zero, List.set_cons_succ]
              clear hS12
              refine anyU_done (by kernel_rfl) ?_ _
              exact ⟨[.agg #[.slice A1 N.ends.length c1, .slice A1' N.ids.length c1', .slice A1'' N.inputs.length c1''], .pointer (some ⟨w.heap.size + 1, 0, none⟩), .slice A2 D.cluster.length c2, .int .i64 k, .slice Az (clusN D.cluster k).length cz, .agg #[.slice A5 (partN N (clusN D.cluster k) (kpB N (clusN D.cluster k))).ends.length c5, .slice A6 (partN N (clusN D.cluster k) (kpB N (clusN D.cluster k))).ids.length c6, .slice A7 (partN N (clusN D.cluster k) (kpB N (clusN D.cluster k))).inputs.length c7], .pointer (some ⟨W7.heap.size, 0, none⟩)], ⟨_, _, _, _, _, _, _, _, _, rfl, OUT11, Lib.hid (Net.mono M11.out (by omega) (by omega)), by omega, HF11⟩, rfl, by simp only [puts, Act.put, List.setIfInBounds_toArray, List.set_cons_zero, List.set_cons_succ]⟩
            exact ReadyU.nil
          exact ReadyU.nil
        refine ReadyU.cons (i := 6) rfl (fun K hK => ?_) ?_
        case refine_1 =>
          simp only [List.getElem_toArray, List.getElem_cons_succ, List.getElem_cons_zero]
          refine ite_is (by rfl) ?_
          simp [go_sem]
          refine nameA ?_
          intro W13 HW13
          have hg13 : W5.grownBy W13 none := by rw [HW13.out]; exact grown_alloc _ _
          have OUT13 := Lib.hid (show BoxN W13 W5.heap.size #[.slice none 0 0, .slice none 0 0, .slice none 0 0] 34 by rw [HW13.out]; exact BoxN.new _ _ _)
          have hz13 : W5.heap.size < W13.heap.size := OUT13.out.lt
          clear HW13
          have hs13 := hg13.size
          have HF13 := Lib.hid (HF5.out.still hg13); clear HF5
          have Z13 := Lib.hid (IntS.still Z5.out hg13 (by omega)); clear Z5
          have hS14 : W13.cell? ⟨w.heap.size, 0, none⟩ = some (.slice A1 N.ends.length c1) ∧ W13.cell? ⟨w.heap.size, 1, none⟩ = some (.slice A1' N.ids.length c1') ∧ W13.cell? ⟨w.heap.size, 2, none⟩ = some (.slice A1'' N.inputs.length c1'') ∧ W13.cell? ⟨w.heap.size + 1, 0, none⟩ = some (.slice A2 D.cluster.length c2) ∧ W13.cell? ⟨w.heap.size + 1, 1, none⟩ = some (.slice A2' D.colour.length c2') := ⟨(HF13.out.boxN bx1_1 (by omega)).cell 0 (by simp), (HF13.out.boxN bx1_1 (by omega)).cell 1 (by simp), (HF13.out.boxN bx1_1 (by omega)).cell 2 (by simp), (HF13.out.boxN bx2_1 (by omega)).cell 0 (by simp), (HF13.out.boxN bx2_1 (by omega)).cell 1 (by simp)⟩
          refine hK.out _ _ ⟨fun _ => hS14, ?_⟩
          clear hK K hS6
          try simp only [List.getElem_toArray, List.getElem_cons_succ, List.getElem_cons_zero, Act.put, List.setIfInBounds_toArray, List.set_cons_zero, List.set_cons_succ]
          refine anyU_ready (rs := [5]) (by kernel_rfl) (by simp) ?_
          refine ReadyU.cons (i := 5) rfl (fun K hK => ?_) ?_
          case refine_1 =>
            simp only [List.getElem_toArray, List.getElem_cons_succ, List.getElem_cons_zero]
            refine ite_is (by rfl) ?_
            simp [go_sem]
            refine (neKeep_any _ N lo1 hi1 _ (clusN D.cluster k) _ _ _ (Net.turned N_1.out HF13.out (by omega) (by omega)) (by omega) Z13.out (by omega) HG.out HPK.out (by have := HCN.out; omega)).mono ?_
            rintro e W15 ⟨rp, rfl, hrp, hb15⟩
            have hg15 := grown_below hb15; clear hb15
            have hs15 := hg15.size
            have HF15 := Lib.hid (HF13.out.still hg15); clear HF13
            have Z15 := Lib.hid (IntS.still Z13.out hg15 (by omega)); clear Z13
            have OUT15 := Lib.hid (BoxN.still OUT13.out hg15); clear OUT13
            obtain ⟨A5, c5, A6, c6, A7, c7, rfl, hc5, hd5, _⟩ := hrp.parts
            have M15 := Lib.hid (show Net W15 _ _ _ (ownN N D.cluster k) from hrp); clear hrp
            have hS16 : W15.cell? ⟨w.heap.size, 0, none⟩ = some (.slice A1 N.ends.length c1) ∧ W15.cell? ⟨w.heap.size, 1, none⟩ = some (.slice A1' N.ids.length c1') ∧ W15.cell? ⟨w.heap.size, 2, none⟩ = some (.slice A1'' N.inputs.length c1'') ∧ W15.cell? ⟨w.heap.size + 1, 0, none⟩ = some (.slice A2 D.cluster.length c2) ∧ W15.cell? ⟨w.heap.size + 1, 1, none⟩ = some (.slice A2' D.colour.length c2') := ⟨(HF15.out.boxN bx1_1 (by omega)).cell 0 (by simp), (HF15.out.boxN bx1_1 (by omega)).cell 1 (by simp), (HF15.out.boxN bx1_1 (by omega)).cell 2 (by simp), (HF15.out.boxN bx2_1 (by omega)).cell 0 (by simp), (HF15.out.boxN bx2_1 (by omega)).cell 1 (by simp)⟩
            refine hK.out _ _ ⟨fun _ => hS16, ?_⟩
            clear hK K hS14
            try simp only [List.getElem_toArray, List.getElem_cons_succ, List.getElem_cons_zero, Act.put, List.setIfInBounds_toArray, List.set_cons_zero, List.set_cons_succ]
            refine anyU_ready (rs := [7]) (by kernel_rfl) (by simp) ?_
            refine ReadyU.cons (i := 7) rfl (fun K hK => ?_) ?_
            case refine_1 =>
              simp only [List.getElem_toArray, List.getElem_cons_succ, List.getElem_cons_zero]
              refine ite_is (by rfl) ?_
              have kd0 : W15.cell? ⟨W5.heap.size, 0, none⟩ = some (.slice none 0 0) := OUT15.out.cell 0 (by simp)
              have kf0 := OUT15.out.frozen 0
              have kd1 : W15.cell? ⟨W5.heap.size, 1, none⟩ = some (.slice none 0 0) := OUT15.out.cell 1 (by simp)
              have kf1 := OUT15.out.frozen 1
              have kd2 : W15.cell? ⟨W5.heap.size, 2, none⟩ = some (.slice none 0 0) := OUT15.out.cell 2 (by simp)
              have kf2 := OUT15.out.frozen 2
              simp [go_sem, kd0, kf0, kd1, kf1, kd2, kf2]
              refine nameA ?_
              intro W17 HW17
              have hg17 : W15.grownBy W17 (some (W5.heap.size)) := by rw [HW17.out]; exact grownBy_setCell (p := ⟨W5.heap.size, 2, none⟩) (grownBy_setCell (p := ⟨W5.heap.size, 1, none⟩) (grown_set _ ⟨W5.heap.size, 0, none⟩ _) rfl _) rfl _
              have hs17 := hg17.size
              have HF17 := Lib.hid (HF15.out.grown hg17 (fun g e => .inr (by cases e; omega)))
              have Z17 := Lib.hid (IntS.far Z15.out hg17 (by omega) (fun g e => by cases e; omega)); clear Z15
              have M17 := Lib.hid (NetF.far M15.out hg17 (by omega) (fun g e => by cases e; omega)); clear M15
              have OUT17 := Lib.hid (show BoxN W17 (W5.heap.size) #[.slice A5 (partN N (clusN D.cluster k) (kpB N (clusN D.cluster k))).ends.length c5, .slice A6 (partN N (clusN D.cluster k) (kpB N (clusN D.cluster k))).ids.length c6, .slice A7 (partN N (clusN D.cluster k) (kpB N (clusN D.cluster k))).inputs.length c7] 34 by rw [HW17.out]; exact ((OUT15.out.set 0 _).set 1 _).set 2 _)
              clear HW17 kd0 kf0 kd1 kf1 kd2 kf2 OUT15
              have hS18 : W17.cell? ⟨w.heap.size, 0, none⟩ = some (.slice A1 N.ends.length c1) ∧ W17.cell? ⟨w.heap.size, 1, none⟩ = some (.slice A1' N.ids.length c1') ∧ W17.cell? ⟨w.heap.size, 2, none⟩ = some (.slice A1'' N.inputs.length c1'') ∧ W17.cell? ⟨w.heap.size + 1, 0, none⟩ = some (.slice A2 D.cluster.length c2) ∧ W17.cell? ⟨w.heap.size + 1, 1, none⟩ = some (.slice A2' D.colour.length c2') := ⟨(HF17.out.boxN bx1_1 (by omega)).cell 0 (by simp), (HF17.out.boxN bx1_1 (by omega)).cell 1 (by simp), (HF17.out.boxN bx1_1 (by omega)).cell 2 (by simp), (HF17.out.boxN bx2_1 (by omega)).cell 0 (by simp), (HF17.out.boxN bx2_1 (by omega)).cell 1 (by simp)⟩
              refine hK.out _ _ ⟨fun _ => hS18, ?_⟩
              clear hK K hS16
              try simp only [List.getElem_toArray, List.getElem_cons_succ, List.getElem_cons_zero, Act.put, List.setIfInBounds_toArray, List.set_cons_zero, List.set_cons_succ]
              clear hS18
              refine anyU_done (by kernel_rfl) ?_ _
              exact ⟨[.agg #[.slice A1 N.ends.length c1, .slice A1' N.ids.length c1', .slice A1'' N.inputs.length c1''], .pointer (some ⟨w.heap.size + 1, 0, none⟩), .slice A2 D.cluster.length c2, .int .i64 k, .slice Az (clusN D.cluster k).length cz, .agg #[.slice A5 (partN N (clusN D.cluster k) (kpB N (clusN D.cluster k))).ends.length c5, .slice A6 (partN N (clusN D.cluster k) (kpB N (clusN D.cluster k))).ids.length c6, .slice A7 (partN N (clusN D.cluster k) (kpB N (clusN D.cluster k))).inputs.length c7], .pointer (some ⟨W5.heap.size, 0, none⟩)], ⟨_, _, _, _, _, _, _, _, _, rfl, OUT17, Lib.hid (Net.mono M17.out (by omega) (by omega)), by omega, HF17⟩, rfl, by simp only [puts, Act.put, List.setIfInBounds_toArray, List.set_cons_zero, List.set_cons_succ]⟩
            exact ReadyU.nil
          exact ReadyU.nil
        exact ReadyU.nil
      refine ReadyU.cons (i := 6) rfl (fun K hK => ?_) ?_
      case refine_1 =>
        simp only [List.getElem_toArray, List.getElem_cons_succ, List.getElem_cons_zero]
        refine ite_is (by rfl) ?_
        simp [go_sem]
        refine nameA ?_
        intro W19 HW19
        have hg19 : W3.grownBy W19 none := by rw [HW19.out]; exact grown_alloc _ _
        have OUT19 := Lib.hid (show BoxN W19 W3.heap.size #[.slice none 0 0, .slice none 0 0, .slice none 0 0] 34 by rw [HW19.out]; exact BoxN.new _ _ _)
        have hz19 : W3.heap.size < W19.heap.size := OUT19.out.lt
        clear HW19
        have hs19 := hg19.size
        have HF19 := Lib.hid (HF3.out.still hg19); clear HF3
        have hS20 : W19.cell? ⟨w.heap.size, 0, none⟩ = some (.slice A1 N.ends.length c1) ∧ W19.cell? ⟨w.heap.size, 1, none⟩ = some (.slice A1' N.ids.length c1') ∧ W19.cell? ⟨w.heap.size, 2, none⟩ = some (.slice A1'' N.inputs.length c1'') ∧ W19.cell? ⟨w.heap.size + 1, 0, none⟩ = some (.slice A2 D.cluster.length c2) ∧ W19.cell? ⟨w.heap.size + 1, 1, none⟩ = some (.slice A2' D.colour.length c2') := ⟨(HF19.out.boxN bx1_1 (by omega)).cell 0 (by simp), (HF19.out.boxN bx1_1 (by omega)).cell 1 (by simp), (HF19.out.boxN bx1_1 (by omega)).cell 2 (by simp), (HF19.out.boxN bx2_1 (by omega)).cell 0 (by simp), (HF19.out.boxN bx2_1 (by omega)).cell 1 (by simp)⟩
        refine hK.out _ _ ⟨fun _ => hS20, ?_⟩
        clear hK K hS4
        try simp only [List.getElem_toArray, List.getElem_cons_succ, List.getElem_cons_zero, Act.put, List.setIfInBounds_toArray, List.set_cons_zero, List.set_cons_succ]
        refine anyU_ready (rs := [4]) (by kernel_rfl) (by simp) ?_
        refine ReadyU.cons (i := 4) rfl (fun K hK => ?_) ?_
        case refine_1 =>
          simp only [List.getElem_toArray, List.getElem_cons_succ, List.getElem_cons_zero]
          refine ite_is (by rfl) ?_
          simp [go_sem]
          refine (deNodes_any _ D.cluster lo2 hi2 k _ (IntS.turned Cl_1.out HF19.out (by omega) (by omega)) (by omega) (by rw [HCL.out]; omega)).mono ?_
          rintro e W21 ⟨rz, rfl, hrz, hb21⟩
          have hg21 := grown_below hb21; clear hb21
          have hs21 := hg21.size
          have HF21 := Lib.hid (HF19.out.still hg21); clear HF19
          have OUT21 := Lib.hid (BoxN.still OUT19.out hg21); clear OUT19
          obtain ⟨Az, cz, rfl, hcz, hdz⟩ := hrz.dims
          have Z21 := Lib.hid hrz; clear hrz
          have hS22 : W21.cell? ⟨w.heap.size, 0, none⟩ = some (.slice A1 N.ends.length c1) ∧ W21.cell? ⟨w.heap.size, 1, none⟩ = some (.slice A1' N.ids.length c1') ∧ W21.cell? ⟨w.heap.size, 2, none⟩ = some (.slice A1'' N.inputs.length c1'') ∧ W21.cell? ⟨w.heap.size + 1, 0, none⟩ = some (.slice A2 D.cluster.length c2) ∧ W21.cell? ⟨w.heap.size + 1, 1, none⟩ = some (.slice A2' D.colour.length c2') := ⟨(HF21.out.boxN bx1_1 (by omega)).cell 0 (by simp), (HF21.out.boxN bx1_1 (by omega)).cell 1 (by simp), (HF21.out.boxN bx1_1 (by omega)).cell 2 (by simp), (HF21.out.boxN bx2_1 (by omega)).cell 0 (by simp), (HF21.out.boxN bx2_1 (by omega)).cell 1 (by simp)⟩
          refine hK.out _ _ ⟨fun _ => hS22, ?_⟩
          clear hK K hS20
          try simp only [List.getElem_toArray, List.getElem_cons_succ, List.getElem_cons_zero, Act.put, List.setIfInBounds_toArray, List.set_cons_zero, List.set_cons_succ]
          refine anyU_ready (rs := [5]) (by kernel_rfl) (by simp) ?_
          refine ReadyU.cons (i := 5) rfl (fun K hK => ?_) ?_
          case refine_1 =>
            simp only [List.getElem_toArray, List.getElem_cons_succ, List.getElem_cons_zero]
            refine ite_is (by rfl) ?_
            simp [go_sem]
            refine (neKeep_any _ N lo1 hi1 _ (clusN D.cluster k) _ _ _ (Net.turned N_1.out HF21.out (by omega) (by omega)) (by omega) Z21.out (by omega) HG.out HPK.out (by have := HCN.out; omega)).mono ?_
            rintro e W23 ⟨rp, rfl, hrp, hb23⟩
            have hg23 := grown_below hb23; clear hb23
            have hs23 := hg23.size
            have HF23 := Lib.hid (HF21.out.still hg23); clear HF21
            have OUT23 := Lib.hid (BoxN.still OUT21.out hg23); clear OUT21
            have Z23 := Lib.hid (IntS.still Z21.out hg23 (by omega)); clear Z21
            obtain ⟨A5, c5, A6, c6, A7, c7, rfl, hc5, hd5, _⟩ := hrp.parts
            have M23 := Lib.hid (show Net W23 _ _ _ (ownN N D.cluster k) from hrp); clear hrp
            have hS24 : W23.cell? ⟨w.heap.size, 0, none⟩ = some (.slice A1 N.ends.length c1) ∧ W23.cell? ⟨w.heap.size, 1, none⟩ = some (.slice A1' N.ids.length c1') ∧ W23.cell? ⟨w.heap.size, 2, none⟩ = some (.slice A1'' N.inputs.length c1'') ∧ W23.cell? ⟨w.heap.size + 1, 0, none⟩ = some (.slice A2 D.cluster.length c2) ∧ W23.cell? ⟨w.heap.size + 1, 1, none⟩ = some (.slice A2' D.colour.length c2') := ⟨(HF23.out.boxN bx1_1 (by omega)).cell 0 (by simp), (HF23.out.boxN bx1_1 (by omega)).cell 1 (by simp), (HF23.out.boxN bx1_1 (by omega)).cell 2 (by simp), (HF23.out.boxN bx2_1 (by omega)).cell 0 (by simp), (HF23.out.boxN bx2_1 (by omega)).cell 1 (by simp)⟩
            refine hK.out _ _ ⟨fun _ => hS24, ?_⟩
            clear hK K hS22
            try simp only [List.getElem_toArray, List.getElem_cons_succ, List.getElem_cons_zero, Act.put, List.setIfInBounds_toArray, List.set_cons_zero, List.set_cons_succ]
            refine anyU_ready (rs := [7]) (by kernel_rfl) (by simp) ?_
            refine ReadyU.cons (i := 7) rfl (fun K hK => ?_) ?_
            case refine_1 =>
              simp only [List.getElem_toArray, List.getElem_cons_succ, List.getElem_cons_zero]
              refine ite_is (by rfl) ?_
              have kd0 : W23.cell? ⟨W3.heap.size, 0, none⟩ = some (.slice none 0 0) := OUT23.out.cell 0 (by simp)
              have kf0 := OUT23.out.frozen 0
              have kd1 : W23.cell? ⟨W3.heap.size, 1, none⟩ = some (.slice none 0 0) := OUT23.out.cell 1 (by simp)
              have kf1 := OUT23.out.frozen 1
              have kd2 : W23.cell? ⟨W3.heap.size, 2, none⟩ = some (.slice none 0 0) := OUT23.out.cell 2 (by simp)
              have kf2 := OUT23.out.frozen 2
              simp [go_sem, kd0, kf0, kd1, kf1, kd2, kf2]
              refine nameA ?_
              intro W25 HW25
              have hg25 : W23.grownBy W25 (some (W3.heap.size)) := by rw [HW25.out]; exact grownBy_setCell (p := ⟨W3.heap.size, 2, none⟩) (grownBy_setCell (p := ⟨W3.heap.size, 1, none⟩) (grown_set _ ⟨W3.heap.size, 0, none⟩ _) rfl _) rfl _
              have hs25 := hg25.size
              have HF25 := Lib.hid (HF23.out.grown hg25 (fun g e => .inr (by cases e; omega)))
              have Z25 := Lib.hid (IntS.far Z23.out hg25 (by omega) (fun g e => by cases e; omega)); clear Z23
              have M25 := Lib.hid (NetF.far M23.out hg25 (by omega) (fun g e => by cases e; omega)); clear M23
              have OUT25 := Lib.hid (show BoxN W25 (W3.heap.size) #[.slice A5 (partN N (clusN D.cluster k) (kpB N (clusN D.cluster k))).ends.length c5, .slice A6 (partN N (clusN D.cluster k) (kpB N (clusN D.cluster k))).ids.length c6, .slice A7 (partN N (clusN D.cluster k) (kpB N (clusN D.cluster k))).inputs.length c7] 34 by rw [HW25.out]; exact ((OUT23.out.set 0 _).set 1 _).set 2 _)
              clear HW25 kd0 kf0 kd1 kf1 kd2 kf2 OUT23
              have hS26 : W25.cell? ⟨w.heap.size, 0, none⟩ = some (.slice A1 N.ends.length c1) ∧ W25.cell? ⟨w.heap.size, 1, none⟩ = some (.slice A1' N.ids.length c1') ∧ W25.cell? ⟨w.heap.size, 2, none⟩ = some (.slice A1'' N.inputs.length c1'') ∧ W25.cell? ⟨w.heap.size + 1, 0, none⟩ = some (.slice A2 D.cluster.length c2) ∧ W25.cell? ⟨w.heap.size + 1, 1, none⟩ = some (.slice A2' D.colour.length c2') := ⟨(HF25.out.boxN bx1_1 (by omega)).cell 0 (by simp), (HF25.out.boxN bx1_1 (by omega)).cell 1 (by simp), (HF25.out.boxN bx1_1 (by omega)).cell 2 (by simp), (HF25.out.boxN bx2_1 (by omega)).cell 0 (by simp), (HF25.out.boxN bx2_1 (by omega)).cell 1 (by simp)⟩
              refine hK.out _ _ ⟨fun _ => hS26, ?_⟩
              clear hK K hS24
              try simp only [List.getElem_toArray, List.getElem_cons_succ, List.getElem_cons_zero, Act.put, List.setIfInBounds_toArray, List.set_cons_zero, List.set_cons_succ]
              clear hS26
              refine anyU_done (by kernel_rfl) ?_ _
              exact ⟨[.agg #[.slice A1 N.ends.length c1, .slice A1' N.ids.length c1', .slice A1'' N.inputs.length c1''], .pointer (some ⟨w.heap.size + 1, 0, none⟩), .slice A2 D.cluster.length c2, .int .i64 k, .slice Az (clusN D.cluster k).length cz, .agg #[.slice A5 (partN N (clusN D.cluster k) (kpB N (clusN D.cluster k))).ends.length c5, .slice A6 (partN N (clusN D.cluster k) (kpB N (clusN D.cluster k))).ids.length c6, .slice A7 (partN N (clusN D.cluster k) (kpB N (clusN D.cluster k))).inputs.length c7], .pointer (some ⟨W3.heap.size, 0, none⟩)], ⟨_, _, _, _, _, _, _, _, _, rfl, OUT25, Lib.hid (Net.mono M25.out (by omega) (by omega)), by omega, HF25⟩, rfl, by simp only [puts, Act.put, List.setIfInBounds_toArray, List.set_cons_zero, List.set_cons_succ]⟩
            exact ReadyU.nil
          exact ReadyU.nil
        exact ReadyU.nil
      exact ReadyU.nil
    case refine_2 =>
      rintro vs W27 ⟨gO, Az, A5, A6, A7, cz, c5, c6, c7, rfl, HB, HM, hgO, HF27⟩
      simp only [puts, Act.put, List.setIfInBounds_toArray, List.set_cons_zero, List.set_cons_succ]
      have hs27 := HF27.out.size
      have hgl := HB.out.lt
      obtain ⟨b, HCB⟩ : ∃ b, Hid (connB (ownN N D.cluster k) = b) := ⟨_, Lib.hid rfl⟩
      obtain ⟨d, HDD⟩ : ∃ d, Hid (diaN (ownN N D.cluster k) = d) := ⟨_, Lib.hid rfl⟩
      rw [HDD.out] at HDW
      rw [← HDW.out] at HTK
      obtain ⟨Q, HQ⟩ : ∃ Q, Hid ((ownN N D.cluster k) = Q) := ⟨_, Lib.hid rfl⟩
      have HCQ := Lib.hid (show connB Q = b by rw [← HQ.out]; exact HCB.out)
      have HDQ := Lib.hid (show diaN Q = d by rw [← HQ.out]; exact HDD.out)
      rw [HQ.out] at HB HM HQG ⊢
      have kO0 : W27.cell? ⟨gO, 0, none⟩ = some (.slice A5 Q.ends.length c5) := HB.out.cell 0 (by simp)
      have kO1 : W27.cell? ⟨gO, 1, none⟩ = some (.slice A6 Q.ids.length c6) := HB.out.cell 1 (by simp)
      have kO2 : W27.cell? ⟨gO, 2, none⟩ = some (.slice A7 Q.inputs.length c7) := HB.out.cell 2 (by simp)
      go_wp2_with fail
      clear kO0 kO1 kO2
      refine (meConnected_any _ Q _ _ _ HM.out (by omega) HQG.out).mono ?_
      rintro e W28 ⟨rfl, hb28⟩
      have hg28 := grown_below hb28; clear hb28
      have hs28 := hg28.size
      have HF28 := Lib.hid (HF27.out.still hg28); clear HF27
      have OUT28 := Lib.hid (BoxN.still HB.out hg28); clear HB
      have M28 := Lib.hid (NetF.still HM.out hg28 (by omega)); clear HM
      rw [HCQ.out]
      cases b
      case false =>
        have HSB := Lib.hid (show strongB N D.cluster = false by
          cases e : strongB N D.cluster with
          | false => rfl
          | true => have := HST.out.1 e k HKM.out; rw [HCB.out] at this; cases this)
        go_wp2_with fail
        go_ret2
        have e1 : strongOk N D = false := by rw [HOK.out, HSB.out]
        exact ⟨by rw [strongV_no e1, e1]; rfl, (HF28.out.below_of hbA1 (by omega) (by omega))⟩
      case true =>
        have kO0 : W28.cell? ⟨gO, 0, none⟩ = some (.slice A5 Q.ends.length c5) := OUT28.out.cell 0 (by simp)
        have kO1 : W28.cell? ⟨gO, 1, none⟩ = some (.slice A6 Q.ids.length c6) := OUT28.out.cell 1 (by simp)
        have kO2 : W28.cell? ⟨gO, 2, none⟩ = some (.slice A7 Q.inputs.length c7) := OUT28.out.cell 2 (by simp)
        go_wp2_with fail
        clear kO0 kO1 kO2
        refine (meDiameter_any _ Q _ _ _ M28.out (by omega) HQG.out).mono ?_
        rintro e W29 ⟨rfl, hb29⟩
        have hg29 := grown_below hb29; clear hb29
        have hs29 := hg29.size
        have HF29 := Lib.hid (HF28.out.still hg29); clear HF28
        have OUT29 := Lib.hid (BoxN.still OUT28.out hg29); clear OUT28
        have M29 := Lib.hid (NetF.still M28.out hg29 (by omega)); clear M28
        rw [HDQ.out]
        go_wp2_with fail
        refine (l1Most_any _ _ _).mono ?_
        rintro e w' ⟨rfl, rfl⟩
        go_wp2_with fail
        go_roundw
        case rel => exact ⟨k + 1, _, by omega, by go_num, rfl, Lib.hid HTK.out.symm, Lib.hid (fun j hj => if e : j = k then by rw [e]; exact HCB.out else HU.out j (by omega)), HF29⟩
        case measure => simp [intOf]; omega

end Go.Proofs.Ytcmmklcampmkjaa
