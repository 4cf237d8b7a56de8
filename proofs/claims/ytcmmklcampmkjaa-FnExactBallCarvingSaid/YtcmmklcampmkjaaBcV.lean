/-
  Several texts in one: Car5, Car6. No condition on any program.
-/
import Derived.Test.YtcmmklcampmkjaaBcT
import Derived.Test.YtcmmklcampmkjaaBcU

/- Contracts: deCarve, BallCarving (reference). -/
namespace Go.Proofs.Ytcmmklcampmkjaa
open Go.ChangeShapes Go.WideShapes Go.ChangeAt Go.RowKit
set_option linter.unusedVariables false

theorem turnedC_none {l : Nat} {w w' : World} (h : Turned l l w w') : w.grownBy w' none := ⟨h.os, h.tape, h.output, h.size, fun k hk _ => h.block k hk (by omega)⟩
theorem results_cellR {fn : Func} {t : Tmp} {ty : TypeId} (h : fn.results = #[.cell t ty]) (tmps : Array Value) (P : Program) (w : World) {p : Addr} {v : Value} (ha : tmps.getD t undef = .pointer (some p)) (hl : (loadVar ty p).run P w = .ok v w) :
    (results fn tmps).run P w = .ok v w := by
  have ha' : tmps[t]?.getD undef = .pointer (some p) := by simpa using ha
  simp [results, h, ha', asAddr, hl]

set_option maxHeartbeats 16000000 in
set_option maxRecDepth 100000 in
theorem deCarve_any (v1 : Value) (N : NetD) (lo1 hi1 : Nat) (v2 : Value) (ord : List Int) (lo2 hi2 : Nat) (w : World) (h1 : Net w lo1 hi1 v1 N) (hh1 : hi1 ≤ w.heap.size) (h2 : IntS w lo2 hi2 v2 ord) (hh2 : hi2 ≤ w.heap.size) (hg : N.good = true) (hp : permB ord N.ends.length = true) :
    Calls Try.prog 39 #[v1, v2] w fun e w' => ∃ r, e = .returned r ∧ DecX w' w.heap.size w'.heap.size r ⟨(carN N ord).1, (carN N ord).2⟩ ∧ Below w.heap.size w w' := by
  obtain ⟨n1, n40⟩ := good_n hg
  have HG := Lib.hid hg; clear hg
  have HPM := Lib.hid hp; clear hp
  have HON := Lib.hid (car_node HPM.out)
  have hol : ord.length ≤ 40 := by rw [permB_len HPM.out]; exact n40
  have HIN := Lib.hid (carP_in HG.out HON.out)
  have HLS := Lib.hid (carP_less HG.out HON.out (fun t ht => perm_all HPM.out ht))
  have hmk := fun W => run_make_row' (P := Try.prog) 23 3 (.int .i64 0) 8 Try.underlying23 Try.info3 rfl .i64 .i64 N.ends.length (by omega) (by omega) W
  have F1 := Lib.hid h1
  obtain ⟨A1, c1, A1', c1', A1'', c1'', rfl, hc1, hd1, _⟩ := h1.parts
  clear h1
  have F2 := Lib.hid h2
  obtain ⟨A2, c2, rfl, hc2, hd2⟩ := h2.dims
  clear h2
  obtain ⟨WA, HWA⟩ : ∃ W, Hid (W = ((w.alloc (.cells #[.slice A1 N.ends.length c1, .slice A1' N.ids.length c1', .slice A1'' N.inputs.length c1''] 34)).alloc (.cells #[.slice none 0 0, .slice none 0 0] 36))) := ⟨_, Lib.hid rfl⟩
  have hbA : Below w.heap.size w WA := by rw [HWA.out]; exact (((Below.refl _ _).alloc (Nat.le_refl _) _).alloc (by simp; try omega) _)
  have hsA : w.heap.size + 2 ≤ WA.heap.size := by rw [HWA.out]; simp; try omega
  have bx1 : BoxN WA (w.heap.size) #[.slice A1 N.ends.length c1, .slice A1' N.ids.length c1', .slice A1'' N.inputs.length c1''] 34 := by rw [HWA.out]; exact ((BoxN.new' _ _ _ (by simp)).still (grown_alloc _ _))
  have bxx0 : BoxN WA (w.heap.size + 1) #[.slice none 0 0, .slice none 0 0] 36 := by rw [HWA.out]; exact (BoxN.new' _ _ _ (by simp))
  have G1 := Lib.hid (Net.below F1.out hbA hh1); clear F1
  have G2 := Lib.hid (IntS.below F2.out hbA hh2); clear F2
  go_enter Try.func39, Try.ntmps39
  go_upto_region 1 with (fail)
  rw [← HWA.out]; clear HWA
  have kbx1_0 : WA.cell? ⟨w.heap.size, 0, none⟩ = some (.slice A1 N.ends.length c1) := bx1.cell 0 (by simp)
  have kbx1_1 : WA.cell? ⟨w.heap.size, 1, none⟩ = some (.slice A1' N.ids.length c1') := bx1.cell 1 (by simp)
  have kbx1_2 : WA.cell? ⟨w.heap.size, 2, none⟩ = some (.slice A1'' N.inputs.length c1'') := bx1.cell 2 (by simp)
  go_upto_region 3 with (fail)
  clear hmk kbx1_0 kbx1_1 kbx1_2
  refine nameC ?_
  intro W1 HW1
  have hg1 : WA.grownBy W1 none := by rw [HW1.out]; exact grownBy_trans (grown_alloc _ _) (by first | exact (grownC_set2 _ _ _ _ _ _) | exact (grown_alloc _ _))
  have hs1 := hg1.size
  have HF1 := Lib.hid ((Turned.refl WA.heap.size WA.heap.size WA).still hg1)
  have HZ := Lib.hid (show IntS W1 (WA.heap.size) (WA.heap.size + 1) (.slice (some ⟨WA.heap.size, 0, none⟩) N.ends.length N.ends.length) (List.replicate N.ends.length 0) by rw [HW1.out]; exact IntS.still (made_ints _ _ _ rfl (by omega)) (by first | exact grownC_set2 _ _ _ _ _ _ | exact grown_alloc _ _) (by simp))
  have HD := Lib.hid (show BoxN W1 (WA.heap.size + 1) #[.slice (some ⟨WA.heap.size, 0, none⟩) N.ends.length N.ends.length, .slice none 0 0] 36 by rw [HW1.out]; first | exact ((BoxN.new' _ _ _ (by simp)).set 0 _).set 1 _ | exact BoxN.new' _ _ _ (by simp))
  have hzD : WA.heap.size + 1 + 1 ≤ W1.heap.size := by have := HD.out.lt; omega
  clear HW1
  have N_1 := Lib.hid (Net.turned G1.out HF1.out (by omega) (by omega)); clear G1
  have ord_1 := Lib.hid (IntS.turned G2.out HF1.out (by omega) (by omega)); clear G2
  have bx1_1 := HF1.out.boxN bx1 (by omega); clear bx1
  have bxx0_1 := HF1.out.boxN bxx0 (by omega); clear bxx0
  have hbA1 : Below w.heap.size w W1 := (HF1.out.below_of hbA (by omega) (by omega)); clear hbA HF1
  have kd0 : W1.cell? ⟨WA.heap.size + 1, 0, none⟩ = some (.slice (some ⟨WA.heap.size, 0, none⟩) N.ends.length N.ends.length) := HD.out.cell 0 (by simp)
  go_wp2_with fail
  clear kd0
  go_loopw [24, 6] (fun jv lv wr => ∃ (j : Nat), j ≤ N.ends.length ∧ jv = .int .i64 j ∧ Hid (OwnI wr W1.heap.size 3 lv (upTo j)) ∧ Hid (IntS wr (WA.heap.size) (WA.heap.size + 1) (.slice (some ⟨WA.heap.size, 0, none⟩) N.ends.length N.ends.length) (List.replicate N.ends.length 0)) ∧ Hid (BoxN wr (WA.heap.size + 1) #[.slice (some ⟨WA.heap.size, 0, none⟩) N.ends.length N.ends.length, .slice none 0 0] 36) ∧ Hid (Turned WA.heap.size W1.heap.size W1 wr)) (fun jv lv _ => N.ends.length - (intOf jv).toNat)
  case atStart => exact ⟨0, Nat.zero_le _, rfl, Lib.hid (OwnI.nil _ _ _), HZ, HD, Lib.hid (Turned.refl WA.heap.size W1.heap.size W1)⟩
  case round =>
    obtain ⟨j, hj, rfl, HL, HZ, HD, HF2⟩ := hrel
    have hs2 := HF2.out.size
    by_cases hjn : j < N.ends.length
    case pos =>
      have hji : (j : Int) < N.ends.length := by omega
      have HLT := Lib.hid HL.out.lt
      have hul : (upTo j).length < 1099511627776 := by rw [upTo_length]; omega
      have HUS := Lib.hid (show upTo (j + 1) = upTo j ++ [(j : Int)] by simp [upTo, List.range_succ])
      obtain ⟨U, HU⟩ : ∃ U, Hid (upTo j = U) := ⟨_, Lib.hid rfl⟩
      rw [HU.out] at HL hul HUS
      go_wp2_with (at_builtin; refine append_int (s := .tmp 27) Try.underlying23 Try.info3 (by decide) wr rfl _ rfl HL.out j _ rfl (by simp [Act.eval, go_sem]) (by omega) (by omega) ?_; intro v' w' ho' hg' hat')
      go_roundw
      case rel => exact ⟨j + 1, by omega, by go_num, Lib.hid (by rw [HUS.out]; exact ho'), Lib.hid (IntS.far HZ.out hg' (by omega) (fun g e => .inr (by have := (HLT.out g e).1; omega))), Lib.hid (BoxN.far HD.out hg' (fun g e => by have := (HLT.out g e).1; omega)), Lib.hid (HF2.out.grown hg' fun g e => .inr (HLT.out g e).1)⟩
      case measure => simp [intOf]; omega
    obtain rfl : j = N.ends.length := by omega
    have HLI := Lib.hid HL.out.ints
    clear HL
    rw [← openL_start] at HLI
    rw [← baseC_start] at HZ
    go_wp2_with fail
    go_loopw [6, 8] (fun lv kv wr => ∃ (k lL hL : Nat) (vc : Value) (cl co : List Int), k ≤ N.ends.length ∧ kv = .int .i64 k ∧ Hid (carP N ord k = (cl, co)) ∧ Hid (k + bareC cl N.ends.length ≤ N.ends.length) ∧ Hid (IntS wr (WA.heap.size) (WA.heap.size + 1) (.slice (some ⟨WA.heap.size, 0, none⟩) N.ends.length N.ends.length) (baseC cl N.ends.length)) ∧ Hid (BoxN wr (WA.heap.size + 1) #[.slice (some ⟨WA.heap.size, 0, none⟩) N.ends.length N.ends.length, vc] 36) ∧ Hid (OwnI wr W1.heap.size 3 vc co) ∧ Hid (IntS wr lL hL lv (openL cl N.ends.length)) ∧ W1.heap.size ≤ lL ∧ hL ≤ wr.heap.size ∧ Hid (∀ g, vc.ownBlock = some g → g < lL ∨ hL ≤ g) ∧ Hid (Turned WA.heap.size W1.heap.size W1 wr)) (fun lv kv _ => N.ends.length - (intOf kv).toNat)
    case atStart => exact ⟨0, _, _, .slice none 0 0, _, [], Nat.zero_le _, rfl, Lib.hid rfl, Lib.hid (by have := (CarIn.start N).room; dsimp only at this; simpa using this), HZ, HD, Lib.hid (OwnI.nil _ _ _), HLI, Nat.le_refl _, Nat.le_refl _, Lib.hid (fun g e => by cases e), HF2⟩
    case round =>
      clear HF2
      obtain ⟨k, lL, hL, vc, cl, co, hk, rfl, HP, HK, HZ, HD, HO, HL, hL1, hL2, HNL, HF3⟩ := hrel
      have hs3 := HF3.out.size
      obtain ⟨wq, rfl⟩ : ∃ wq : World, wq = wr := ⟨_, rfl⟩
      have hin := HIN.out k
      rw [HP.out] at hin
      dsimp only at hin
      have HCI := Lib.hid hin; clear hin
      have hol2 := openL_len cl N.ends.length
      have hbl := bareC_le cl N.ends.length
      have hcol : co.length ≤ 40 := by have := HCI.out.room; dsimp only at this; omega
      obtain ⟨OL, HOL⟩ : ∃ OL, Hid (openL cl N.ends.length = OL) := ⟨_, Lib.hid rfl⟩
      have HOE := Lib.hid (show OL.length = bareC cl N.ends.length by rw [← HOL.out]; exact hol2)
      rw [HOL.out] at HL
      clear hol2
      obtain ⟨AL, cL, rfl, hcL, hdL⟩ := HL.out.dims
      by_cases hb0 : 0 < OL.length
      case neg =>
        have kbxx0_0 : wq.cell? ⟨w.heap.size + 1, 0, none⟩ = some (.slice none 0 0) := (HF3.out.boxN bxx0_1 (by omega)).cell 0 (by simp)
        have kbxx0_1 : wq.cell? ⟨w.heap.size + 1, 1, none⟩ = some (.slice none 0 0) := (HF3.out.boxN bxx0_1 (by omega)).cell 1 (by simp)
        have hb1 : ¬ (0 : Int) < OL.length := by omega
        have HB0 := Lib.hid (show bareC cl N.ends.length = 0 by have := HOE.out; omega)
        have HEND := Lib.hid (carN_is (N := N) (ord := ord) HON.out hk (by rw [HP.out]; exact HB0.out))
        rw [HP.out] at HEND
        rw [baseC_end HCI.out.lcl HB0.out] at HZ
        obtain ⟨Av, cv, rfl, hcv, hdv⟩ := HO.out.ints.dims
        have kd0 : wq.cell? ⟨WA.heap.size + 1, 0, none⟩ = some (.slice (some ⟨WA.heap.size, 0, none⟩) N.ends.length N.ends.length) := HD.out.cell 0 (by simp)
        have kd1 : wq.cell? ⟨WA.heap.size + 1, 1, none⟩ = some (.slice Av co.length cv) := HD.out.cell 1 (by simp)
        have krf := (HF3.out.boxN bxx0_1 (by omega)).frozen 0
        have krf1 := (HF3.out.boxN bxx0_1 (by omega)).frozen 1
        have hbE := (HF3.out.below_of hbA1 (by omega) (by omega))
        go_wp2_with fail
        ((try simp only [Exit.inBlock, Exit.then]); refine bodyPost_ret (results_cellR rfl _ _ _ rfl (load_decC (((HF3.out.boxN bxx0_1 (by omega)).set 0 (.slice (some ⟨WA.heap.size, 0, none⟩) N.ends.length N.ends.length)).set 1 (.slice Av co.length cv)))) rfl ?_)
        refine ⟨_, rfl, ?_, (hbE.setCell (p := ⟨w.heap.size + 1, 0, none⟩) (by simp) _).setCell (p := ⟨w.heap.size + 1, 1, none⟩) (by simp) _⟩
        rw [← HEND.out]
        refine DecX.mkC (m := W1.heap.size) (by omega) (by simp; omega) ?_ ?_
        · exact (IntS.far HZ.out (grownBy_trans (grown_set _ ⟨w.heap.size + 1, 0, none⟩ _) (grown_set _ ⟨w.heap.size + 1, 1, none⟩ _)) (by omega) (fun g e => by injection e with e; have e : w.heap.size + 1 = g := e; omega)).mono (by omega) (by omega)
        · exact (IntS.far HO.out.ints (grownBy_trans (grown_set _ ⟨w.heap.size + 1, 0, none⟩ _) (grown_set _ ⟨w.heap.size + 1, 1, none⟩ _)) (by omega) (fun g e => by injection e with e; have e : w.heap.size + 1 = g := e; omega)).mono (by omega) (by simp)
      have hb1 : (0 : Int) < OL.length := by omega
      have hkn : k + 1 ≤ N.ends.length := by have := HOE.out; have := HK.out; omega
      have HL9 := Lib.hid (HLS.out k (by rw [HP.out]; show 0 < bareC cl N.ends.length; have := HOE.out; omega))
      rw [HP.out] at HL9
      have HAO := Lib.hid (act_open cl N.ends.length)
      rw [HOL.out] at HAO
      have HL2 := Lib.hid HL.out
      go_wp2_with fail
      go_loopw [6, 9, 40] (fun lv av qv wr => ∃ (q lL hL lA hA : Nat) (s : CarD) (va : Value), q ≤ ord.length ∧ qv = .int .i64 q ∧ Hid (carF N ord k cl co q = s) ∧ Hid (IntS wr (WA.heap.size) (WA.heap.size + 1) (.slice (some ⟨WA.heap.size, 0, none⟩) N.ends.length N.ends.length) (baseC s.cl N.ends.length)) ∧ Hid (BoxN wr (WA.heap.size + 1) #[.slice (some ⟨WA.heap.size, 0, none⟩) N.ends.length N.ends.length, va] 36) ∧ Hid (OwnI wr W1.heap.size 3 va s.co) ∧ Hid (IntS wr lL hL lv (openL s.cl N.ends.length)) ∧ W1.heap.size ≤ lL ∧ hL ≤ wr.heap.size ∧ Hid (∀ g, va.ownBlock = some g → g < lL ∨ hL ≤ g) ∧ Hid (IntS wr lA hA av (actL s.ac N.ends.length)) ∧ W1.heap.size ≤ lA ∧ hA ≤ wr.heap.size ∧ Hid (∀ g, va.ownBlock = some g → g < lA ∨ hA ≤ g) ∧ Hid (Turned WA.heap.size W1.heap.size W1 wr)) (fun lv av qv _ => ord.length - (intOf qv).toNat)
      case atStart => exact ⟨0, lL, hL, lL, hL, _, vc, Nat.zero_le _, rfl, Lib.hid rfl, HZ, HD, HO, Lib.hid (by show IntS _ _ _ _ (openL cl N.ends.length); rw [HOL.out]; exact HL.out), hL1, hL2, HNL, Lib.hid (by show IntS _ _ _ _ (actL (opens cl N.ends.length) N.ends.length); rw [HAO.out]; exact HL.out), hL1, hL2, HNL, HF3⟩
      case round =>
        clear HF3
        obtain ⟨q, lL, hL, lA, hA, s, va, hq, rfl, HS, HZ, HD, HO, HL, hL1, hL2, HNL, HA, hA1, hA2, HNA, HF4⟩ := hrel
        have hs4 := HF4.out.size
        obtain ⟨wx, rfl⟩ : ∃ wx : World, wx = wr := ⟨_, rfl⟩
        by_cases hqn : q < ord.length
        case neg =>
          obtain rfl : q = ord.length := by omega
          have HPN := Lib.hid (show carP N ord (k + 1) = (s.cl, s.co) by
            show ((carF N ord k (carP N ord k).1 (carP N ord k).2 ord.length).cl, (carF N ord k (carP N ord k).1 (carP N ord k).2 ord.length).co) = _
            rw [HP.out, HS.out])
          rw [HPN.out] at HL9
          go_wp2_with fail
          go_roundw
          case rel => exact ⟨k + 1, lL, hL, va, s.cl, s.co, hkn, by go_num, HPN, Lib.hid (by have h1 := HK.out; have h2 := HL9.out; dsimp only at h2; omega), HZ, HD, HO, HL, hL1, hL2, HNL, HF4⟩
          case measure => simp [intOf]; omega
        have hqi : (q : Int) < ord.length := by omega
        obtain ⟨c, ec, hc⟩ := HON.out q hqn
        have hsk := (HCI.out.fold HG.out HON.out (ph := k) q (by omega)).1
        rw [HS.out] at hsk
        have HSK := Lib.hid hsk; clear hsk
        have HSN := Lib.hid (carF_succ (N := N) (ord := ord) k cl co hqn)
        rw [HS.out, ec] at HSN
        have hscl : s.co.length ≤ 40 := by have := HSK.out.room; omega
        have hall := actL_len s.ac N.ends.length
        have HMA := Lib.hid (show decide ((c : Int) ∈ actL s.ac N.ends.length) = nthB s.ac c by
          rw [Bool.eq_iff_iff, decide_eq_true_eq, mem_actL]
          exact ⟨fun ⟨v, _, h, e⟩ => by rw [show c = v by omega]; exact h, fun h => ⟨c, hc, h, rfl⟩⟩)
        obtain ⟨Z, HZE⟩ : ∃ Z, Hid (actL s.ac N.ends.length = Z) := ⟨_, Lib.hid rfl⟩
        rw [HZE.out] at HA HMA hall
        obtain ⟨AA, cA, rfl, hcA, hdA⟩ := HA.out.dims
        obtain ⟨bo, oo, rfl, _, hbo', xo, _⟩ := (IntS.turned ord_1.out HF4.out (by omega) (by omega)).opened hqn
        rw [ec] at xo
        clear ec
        have hci : (c : Int) < N.ends.length := by omega
        go_wp2_with fail
        refine (l1Has_any _ Z c _ _ _ HA.out).mono ?_
        rintro e w' ⟨rfl, rfl⟩
        rw [HMA.out]
        cases hac : nthB s.ac c with
        | false =>
          have HSS := Lib.hid (show carF N ord k cl co (q + 1) = s by rw [HSN.out]; exact carC_no (by rw [Int.toNat_natCast]; exact hac))
          go_wp2_with fail
          go_roundw
          case rel => exact ⟨q + 1, lL, hL, lA, hA, s, va, by omega, by go_num, HSS, HZ, HD, HO, HL, hL1, hL2, HNL, Lib.hid (by rw [HZE.out]; exact HA.out), hA1, hA2, HNA, HF4⟩
          case measure => simp [intOf]; omega
        | true =>
          have HAC := Lib.hid hac; clear hac
          have HFA := HF4
          have hmx := mxD_atC (ac := s.ac) HG.out hc
          have hmx2 := hmx.1
          have HM2 := Lib.hid hmx2
          clear hmx hmx2
          have HCE := Lib.hid (show carC N k s (c : Int) = ⟨(List.range N.ends.length).map fun v => if inB (nth (dA N s.ac c) v) 0 (radD (dA N s.ac c) N.ends.length : Nat) then (s.co.length : Int) else nth s.cl v, (List.range N.ends.length).map fun v => nthB s.ac v && !inB (nth (dA N s.ac c) v) 0 ((radD (dA N s.ac c) N.ends.length + 1 : Nat) : Int), s.co ++ [(k : Int)]⟩ by unfold carC; rw [Int.toNat_natCast, if_pos HAC.out])
          have HDB := Lib.hid (fun (w : World) (v1 v2 : Value) (l1 h1 l2 h2 : Nat) (r : Int) (a1 : Net w l1 h1 v1 N) (a2 : h1 ≤ w.heap.size) (a3 : IntS w l2 h2 v2 Z) (a4 : h2 ≤ w.heap.size) => deBall_any v1 N l1 h1 v2 Z l2 h2 c r w a1 a2 a3 a4 s.ac HG.out hc HAC.out HZE.out.symm)
          generalize dA N s.ac c = D at *
          have N_4 := Lib.hid (Net.turned N_1.out HF4.out (by omega) (by omega)); clear N_1
          have ord_4 := Lib.hid (IntS.turned ord_1.out HF4.out (by omega) (by omega)); clear ord_1
          have bx1_4 := HF4.out.boxN bx1_1 (by omega); clear bx1_1
          have bxx0_4 := HF4.out.boxN bxx0_1 (by omega); clear bxx0_1
          have hbA4 : Below w.heap.size w wx := (HF4.out.below_of hbA1 (by omega) (by omega)); clear hbA1 HF4
          go_wp2_with fail
          go_loopw [12] (fun rv wr => ∃ (r : Nat), r ≤ 40 ∧ rv = .int .i64 r ∧ Hid (∀ s', s' < r → stopB D N.ends.length s' = false) ∧ Hid (Turned wx.heap.size wx.heap.size wx wr)) (fun rv _ => 41 - (intOf rv).toNat)
          case atStart => exact ⟨0, by omega, rfl, Lib.hid (fun s' hs => absurd hs (by omega)), Lib.hid (Turned.refl wx.heap.size wx.heap.size wx)⟩
          case round =>
            obtain ⟨r, hr, rfl, HST, HF5⟩ := hrel
            have hs5 := HF5.out.size
            obtain ⟨wd, rfl⟩ : ∃ wd : World, wd = wr := ⟨_, rfl⟩
            have HSTR := Lib.hid (show stopB D N.ends.length r = decide ((ballL D ((r : Int) + 1) N.ends.length).length ≤ 2 * (ballL D (r : Int) N.ends.length).length) from rfl)
            have hq1 := ballL_len D ((r : Int) + 1) N.ends.length
            have hq0 := ballL_len D (r : Int) N.ends.length
            obtain ⟨B1, HB1⟩ : ∃ B1, Hid (ballL D ((r : Int) + 1) N.ends.length = B1) := ⟨_, Lib.hid rfl⟩
            obtain ⟨B0, HB0⟩ : ∃ B0, Hid (ballL D (r : Int) N.ends.length = B0) := ⟨_, Lib.hid rfl⟩
            rw [HB1.out, HB0.out] at HSTR
            rw [HB1.out] at hq1
            rw [HB0.out] at hq0
            go_wp2_with fail
            refine region_cut [48, 49, 50, 51, 52, 53, 54, 55, 56, 57, 58, 59, 60, 61, 62] (fun vs W => ∃ (Ab1 Ab0 : Option Addr) (cb1 cb0 : Nat), vs = [.agg #[.slice A1 N.ends.length c1, .slice A1' N.ids.length c1', .slice A1'' N.inputs.length c1''], .slice AA Z.length cA, .int .i64 c, .int .i64 r, .int .i64 ((r : Int) + 1), .slice Ab1 B1.length cb1, .int .i64 B1.length, .agg #[.slice A1 N.ends.length c1, .slice A1' N.ids.length c1', .slice A1'' N.inputs.length c1''], .slice AA Z.length cA, .int .i64 c, .int .i64 r, .slice Ab0 B0.length cb0, .int .i64 B0.length, .int .i64 (2 * (B0.length : Int)), .bool (decide (2 * (B0.length : Int) < (B1.length : Int)))] ∧ Hid (Turned wx.heap.size wx.heap.size wx W)) ?_ ?_
            case refine_1 =>
              refine wp_region_U (fun w' => w'.cell? ⟨w.heap.size, 0, none⟩ = some (.slice A1 N.ends.length c1) ∧ w'.cell? ⟨w.heap.size, 1, none⟩ = some (.slice A1' N.ids.length c1') ∧ w'.cell? ⟨w.heap.size, 2, none⟩ = some (.slice A1'' N.inputs.length c1'')) [] (by kernel_rfl) ?_
              refine nameU ?_
              intro W6 HW6
              have hg6 : wd.grownBy W6 none := by rw [HW6.out]; exact grown_drew _
              clear HW6
              have hs6 := hg6.size
              have HF6 := Lib.hid (HF5.out.still hg6); clear HF5
              have hS7 : W6.cell? ⟨w.heap.size, 0, none⟩ = some (.slice A1 N.ends.length c1) ∧ W6.cell? ⟨w.heap.size, 1, none⟩ = some (.slice A1' N.ids.length c1') ∧ W6.cell? ⟨w.heap.size, 2, none⟩ = some (.slice A1'' N.inputs.length c1'') := ⟨(HF6.out.boxN bx1_4 (by omega)).cell 0 (by simp), (HF6.out.boxN bx1_4 (by omega)).cell 1 (by simp), (HF6.out.boxN bx1_4 (by omega)).cell 2 (by simp)⟩
              refine anyU_take (i := 0) (v := .agg #[.slice A1 N.ends.length c1, .slice A1' N.ids.length c1', .slice A1'' N.inputs.length c1'']) rfl (by kernel_rfl) (by kernel_rfl) (by kernel_rfl) (fun _ _ _ ⟨_, _, h, _⟩ => by cases h) ⟨by rfl, fun w' hS' => (by obtain ⟨s1, s2, s3⟩ := hS'; go_simp)⟩ hS7 ?_
              simp only [List.getElem_toArray, List.getElem_cons_zero, Act.put, List.setIfInBounds_toArray, List.set_cons_zero, List.set_cons_succ]
              refine anyU_take (i := 1) (v := .slice AA Z.length cA) rfl (by kernel_rfl) (by kernel_rfl) (by kernel_rfl) (fun _ _ _ ⟨_, _, h, _⟩ => by cases h) ⟨by rfl, fun w' hS' => (by obtain ⟨s1, s2, s3⟩ := hS'; go_simp)⟩ hS7 ?_
              simp only [List.getElem_toArray, List.getElem_cons_succ, List.getElem_cons_zero, Act.put, List.setIfInBounds_toArray, List.set_cons_zero, List.set_cons_succ]
              refine anyU_take (i := 2) (v := .int .i64 c) rfl (by kernel_rfl) (by kernel_rfl) (by kernel_rfl) (fun _ _ _ ⟨_, _, h, _⟩ => by cases h) ⟨by rfl, fun w' hS' => (by obtain ⟨s1, s2, s3⟩ := hS'; go_simp)⟩ hS7 ?_
              simp only [List.getElem_toArray, List.getElem_cons_succ, List.getElem_cons_zero, Act.put, List.setIfInBounds_toArray, List.set_cons_zero, List.set_cons_succ]
              refine anyU_take (i := 3) (v := .int .i64 r) rfl (by kernel_rfl) (by kernel_rfl) (by kernel_rfl) (fun _ _ _ ⟨_, _, h, _⟩ => by cases h) ⟨by rfl, fun w' hS' => (by obtain ⟨s1, s2, s3⟩ := hS'; go_simp)⟩ hS7 ?_
              simp only [List.getElem_toArray, List.getElem_cons_succ, List.getElem_cons_zero, Act.put, List.setIfInBounds_toArray, List.set_cons_zero, List.set_cons_succ]
              refine anyU_take (i := 4) (v := .int .i64 ((r : Int) + 1)) rfl (by kernel_rfl) (by kernel_rfl) (by kernel_rfl) (fun _ _ _ ⟨_, _, h, _⟩ => by cases h) ⟨by rfl, fun w' hS' => (by obtain ⟨s1, s2, s3⟩ := hS'; go_simp; exact IntWalk.i64_in _ (by omega))⟩ hS7 ?_
              simp only [List.getElem_toArray, List.getElem_cons_succ, List.getElem_cons_zero, Act.put, List.setIfInBounds_toArray, List.set_cons_zero, List.set_cons_succ]
              refine anyU_take (i := 7) (v := .agg #[.slice A1 N.ends.length c1, .slice A1' N.ids.length c1', .slice A1'' N.inputs.length c1'']) rfl (by kernel_rfl) (by kernel_rfl) (by kernel_rfl) (fun _ _ _ ⟨_, _, h, _⟩ => by cases h) ⟨by rfl, fun w' hS' => (by obtain ⟨s1, s2, s3⟩ := hS'; go_simp)⟩ hS7 ?_
              simp only [List.getElem_toArray, List.getElem_cons_succ, List.getElem_cons_zero, Act.put, List.setIfInBounds_toArray, List.set_cons_zero, List.set_cons_succ]
              refine anyU_take (i := 8) (v := .slice AA Z.length cA) rfl (by kernel_rfl) (by kernel_rfl) (by kernel_rfl) (fun _ _ _ ⟨_, _, h, _⟩ => by cases h) ⟨by rfl, fun w' hS' => (by obtain ⟨s1, s2, s3⟩ := hS'; go_simp)⟩ hS7 ?_
              simp only [List.getElem_toArray, List.getElem_cons_succ, List.getElem_cons_zero, Act.put, List.setIfInBounds_toArray, List.set_cons_zero, List.set_cons_succ]
              refine anyU_take (i := 9) (v := .int .i64 c) rfl (by kernel_rfl) (by kernel_rfl) (by kernel_rfl) (fun _ _ _ ⟨_, _, h, _⟩ => by cases h) ⟨by rfl, fun w' hS' => (by obtain ⟨s1, s2, s3⟩ := hS'; go_simp)⟩ hS7 ?_
              simp only [List.getElem_toArray, List.getElem_cons_succ, List.getElem_cons_zero, Act.put, List.setIfInBounds_toArray, List.set_cons_zero, List.set_cons_succ]
              refine anyU_take (i := 10) (v := .int .i64 r) rfl (by kernel_rfl) (by kernel_rfl) (by kernel_rfl) (fun _ _ _ ⟨_, _, h, _⟩ => by cases h) ⟨by rfl, fun w' hS' => (by obtain ⟨s1, s2, s3⟩ := hS'; go_simp)⟩ hS7 ?_
              simp only [List.getElem_toArray, List.getElem_cons_succ, List.getElem_cons_zero, Act.put, List.setIfInBounds_toArray, List.set_cons_zero, List.set_cons_succ]
              refine anyU_ready (rs := [5]) (by kernel_rfl) (by simp) ?_
              refine ReadyU.cons (i := 5) rfl (fun K hK => ?_) ?_
              case refine_1 =>
                simp only [List.getElem_toArray, List.getElem_cons_succ, List.getElem_cons_zero]
                refine ite_is (by rfl) ?_
                simp [go_sem]
                refine (HDB.out _ _ _ lo1 hi1 lA hA ((r : Int) + 1) (Net.turned N_4.out HF6.out (by omega) (by omega)) (by omega) (IntS.turned HA.out HF6.out (by omega) (by omega)) (by omega)).mono ?_
                rw [HB1.out]
                rintro e W8 ⟨rb1, rfl, hrb1, hb8⟩
                have hg8 := grown_below hb8; clear hb8
                have hs8 := hg8.size
                have HF8 := Lib.hid (HF6.out.still hg8); clear HF6
                obtain ⟨Ab1, cb1, rfl, hcb1, hdb1⟩ := hrb1.dims
                clear hrb1
                have hS9 : W8.cell? ⟨w.heap.size, 0, none⟩ = some (.slice A1 N.ends.length c1) ∧ W8.cell? ⟨w.heap.size, 1, none⟩ = some (.slice A1' N.ids.length c1') ∧ W8.cell? ⟨w.heap.size, 2, none⟩ = some (.slice A1'' N.inputs.length c1'') := ⟨(HF8.out.boxN bx1_4 (by omega)).cell 0 (by simp), (HF8.out.boxN bx1_4 (by omega)).cell 1 (by simp), (HF8.out.boxN bx1_4 (by omega)).cell 2 (by simp)⟩
                refine hK.out _ _ ⟨fun _ => hS9, ?_⟩
                clear hK K hS7
                try simp only [List.getElem_toArray, List.getElem_cons_succ, List.getElem_cons_zero, Act.put, List.setIfInBounds_toArray, List.set_cons_zero, List.set_cons_succ]
                refine anyU_take (i := 6) (v := .int .i64 B1.length) rfl (by kernel_rfl) (by kernel_rfl) (by kernel_rfl) (fun _ _ _ ⟨_, _, h, _⟩ => by cases h) ⟨by rfl, fun w' hS' => (by obtain ⟨s1, s2, s3⟩ := hS'; go_simp)⟩ hS9 ?_
                simp only [List.getElem_toArray, List.getElem_cons_succ, List.getElem_cons_zero, Act.put, List.setIfInBounds_toArray, List.set_cons_zero, List.set_cons_succ]
                refine anyU_ready (rs := [11]) (by kernel_rfl) (by simp) ?_
                refine ReadyU.cons (i := 11) rfl (fun K hK => ?_) ?_
                case refine_1 =>
                  simp only [List.getElem_toArray, List.getElem_cons_succ, List.getElem_cons_zero]
                  refine ite_is (by rfl) ?_
                  simp [go_sem]
                  refine (HDB.out _ _ _ lo1 hi1 lA hA ((r : Int)) (Net.turned N_4.out HF8.out (by omega) (by omega)) (by omega) (IntS.turned HA.out HF8.out (by omega) (by omega)) (by omega)).mono ?_
                  rw [HB0.out]
                  rintro e W10 ⟨rb0, rfl, hrb0, hb10⟩
                  have hg10 := grown_below hb10; clear hb10
                  have hs10 := hg10.size
                  have HF10 := Lib.hid (HF8.out.still hg10); clear HF8
                  obtain ⟨Ab0, cb0, rfl, hcb0, hdb0⟩ := hrb0.dims
                  clear hrb0
                  have hS11 : W10.cell? ⟨w.heap.size, 0, none⟩ = some (.slice A1 N.ends.length c1) ∧ W10.cell? ⟨w.heap.size, 1, none⟩ = some (.slice A1' N.ids.length c1') ∧ W10.cell? ⟨w.heap.size, 2, none⟩ = some (.slice A1'' N.inputs.length c1'') := ⟨(HF10.out.boxN bx1_4 (by omega)).cell 0 (by simp), (HF10.out.boxN bx1_4 (by omega)).cell 1 (by simp), (HF10.out.boxN bx1_4 (by omega)).cell 2 (by simp)⟩
                  refine hK.out _ _ ⟨fun _ => hS11, ?_⟩
                  clear hK K hS9
                  try simp only [List.getElem_toArray, List.getElem_cons_succ, List.getElem_cons_zero, Act.put, List.setIfInBounds_toArray, List.set_cons_zero, List.set_cons_succ]
                  refine anyU_take (i := 12) (v := .int .i64 B0.length) rfl (by kernel_rfl) (by kernel_rfl) (by kernel_rfl) (fun _ _ _ ⟨_, _, h, _⟩ => by cases h) ⟨by rfl, fun w' hS' => (by obtain ⟨s1, s2, s3⟩ := hS'; go_simp)⟩ hS11 ?_
                  simp only [List.getElem_toArray, List.getElem_cons_succ, List.getElem_cons_zero, Act.put, List.setIfInBounds_toArray, List.set_cons_zero, List.set_cons_succ]
                  refine anyU_take (i := 13) (v := .int .i64 (2 * (B0.length : Int))) rfl (by kernel_rfl) (by kernel_rfl) (by kernel_rfl) (fun _ _ _ ⟨_, _, h, _⟩ => by cases h) ⟨by rfl, fun w' hS' => (by obtain ⟨s1, s2, s3⟩ := hS'; go_simp; exact IntWalk.i64_in _ (by omega))⟩ hS11 ?_
                  simp only [List.getElem_toArray, List.getElem_cons_succ, List.getElem_cons_zero, Act.put, List.setIfInBounds_toArray, List.set_cons_zero, List.set_cons_succ]
                  refine anyU_take (i := 14) (v := .bool (decide (2 * (B0.length : Int) < (B1.length : Int)))) rfl (by kernel_rfl) (by kernel_rfl) (by kernel_rfl) (fun _ _ _ ⟨_, _, h, _⟩ => by cases h) ⟨by rfl, fun w' hS' => (by obtain ⟨s1, s2, s3⟩ := hS'; go_simp)⟩ hS11 ?_
                  simp only [List.getElem_toArray, List.getElem_cons_succ, List.getElem_cons_zero, Act.put, List.setIfInBounds_toArray, List.set_cons_zero, List.set_cons_succ]
                  clear hS11
                  refine anyU_done (by kernel_rfl) ?_ _
                  exact ⟨[.agg #[.slice A1 N.ends.length c1, .slice A1' N.ids.length c1', .slice A1'' N.inputs.length c1''], .slice AA Z.length cA, .int .i64 c, .int .i64 r, .int .i64 ((r : Int) + 1), .slice Ab1 B1.length cb1, .int .i64 B1.length, .agg #[.slice A1 N.ends.length c1, .slice A1' N.ids.length c1', .slice A1'' N.inputs.length c1''], .slice AA Z.length cA, .int .i64 c, .int .i64 r, .slice Ab0 B0.length cb0, .int .i64 B0.length, .int .i64 (2 * (B0.length : Int)), .bool (decide (2 * (B0.length : Int) < (B1.length : Int)))], ⟨_, _, _, _, rfl, HF10⟩, rfl, by simp only [puts, Act.put, List.setIfInBounds_toArray, List.set_cons_zero, List.set_cons_succ]⟩
                exact ReadyU.nil
              exact ReadyU.nil
            case refine_2 =>
              rintro vs W12 ⟨Ab1, Ab0, cb1, cb0, rfl, HF12⟩
              simp only [puts, Act.put, List.setIfInBounds_toArray, List.set_cons_zero, List.set_cons_succ]
              have hs12 := HF12.out.size
              by_cases hst : B1.length ≤ 2 * B0.length
              case neg =>
                have hst2 : 2 * (B0.length : Int) < (B1.length : Int) := by omega
                have hdc : decide (2 * (B0.length : Int) < (B1.length : Int)) = true := decide_eq_true hst2
                have hr40 : r + 1 ≤ 40 := by
                  rcases Nat.lt_or_ge r 40 with h | h
                  · omega
                  · exfalso
                    have h1 := stop_far (D := D) (n := N.ends.length) (r := r) (fun v hv => by have := HM2.out v hv; omega)
                    rw [HSTR.out, decide_eq_false hst] at h1; cases h1
                go_wp2_with fail
                go_roundw
                case rel => exact ⟨r + 1, hr40, by go_num, Lib.hid (fun s' hs => if e : s' = r then by rw [e, HSTR.out, decide_eq_false hst] else HST.out s' (by omega)), HF12⟩
                case measure => simp [intOf]; omega
              have hst2 : ¬ 2 * (B0.length : Int) < (B1.length : Int) := by omega
              have HR := Lib.hid (radD_is (D := D) (n := N.ends.length) (by rw [HSTR.out, decide_eq_true hst]) HST.out (by omega))
              rw [HR.out] at HCE
              have hdc : decide (2 * (B0.length : Int) < (B1.length : Int)) = false := decide_eq_false hst2
              have kbx1_0 : W12.cell? ⟨w.heap.size, 0, none⟩ = some (.slice A1 N.ends.length c1) := (HF12.out.boxN bx1_4 (by omega)).cell 0 (by simp)
              have kbx1_1 : W12.cell? ⟨w.heap.size, 1, none⟩ = some (.slice A1' N.ids.length c1') := (HF12.out.boxN bx1_4 (by omega)).cell 1 (by simp)
              have kbx1_2 : W12.cell? ⟨w.heap.size, 2, none⟩ = some (.slice A1'' N.inputs.length c1'') := (HF12.out.boxN bx1_4 (by omega)).cell 2 (by simp)
              go_wp2_with fail
              clear kbx1_0 kbx1_1 kbx1_2
              refine (HDB.out _ _ _ lo1 hi1 lA hA ((r : Int)) (Net.turned N_4.out HF12.out (by omega) (by omega)) (by omega) (IntS.turned HA.out HF12.out (by omega) (by omega)) (by omega)).mono ?_
              rw [HB0.out]
              rintro e W13 ⟨ro, rfl, hro, hb13⟩
              have hg13 := grown_below hb13; clear hb13
              have hs13 := hg13.size
              have HF13 := Lib.hid (HF12.out.still hg13); clear HF12
              obtain ⟨Ao, co9, rfl, hco9, hdo9⟩ := hro.dims
              have HOWN := Lib.hid hro; clear hro
              have HGN := Lib.hid (turnedC_none HF13.out)
              have HFB := Lib.hid (HFA.out.still HGN.out)
              have HZ2 := Lib.hid (IntS.still HZ.out HGN.out (by omega))
              have HD2 := Lib.hid (BoxN.still HD.out HGN.out)
              have HO2 := Lib.hid (OwnI.still HO.out HGN.out)
              have HLL := Lib.hid (IntS.still HL.out HGN.out (by omega))
              have hlv := HO.out.lt
              have HLV := Lib.hid hlv; clear hlv
              clear HZ HD HO HL
              have HYN := Lib.hid (show ∀ j, j < B0.length → ∃ u : Nat, nth B0 j = u ∧ u < N.ends.length from fun j hj => by
                have hm := nth_mem hj
                rw [← HB0.out] at hm
                obtain ⟨v, hv, _, e⟩ := mem_ballL.1 hm
                exact ⟨v, by rw [← HB0.out]; exact e, hv⟩)
              have hK : (0 : Int) ≤ (s.co.length : Int) := by omega
              have HBEND := Lib.hid (baseAt_end (D := D) hK (cl := s.cl) (n := N.ends.length) (r := (r : Int)))
              have HLEND := Lib.hid (less_open (D := D) hK (cl := s.cl) (n := N.ends.length) (r := (r : Int)))
              have HAEND := Lib.hid (less_act (D := D) (ac := s.ac) (n := N.ends.length) (r := ((r : Int) + 1)))
              rw [HB0.out] at HBEND HLEND
              rw [HB1.out, HZE.out] at HAEND
              have HLN := Lib.hid (openL_len s.cl N.ends.length)
              have hbl9 := bareC_le s.cl N.ends.length
              have hll9 : (openL s.cl N.ends.length).length ≤ 40 := by rw [HLN.out]; omega
              clear hdc
              have N_13 := Lib.hid (Net.turned N_4.out HF13.out (by omega) (by omega)); clear N_4
              have ord_13 := Lib.hid (IntS.turned ord_4.out HF13.out (by omega) (by omega)); clear ord_4
              have bx1_13 := HF13.out.boxN bx1_4 (by omega); clear bx1_4
              have bxx0_13 := HF13.out.boxN bxx0_4 (by omega); clear bxx0_4
              have A__13 := Lib.hid (IntS.turned HA.out HF13.out (by omega) (by omega)); clear HA
              have hbA13 : Below w.heap.size w W13 := (HF13.out.below_of hbA4 (by omega) (by omega)); clear hbA4 HF13
              go_wp2_with fail
              go_loopw [72] (fun jv wr => ∃ (j : Nat), j ≤ B0.length ∧ jv = .int .i64 j ∧ Hid (IntS wr (WA.heap.size) (WA.heap.size + 1) (.slice (some ⟨WA.heap.size, 0, none⟩) N.ends.length N.ends.length) (baseAt s.cl B0 (s.co.length : Int) N.ends.length j)) ∧ Hid (BoxN wr (WA.heap.size + 1) #[.slice (some ⟨WA.heap.size, 0, none⟩) N.ends.length N.ends.length, va] 36) ∧ Hid (OwnI wr W1.heap.size 3 va s.co) ∧ Hid (Turned WA.heap.size W1.heap.size W13 wr)) (fun jv _ => B0.length - (intOf jv).toNat)
              case atStart => exact ⟨0, Nat.zero_le _, rfl, Lib.hid (by rw [baseAt_zero]; exact HZ2.out), HD2, HO2, Lib.hid (Turned.refl WA.heap.size W1.heap.size W13)⟩
              case round =>
                obtain ⟨j, hj, rfl, HZ, HD, HO, HF14⟩ := hrel
                have hs14 := HF14.out.size
                obtain ⟨we, rfl⟩ : ∃ we : World, we = wr := ⟨_, rfl⟩
                by_cases hjn : j < B0.length
                case pos =>
                  have hji : (j : Int) < B0.length := by omega
                  obtain ⟨u, eu, hun⟩ := HYN.out j hjn
                  have HBS := Lib.hid (baseAt_step (cl := s.cl) (K := (s.co.length : Int)) (n := N.ends.length) hjn eu)
                  obtain ⟨bw, ow, rfl, _, hbw', xw, _⟩ := (IntS.turned HOWN.out HF14.out (by omega) (by omega)).opened hjn
                  rw [eu] at xw
                  clear eu
                  have hui : (u : Int) < N.ends.length := by omega
                  obtain ⟨Aw, cw, rfl, hcw, hdw⟩ := HO.out.ints.dims
                  have kd0 : we.cell? ⟨WA.heap.size + 1, 0, none⟩ = some (.slice (some ⟨WA.heap.size, 0, none⟩) N.ends.length N.ends.length) := HD.out.cell 0 (by simp)
                  have kd1 : we.cell? ⟨WA.heap.size + 1, 1, none⟩ = some (.slice Aw s.co.length cw) := HD.out.cell 1 (by simp)
                  obtain ⟨x1, x2⟩ := HZ.out.at0 (j := u) (by rw [baseAt_len]; exact hun)
                  obtain ⟨yz, HYZ⟩ : ∃ yz, Hid (nth (baseAt s.cl B0 (s.co.length : Int) N.ends.length j) u = yz) := ⟨_, Lib.hid rfl⟩
                  rw [HYZ.out] at x1
                  have HSET2 := Lib.hid (HZ.out.set0 (j := u) (by rw [baseAt_len]; exact hun) (s.co.length : Int))
                  rw [HBS.out] at HSET2
                  go_wp2_with fail
                  go_roundw
                  case rel =>
                    have hg9 : we.grownBy (we.setCell ⟨WA.heap.size, u, none⟩ (.int .i64 (s.co.length : Nat))) (some (WA.heap.size)) := grown_set _ _ _
                    exact ⟨j + 1, by omega, by go_num, HSET2, Lib.hid (BoxN.far HD.out hg9 (fun g e => by cases e; omega)), Lib.hid (OwnI.far HO.out hg9 (fun g e => .inl (by cases e; omega))), Lib.hid (HF14.out.grown hg9 (fun g e => .inl (by cases e; omega)))⟩
                  case measure => simp [intOf]; omega
                obtain rfl : j = B0.length := by omega
                rw [HBEND.out] at HZ
                have HZ9 := Lib.hid (show IntS we (WA.heap.size) (WA.heap.size + 1) (.slice (some ⟨WA.heap.size, 0, none⟩) N.ends.length N.ends.length) (baseC (carC N k s (c : Int)).cl N.ends.length) by rw [HCE.out]; exact HZ.out)
                have HLE9 := Lib.hid (show lessC (openL s.cl N.ends.length) B0 = openL (carC N k s (c : Int)).cl N.ends.length by rw [HCE.out]; exact HLEND.out)
                have HAE9 := Lib.hid (show lessC Z B1 = actL (carC N k s (c : Int)).ac N.ends.length by rw [HCE.out]; exact HAEND.out)
                have HCO := Lib.hid (show (carC N k s (c : Int)).co = s.co ++ [(k : Int)] by rw [HCE.out])
                obtain ⟨s2, HS2⟩ : ∃ s2, Hid (carC N k s (c : Int) = s2) := ⟨_, Lib.hid rfl⟩
                rw [HS2.out] at HZ9 HCO HSN HLE9 HAE9
                clear HZ
                have HN9 := Lib.hid (Net.turned N_13.out HF14.out (by omega) (by omega))
                have HL9' := Lib.hid (IntS.turned HLL.out HF14.out (by omega) (by omega))
                have HA9 := Lib.hid (IntS.turned A__13.out HF14.out (by omega) (by omega))
                have HW9 := Lib.hid (IntS.turned HOWN.out HF14.out (by omega) (by omega))
                have HX9 := (HF14.out.boxN bx1_13 (by omega))
                have HFC := Lib.hid (HFB.out.trans HF14.out)
                obtain ⟨Aw, cw, rfl, hcw, hdw⟩ := HO.out.ints.dims
                have hlv := HO.out.lt
                have HLW := Lib.hid hlv; clear hlv
                have kd0 : we.cell? ⟨WA.heap.size + 1, 0, none⟩ = some (.slice (some ⟨WA.heap.size, 0, none⟩) N.ends.length N.ends.length) := HD.out.cell 0 (by simp)
                have kd1 : we.cell? ⟨WA.heap.size + 1, 1, none⟩ = some (.slice Aw s.co.length cw) := HD.out.cell 1 (by simp)
                go_upto_region 26 with (at_builtin; refine append_int (s := .tmp 85) Try.underlying23 Try.info3 (by decide) we rfl _ rfl HO.out k _ rfl (by simp [Act.eval, go_sem]) (by omega) (by omega) ?_; intro v' w' ho' hg' hat'; have HD3 := Lib.hid (BoxN.far HD.out hg' (fun g e => by have := (HLW.out g e).1; omega)); have kc := HD3.out.cell 1 (by simp); have kf := HD3.out.frozen 1; have hd9 : ∃ A c, v' = .slice A (s.co.length + 1) c := (by obtain ⟨A, c, e, _, _⟩ := ho'.ints.dims; exact ⟨A, c, by simp [e]⟩); obtain ⟨Av', cv', rfl⟩ := hd9; have HO' := Lib.hid ho'; have HAT := Lib.hid hat')
                refine nameC ?_
                intro W15 HW15
                have hgs := hg'.size
                have hg9 : w'.grownBy W15 (some (WA.heap.size + 1)) := by rw [HW15.out]; exact grown_set _ ⟨WA.heap.size + 1, 1, none⟩ _
                have hs9 := hg9.size
                have HFD := Lib.hid ((HFC.out.grown hg' (fun g e => .inr (HLW.out g e).1)).grown hg9 (fun g e => .inl (by cases e; omega)))
                have HN3 := Lib.hid (NetF.far (NetF.far HN9.out hg' (by omega) (fun g e => .inr (by have := (HLW.out g e).1; omega))) hg9 (by omega) (fun g e => .inr (by cases e; omega)))
                have HL3 := Lib.hid (IntS.far (IntS.far HL9'.out hg' (by omega) (fun g e => HNL.out g e)) hg9 (by omega) (fun g e => .inl (by cases e; omega)))
                have HA3 := Lib.hid (IntS.far (IntS.far HA9.out hg' (by omega) (fun g e => HNA.out g e)) hg9 (by omega) (fun g e => .inl (by cases e; omega)))
                have HW3 := Lib.hid (IntS.far (IntS.far HW9.out hg' (by omega) (fun g e => .inl (by have := (HLV.out g e).2; omega))) hg9 (by omega) (fun g e => .inl (by cases e; omega)))
                have HX3 := BoxN.far (BoxN.far HX9 hg' (fun g e => by have := (HLW.out g e).1; omega)) hg9 (fun g e => by cases e; omega)
                clear HN9 HL9' HA9 HW9 HX9
                have HZ3 := Lib.hid (IntS.far (IntS.far HZ9.out hg' (by omega) (fun g e => .inr (by have := (HLW.out g e).1; omega))) hg9 (by omega) (fun g e => .inr (by cases e; omega)))
                have HD4 := Lib.hid (show BoxN W15 (WA.heap.size + 1) #[.slice (some ⟨WA.heap.size, 0, none⟩) N.ends.length N.ends.length, (Value.slice Av' (s.co.length + 1) cv')] 36 by rw [HW15.out]; exact HD3.out.set 1 _)
                have HO3 := Lib.hid (show OwnI W15 W1.heap.size 3 (Value.slice Av' (s.co.length + 1) cv') s2.co by rw [HCO.out]; exact OwnI.far HO'.out hg9 (fun g e => .inl (by cases e; omega)))
                have HNV := Lib.hid (show ∀ g, (Value.slice Av' (s.co.length + 1) cv').ownBlock = some g → g < W15.heap.size from fun g e => by have := HO3.out.lt g e; omega)
                clear HW15 kd0 kd1 kc kf HD HO HD3 HO'
                go_wp2_with fail
                refine (deLessC_any _ (openL s.cl N.ends.length) _ _ _ B0 _ _ _ HL3.out (by omega) HW3.out (by omega) (by omega)).mono ?_
                rw [HLE9.out]
                rintro e W16 ⟨rl, rfl, hrl, hb16⟩
                have hg16 := grown_below hb16; clear hb16
                have hs16 := hg16.size
                have HF16 := Lib.hid ((Turned.refl W15.heap.size W15.heap.size W15).still hg16)
                have Z16 := Lib.hid (IntS.still HZ3.out hg16 (by omega)); clear HZ3
                have D16 := Lib.hid (BoxN.still HD4.out hg16); clear HD4
                have O16 := Lib.hid (OwnI.still HO3.out hg16); clear HO3
                obtain ⟨Al, cl9, rfl, hcl9, hdl9⟩ := hrl.dims
                have HNLL := Lib.hid hrl; clear hrl
                have kbx1_0 : W16.cell? ⟨w.heap.size, 0, none⟩ = some (.slice A1 N.ends.length c1) := (HF16.out.boxN HX3 (by omega)).cell 0 (by simp)
                have kbx1_1 : W16.cell? ⟨w.heap.size, 1, none⟩ = some (.slice A1' N.ids.length c1') := (HF16.out.boxN HX3 (by omega)).cell 1 (by simp)
                have kbx1_2 : W16.cell? ⟨w.heap.size, 2, none⟩ = some (.slice A1'' N.inputs.length c1'') := (HF16.out.boxN HX3 (by omega)).cell 2 (by simp)
                go_wp2_with fail
                clear kbx1_0 kbx1_1 kbx1_2
                refine (HDB.out _ _ _ lo1 hi1 lA hA ((r : Int) + 1) (Net.turned HN3.out HF16.out (by omega) (by omega)) (by omega) (IntS.turned HA3.out HF16.out (by omega) (by omega)) (by omega)).mono ?_
                rw [HB1.out]
                rintro e W17 ⟨rb, rfl, hrb, hb17⟩
                have hg17 := grown_below hb17; clear hb17
                have hs17 := hg17.size
                have HF17 := Lib.hid (HF16.out.still hg17); clear HF16
                have Z17 := Lib.hid (IntS.still Z16.out hg17 (by omega)); clear Z16
                have D17 := Lib.hid (BoxN.still D16.out hg17); clear D16
                have O17 := Lib.hid (OwnI.still O16.out hg17); clear O16
                have NL17 := Lib.hid (IntS.still HNLL.out hg17 (by omega)); clear HNLL
                obtain ⟨Ab, cb, rfl, hcb, hdb⟩ := hrb.dims
                have HBB := Lib.hid hrb; clear hrb
                go_wp2_with fail
                refine (deLessC_any _ Z _ _ _ B1 _ _ _ (IntS.turned HA3.out HF17.out (by omega) (by omega)) (by omega) HBB.out (by omega) (by omega)).mono ?_
                rw [HAE9.out]
                rintro e W18 ⟨ra, rfl, hra, hb18⟩
                have hg18 := grown_below hb18; clear hb18
                have hs18 := hg18.size
                have HF18 := Lib.hid (HF17.out.still hg18); clear HF17
                have Z18 := Lib.hid (IntS.still Z17.out hg18 (by omega)); clear Z17
                have D18 := Lib.hid (BoxN.still D17.out hg18); clear D17
                have O18 := Lib.hid (OwnI.still O17.out hg18); clear O17
                have NL18 := Lib.hid (IntS.still NL17.out hg18 (by omega)); clear NL17
                have BB18 := Lib.hid (IntS.still HBB.out hg18 (by omega)); clear HBB
                obtain ⟨Aa, ca9, rfl, hca9, hda9⟩ := hra.dims
                have HNA9 := Lib.hid hra; clear hra
                have HFE := Lib.hid (HFD.out.still (turnedC_none HF18.out))
                go_wp2_with fail
                go_roundw
                case rel => exact ⟨q + 1, W15.heap.size, _, W17.heap.size, W18.heap.size, s2, (Value.slice Av' (s.co.length + 1) cv'), by omega, by go_num, HSN, Z18, D18, O18, NL18, by omega, by omega, Lib.hid (fun g e => .inl (HNV.out g e)), HNA9, by omega, Nat.le_refl _, Lib.hid (fun g e => .inl (by have := HNV.out g e; omega)), HFE⟩
                case measure => simp [intOf]; omega

end Go.Proofs.Ytcmmklcampmkjaa

/- Contract: BallCarving (reference). -/
namespace Go.Proofs.Ytcmmklcampmkjaa
open Go.ChangeShapes Go.WideShapes Go.ChangeAt Go.RowKit
set_option linter.unusedVariables false

set_option maxHeartbeats 4000000 in
set_option maxRecDepth 100000 in
theorem BallCarving_spec (v1 : Value) (N : NetD) (lo1 hi1 : Nat) (v2 : Value) (ord : List Int) (lo2 hi2 : Nat) (w : World) (h1 : Net w lo1 hi1 v1 N) (hh1 : hi1 ≤ w.heap.size) (h2 : IntS w lo2 hi2 v2 ord) (hh2 : hi2 ≤ w.heap.size) (hz1 : N.sz ≤ 1048576) (hz2 : ord.length ≤ 1048576) (ok1 : N.Ok) (ok2 : ∀ z ∈ ord, I64 z) :
    Calls Try.prog 13 #[v1, v2] w fun e w' => ∃ r, e = .returned (.tuple #[r, .bool (orderB N ord)]) ∧ DecX w' w.heap.size w'.heap.size r (carOut N ord) ∧ Below w.heap.size w w' := by
  clear ok1 ok2
  have F1 := Lib.hid h1
  obtain ⟨A1, c1, A1', c1', A1'', c1'', rfl, hc1, hd1, _⟩ := h1.parts
  clear h1
  have F2 := Lib.hid h2
  obtain ⟨A2, c2, rfl, hc2, hd2⟩ := h2.dims
  clear h2
  obtain ⟨WA, HWA⟩ : ∃ W, Hid (W = ((w.alloc (.cells #[.slice A1 N.ends.length c1, .slice A1' N.ids.length c1', .slice A1'' N.inputs.length c1''] 34)).alloc (.cells #[.slice none 0 0, .slice none 0 0] 36))) := ⟨_, Lib.hid rfl⟩
  have hbA : Below w.heap.size w WA := by rw [HWA.out]; exact (((Below.refl _ _).alloc (Nat.le_refl _) _).alloc (by simp; try omega) _)
  have hsA : w.heap.size + 2 ≤ WA.heap.size := by rw [HWA.out]; simp; try omega
  have bx1 : BoxN WA (w.heap.size) #[.slice A1 N.ends.length c1, .slice A1' N.ids.length c1', .slice A1'' N.inputs.length c1''] 34 := by rw [HWA.out]; exact ((BoxN.new' _ _ _ (by simp)).still (grown_alloc _ _))
  have bxx0 : BoxN WA (w.heap.size + 1) #[.slice none 0 0, .slice none 0 0] 36 := by rw [HWA.out]; exact (BoxN.new' _ _ _ (by simp))
  have G1 := Lib.hid (Net.below F1.out hbA hh1); clear F1
  have G2 := Lib.hid (IntS.below F2.out hbA hh2); clear F2
  go_enter Try.func13, Try.ntmps13
  go_upto_region 1 with (fail)
  rw [← HWA.out]; clear HWA
  have kbx1_0 : WA.cell? ⟨w.heap.size, 0, none⟩ = some (.slice A1 N.ends.length c1) := bx1.cell 0 (by simp)
  have kbx1_1 : WA.cell? ⟨w.heap.size, 1, none⟩ = some (.slice A1' N.ids.length c1') := bx1.cell 1 (by simp)
  have kbx1_2 : WA.cell? ⟨w.heap.size, 2, none⟩ = some (.slice A1'' N.inputs.length c1'') := bx1.cell 2 (by simp)
  go_wp2_with fail
  clear kbx1_0 kbx1_1 kbx1_2
  refine (ruOrder_any _ N lo1 hi1 _ ord lo2 hi2 _ G1.out (by omega) G2.out (by omega) hz1).mono ?_
  rintro e W1 ⟨rfl, hb1⟩
  have hg1 := grown_below hb1; clear hb1
  have hs1 := hg1.size
  have HF1 := Lib.hid ((Turned.refl WA.heap.size WA.heap.size WA).still hg1)
  by_cases hO : orderB N ord = true
  case neg =>
    have hO' : orderB N ord = false := by simpa using hO
    rw [hO']
    have HNO := Lib.hid hO'; clear hO hO'
    have kbxx0_0 : W1.cell? ⟨w.heap.size + 1, 0, none⟩ = some (.slice none 0 0) := (HF1.out.boxN bxx0 (by omega)).cell 0 (by simp)
    have kbxx0_1 : W1.cell? ⟨w.heap.size + 1, 1, none⟩ = some (.slice none 0 0) := (HF1.out.boxN bxx0 (by omega)).cell 1 (by simp)
    have krf := (HF1.out.boxN bxx0 (by omega)).frozen 0
    have krf1 := (HF1.out.boxN bxx0 (by omega)).frozen 1
    have hbE := (HF1.out.below_of hbA (by omega) (by omega))
    go_wp2_with fail
    ((try simp only [Exit.inBlock, Exit.then]); refine bodyPost_ret (results_cellC rfl _ _ _ rfl (load_decC (((HF1.out.boxN bxx0 (by omega)).set 0 (.slice none 0 0)).set 1 (.slice none 0 0)))) rfl ?_)
    refine ⟨_, ret_vb HNO.out.symm, carNo HNO.out _ _ _ (by simp; omega), ?_⟩
    exact (hbE.setCell (p := ⟨w.heap.size + 1, 0, none⟩) (by simp) _).setCell (p := ⟨w.heap.size + 1, 1, none⟩) (by simp) _
  rw [hO]
  have HOK := Lib.hid hO; clear hO
  have HG := Lib.hid (orderB_parts HOK.out).1
  have HPM := Lib.hid (orderB_parts HOK.out).2
  obtain ⟨n1, n40⟩ := good_n HG.out
  have HON := Lib.hid (car_node HPM.out)
  have hol : ord.length ≤ 40 := by rw [permB_len HPM.out]; exact n40
  have HIN := Lib.hid (carP_in HG.out HON.out)
  have HLS := Lib.hid (carP_less HG.out HON.out (fun t ht => perm_all HPM.out ht))
  have kbx1_0 : W1.cell? ⟨w.heap.size, 0, none⟩ = some (.slice A1 N.ends.length c1) := (HF1.out.boxN bx1 (by omega)).cell 0 (by simp)
  have kbx1_1 : W1.cell? ⟨w.heap.size, 1, none⟩ = some (.slice A1' N.ids.length c1') := (HF1.out.boxN bx1 (by omega)).cell 1 (by simp)
  have kbx1_2 : W1.cell? ⟨w.heap.size, 2, none⟩ = some (.slice A1'' N.inputs.length c1'') := (HF1.out.boxN bx1 (by omega)).cell 2 (by simp)
  go_wp2_with fail
  clear kbx1_0 kbx1_1 kbx1_2
  refine (deCarve_any _ N lo1 hi1 _ ord lo2 hi2 _ (Net.turned G1.out HF1.out (by omega) (by omega)) (by omega) (IntS.turned G2.out HF1.out (by omega) (by omega)) (by omega) HG.out HPM.out).mono ?_
  rintro e W2 ⟨rd, rfl, hrd, hb2⟩
  have hg2 := grown_below hb2; clear hb2
  have hs2 := hg2.size
  have HF2 := Lib.hid (HF1.out.still hg2); clear HF1
  obtain ⟨E, HE⟩ : ∃ E : DecD, Hid (⟨(carN N ord).1, (carN N ord).2⟩ = E) := ⟨_, Lib.hid rfl⟩
  rw [HE.out] at hrd
  obtain ⟨v1', v2', m, rfl, hm1, hm2, hI1, hI2⟩ := hrd
  obtain ⟨A5, c5, rfl, _, _⟩ := hI1.dims
  obtain ⟨A6, c6, rfl, _, _⟩ := hI2.dims
  have HI1 := Lib.hid hI1; have HI2 := Lib.hid hI2; clear hI1 hI2
  have kbxx0_0 : W2.cell? ⟨w.heap.size + 1, 0, none⟩ = some (.slice none 0 0) := (HF2.out.boxN bxx0 (by omega)).cell 0 (by simp)
  have kbxx0_1 : W2.cell? ⟨w.heap.size + 1, 1, none⟩ = some (.slice none 0 0) := (HF2.out.boxN bxx0 (by omega)).cell 1 (by simp)
  have krf := (HF2.out.boxN bxx0 (by omega)).frozen 0
  have krf1 := (HF2.out.boxN bxx0 (by omega)).frozen 1
  have hbE := (HF2.out.below_of hbA (by omega) (by omega))
  go_wp2_with fail
  ((try simp only [Exit.inBlock, Exit.then]); refine bodyPost_ret (results_cellC rfl _ _ _ rfl (load_decC (((HF2.out.boxN bxx0 (by omega)).set 0 (.slice A5 E.cluster.length c5)).set 1 (.slice A6 E.colour.length c6)))) rfl ?_)
  refine ⟨_, ret_vb HOK.out.symm, ?_, (hbE.setCell (p := ⟨w.heap.size + 1, 0, none⟩) (by simp) _).setCell (p := ⟨w.heap.size + 1, 1, none⟩) (by simp) _⟩
  rw [carOut_yes HOK.out, HE.out]
  refine DecX.mkC (m := m) (by omega) (by simp; omega) ?_ ?_
  · exact (IntS.far HI1.out (grownBy_trans (grown_set _ ⟨w.heap.size + 1, 0, none⟩ _) (grown_set _ ⟨w.heap.size + 1, 1, none⟩ _)) (by omega) (fun g e => by injection e with e; have e : w.heap.size + 1 = g := e; omega)).mono (by omega) (by omega)
  · exact (IntS.far HI2.out (grownBy_trans (grown_set _ ⟨w.heap.size + 1, 0, none⟩ _) (grown_set _ ⟨w.heap.size + 1, 1, none⟩ _)) (by omega) (fun g e => by injection e with e; have e : w.heap.size + 1 = g := e; omega)).mono (by omega) (by simp)

end Go.Proofs.Ytcmmklcampmkjaa
