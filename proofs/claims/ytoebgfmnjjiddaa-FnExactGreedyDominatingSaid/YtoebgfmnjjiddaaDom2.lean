/-
  Contract of the program's GreedyDominating.
-/
import Derived.Test.YtoebgfmnjjiddaaDom
import Derived.Test.YtoebgfmnjjiddaaIsNet
namespace Go.Proofs.Ytoebgfmnjjiddaa
open Go.ChangeShapes Go.WideShapes Go.ChangeAt Go.RowKit
set_option linter.unusedVariables false

def slLen : Value → Nat
  | .slice _ n _ => n
  | _ => 0
theorem slLen_own {w : World} {base : Nat} {e : TypeId} {v : Value} {zs : List Int} (h : OwnI w base e v zs) : slLen v = zs.length := by
  obtain ⟨A, c, rfl, _, _⟩ := h.ints.dims
  rfl
theorem domOut_no {N : NetD} (h : N.good = false) : domOut N = [] := by unfold domOut; rw [h]; rfl
theorem domOut_yes {N : NetD} (h : N.good = true) : domOut N = sortI (dom N) := by unfold domOut; rw [if_pos h]
theorem mostN_le (N : NetD) (cov : List Bool) (k : Nat) : mostN N cov k ≤ N.ends.length := by
  unfold mostN; split
  · omega
  · exact gain_le _ _ _
theorem hasF_gain {N : NetD} (hg : N.good = true) {cov : List Bool} (hl : cov.length = N.ends.length) : hasF cov = !decide (gain N cov (best N cov) = 0) := by
  by_cases h : gain N cov (best N cov) = 0
  · rw [decide_eq_true h, Bool.not_true]
    exact hasF_false.2 fun j hj => (gain_zero hg hl).1 h j (by omega)
  · rw [decide_eq_false h, Bool.not_false, hasF_true]
    by_cases h2 : ∃ j, j < cov.length ∧ nthB cov j = false
    · exact h2
    · exact absurd ((gain_zero hg hl).2 fun j hj => by
        by_cases hc : nthB cov j = true
        · exact hc
        · exact absurd ⟨j, by omega, by simpa using hc⟩ h2) h
theorem Try.infoBoolD : (Try.prog.info? 4).map (fun i => (i.zero, i.size, i.bytes)) = some (some (.bool false), 1, 1) := by kernel_rfl

set_option maxHeartbeats 4000000 in
set_option maxRecDepth 100000 in
theorem GreedyDominating_impl (v1 : Value) (N : NetD) (lo1 hi1 : Nat) (w : World) (h1 : Net w lo1 hi1 v1 N) (hh1 : hi1 ≤ w.heap.size) (hz1 : N.sz ≤ 1048576) (ok1 : N.Ok) :
    Calls Try.prog 31 #[v1] w fun e w' => ∃ r, e = .returned (.tuple #[r, .bool N.good]) ∧ IntS w' w.heap.size w'.heap.size r (domOut N) ∧ Below w.heap.size w w' := by
  clear ok1
  have F1 := Lib.hid h1
  obtain ⟨A1, c1, A1', c1', A1'', c1'', rfl, hc1, hd1, _⟩ := h1.parts
  clear h1
  obtain ⟨WA, HWA⟩ : ∃ W, Hid (W = (w.alloc (.cells #[.slice A1 N.ends.length c1, .slice A1' N.ids.length c1', .slice A1'' N.inputs.length c1''] 33))) := ⟨_, Lib.hid rfl⟩
  have hbA : Below w.heap.size w WA := by rw [HWA.out]; exact ((Below.refl _ _).alloc (Nat.le_refl _) _)
  have hsA : w.heap.size + 1 ≤ WA.heap.size := by rw [HWA.out]; simp; try omega
  have bx1 : BoxN WA (w.heap.size) #[.slice A1 N.ends.length c1, .slice A1' N.ids.length c1', .slice A1'' N.inputs.length c1''] 33 := by rw [HWA.out]; exact (BoxN.new' _ _ _ (by simp))
  have G1 := Lib.hid (Net.below F1.out hbA hh1); clear F1
  go_enter Try.func31, Try.ntmps31
  go_upto_region 1 with (fail)
  rw [← HWA.out]; clear HWA
  have kbx1_0 : WA.cell? ⟨w.heap.size, 0, none⟩ = some (.slice A1 N.ends.length c1) := bx1.cell 0 (by simp)
  have kbx1_1 : WA.cell? ⟨w.heap.size, 1, none⟩ = some (.slice A1' N.ids.length c1') := bx1.cell 1 (by simp)
  have kbx1_2 : WA.cell? ⟨w.heap.size, 2, none⟩ = some (.slice A1'' N.inputs.length c1'') := bx1.cell 2 (by simp)
  go_wp2_with fail
  clear kbx1_0 kbx1_1 kbx1_2
  refine (IsNetwork_any _ N lo1 hi1 _ G1.out (by omega) hz1).mono ?_
  rintro e W1 ⟨rfl, hb1⟩
  have hg1 := grown_below hb1; clear hb1
  have hs1 := hg1.size
  have HF1 := Lib.hid ((Turned.refl WA.heap.size WA.heap.size WA).still hg1)
  by_cases hg : N.good = true
  case neg =>
    have hg' : N.good = false := by simpa using hg
    rw [hg']
    have HG := Lib.hid hg'; clear hg hg'
    go_wp2_with fail
    go_ret2
    exact ⟨_, ret_vb HG.out.symm, by rw [domOut_no HG.out]; exact IntS.nil _ _ _, (HF1.out.below_of hbA (by omega) (by omega))⟩
  rw [hg]
  have HG := Lib.hid hg; clear hg
  obtain ⟨n1, n40⟩ := good_n HG.out
  have hmk := fun W => run_make_row' (P := Try.prog) 83 4 (.bool false) 1 Try.underlying83 Try.infoBoolD rfl .i64 .i64 N.ends.length (by omega) (by omega) W
  have hmf : ∀ (fn : Fn) (first cap : Array Value) (w : World), (Instr.makeFunc fn first cap).run Try.prog w = .ok (.func fn first cap) w := fun _ _ _ _ => rfl
  have kbx1_0 : W1.cell? ⟨w.heap.size, 0, none⟩ = some (.slice A1 N.ends.length c1) := (HF1.out.boxN bx1 (by omega)).cell 0 (by simp)
  have kbx1_1 : W1.cell? ⟨w.heap.size, 1, none⟩ = some (.slice A1' N.ids.length c1') := (HF1.out.boxN bx1 (by omega)).cell 1 (by simp)
  have kbx1_2 : W1.cell? ⟨w.heap.size, 2, none⟩ = some (.slice A1'' N.inputs.length c1'') := (HF1.out.boxN bx1 (by omega)).cell 2 (by simp)
  go_upto_region 5 with (fail)
  refine nameC ?_
  intro W2 HW2
  have hg2 : W1.grownBy W2 none := by rw [HW2.out]; exact grown_alloc _ _
  have hs2 := hg2.size
  have HF2 := Lib.hid (HF1.out.still hg2); clear HF1
  have FB := Lib.hid (show BoolS W2 W1.heap.size (W1.heap.size + 1) (.slice (some ⟨W1.heap.size, 0, none⟩) N.ends.length N.ends.length) (List.replicate N.ends.length false) by rw [HW2.out]; exact made_bools _ _ _ rfl (by omega))
  have hzf : W1.heap.size + 1 ≤ W2.heap.size := by rw [HW2.out]; simp
  clear HW2 hmk kbx1_0 kbx1_1 kbx1_2
  go_wp2_with fail
  clear hmf
  have N_2 := Lib.hid (Net.turned G1.out HF2.out (by omega) (by omega)); clear G1
  have bx1_2 := HF2.out.boxN bx1 (by omega); clear bx1
  have hbA2 := (HF2.out.below_of hbA (by omega) (by omega)); clear hbA HF2
  have eg := enters_of Try.func80 (by kernel_rfl) rfl
  go_loopw [4] (fun ov wr => ∃ (cov : List Bool) (U : List Int), Hid (OwnI wr W2.heap.size 3 ov U) ∧ Hid (BoolS wr W1.heap.size (W1.heap.size + 1) (.slice (some ⟨W1.heap.size, 0, none⟩) N.ends.length N.ends.length) cov) ∧ Hid (DmTop N cov U) ∧ Hid (Turned W1.heap.size (W1.heap.size + 1) W2 wr)) (fun ov _ => N.ends.length + 1 - slLen ov)
  case atStart => exact ⟨List.replicate N.ends.length false, [], Lib.hid (OwnI.nil _ _ _), FB, Lib.hid (DmTop.zero N), Lib.hid (Turned.refl W1.heap.size (W1.heap.size + 1) W2)⟩
  case round =>
    obtain ⟨cov, U, HO, HC, HT, HF3⟩ := hrel
    have hs3 := HF3.out.size
    have hcl := HT.out.len
    have hle := HT.out.le
    have hsl := Lib.hid (slLen_own HO.out)
    have HHF := Lib.hid (hasF_gain HG.out hcl)
    obtain ⟨Az, cz, rfl, hcz, hdz⟩ := HO.out.ints.dims
    obtain ⟨wq, rfl⟩ : ∃ wq : World, wq = wr := ⟨_, rfl⟩
    by_cases h0 : gain N cov (best N cov) = 0
    case pos =>
      rw [decide_eq_true h0, Bool.not_true] at HHF
      have HST := Lib.hid (HT.out.stop h0)
      clear h0
      go_wp2_with (go_at_call 84; refine (conB_any _ cov _ _ false _ HC.out (by omega) rfl (by omega)).mono ?_; rintro e w' ⟨rfl, rfl⟩; rw [HHF.out])
      refine (sort_any _ U _ _ _ HO.out.ints (Nat.le_refl _) (by omega)).mono ?_
      rintro e W99 ⟨rfl, hr9, hg9⟩
      have hg9s := hg9.size
      have HR9 := Lib.hid hr9
      have HF9 := Lib.hid (HF3.out.grown hg9 fun g hg => .inr (by
        rcases Sl.row HO.out.ints with e | ⟨b, e, l1, l2⟩
        · rw [e] at hg; cases hg
        · rw [e] at hg; injection hg; omega))
      clear hr9 hg9
      go_wp2_with fail
      go_ret2
      refine ⟨_, ret_vb HG.out.symm, ?_, (HF9.out.below_of hbA2 (by omega) (by omega))⟩
      rw [domOut_yes HG.out, HST.out]
      exact HR9.out.mono (by omega) (by omega)
    rw [decide_eq_false h0, Bool.not_false] at HHF
    have HSTEP := Lib.hid (HT.out.step HG.out h0)
    have hbl := best_lt HG.out cov
    have HCL := Lib.hid hcl
    clear h0
    have kbx1_0 : wq.cell? ⟨w.heap.size, 0, none⟩ = some (.slice A1 N.ends.length c1) := (HF3.out.boxN bx1_2 (by omega)).cell 0 (by simp)
    have kbx1_1 : wq.cell? ⟨w.heap.size, 1, none⟩ = some (.slice A1' N.ids.length c1') := (HF3.out.boxN bx1_2 (by omega)).cell 1 (by simp)
    have kbx1_2 : wq.cell? ⟨w.heap.size, 2, none⟩ = some (.slice A1'' N.inputs.length c1'') := (HF3.out.boxN bx1_2 (by omega)).cell 2 (by simp)
    go_wp2_with (go_at_call 84; refine (conB_any _ cov _ _ false _ HC.out (by omega) rfl (by omega)).mono ?_; rintro e w' ⟨rfl, rfl⟩; rw [HHF.out])
    clear kbx1_0 kbx1_1 kbx1_2 HHF
    go_loopw [28, 7, 8] (fun iv bv mv wr => ∃ (k : Nat), k ≤ N.ends.length ∧ iv = .int .i64 k ∧ bv = .int .i64 (bestN N cov k : Nat) ∧ mv = .int .i64 (mostN N cov k : Nat) ∧ Hid (OwnI wr W2.heap.size 3 (.slice Az U.length cz) U) ∧ Hid (BoolS wr W1.heap.size (W1.heap.size + 1) (.slice (some ⟨W1.heap.size, 0, none⟩) N.ends.length N.ends.length) cov) ∧ wq.heap.size ≤ wr.heap.size ∧ Hid (Turned W1.heap.size (W1.heap.size + 1) W2 wr)) (fun iv bv mv _ => N.ends.length - (intOf iv).toNat)
    case atStart => exact ⟨0, Nat.zero_le _, rfl, rfl, rfl, HO, HC, Nat.le_refl _, HF3⟩
    case round =>
      clear HF3
      obtain ⟨k, hk, rfl, rfl, rfl, HO, HC, hzq, HF4⟩ := hrel
      have hs4 := HF4.out.size
      by_cases hlt : k < N.ends.length
      case pos =>
        have hbl2 := ball_len N k 1
        have hgn := gain_le N cov k
        have hmn := mostN_le N cov k
        obtain ⟨wp, rfl⟩ : ∃ wp : World, wp = wr := ⟨_, rfl⟩
        obtain ⟨bl, HBL⟩ : ∃ l, Hid (ball N k 1 = l) := ⟨_, Lib.hid rfl⟩
        have HGN : Hid (gain N cov k = bare cov bl bl.length) := Lib.hid (by unfold gain; rw [HBL.out])
        have HND := Lib.hid (fun (i : Nat) (hi : i < bl.length) => show ∃ t : Nat, nth bl i = t ∧ t < N.ends.length by rw [← HBL.out] at hi ⊢; exact ball_node hi)
        rw [HBL.out] at hbl2
        have HAR5 := Lib.hid (around_any k w.heap.size wp N lo1 hi1 _ _ _ _ _ _ ((HF4.out.boxN bx1_2 (by omega))) (Net.turned N_2.out HF4.out (by omega) (by omega)) (by omega) HG.out hlt)
        go_wp2_with (first | (go_at_fn 80; refine HAR5.out.mono ?_; rintro e W5 ⟨ra, rfl, hra, hb5⟩; rw [around_eq HG.out hlt, HBL.out] at hra; obtain ⟨Ra, rc, rfl, hrc, hrd⟩ := hra.dims) | (go_at_call 80; refine HAR5.out.mono ?_; rintro e W5 ⟨ra, rfl, hra, hb5⟩; rw [around_eq HG.out hlt, HBL.out] at hra; obtain ⟨Ra, rc, rfl, hrc, hrd⟩ := hra.dims))
        have hg5 := grown_below hb5; clear hb5 HAR5
        have hs5 := hg5.size
        have HF5 := Lib.hid (HF4.out.still hg5); clear HF4
        have O5 := Lib.hid (OwnI.still HO.out hg5); clear HO
        have CV5 := Lib.hid (BoolS.still HC.out hg5 (by omega)); clear HC
        have HR := Lib.hid hra; clear hra
        go_loop [35, 10] (fun jv uv => ∃ (j : Nat), j ≤ bl.length ∧ jv = .int .i64 j ∧ uv = .int .i64 (bare cov bl j : Nat)) (fun jv uv => bl.length - (intOf jv).toNat)
        case atStart => exact ⟨0, Nat.zero_le _, rfl, rfl⟩
        case round =>
          obtain ⟨j, hj, rfl, rfl⟩ := hrel
          have hba := bare_le cov bl j
          by_cases hjl : j < bl.length
          case pos =>
            obtain ⟨u, eu, hu⟩ := HND.out j hjl
            obtain ⟨b2, o2, rfl, _, _, x2, _⟩ := IntS.opened HR.out hjl
            rw [eu] at x2
            obtain ⟨y1, _⟩ := BoolS.at0 CV5.out (j := u) (by rw [HCL.out]; exact hu)
            have hui : (u : Int) < N.ends.length := by omega
            have HB1 := Lib.hid (show bare cov bl (j + 1) = bare cov bl j + if nthB cov u = true then 0 else 1 by rw [bare, eu, Int.toNat_natCast])
            clear eu
            cases hc : nthB cov u with
            | true =>
              rw [hc] at y1
              have HB2 := Lib.hid (show bare cov bl (j + 1) = bare cov bl j by rw [HB1.out, hc]; rfl)
              clear hc HB1
              go_wp2_with (go_at_call 85; refine (oneIf_any _ _).mono ?_; rintro e w' ⟨rfl, rfl⟩)
              go_round
              case rel => exact ⟨j + 1, by omega, by go_num, by rw [HB2.out]⟩
              case measure => simp [intOf]; omega
            | false =>
              rw [hc] at y1
              have HB2 := Lib.hid (show bare cov bl (j + 1) = bare cov bl j + 1 by rw [HB1.out, hc]; rfl)
              clear hc HB1
              go_wp2_with (go_at_call 85; refine (oneIf_any _ _).mono ?_; rintro e w' ⟨rfl, rfl⟩)
              go_round
              case rel => exact ⟨j + 1, by omega, by go_num, by rw [HB2.out]; go_num⟩
              case measure => simp [intOf]; omega
          obtain rfl : j = bl.length := by omega
          obtain ⟨gk, HGK⟩ : ∃ g, Hid (gain N cov k = g) := ⟨_, Lib.hid rfl⟩
          have hgk : bare cov bl bl.length = gk := by rw [← HGN.out, HGK.out]
          rw [hgk] at hba ⊢
          obtain ⟨mk, HMK⟩ : ∃ g, Hid (mostN N cov k = g) := ⟨_, Lib.hid rfl⟩
          rw [HMK.out] at hmn ⊢
          by_cases hgt : mk < gk
          case pos =>
            have HY := Lib.hid (most_yes (N := N) (cov := cov) (k := k) (by rw [HMK.out, HGK.out]; exact hgt))
            have hgi : (mk : Int) < gk := by omega
            go_wp2_with fail
            go_roundw
            case rel => exact ⟨k + 1, by omega, by go_num, by rw [HY.out.1], by rw [HY.out.2, HGK.out], O5, CV5, by omega, HF5⟩
            case measure => simp [intOf]; omega
          have HY := Lib.hid (most_no (N := N) (cov := cov) (k := k) (by rw [HMK.out, HGK.out]; exact hgt))
          have hgi : ¬ (mk : Int) < gk := by omega
          go_wp2_with fail
          go_roundw
          case rel => exact ⟨k + 1, by omega, by go_num, by rw [HY.out.1], by rw [HY.out.2, HMK.out], O5, CV5, by omega, HF5⟩
          case measure => simp [intOf]; omega
      obtain rfl : k = N.ends.length := by omega
      have hbb : bestN N cov N.ends.length = best N cov := rfl
      rw [hbb]
      clear hbb
      obtain ⟨b, HB⟩ : ∃ b, Hid (best N cov = b) := ⟨_, Lib.hid rfl⟩
      rw [HB.out] at hbl HSTEP ⊢
      have hlv := HO.out.lt
      have hbl2 := ball_len N b 1
      go_upto_region 21 with ((at_builtin; refine append_int (s := .tmp 54) Try.underlying23 Try.info3 (by decide) wr rfl _ rfl HO.out (b : Int) _ rfl (by simp [Act.eval, go_sem]) (by omega) (by omega) ?_; intro v' W7 ho' hg7 hat'))
      have hs7 := hg7.size
      have HF7 := Lib.hid (HF4.out.grown hg7 (fun g hg => by have := hlv g hg; omega)); clear HF4
      have CV7 := Lib.hid (BoolS.far HC.out hg7 (by omega) (fun g hg => by have := hlv g hg; omega)); clear HC
      have HO2 := Lib.hid ho'; clear ho' hat' hlv
      obtain ⟨bl, HBL⟩ : ∃ l, Hid (ball N b 1 = l) := ⟨_, Lib.hid rfl⟩
      have HND := Lib.hid (fun (i : Nat) (hi : i < bl.length) => show ∃ t : Nat, nth bl i = t ∧ t < N.ends.length by rw [← HBL.out] at hi ⊢; exact ball_node hi)
      have HCV : Hid (cover N cov b = coverL cov bl bl.length) := Lib.hid (by unfold cover; rw [HBL.out])
      rw [HBL.out] at hbl2
      have HAR8 := Lib.hid (around_any b w.heap.size W7 N lo1 hi1 _ _ _ _ _ _ ((HF7.out.boxN bx1_2 (by omega))) (Net.turned N_2.out HF7.out (by omega) (by omega)) (by omega) HG.out hbl)
      go_wp2_with (first | (go_at_fn 80; refine HAR8.out.mono ?_; rintro e W8 ⟨ra, rfl, hra, hb8⟩; rw [around_eq HG.out hbl, HBL.out] at hra; obtain ⟨Ra, rc, rfl, hrc, hrd⟩ := hra.dims) | (go_at_call 80; refine HAR8.out.mono ?_; rintro e W8 ⟨ra, rfl, hra, hb8⟩; rw [around_eq HG.out hbl, HBL.out] at hra; obtain ⟨Ra, rc, rfl, hrc, hrd⟩ := hra.dims))
      have hg8 := grown_below hb8; clear hb8 HAR8
      have hs8 := hg8.size
      have HF8 := Lib.hid (HF7.out.still hg8); clear HF7
      have O8 := Lib.hid (OwnI.still HO2.out hg8); clear HO2
      have CV8 := Lib.hid (BoolS.still CV7.out hg8 (by omega)); clear CV7
      have HR := Lib.hid hra; clear hra
      go_loopw [62] (fun jv wr => ∃ (j : Nat), j ≤ bl.length ∧ jv = .int .i64 j ∧ Hid (OwnI wr W2.heap.size 3 v' (U ++ [(b : Int)])) ∧ Hid (BoolS wr W1.heap.size (W1.heap.size + 1) (.slice (some ⟨W1.heap.size, 0, none⟩) N.ends.length N.ends.length) (coverL cov bl j)) ∧ Hid (IntS wr (W7.heap.size) (W8.heap.size) (.slice Ra bl.length rc) bl) ∧ W8.heap.size ≤ wr.heap.size ∧ Hid (Turned W1.heap.size (W1.heap.size + 1) W2 wr)) (fun jv _ => bl.length - (intOf jv).toNat)
      case atStart => exact ⟨0, Nat.zero_le _, rfl, O8, CV8, HR, Nat.le_refl _, HF8⟩
      case round =>
        clear HF8
        obtain ⟨j, hj, rfl, HO, HC, HR, hz4, HF9⟩ := hrel
        have hs9 := HF9.out.size
        have hcl2 := coverL_len cov bl j
        rw [HCL.out] at hcl2
        by_cases hjl : j < bl.length
        case pos =>
          obtain ⟨u, eu, hu⟩ := HND.out j hjl
          obtain ⟨b2, o2, rfl, _, _, x2, _⟩ := IntS.opened HR.out hjl
          rw [eu] at x2
          obtain ⟨y1, y2⟩ := BoolS.at0 HC.out (j := u) (by rw [hcl2]; exact hu)
          have HS := Lib.hid (HC.out.set0 (j := u) (by rw [hcl2]; exact hu) true)
          obtain ⟨yb, HYB⟩ : ∃ y, Hid (nthB (coverL cov bl j) u = y) := ⟨_, Lib.hid rfl⟩
          rw [HYB.out] at y1
          have hui : (u : Int) < N.ends.length := by omega
          have hgs := grown_set wr ⟨W1.heap.size, u, none⟩ (.bool true)
          have HC1 : Hid (BoolS (wr.setCell ⟨W1.heap.size, u, none⟩ (.bool true)) W1.heap.size (W1.heap.size + 1) (.slice (some ⟨W1.heap.size, 0, none⟩) N.ends.length N.ends.length) (coverL cov bl (j + 1))) := Lib.hid (by rw [coverL, eu, Int.toNat_natCast]; exact HS.out)
          have HR1 := Lib.hid (IntS.far HR.out hgs (by omega) (fun g hg => by injection hg with hg; subst hg; show W1.heap.size < _ ∨ _ ≤ W1.heap.size; omega))
          have HO1 := Lib.hid (OwnI.far HO.out hgs (fun g hg => by injection hg with hg; subst hg; left; show W1.heap.size < _; omega))
          have HFN := Lib.hid (HF9.out.grown hgs (fun g hg => by injection hg with hg; subst hg; left; exact ⟨Nat.le_refl _, Nat.lt_succ_self _⟩))
          clear eu HS
          go_wp2_with fail
          go_roundw
          case rel => exact ⟨j + 1, by omega, by go_num, HO1, HC1, HR1, by rw [size_setCell]; omega, HFN⟩
          case measure => simp [intOf]; omega
        obtain rfl : j = bl.length := by omega
        rw [← HCV.out] at HC
        have hs9 := slLen_own HO.out
        have hle9 := HSTEP.out.2.le
        go_wp2_with fail
        go_roundw
        case rel => exact ⟨cover N cov b, U ++ [(b : Int)], HO, HC, Lib.hid HSTEP.out.2, HF9⟩
        case measure => rw [hs9]; simp [slLen] at hle9 ⊢; omega

end Go.Proofs.Ytoebgfmnjjiddaa
