/-
  Contracts: the order of an acyclic orientation by the reference; OrderOfOrientation (program and reference).
-/
import Derived.Test.YtjapdfdjgjajkaaOrd
namespace Go.Proofs.Ytjapdfdjgjajkaa
open Go.ChangeShapes Go.WideShapes Go.ChangeAt Go.RowKit
set_option linter.unusedVariables false

theorem fidxN_keep {p : Nat → Bool} {m : Nat} (h : 0 ≤ fidxN p m) : fidxN p (m + 1) = fidxN p m := by
  rcases fidxN_cases p m with ⟨e, _⟩ | ⟨k, hk, e, h1, h2⟩
  · omega
  · rw [e]; exact fidxN_hit (by omega) h1 h2
theorem fidxN_new {p : Nat → Bool} {m : Nat} (h : fidxN p m < 0) (hp : p m = true) : fidxN p (m + 1) = m := by
  rcases fidxN_cases p m with ⟨e, h1⟩ | ⟨k, hk, e, h1, h2⟩
  · exact fidxN_hit (by omega) hp h1
  · omega
theorem fidxN_still {p : Nat → Bool} {m : Nat} (h : fidxN p m < 0) (hp : p m = false) : fidxN p (m + 1) = fidxN p m := by
  rcases fidxN_cases p m with ⟨e, h1⟩ | ⟨k, hk, e, h1, h2⟩
  · rw [e]; exact fidxN_none fun j hj => by
      by_cases e2 : j = m
      · rw [e2]; exact hp
      · exact h1 j (by omega)
  · omega
theorem fidxN_low (p : Nat → Bool) (m : Nat) : -1 ≤ fidxN p m ∧ fidxN p m < m + 1 := by
  rcases fidxN_cases p m with ⟨e, h1⟩ | ⟨k, hk, e, h1, h2⟩ <;> omega

set_option maxHeartbeats 4000000 in
set_option maxRecDepth 100000 in
theorem orOrder_any (v1 : Value) (N : NetD) (lo1 hi1 : Nat) (v2 : Value) (o : List (List Int)) (lo2 hi2 : Nat) (w : World) (h1 : Net w lo1 hi1 v1 N) (hh1 : hi1 ≤ w.heap.size) (h2 : IntSS w lo2 hi2 v2 o) (hh2 : hi2 ≤ w.heap.size) (hor : oriOk N o = true) :
    Calls Try.prog 58 #[v1, v2] w fun e w' => ∃ r, e = .returned (r) ∧ IntS w' w.heap.size w'.heap.size r (ordAll N o) ∧ Below w.heap.size w w' := by
  have HOR := Lib.hid hor
  obtain ⟨_, hg, hpb, hri, _⟩ := oriOk_parts hor
  have HPB := Lib.hid hpb
  have HRI := Lib.hid hri
  have hol : N.ends.length ≤ o.length := by have := ports_len hpb; omega
  clear hpb hor hri
  obtain ⟨n1, n40⟩ := good_n hg
  have HG := Lib.hid hg; clear hg
  have F1 := Lib.hid h1
  obtain ⟨A1, c1, A1', c1', A1'', c1'', rfl, hc1, hd1, _⟩ := h1.parts
  obtain ⟨b1, o1, _, _, rfl, _⟩ := Net.rowAt F1.out (u := 0) (by omega)
  clear h1
  have F2 := Lib.hid h2
  obtain ⟨A2, c2, rfl, hc2, hd2⟩ := h2.dims
  clear h2
  obtain ⟨WA, HWA⟩ : ∃ W, Hid (W = (w.alloc (.cells #[.slice (some ⟨b1, o1, none⟩) N.ends.length c1, .slice A1' N.ids.length c1', .slice A1'' N.inputs.length c1''] 32))) := ⟨_, Lib.hid rfl⟩
  have hbA : Below w.heap.size w WA := by rw [HWA.out]; exact ((Below.refl _ _).alloc (Nat.le_refl _) _)
  have hsA : w.heap.size + 1 ≤ WA.heap.size := by rw [HWA.out]; simp; try omega
  have bx1 : BoxN WA (w.heap.size) #[.slice (some ⟨b1, o1, none⟩) N.ends.length c1, .slice A1' N.ids.length c1', .slice A1'' N.inputs.length c1''] 32 := by rw [HWA.out]; exact (BoxN.new' _ _ _ (by simp))
  have G1 := Lib.hid (Net.below F1.out hbA hh1); clear F1
  have G2 := Lib.hid (ISS.below F2.out hbA hh2); clear F2
  go_enter Try.func58, Try.ntmps58
  go_upto_region 1 with (fail)
  rw [← HWA.out]; clear HWA
  go_wp2_with fail
  go_loopw [5] (fun ov wr => ∃ (out : List Int), Hid (OwnI wr WA.heap.size 3 ov out) ∧ Hid (OTop N o out) ∧ Hid (Turned WA.heap.size WA.heap.size WA wr)) (fun ov _ => N.ends.length + 1 - lenOfV ov)
  case atStart => exact ⟨[], Lib.hid (OwnI.nil _ _ _), Lib.hid (OTop.nil N o), Lib.hid (Turned.refl WA.heap.size WA.heap.size WA)⟩
  case round =>
    obtain ⟨out, HO, HT, HF1⟩ := hrel
    have hs1 := HF1.out.size
    have hlen := HT.out.inv.len
    obtain ⟨Az, cz, rfl, hcz, hdz⟩ := HO.out.ints.dims
    obtain ⟨wo, rfl⟩ : ∃ wo : World, wo = wr := ⟨_, rfl⟩
    have HFE := Lib.hid (fidx_congr (fun v hv => free_eq HOR.out out hv))
    have kbx1_0 : wo.cell? ⟨w.heap.size, 0, none⟩ = some (.slice (some ⟨b1, o1, none⟩) N.ends.length c1) := (HF1.out.boxN bx1 (by omega)).cell 0 (by simp)
    have kbx1_1 : wo.cell? ⟨w.heap.size, 1, none⟩ = some (.slice A1' N.ids.length c1') := (HF1.out.boxN bx1 (by omega)).cell 1 (by simp)
    have kbx1_2 : wo.cell? ⟨w.heap.size, 2, none⟩ = some (.slice A1'' N.inputs.length c1'') := (HF1.out.boxN bx1 (by omega)).cell 2 (by simp)
    go_wp2_with fail
    clear kbx1_0 kbx1_1 kbx1_2
    go_loopw [15, 6] (fun i av wr => ∃ (m : Nat) (a : Int), m ≤ N.ends.length ∧ i = .int .i64 m ∧ av = .int .i64 a ∧ Hid (a = fidxN (freeS N o out) m) ∧ Hid (OwnI wr WA.heap.size 3 (.slice Az out.length cz) out) ∧ Hid (Turned WA.heap.size WA.heap.size WA wr)) (fun i av _ => N.ends.length - (intOf i).toNat)
    case atStart => exact ⟨0, -1, Nat.zero_le _, rfl, rfl, Lib.hid rfl, HO, HF1⟩
    case round =>
      clear HF1
      obtain ⟨m, a, hm, rfl, rfl, HA, HO, HF2⟩ := hrel
      have hs2 := HF2.out.size
      have hal := fidxN_low (freeS N o out) m
      rw [← HA.out] at hal
      have hlv := HO.out.lt
      by_cases hml : m < N.ends.length
      case neg =>
        obtain rfl : m = N.ends.length := by omega
        by_cases ha : a < 0
        · go_wp2_with fail
          go_ret
          refine ⟨_, rfl, ?_, (HF2.out.below_of hbA (by omega) (by omega))⟩
          rw [HT.out.stop (by rw [← HFE.out, ← HA.out]; exact ha)]
          exact HO.out.ints.mono (by omega) (Nat.le_refl _)
        · rcases fidxN_cases (freeAt N o out) N.ends.length with ⟨e, _⟩ | ⟨k, hk, e, hp, _⟩
          · exfalso; have := HA.out; rw [HFE.out, e] at this; omega
          · obtain rfl : a = k := by rw [HA.out, HFE.out, e]
            have HT2 := Lib.hid (HT.out.step hk e hp)
            clear e hp
            have hlen2 := HT2.out.inv.len
            simp only [List.length_append, List.length_singleton] at hlen2
            go_wp2_with (at_builtin; refine append_int (s := .tmp 64) Try.underlying23 Try.info3 (by decide) wr rfl _ rfl HO.out k _ rfl (by simp [Act.eval, go_sem]) (by omega) (by omega) ?_; intro v' w' ho' hg' hat')
            go_roundw
            case rel => exact ⟨_, Lib.hid ho', HT2, Lib.hid (HF2.out.grown hg' fun g hg => .inr (by have := hlv g hg; omega))⟩
            case measure =>
              have := lenOf_own ho'
              rw [this]
              simp [lenOfV]
              omega
      obtain ⟨Ar, cr, hbr, qr, hcr, hdr, hRr⟩ := Net.rowIn G1.out hml
      replace qr := (HF2.out.cell (by omega) (by omega)).trans qr
      have Rr := Lib.hid hRr; clear hRr
      by_cases ha : 0 ≤ a
      case pos =>
        go_wp2_with fail
        go_roundw
        case rel => exact ⟨m + 1, a, by omega, by go_num, rfl, Lib.hid (by rw [fidxN_keep (by rw [← HA.out]; exact ha)]; exact HA.out), HO, HF2⟩
        case measure => simp [intOf]; omega
      have ha' : a < 0 := by omega
      have g1 : decide (0 ≤ a) = false := decide_eq_false ha
      cases hdm : decide ((m : Int) ∈ out) with
      | true =>
        have HDM := Lib.hid hdm; clear hdm
        have HFS := Lib.hid (show freeS N o out m = false by unfold freeS doneIn; rw [HDM.out]; rfl)
        go_wp2_with (go_at_call 73; refine (l1Has_any _ out _ _ _ _ HO.out.ints).mono ?_; rintro e w' ⟨rfl, rfl⟩; rw [HDM.out])
        go_roundw
        case rel => exact ⟨m + 1, a, by omega, by go_num, rfl, Lib.hid (by rw [fidxN_still (by rw [← HA.out]; exact ha') HFS.out]; exact HA.out), HO, HF2⟩
        case measure => simp [intOf]; omega
      | false =>
        obtain ⟨bs, os, us, rfl, _, hbs, zs, hus⟩ := SS.opened G2.out (Nat.lt_of_lt_of_le hml hol)
        replace zs := (HF2.out.cell (by omega) (by omega)).trans zs
        obtain ⟨As, cs, rfl, hcs, hds⟩ := hus.dims
        have Us := Lib.hid hus; clear hus
        have HDM := Lib.hid hdm; clear hdm
        have hrw := ports_row HPB.out hml
        have hd6 := good_deg HG.out hml
        obtain ⟨wp, rfl⟩ : ∃ wp : World, wp = wr := ⟨_, rfl⟩
        go_wp2_with (go_at_call 73; refine (l1Has_any _ out _ _ _ _ HO.out.ints).mono ?_; rintro e w' ⟨rfl, rfl⟩; rw [HDM.out])
        clear qr zs
        go_loopw [29, 9] (fun i fv wr => ∃ (q : Nat) (fr : Bool), q ≤ (nthL N.ends m).length ∧ i = .int .i64 q ∧ fv = .bool fr ∧ Hid (fr = (List.range q).all (portOkS N o out m)) ∧ Hid (OwnI wr WA.heap.size 3 (.slice Az out.length cz) out) ∧ Hid (Turned WA.heap.size WA.heap.size WA wr)) (fun i fv _ => (nthL N.ends m).length - (intOf i).toNat)
        case atStart => exact ⟨0, true, Nat.zero_le _, rfl, rfl, Lib.hid rfl, HO, HF2⟩
        case round =>
          clear HF2
          obtain ⟨q, fr, hq, rfl, rfl, HFR, HO, HF3⟩ := hrel
          have hs3 := HF3.out.size
          by_cases hql : q < (nthL N.ends m).length
          case neg =>
            obtain rfl : q = (nthL N.ends m).length := by omega
            cases fr with
            | true =>
              have HFS := Lib.hid (show freeS N o out m = true by unfold freeS doneIn; rw [HDM.out, ← HFR.out]; rfl)
              go_wp2_with fail
              go_roundw
              case rel => exact ⟨m + 1, m, by omega, by go_num, rfl, Lib.hid (by rw [fidxN_new (by rw [← HA.out]; exact ha') HFS.out]), HO, HF3⟩
              case measure => simp [intOf]; omega
            | false =>
              have HFS := Lib.hid (show freeS N o out m = false by unfold freeS doneIn; rw [HDM.out, ← HFR.out]; rfl)
              go_wp2_with fail
              go_roundw
              case rel => exact ⟨m + 1, a, by omega, by go_num, rfl, Lib.hid (by rw [fidxN_still (by rw [← HA.out]; exact ha') HFS.out]; exact HA.out), HO, HF3⟩
              case measure => simp [intOf]; omega
          obtain ⟨br, or, rfl, _, hbr', er, er'⟩ := (EndS.turned Rr.out HF3.out (by omega) (by omega)).opened hql
          obtain ⟨t, r, etr, ht, hr, eur⟩ := good_end HG.out hml hql
          rw [etr] at er er'
          dsimp only at er er'
          have ETr := Lib.hid etr
          have EUr := Lib.hid eur
          clear etr eur
          go_upto_region 11 with (fail)
          refine nameC ?_
          intro W4 HW4
          have hg4 : wr.grownBy W4 none := by rw [HW4.out]; exact grown_alloc _ _
          have hs4 := hg4.size
          have HF4 := Lib.hid (HF3.out.still hg4); clear HF3
          have O4 := Lib.hid (OwnI.still HO.out hg4); clear HO
          have bxe4 := Lib.hid (show BoxN W4 wr.heap.size #[.int .i64 t, .int .i64 r] 60 by rw [HW4.out]; exact BoxN.new _ _ _)
          clear HW4
          clear er er'
          have HAS := Lib.hid (show (List.range (q + 1)).all (portOkS N o out m) = (fr && portOkS N o out m q) by rw [List.range_succ, List.all_append, ← HFR.out]; simp)
          cases fr with
          | false =>
            go_wp2_with fail
            go_roundw
            case rel => exact ⟨q + 1, false, by omega, by go_num, rfl, Lib.hid (by rw [HAS.out]; rfl), O4, HF4⟩
            case measure => simp [intOf]; omega
          | true =>
            have kbxe_0 : W4.cell? ⟨wr.heap.size, 0, none⟩ = some (.int .i64 t) := bxe4.out.cell 0 (by simp)
            have kbxe_1 : W4.cell? ⟨wr.heap.size, 1, none⟩ = some (.int .i64 r) := bxe4.out.cell 1 (by simp)
            obtain ⟨u5, hb5, z5, hu5⟩ := SS.openedIn G2.out (Nat.lt_of_lt_of_le hml hol)
            replace z5 := (HF4.out.cell (by omega) (by omega)).trans z5
            obtain ⟨A5, c5, rfl, hc5, hd5⟩ := hu5.dims
            obtain ⟨b6, o6, rfl, _, hb6, x6, _⟩ := IntS.opened (IntS.turned hu5 HF4.out (by omega) (by omega)) (j := q) (by omega)
            obtain ⟨v1, v2⟩ := rows_val HRI.out (v := m) (i := q) (by omega) (by omega)
            have HPO := Lib.hid (show portOkS N o out m q = ((decide (nth (nthL o m) q = 1) && decide ((t : Int) ≠ (m : Int))) || decide ((t : Int) ∈ out)) by unfold portOkS doneIn; rw [ETr.out]; rfl)
            obtain ⟨y, HY⟩ : ∃ y, Hid (nth (nthL o m) q = y) := ⟨_, Lib.hid rfl⟩
            rw [HY.out] at x6 HPO v1 v2
            have hmo : (m : Int) < o.length := by omega
            have hqo : (q : Int) < (nthL o m).length := by omega
            clear hu5
            by_cases hy : y = 1
            case neg =>
              have hy' : (y == 1) = false := by simpa using hy
              have DD := Lib.hid (show (decide (y = 1) && decide ((t : Int) ≠ (m : Int))) = false by rw [decide_eq_false hy]; rfl); clear hy
              cases hdt : decide ((t : Int) ∈ out) with
              | true =>
                have HDT := Lib.hid hdt; clear hdt
                go_wp2_with (go_at_call 73; refine (l1Has_any _ out _ _ _ _ O4.out.ints).mono ?_; rintro e w' ⟨rfl, rfl⟩; rw [HDT.out])
                go_roundw
                case rel => exact ⟨q + 1, true, by omega, by go_num, rfl, Lib.hid (by rw [HAS.out, HPO.out, HDT.out, Bool.or_true]; rfl), O4, HF4⟩
                case measure => simp [intOf]; omega
              | false =>
                have HDT := Lib.hid hdt; clear hdt
                go_wp2_with (go_at_call 73; refine (l1Has_any _ out _ _ _ _ O4.out.ints).mono ?_; rintro e w' ⟨rfl, rfl⟩; rw [HDT.out])
                go_roundw
                case rel => exact ⟨q + 1, false, by omega, by go_num, rfl, Lib.hid (by rw [HAS.out, HPO.out, HDT.out, DD.out]; rfl), O4, HF4⟩
                case measure => simp [intOf]; omega
            have hy' : (y == 1) = true := by simpa using hy
            by_cases htm : t = m
            case pos =>
              have htm' : ((t : Int) != (m : Int)) = false := by simp; omega
              have DD := Lib.hid (show (decide (y = 1) && decide ((t : Int) ≠ (m : Int))) = false by rw [decide_eq_false (show ¬ (t : Int) ≠ (m : Int) by omega)]; simp); clear hy htm
              cases hdt : decide ((t : Int) ∈ out) with
              | true =>
                have HDT := Lib.hid hdt; clear hdt
                go_wp2_with (go_at_call 73; refine (l1Has_any _ out _ _ _ _ O4.out.ints).mono ?_; rintro e w' ⟨rfl, rfl⟩; rw [HDT.out])
                go_roundw
                case rel => exact ⟨q + 1, true, by omega, by go_num, rfl, Lib.hid (by rw [HAS.out, HPO.out, HDT.out, Bool.or_true]; rfl), O4, HF4⟩
                case measure => simp [intOf]; omega
              | false =>
                have HDT := Lib.hid hdt; clear hdt
                go_wp2_with (go_at_call 73; refine (l1Has_any _ out _ _ _ _ O4.out.ints).mono ?_; rintro e w' ⟨rfl, rfl⟩; rw [HDT.out])
                go_roundw
                case rel => exact ⟨q + 1, false, by omega, by go_num, rfl, Lib.hid (by rw [HAS.out, HPO.out, HDT.out, DD.out]; rfl), O4, HF4⟩
                case measure => simp [intOf]; omega
            have htm' : ((t : Int) != (m : Int)) = true := by simp; omega
            have DD := Lib.hid (show (decide (y = 1) && decide ((t : Int) ≠ (m : Int))) = true by rw [decide_eq_true hy, decide_eq_true (show (t : Int) ≠ (m : Int) by omega)]; rfl); clear hy htm
            go_wp2_with fail
            go_roundw
            case rel => exact ⟨q + 1, true, by omega, by go_num, rfl, Lib.hid (by rw [HAS.out, HPO.out, DD.out]; rfl), O4, HF4⟩
            case measure => simp [intOf]; omega

end Go.Proofs.Ytjapdfdjgjajkaa
