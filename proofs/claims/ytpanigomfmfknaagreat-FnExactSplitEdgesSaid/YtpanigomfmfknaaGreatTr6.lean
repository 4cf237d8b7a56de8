/-
  Contract: the trails in order (program).
-/
import Derived.Test.YtpanigomfmfknaaGreatTr5
namespace Go.Proofs.YtpanigomfmfknaaGreat
open Go.ChangeShapes Go.WideShapes Go.ChangeAt Go.RowKit
set_option linter.unusedVariables false

/-- the state at the start of a pass -/
noncomputable def s0 (N : NetD) (sec : Bool) : TSt := if sec = true then t1 N else t0
noncomputable def stG (N : NetD) (sec : Bool) (k m : Nat) : TSt := rowT N sec k m (passT N sec k (s0 N sec))
section
variable {N : NetD}
theorem stG_inv (hg : N.good = true) (sec : Bool) {k m : Nat} (hk : k < N.ends.length) (hm : m ≤ degAt N k) : TInv N (stG N sec k m) ∧ (sec = true → TInv2 N (stG N sec k m)) := by
  unfold stG s0
  cases sec with
  | false => exact ⟨(first_row hg hk (first_pass hg k (by omega)).1 m hm).1, fun h => by cases h⟩
  | true => exact ⟨(second_row hg hk (second_pass hg k (by omega)) m hm).inv, fun _ => second_row hg hk (second_pass hg k (by omega)) m hm⟩
theorem stG_succ (N : NetD) (sec : Bool) (k m : Nat) : stG N sec k (m + 1) = stepT N sec k m (stG N sec k m) := rfl
theorem stG_seen {sec : Bool} {k m : Nat} (h : at_ (stG N sec k m).seen (k, m) = true) : stG N sec k (m + 1) = stG N sec k m := by
  rw [stG_succ, stepT_skip]
  unfold skipB
  rw [h]; rfl
theorem stG_pass (hg : N.good = true) {sec : Bool} {k m : Nat} (hk : k < N.ends.length) (hm : m < degAt N k) (h : at_ (stG N sec k m).seen (k, m) = false) (hp : pairedB N (k, m) = !sec) : stG N sec k (m + 1) = stG N sec k m := by
  rw [stG_succ]
  cases sec with
  | false => rw [stepT_skip]; unfold skipB; rw [hp, h]; rfl
  | true =>
    have := ((stG_inv hg true hk (Nat.le_of_lt hm)).2 rfl).left hg (p := (k, m)) ⟨hk, hm⟩ h
    rw [hp] at this
    cases this.1
theorem stG_add (hg : N.good = true) {sec : Bool} {k m : Nat} (hk : k < N.ends.length) (hm : m < degAt N k) (h : at_ (stG N sec k m).seen (k, m) = false) (hp : pairedB N (k, m) = sec) : trc N (k, m) = sec ∧ stG N sec k (m + 1) = addT N (stG N sec k m) (k, m) := by
  rw [stG_succ]
  cases sec with
  | false =>
    refine ⟨trc_of_open hg ⟨hk, hm⟩ hp, ?_⟩
    rw [stepT_add]
    unfold skipB
    rw [h, hp]; rfl
  | true =>
    refine ⟨(((stG_inv hg true hk (Nat.le_of_lt hm)).2 rfl).left hg (p := (k, m)) ⟨hk, hm⟩ h).2, ?_⟩
    rw [stepT_add]
    unfold skipB
    rw [h]; rfl
end
theorem TrI.mono {w : World} {B base gn gs gq mb m m' : Nat} {x0 x1 x2 vo : Value} {σ : TSt} (h : TrI w B base gn gs gq mb x0 x1 x2 σ vo m) (hm : m ≤ m') : TrI w B base gn gs gq mb x0 x1 x2 σ vo m' :=
  ⟨h.bn, h.bs, h.bq, h.mp.mono hm, h.ot⟩
theorem entersAdd : ∀ args w, (callFunc 42 args).run Tryz.prog w = .ok (.enter 42 args) w := enters_of Tryz.func42 (by kernel_rfl) rfl

set_option maxHeartbeats 8000000 in
set_option maxRecDepth 100000 in
theorem trails_any (v1 : Value) (N : NetD) (lo1 hi1 : Nat) (w : World) (h1 : Net w lo1 hi1 v1 N) (hh1 : hi1 ≤ w.heap.size) (hg : N.good = true) :
    Calls Tryz.prog 25 #[v1] w fun e w' => ∃ r, e = .returned r ∧ EndSS w' w.heap.size w'.heap.size r ((trails N).map castL) ∧ Below w.heap.size w w' := by
  obtain ⟨n1, n40⟩ := good_n hg
  have HG := Lib.hid hg; clear hg
  have F1 := Lib.hid h1
  obtain ⟨A1, c1, A1', c1', A1'', c1'', rfl, hc1, hd1, _⟩ := h1.parts
  obtain ⟨b1, o1, _, _, rfl, _⟩ := Net.rowAt F1.out (u := 0) (by omega)
  clear h1
  have hmm := @run_makeMap Tryz.prog
  go_enter Tryz.func25, Tryz.ntmps25
  go_wp2_with fail
  clear hmm
  refine nameC ?_
  intro W0 HW0
  have hs0 : W0.heap.size = w.heap.size + 5 := by rw [HW0.out]; simp
  have hb0 : Below w.heap.size w W0 := by rw [HW0.out]; exact ((((((Below.refl _ _).alloc (Nat.le_refl _) _).alloc (by simp) _).alloc (by simp; omega) _).alloc (by simp; omega) _).alloc (by simp; omega) _)
  have HT0 := Lib.hid (show TrI W0 w.heap.size (w.heap.size + 1 + 1 + 1 + 1) w.heap.size (w.heap.size + 1 + 1 + 1) (w.heap.size + 1) (w.heap.size + 1 + 1) (.slice (some ⟨b1, o1, none⟩) N.ends.length c1) (.slice A1' N.ids.length c1') (.slice A1'' N.inputs.length c1'') t0 (.slice none 0 0) 0 from by
    rw [HW0.out]
    have hmp := MpT.new ((w.alloc (.cells #[.slice (some ⟨b1, o1, none⟩) N.ends.length c1, .slice A1' N.ids.length c1', .slice A1'' N.inputs.length c1''] 32)).alloc (.cells #[.slice none 0 0] 30))
    rw [show ((w.alloc (.cells #[.slice (some ⟨b1, o1, none⟩) N.ends.length c1, .slice A1' N.ids.length c1', .slice A1'' N.inputs.length c1''] 32)).alloc (.cells #[.slice none 0 0] 30)).heap.size = w.heap.size + 1 + 1 by simp] at hmp
    replace hmp := (hmp.stillT (grown_alloc _ (.cells #[.map (some (w.heap.size + 1 + 1))] 65))).stillT (grown_alloc _ (.cells #[.bool true, .bool false] 4))
    exact ⟨(((((BoxN.new' _ _ _ (by simp)).still (grown_alloc _ _)).still (grown_alloc _ _)).still (grown_alloc _ _)).still (grown_alloc _ _)), ((BoxN.new' _ _ _ (by simp)).still (grown_alloc _ _)), ((((BoxN.new' _ _ _ (by simp)).still (grown_alloc _ _)).still (grown_alloc _ _)).still (grown_alloc _ _)), hmp, w.heap.size + 1 + 1 + 1 + 1, OwnES.nil _ _ _ _ (Nat.le_refl _) (by simp)⟩)
  have HBB0 := Lib.hid (show BoxN W0 (w.heap.size + 1 + 1 + 1 + 1) #[.bool true, .bool false] 4 by rw [HW0.out]; exact BoxN.new' _ _ _ (by simp))
  clear HW0
  have HB0 := Lib.hid hb0; clear hb0
  have HN0 := Lib.hid (F1.out.below HB0.out hh1)
  go_loopw [18] (fun iv wr => ∃ (q : Nat) (vo : Value), q ≤ 2 ∧ iv = .int .i64 q ∧ Hid (TrI wr w.heap.size (w.heap.size + 1 + 1 + 1 + 1) w.heap.size (w.heap.size + 1 + 1 + 1) (w.heap.size + 1) (w.heap.size + 1 + 1) (.slice (some ⟨b1, o1, none⟩) N.ends.length c1) (.slice A1' N.ids.length c1') (.slice A1'' N.inputs.length c1'') (if q = 0 then t0 else if q = 1 then t1 N else passT N true N.ends.length (t1 N)) vo (480 * (240 * q))) ∧ Hid (BoxN wr (w.heap.size + 1 + 1 + 1 + 1) #[.bool true, .bool false] 4) ∧ Hid (vo.ownBlock ≠ some (w.heap.size + 1 + 1 + 1 + 1)) ∧ Hid (Fr w.heap.size (w.heap.size + 1 + 1 + 1 + 1) W0 (.slice none 0 0) wr vo)) (fun iv _ => 2 - (intOf iv).toNat)
  case atStart => exact ⟨0, .slice none 0 0, by omega, rfl, HT0, HBB0, Lib.hid (by simp [Value.ownBlock]), Lib.hid (Fr.refl _ _ _ _)⟩
  case round =>
    clear HT0 HBB0
    obtain ⟨q, vo, hq, rfl, HTQ, HBQ, HVQ, HFQ⟩ := hrel
    have hsq := HFQ.out.size
    by_cases hlt : q < 2
    case neg =>
      obtain rfl : q = 2 := by omega
      have HTZ := Lib.hid (show TrI wr w.heap.size (w.heap.size + 1 + 1 + 1 + 1) w.heap.size (w.heap.size + 1 + 1 + 1) (w.heap.size + 1) (w.heap.size + 1 + 1) (.slice (some ⟨b1, o1, none⟩) N.ends.length c1) (.slice A1' N.ids.length c1') (.slice A1'' N.inputs.length c1'') (passT N true N.ends.length (t1 N)) vo (480 * (240 * 2)) from HTQ.out)
      clear HTQ
      have k3 := HTZ.out.bq.cell 0 (by simp)
      dsimp at k3
      obtain ⟨top, hot⟩ := HTZ.out.ot
      have HSRT := Lib.hid (sortTrails_any vo (found N) _ top wr hot (found_ok HG.out) (by have := (found_inv HG.out).len HG.out; show (passT N true N.ends.length (t1 N)).out.length ≤ 100000; omega))
      have HLOW := Lib.hid hot.lt
      clear hot
      go_upto_region 21 with (go_at_call 45; refine HSRT.out.mono ?_; rintro e W9 ⟨rfl, hE9, hg9⟩; have hz9 := hg9.size; have k4 := (HTZ.out.bq.far hg9 (fun j e => by have := (HLOW.out j e).1; omega)).cell 0 (by simp); dsimp at k4; have HE9 := Lib.hid hE9; have HG9 := Lib.hid hg9; clear hE9 hg9 k3)
      go_wp2_with fail
      go_ret
      refine ⟨vo, rfl, ESS.mono HE9.out (by omega) (by omega), ?_⟩
      have hwb : Below w.heap.size W0 wr := HFQ.out.below (fun k e => by cases e) (Nat.le_refl _) (by omega)
      have hg9 := HG9.out
      exact (HB0.out.trans hwb).trans ⟨hg9.os, hg9.tape, hg9.output, hg9.size, fun k hk => hg9.block k (by omega) (fun e => by have := (HLOW.out k e.symm).1; omega)⟩
    obtain ⟨sec, hcell, hst⟩ : ∃ sec : Bool, wr.cell? ⟨w.heap.size + 1 + 1 + 1 + 1, q, none⟩ = some (.bool (!sec)) ∧ (q = if sec = true then 1 else 0) := by
      rcases (show q = 0 ∨ q = 1 by omega) with rfl | rfl
      · exact ⟨false, HBQ.out.cell 0 (by simp), rfl⟩
      · exact ⟨true, HBQ.out.cell 1 (by simp), rfl⟩
    rw [show (if q = 0 then t0 else if q = 1 then t1 N else passT N true N.ends.length (t1 N)) = s0 N sec by rw [hst]; cases sec <;> rfl] at HTQ
    have HST := Lib.hid hst; clear hst
    have kn0 := HTQ.out.bn.cell 0 (by simp)
    dsimp at kn0
    obtain ⟨op, HOP⟩ : ∃ op, Hid ((!sec) = op) := ⟨_, Lib.hid rfl⟩
    rw [HOP.out] at hcell
    have hq2 : (q : Int) < 2 := by omega
    have hq3 : q < 2 := hlt
    clear hlt
    go_wp2_with fail
    clear hcell kn0 hq2
    obtain ⟨wo, rfl⟩ : ∃ wo : World, wo = wr := ⟨_, rfl⟩
    go_loopw [25] (fun iv wi => ∃ (k : Nat) (vo : Value), k ≤ N.ends.length ∧ iv = .int .i64 k ∧ Hid (TrI wi w.heap.size (w.heap.size + 1 + 1 + 1 + 1) w.heap.size (w.heap.size + 1 + 1 + 1) (w.heap.size + 1) (w.heap.size + 1 + 1) (.slice (some ⟨b1, o1, none⟩) N.ends.length c1) (.slice A1' N.ids.length c1') (.slice A1'' N.inputs.length c1'') (passT N sec k (s0 N sec)) vo (480 * (240 * q + 6 * k))) ∧ Hid (BoxN wi (w.heap.size + 1 + 1 + 1 + 1) #[.bool true, .bool false] 4) ∧ Hid (vo.ownBlock ≠ some (w.heap.size + 1 + 1 + 1 + 1)) ∧ Hid (Fr w.heap.size (w.heap.size + 1 + 1 + 1 + 1) W0 (.slice none 0 0) wi vo)) (fun iv _ => N.ends.length - (intOf iv).toNat)
    case atStart => exact ⟨0, vo, Nat.zero_le _, rfl, HTQ, HBQ, HVQ, HFQ⟩
    case round =>
      clear HTQ HBQ HVQ HFQ hsq
      obtain ⟨k, vo, hk, rfl, HTK, HBK, HVK, HFK⟩ := hrel
      have hsk := HFK.out.size
      by_cases hlt : k < N.ends.length
      case neg =>
        obtain rfl : k = N.ends.length := by omega
        go_wp2_with fail
        go_roundw
        case rel =>
          refine ⟨q + 1, vo, by omega, by go_num, Lib.hid ?_, HBK, HVK, HFK⟩
          rw [show (if q + 1 = 0 then t0 else if q + 1 = 1 then t1 N else passT N true N.ends.length (t1 N)) = passT N sec N.ends.length (s0 N sec) by rw [HST.out]; cases sec <;> rfl]
          exact HTK.out.mono (by omega)
        case measure => simp [intOf]; omega
      have hwb : Below w.heap.size W0 wr := HFK.out.below (fun k e => by cases e) (Nat.le_refl _) (by omega)
      have HNK := Lib.hid (HN0.out.below hwb hh1)
      clear hwb
      obtain ⟨AR, cR, hbR, qR, hcR, hdR, hRR⟩ := Net.rowIn HNK.out hlt
      clear hRR
      have hd6 := good_deg HG.out hlt
      have hki : (k : Int) < N.ends.length := by omega
      go_wp2_with fail
      clear qR
      obtain ⟨wo2, rfl⟩ : ∃ wo : World, wo = wr := ⟨_, rfl⟩
      go_loopw [32] (fun iv wi => ∃ (m : Nat) (vo : Value), m ≤ (nthL N.ends k).length ∧ iv = .int .i64 m ∧ Hid (TrI wi w.heap.size (w.heap.size + 1 + 1 + 1 + 1) w.heap.size (w.heap.size + 1 + 1 + 1) (w.heap.size + 1) (w.heap.size + 1 + 1) (.slice (some ⟨b1, o1, none⟩) N.ends.length c1) (.slice A1' N.ids.length c1') (.slice A1'' N.inputs.length c1'') (stG N sec k m) vo (480 * (240 * q + 6 * k + m))) ∧ Hid (BoxN wi (w.heap.size + 1 + 1 + 1 + 1) #[.bool true, .bool false] 4) ∧ Hid (vo.ownBlock ≠ some (w.heap.size + 1 + 1 + 1 + 1)) ∧ Hid (Fr w.heap.size (w.heap.size + 1 + 1 + 1 + 1) W0 (.slice none 0 0) wi vo)) (fun iv _ => (nthL N.ends k).length - (intOf iv).toNat)
      case atStart => exact ⟨0, vo, Nat.zero_le _, rfl, HTK, HBK, HVK, HFK⟩
      case round =>
        clear HTK HBK HVK HFK hsk HNK
        obtain ⟨m, vo, hm, rfl, HTM, HBM, HVM, HFM⟩ := hrel
        have hsm := HFM.out.size
        by_cases hml : m < (nthL N.ends k).length
        case neg =>
          obtain rfl : m = (nthL N.ends k).length := by omega
          go_wp2_with fail
          go_roundw
          case rel =>
            refine ⟨k + 1, vo, by omega, by go_num, Lib.hid ?_, HBM, HVM, HFM⟩
            exact TrI.mono (show TrI wr w.heap.size (w.heap.size + 1 + 1 + 1 + 1) w.heap.size (w.heap.size + 1 + 1 + 1) (w.heap.size + 1) (w.heap.size + 1 + 1) (.slice (some ⟨b1, o1, none⟩) N.ends.length c1) (.slice A1' N.ids.length c1') (.slice A1'' N.inputs.length c1'') (passT N sec (k + 1) (s0 N sec)) vo _ from HTM.out) (by omega)
          case measure => simp [intOf]; omega
        obtain ⟨σm, HS⟩ : ∃ s, Hid (stG N sec k m = s) := ⟨_, Lib.hid rfl⟩
        rw [HS.out] at HTM
        have HOK := Lib.hid (show okP N (k, m) from ⟨hlt, hml⟩)
        have HLEN := Lib.hid (show σm.out.length ≤ 1000000 by rw [← HS.out]; have := (stG_inv HG.out sec hlt (Nat.le_of_lt hml)).1.len HG.out; omega)
        obtain ⟨pb, HPB⟩ : ∃ b, Hid (pairedB N (k, m) = b) := ⟨_, Lib.hid rfl⟩
        go_upto_region 14 with fail
        refine nameC ?_
        intro W4 HW4
        have hg4 : wr.grownBy W4 none := by rw [HW4.out]; exact grown_alloc _ _
        have hs4 : wr.heap.size + 1 ≤ W4.heap.size := by rw [HW4.out]; simp
        have HE4 := Lib.hid (show BoxN W4 wr.heap.size #[.int .i64 (k : Nat), .int .i64 (m : Nat)] 48 by rw [HW4.out]; exact BoxN.new _ _ _)
        clear HW4
        have HT4 := Lib.hid (HTM.out.still hg4)
        have HB4 := Lib.hid (HBM.out.still hg4)
        have HF4 := Lib.hid (HFM.out.trans (Fr.still hg4))
        clear HTM HBM HFM hg4
        have hwb : Below w.heap.size W0 W4 := HF4.out.below (fun k e => by cases e) (Nat.le_refl _) (by omega)
        have HN4 := Lib.hid (HN0.out.below hwb hh1)
        clear hwb
        have kn0 := HT4.out.bn.cell 0 (by simp)
        have kn1 := HT4.out.bn.cell 1 (by simp)
        have kn2 := HT4.out.bn.cell 2 (by simp)
        have ke0 := HE4.out.cell 0 (by simp)
        have ke1 := HE4.out.cell 1 (by simp)
        dsimp at kn0 kn1 kn2 ke0 ke1
        go_upto_region 15 with (go_at_call 44; refine (partner_any _ N lo1 hi1 k m W4 HN4.out (by omega) HG.out HOK.out).mono ?_; rintro e W5 ⟨rfl, hb5⟩; rw [HPB.out]; have hg5 := grown_below hb5; have hz5 := hg5.size; have HG5 := Lib.hid hg5; clear hg5 hb5)
        clear kn0 kn1 kn2 ke0 ke1
        refine nameC ?_
        intro W6 HW6
        have hg6 : W5.grownBy W6 none := by rw [HW6.out]; exact grown_alloc _ _
        have hz6 := hg6.size
        clear HW6
        have HT6 := Lib.hid ((HT4.out.still HG5.out).still hg6)
        have HB6 := Lib.hid ((HB4.out.still HG5.out).still hg6)
        have HE6 := Lib.hid ((HE4.out.still HG5.out).still hg6)
        have HF6 := Lib.hid ((HF4.out.trans (Fr.still HG5.out)).trans (Fr.still hg6))
        clear HT4 HB4 HE4 HF4 HG5 hg6 HN4
        have k4 := HT6.out.bs.cell 0 (by simp)
        have ke0 := HE6.out.cell 0 (by simp)
        have ke1 := HE6.out.cell 1 (by simp)
        dsimp at k4 ke0 ke1
        have hlk := HT6.out.mp.look (x := (k : Int)) (y := (m : Int)) (by unfold I64; omega) (by unfold I64; omega)
        cases hus : σm.seen k m with
        | true =>
          rw [hus] at hlk
          have HUS := Lib.hid hus; clear hus
          go_wp2_with fail
          go_roundw
          case rel =>
            refine ⟨m + 1, vo, by omega, by go_num, Lib.hid ?_, HB6, HVM, HF6⟩
            rw [stG_seen (by unfold at_; rw [HS.out]; exact HUS.out), HS.out]
            exact HT6.out.mono (by omega)
          case measure => simp [intOf]; omega
        | false =>
          rw [hus] at hlk
          have HUS := Lib.hid (show at_ (stG N sec k m).seen (k, m) = false by unfold at_; rw [HS.out]; exact hus); clear hus
          by_cases hpo : pb = op
          case pos =>
            have HPO := Lib.hid hpo
            have hc : (!(pb == op)) = false := by rw [hpo]; simp
            clear hpo
            go_wp2_with fail
            go_roundw
            case rel =>
              refine ⟨m + 1, vo, by omega, by go_num, Lib.hid ?_, HB6, HVM, HF6⟩
              rw [stG_pass HG.out hlt hml HUS.out (by rw [HPB.out, HPO.out, HOP.out]), HS.out]
              exact HT6.out.mono (by omega)
            case measure => simp [intOf]; omega
          have hps : pb = sec := by have := HOP.out; cases pb <;> cases op <;> cases sec <;> simp_all
          have hc : (!(pb == op)) = true := by cases pb <;> cases op <;> simp_all
          obtain ⟨ht1, ht2⟩ := stG_add HG.out hlt hml HUS.out (by rw [HPB.out, hps])
          have hw1 : (!op) = sec := by rw [← HOP.out]; simp
          have hwb : Below w.heap.size W0 W6 := HF6.out.below (fun k e => by cases e) (Nat.le_refl _) (by omega)
          have hcall := add_any N HG.out lo1 hi1 N.ends.length c1 b1 o1 (Lib.hid rfl) (.slice A1' N.ids.length c1') (.slice A1'' N.inputs.length c1'') w.heap.size (w.heap.size + 1 + 1 + 1 + 1) w.heap.size (w.heap.size + 1 + 1 + 1) (w.heap.size + 1) (w.heap.size + 1 + 1) _ ⟨by omega, by omega, by omega, by omega, by omega, by omega, by omega, by omega, by omega, by omega, by omega, by omega, by omega, by omega⟩ k m HOK.out (!op) σm vo W6 (HN0.out.below hwb hh1) hh1 (by omega) (by omega) HLEN.out HT6.out
          rw [if_pos (by rw [ht1, hw1]), ← HS.out, ← ht2] at hcall
          have HCALL := Lib.hid hcall
          clear hcall hwb ht1 ht2 hw1 hps hpo
          have eg := entersAdd
          go_wp2_with (go_at_fn 42; refine HCALL.out.mono ?_; rintro e W7 ⟨rfl, v7, hT7, hF7⟩; have HT7 := Lib.hid hT7; have HF7 := Lib.hid hF7; have hz7 := hF7.size; clear hT7 hF7 k4 ke0 ke1 hlk HCALL)
          go_roundw
          case rel =>
            refine ⟨m + 1, v7, by omega, by go_num, Lib.hid (HT7.out.mono (by omega)), Lib.hid (HF7.out.box HB6.out (.inr (Nat.le_refl _)) HVM.out), Lib.hid (fun e => ?_), Lib.hid (HF6.out.trans HF7.out)⟩
            rcases HF7.out.own _ e with e2 | e2
            · exact HVM.out e2
            · omega
          case measure => simp [intOf]; omega

end Go.Proofs.YtpanigomfmfknaaGreat
