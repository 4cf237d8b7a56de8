/-
  Contract: the trails in order (reference).
-/
import Derived.Test.YtpanigomfmfknaaGreatTs2
import Derived.Test.YtpanigomfmfknaaGreatTr6
import Derived.Test.YtpanigomfmfknaaGreatSSet
namespace Go.Proofs.YtpanigomfmfknaaGreat
open Go.ChangeShapes Go.WideShapes Go.ChangeAt Go.RowKit
set_option linter.unusedVariables false

/-- which ports are done, in rows of numbers -/
def DoneL (N : NetD) (U : Int → Int → Bool) (us : List (List Int)) : Prop :=
  us.length = N.ends.length ∧ ∀ v, v < N.ends.length → (nthL us v).length = degAt N v ∧ ∀ i, i < degAt N v → nth (nthL us v) i = if U v i = true then 1 else 0
theorem DoneL.set {N : NetD} {U : Int → Int → Bool} {us : List (List Int)} (h : DoneL N U us) {v i : Nat} (hv : v < N.ends.length) (hi : i < degAt N v) : DoneL N (setU U v i) (setAt us v i 1) := by
  obtain ⟨h1, h2⟩ := h
  refine ⟨by rw [setAt_length, h1], fun a ha => ?_⟩
  obtain ⟨h3, h4⟩ := h2 a ha
  refine ⟨by rw [setAt_row _ (by rw [h1]; exact hv), h3], fun j hj => ?_⟩
  rw [nthL_setAt (by rw [h1]; exact hv)]
  by_cases e : a = v
  · subst e
    rw [if_pos rfl]
    by_cases e2 : j = i
    · subst e2
      rw [if_pos (setU_at _ _ _)]
      simp [nth, h3, hj]
    · rw [setU_ne (by omega)]
      have : nth ((nthL us a).set i 1) j = nth (nthL us a) j := by
        simp only [nth, List.getD_eq_getElem?_getD, List.getElem?_set]
        rw [if_neg (fun e3 => e2 e3.symm)]
      rw [this]
      exact h4 j hj
  · rw [if_neg e, setU_ne (by omega)]
    exact h4 j hj
theorem doneL_zero (N : NetD) : DoneL N (fun _ _ => false) (zeroP N) := by
  refine ⟨zeroP_length N, fun v hv => ?_⟩
  rw [nthL_zeroP hv]
  refine ⟨by simp [zeroRow, degAt], fun i hi => ?_⟩
  rw [show nth (zeroRow N v) i = 0 from nth_replicate _ _ hi]
  rfl
theorem OwnSS.stillT {w w' : World} {base top : Nat} {e : TypeId} {v : Value} {xss : List (List Int)} (h : OwnSS w base top e v xss) (hg : w.grownBy w' none) : OwnSS w' base top e v xss := h.below (grown_to_below hg)
theorem OwnSS.topLe {w : World} {base top : Nat} {e : TypeId} {v : Value} {xss : List (List Int)} (h : OwnSS w base top e v xss) : top ≤ w.heap.size := let ⟨_, _, _, _, _, _, h4, _⟩ := h; h4
theorem stG_skip2 {N : NetD} {sec : Bool} {k m : Nat} (h1 : sec = false) (hp : pairedB N (k, m) = true) : stG N sec k (m + 1) = stG N sec k m := by
  rw [stG_succ, stepT_skip]
  unfold skipB
  rw [h1, hp]; simp
theorem stG_add2 {N : NetD} {sec : Bool} {k m : Nat} (h : at_ (stG N sec k m).seen (k, m) = false) (hp : sec = true ∨ pairedB N (k, m) = false) : stG N sec k (m + 1) = addT N (stG N sec k m) (k, m) := by
  rw [stG_succ, stepT_add]
  unfold skipB
  rw [h]
  rcases hp with rfl | hp
  · rfl
  · rw [hp]; cases sec <;> rfl

/-- what lies far off does not touch rows that lie below -/
theorem OwnSS.farNew {w w' : World} {base top : Nat} {e : TypeId} {v : Value} {xss : List (List Int)} {row : Option Nat} (h : OwnSS w base top e v xss) (hg : w.grownBy w' row) (g : Nat) (hg1 : True) (hr : row = some g) (hv : ∀ k, v.ownBlock = some k → k ≠ g) (ht : top ≤ g) : OwnSS w' base top e v xss := by
  subst hr
  obtain ⟨vs, lo, hi, h1, h2, h3, h4, h5, h6⟩ := h
  refine ⟨vs, lo, hi, h1, h2.kept hg ?_, h3, Nat.le_trans h4 hg.size, fun j hj => ?_, h6⟩
  · cases hvo : v.ownBlock with
    | none => exact .inl rfl
    | some k => right; intro e; injection e with e; exact hv k hvo e
  · obtain ⟨u, a1, a2, a3, a4, a5⟩ := h5 j hj
    exact ⟨u, a1, a2, a3, a4.far hg (by omega) (fun k e => by injection e with e; omega), a5⟩

set_option maxHeartbeats 3000000 in
set_option maxRecDepth 100000 in
theorem orTrails_any (v1 : Value) (N : NetD) (lo1 hi1 : Nat) (w : World) (h1 : Net w lo1 hi1 v1 N) (hh1 : hi1 ≤ w.heap.size) (hg : N.good = true) :
    Calls Tryz.prog 20 #[v1] w fun e w' => ∃ r, e = .returned (r) ∧ IntSSx w' w.heap.size w'.heap.size r ((trails N).map numsP) ∧ Below w.heap.size w w' := by
  obtain ⟨n1, n40⟩ := good_n hg
  have HG := Lib.hid hg; clear hg
  have F1 := Lib.hid h1
  obtain ⟨A1, c1, A1', c1', A1'', c1'', rfl, hc1, hd1, _⟩ := h1.parts
  obtain ⟨b1, o1, _, _, rfl, _⟩ := Net.rowAt F1.out (u := 0) (by omega)
  clear h1
  obtain ⟨WA, HWA⟩ : ∃ W, Hid (W = (w.alloc (.cells #[.slice (some ⟨b1, o1, none⟩) N.ends.length c1, .slice A1' N.ids.length c1', .slice A1'' N.inputs.length c1''] 32))) := ⟨_, Lib.hid rfl⟩
  have hbA : Below w.heap.size w WA := by rw [HWA.out]; exact ((Below.refl _ _).alloc (Nat.le_refl _) _)
  have hsA : w.heap.size + 1 ≤ WA.heap.size := by rw [HWA.out]; simp; try omega
  have bx1 : BoxN WA (w.heap.size) #[.slice (some ⟨b1, o1, none⟩) N.ends.length c1, .slice A1' N.ids.length c1', .slice A1'' N.inputs.length c1''] 32 := by rw [HWA.out]; exact (BoxN.new' _ _ _ (by simp))
  have G1 := Lib.hid (Net.below F1.out hbA hh1); clear F1
  go_enter Tryz.func20, Tryz.ntmps20
  go_upto_region 1 with (fail)
  rw [← HWA.out]; clear HWA
  have kbx1_0 : WA.cell? ⟨w.heap.size, 0, none⟩ = some (.slice (some ⟨b1, o1, none⟩) N.ends.length c1) := bx1.cell 0 (by simp)
  have kbx1_1 : WA.cell? ⟨w.heap.size, 1, none⟩ = some (.slice A1' N.ids.length c1') := bx1.cell 1 (by simp)
  have kbx1_2 : WA.cell? ⟨w.heap.size, 2, none⟩ = some (.slice A1'' N.inputs.length c1'') := bx1.cell 2 (by simp)
  go_wp2_with fail
  clear kbx1_0 kbx1_1 kbx1_2
  refine (orZero_any _ N lo1 hi1 _ G1.out (by omega) HG.out).mono ?_
  rintro e W1 ⟨ro, rfl, hro, hb1⟩
  have hg1 := grown_below hb1; clear hb1
  have hs1 := hg1.size
  have HF1 := Lib.hid ((Turned.refl WA.heap.size WA.heap.size WA).still hg1)
  have O1 := Lib.hid hro; clear hro
  obtain ⟨Ao, co, hvo, hco, hdo⟩ := ISSx.dims O1.out
  rw [zeroP_length] at hvo hco
  subst hvo
  have N_1 := Lib.hid (Net.turned G1.out HF1.out (by omega) (by omega)); clear G1
  have bx1_1 := HF1.out.boxN bx1 (by omega); clear bx1
  have hbA1 := (HF1.out.below_of hbA (by omega) (by omega)); clear hbA HF1
  have hAW : WA.heap.size ≤ W1.heap.size := hs1
  clear hs1
  go_wp2_with fail
  go_loopw [4, 5] (fun ov qv wr => ∃ (q top : Nat) (us : List (List Int)), q ≤ 2 ∧ qv = .int .i64 q ∧ Hid (IntSSx wr WA.heap.size W1.heap.size (.slice Ao N.ends.length co) us) ∧ Hid (DoneL N ((if q = 0 then t0 else if q = 1 then t1 N else passT N true N.ends.length (t1 N))).seen us) ∧ Hid (OwnSS wr W1.heap.size top 23 ov (((if q = 0 then t0 else if q = 1 then t1 N else passT N true N.ends.length (t1 N))).out.map numsP)) ∧ Hid (Turned WA.heap.size W1.heap.size W1 wr)) (fun _ qv _ => 2 - (intOf qv).toNat)
  case atStart => exact ⟨0, W1.heap.size, zeroP N, by omega, rfl, O1, Lib.hid (doneL_zero N), Lib.hid (OwnSS.nil _ _ _ _ (Nat.le_refl _) (Nat.le_refl _)), Lib.hid (Turned.refl _ _ _)⟩
  case round =>
    clear O1
    obtain ⟨q, top, us, hq, rfl, HD, HU, HO, HF⟩ := hrel
    have hsq := HF.out.size
    by_cases hlt : q < 2
    case neg =>
      obtain rfl : q = 2 := by omega
      have HO2 := Lib.hid (show OwnSS wr W1.heap.size top 23 u4 ((found N).map numsP) from HO.out)
      clear HO
      have hok := found_ok HG.out
      have HSRT := Lib.hid (orSorted_any u4 (found N) W1.heap.size wr.heap.size wr HO2.out.ssx hsq (Nat.le_refl _) hok (fun l hl => by
        obtain ⟨s, hs, hc⟩ := found_ch HG.out hl
        rw [hc.head]
        have := hs.1
        omega) ((found_inv HG.out).len HG.out))
      clear hok
      go_wp2_with (go_at_call 36; refine HSRT.out.mono ?_; rintro e W9 ⟨r, rfl, hr, hb9⟩; have HR9 := Lib.hid hr; have HB9 := Lib.hid hb9; have hz9 := hb9.size; clear hr hb9)
      go_ret
      have hb2 : Below w.heap.size w wr := HF.out.below_of hbA1 (by omega) (by omega)
      exact ⟨r, rfl, ISSx.mono HR9.out (by omega) (by omega), hb2.trans (HB9.out.mono (by omega))⟩
    obtain ⟨sec, hst⟩ : ∃ sec : Bool, q = if sec = true then 1 else 0 := by
      rcases (show q = 0 ∨ q = 1 by omega) with rfl | rfl
      · exact ⟨false, rfl⟩
      · exact ⟨true, rfl⟩
    rw [show (if q = 0 then t0 else if q = 1 then t1 N else passT N true N.ends.length (t1 N)) = s0 N sec by rw [hst]; cases sec <;> rfl] at HU HO
    obtain ⟨op, hop⟩ : ∃ op, (((q : Nat) : Int) == 0) = op := ⟨_, rfl⟩
    have HOP := Lib.hid (show op = !sec by rw [← hop, hst]; cases sec <;> rfl)
    have HOPQ := Lib.hid hop
    have HST := Lib.hid hst; clear hst
    have hq2 : (q : Int) < 2 := by omega
    have hq3 : q < 2 := hlt
    clear hlt hop
    have kn0 : wr.cell? ⟨w.heap.size, 0, none⟩ = some (.slice (some ⟨b1, o1, none⟩) N.ends.length c1) := (HF.out.boxN bx1_1 (by omega)).cell 0 (by simp)
    have kn1 : wr.cell? ⟨w.heap.size, 1, none⟩ = some (.slice A1' N.ids.length c1') := (HF.out.boxN bx1_1 (by omega)).cell 1 (by simp)
    have kn2 : wr.cell? ⟨w.heap.size, 2, none⟩ = some (.slice A1'' N.inputs.length c1'') := (HF.out.boxN bx1_1 (by omega)).cell 2 (by simp)
    go_wp2_with fail
    clear kn0 kn1 kn2 hq2
    obtain ⟨wo, rfl⟩ : ∃ wo : World, wo = wr := ⟨_, rfl⟩
    go_loopw [4, 21] (fun ov kv wr => ∃ (k top : Nat) (us : List (List Int)), k ≤ N.ends.length ∧ kv = .int .i64 k ∧ Hid (IntSSx wr WA.heap.size W1.heap.size (.slice Ao N.ends.length co) us) ∧ Hid (DoneL N ((passT N sec k (s0 N sec))).seen us) ∧ Hid (OwnSS wr W1.heap.size top 23 ov (((passT N sec k (s0 N sec))).out.map numsP)) ∧ Hid (Turned WA.heap.size W1.heap.size W1 wr)) (fun _ kv _ => N.ends.length - (intOf kv).toNat)
    case atStart => exact ⟨0, top, us, Nat.zero_le _, rfl, HD, HU, HO, HF⟩
    case round =>
      clear HD HU HO HF hsq
      obtain ⟨k, top, us, hk, rfl, HD, HU, HO, HF⟩ := hrel
      have hsk := HF.out.size
      by_cases hlt : k < N.ends.length
      case neg =>
        obtain rfl : k = N.ends.length := by omega
        go_wp2_with fail
        go_roundw
        case rel =>
          refine ⟨q + 1, top, us, by omega, by go_num, HD, ?_, ?_, HF⟩
          · rw [show (if q + 1 = 0 then t0 else if q + 1 = 1 then t1 N else passT N true N.ends.length (t1 N)) = passT N sec N.ends.length (s0 N sec) by rw [HST.out]; cases sec <;> rfl]
            exact HU
          · rw [show (if q + 1 = 0 then t0 else if q + 1 = 1 then t1 N else passT N true N.ends.length (t1 N)) = passT N sec N.ends.length (s0 N sec) by rw [HST.out]; cases sec <;> rfl]
            exact HO
        case measure => simp [intOf]; omega
      obtain ⟨AR, cR, hbR, qR, hcR, hdR, hRR⟩ := Net.rowIn N_1.out hlt
      replace qR := (HF.out.cell (by omega) (by omega)).trans qR
      clear hRR
      have hd6 := good_deg HG.out hlt
      have hki : (k : Int) < N.ends.length := by omega
      go_wp2_with fail
      clear qR
      obtain ⟨wo2, rfl⟩ : ∃ wo : World, wo = wr := ⟨_, rfl⟩
      go_loopw [4, 28] (fun ov mv wr => ∃ (m top : Nat) (us : List (List Int)), m ≤ (nthL N.ends k).length ∧ mv = .int .i64 m ∧ Hid (IntSSx wr WA.heap.size W1.heap.size (.slice Ao N.ends.length co) us) ∧ Hid (DoneL N ((stG N sec k m)).seen us) ∧ Hid (OwnSS wr W1.heap.size top 23 ov (((stG N sec k m)).out.map numsP)) ∧ Hid (Turned WA.heap.size W1.heap.size W1 wr)) (fun _ mv _ => (nthL N.ends k).length - (intOf mv).toNat)
      case atStart => exact ⟨0, top, us, Nat.zero_le _, rfl, HD, HU, HO, HF⟩
      case round =>
        clear HD HU HO HF hsk
        obtain ⟨m, top, us, hm, rfl, HD, HU, HO, HF⟩ := hrel
        have hsm := HF.out.size
        by_cases hml : m < (nthL N.ends k).length
        case neg =>
          obtain rfl : m = (nthL N.ends k).length := by omega
          go_wp2_with fail
          go_roundw
          case rel => exact ⟨k + 1, top, us, by omega, by go_num, HD, HU, HO, HF⟩
          case measure => simp [intOf]; omega
        obtain ⟨σm, HS⟩ : ∃ s, Hid (stG N sec k m = s) := ⟨_, Lib.hid rfl⟩
        rw [HS.out] at HU HO
        have HOK := Lib.hid (show okP N (k, m) from ⟨hlt, hml⟩)
        have HLEN := Lib.hid (show σm.out.length ≤ 240 by rw [← HS.out]; exact (stG_inv HG.out sec hlt (Nat.le_of_lt hml)).1.len HG.out)
        obtain ⟨hu1, hu2⟩ := HU.out
        obtain ⟨hu3, hu4⟩ := hu2 k hlt
        have hu5 := hu4 m hml
        have hmu : m < (nthL us k).length := by rw [hu3]; exact hml
        obtain ⟨bd, od, bp, op9, cp, hAo, d1, d2, d3, d4, xr, hr1, hr2, xe, _, _⟩ := ISSx.place HD.out (by omega) (show k < us.length by rw [hu1]; exact hlt) hmu
        subst hAo
        rw [hu3] at xr hr1
        rw [hu5] at xe
        unfold degAt at xr hr1
        have hmi : (m : Int) < (nthL N.ends k).length := by omega
        clear hu1 hu2 hu3 hu4 hu5 hmu
        have kn0 : wr.cell? ⟨w.heap.size, 0, none⟩ = some (.slice (some ⟨b1, o1, none⟩) N.ends.length c1) := (HF.out.boxN bx1_1 (by omega)).cell 0 (by simp)
        have kn1 : wr.cell? ⟨w.heap.size, 1, none⟩ = some (.slice A1' N.ids.length c1') := (HF.out.boxN bx1_1 (by omega)).cell 1 (by simp)
        have kn2 : wr.cell? ⟨w.heap.size, 2, none⟩ = some (.slice A1'' N.inputs.length c1'') := (HF.out.boxN bx1_1 (by omega)).cell 2 (by simp)
        have hop := HOPQ.out
        cases hus : σm.seen k m with
        | true =>
          rw [hus] at xe
          rw [if_pos rfl] at xe
          have HUS := Lib.hid hus; clear hus
          go_wp2_with fail
          go_roundw
          case rel => exact ⟨m + 1, top, us, by omega, by go_num, HD, by rw [stG_seen (by unfold at_; rw [HS.out]; exact HUS.out), HS.out]; exact HU, by rw [stG_seen (by unfold at_; rw [HS.out]; exact HUS.out), HS.out]; exact HO, HF⟩
          case measure => simp [intOf]; omega
        | false =>
          rw [hus] at xe
          rw [if_neg (by simp)] at xe
          have HUS := Lib.hid (show at_ (stG N sec k m).seen (k, m) = false by unfold at_; rw [HS.out]; exact hus); clear hus
          have HNN := Lib.hid (Net.turned N_1.out HF.out (by omega) (by omega))
          obtain ⟨l, HLL⟩ : ∃ l, Hid (trl N (k, m) = l) := ⟨_, Lib.hid rfl⟩
          have hcl : Ch N (k, m) l := by rw [← HLL.out]; exact (trl_is HG.out HOK.out).1
          have hll := hcl.len HG.out
          have HCH := Lib.hid hcl; clear hcl
          obtain ⟨z, HZ⟩ : ∃ z, Hid (numsP l = z) := ⟨_, Lib.hid rfl⟩
          have HZL := Lib.hid (show z.length = 2 * l.length by rw [← HZ.out]; exact numsP_length l)
          have HLOW := Lib.hid HO.out.lt
          have HTOP := Lib.hid HO.out.topLe
          rcases Bool.eq_false_or_eq_true sec with hsec | hsec
          · skip
            have HSEC := Lib.hid hsec
            have hopf : op = false := by rw [HOP.out, hsec]; rfl
            subst hopf
            clear hsec
            go_upto_region 13 with fail
            clear kn0 kn1 kn2 xr xe hop
            obtain ⟨wq, rfl⟩ : ∃ wq : World, wq = wr := ⟨_, rfl⟩
            have HTRL := Lib.hid (show Calls Tryz.prog 35 #[.agg #[.slice (some ⟨b1, o1, none⟩) N.ends.length c1, .slice A1' N.ids.length c1', .slice A1'' N.inputs.length c1''], .int .i64 (k : Nat), .int .i64 (m : Nat)] wq fun e w' => ∃ r, e = .returned (r) ∧ IntS w' wq.heap.size w'.heap.size r z ∧ Below wq.heap.size wq w' from by
              have := orTrail_any _ N lo1 hi1 k m wq (Net.turned N_1.out HF.out (by omega) (by omega)) (by have := HF.out.size; omega) HG.out HOK.out
              rw [HLL.out, HZ.out] at this
              exact this)
            have kt0 : wq.cell? ⟨w.heap.size, 0, none⟩ = some (.slice (some ⟨b1, o1, none⟩) N.ends.length c1) := (HF.out.boxN bx1_1 (by omega)).cell 0 (by simp)
            have kt1 : wq.cell? ⟨w.heap.size, 1, none⟩ = some (.slice A1' N.ids.length c1') := (HF.out.boxN bx1_1 (by omega)).cell 1 (by simp)
            have kt2 : wq.cell? ⟨w.heap.size, 2, none⟩ = some (.slice A1'' N.inputs.length c1'') := (HF.out.boxN bx1_1 (by omega)).cell 2 (by simp)
            go_upto_region 14 with (go_at_call 35; refine HTRL.out.mono ?_; rintro e W5 ⟨rv, rfl, hrv, hb5⟩; have hg5 := grown_below hb5; have hz5 := hg5.size; have HG5 := Lib.hid hg5; have HR5 := Lib.hid hrv; clear hg5 hb5 hrv HTRL)
            clear kt0 kt1 kt2
            have HF5 := Lib.hid (HF.out.still HG5.out)
            have HD5 := Lib.hid (ISSx.still HD.out HG5.out (by have := HF.out.size; omega))
            have HO5 := Lib.hid (HO.out.stillT HG5.out)
            obtain ⟨Ar, cr, hvr, hcr, hdr⟩ := HR5.out.dims
            subst hvr
            go_wp2_with fail
            go_loopw [10] (fun jv wr => ∃ (j : Nat) (us : List (List Int)), j ≤ l.length ∧ jv = .int .i64 ((2 * j : Nat) : Int) ∧ Hid (IntSSx wr WA.heap.size W1.heap.size (.slice (some ⟨bd, od, none⟩) N.ends.length co) us) ∧ Hid (DoneL N (markL N σm.seen (l.take j)) us) ∧ Hid (OwnSS wr W1.heap.size top 23 u4 (σm.out.map numsP)) ∧ Hid (IntS wr wq.heap.size W5.heap.size (.slice Ar z.length cr) z) ∧ Hid (W5.heap.size ≤ wr.heap.size) ∧ Hid (Turned WA.heap.size W1.heap.size W1 wr)) (fun jv _ => 2 * l.length - (intOf jv).toNat)
            case atStart => exact ⟨0, us, Nat.zero_le _, rfl, HD5, HU, HO5, HR5, Lib.hid (Nat.le_refl _), HF5⟩
            case round =>
              clear HD5 HO5 HR5 HF5 HD HU HO HF
              obtain ⟨j, us, hj, rfl, HD, HU, HO, HR, HSZ, HF⟩ := hrel
              have hsj := HF.out.size
              have hsz := HSZ.out
              have htop := HTOP.out
              have hWo : wr.heap.size = wr.heap.size := rfl
              by_cases hjl : j < l.length
              case neg =>
                obtain rfl : j = l.length := by omega
                rw [List.take_length] at HU
                have hzz : ¬ ((2 * l.length : Nat) : Int) < z.length := by have := HZL.out; omega
                go_wp2_with (at_builtin; refine append_ss (s := .tmp 96) Tryz.underlying27 Tryz.infoRow (by decide) wr rfl _ rfl HO.out HR.out (by omega) (by omega) (by omega) (fun g e => .inl (by have := (HLOW.out g e).2; omega)) _ (by simp [Act.eval, go_sem]) (by simp [Act.eval, go_sem]) (by have := HLEN.out; simp; omega) ?_; intro v' W9 ho' hg' hat'; have HO9 := Lib.hid ho'; have HG9 := Lib.hid hg'; clear ho' hg' hat')
                go_roundw
                case rel =>
                  have hlow : ∀ g, u4.ownBlock = some g → W1.heap.size ≤ g := fun g e => (HO.out.lt g e).1
                  refine ⟨m + 1, W5.heap.size, us, by omega, by go_num, Lib.hid (ISSx.far HD.out HG9.out (by omega) (fun g e => .inr (hlow g e))), ?_, ?_, Lib.hid (HF.out.grown HG9.out (fun g e => .inr (hlow g e)))⟩
                  · rw [stG_add2 HUS.out (.inl HSEC.out), HS.out]
                    unfold addT
                    rw [HLL.out]
                    exact HU
                  · rw [stG_add2 HUS.out (.inl HSEC.out), HS.out]
                    unfold addT
                    rw [HLL.out, List.map_append, ← HZ.out] at *
                    exact Lib.hid HO9.out
                case measure => simp [intOf]; omega
              obtain ⟨⟨pn, pp⟩, HP⟩ : ∃ p, Hid (nthP l j = p) := ⟨_, Lib.hid rfl⟩
              have HPO := Lib.hid (show okP N (pn, pp) by rw [← HP.out]; exact HCH.out.ok _ (nthP_mem hjl))
              obtain ⟨hpn, hpp⟩ := HPO.out
              dsimp only at hpn hpp
              unfold degAt at hpp
              obtain ⟨n9, HN9⟩ : ∃ n9, Hid (2 * j = n9) := ⟨_, Lib.hid rfl⟩
              rw [HN9.out]
              have hz9 : n9 + 1 < z.length := by have := HN9.out; have := HZL.out; omega
              obtain ⟨y1, y2⟩ := nth_numsP l j hjl
              rw [HZ.out, HN9.out, HP.out] at y1 y2
              dsimp only at y1 y2
              obtain ⟨br, or9, rfl, _, hbr, x1, _⟩ := HR.out.opened (j := n9) (by omega)
              have x2 := (HR.out.at_ (j := n9 + 1) hz9).1
              rw [y1] at x1
              rw [y2] at x2
              rw [← Nat.add_assoc] at x2
              have HX1 := Lib.hid x1; have HX2 := Lib.hid x2
              clear x1 x2 y1 y2
              obtain ⟨AQ, cQ, hbQ, qQ, hcQ, hdQ, hRQ⟩ := Net.rowIn N_1.out hpn
              replace qQ := (HF.out.cell (by omega) (by omega)).trans qQ
              have RQ := Lib.hid hRQ; clear hRQ
              obtain ⟨bQ, oQ, rfl, _, hbQ', eQ, eQ'⟩ := (EndS.turned RQ.out HF.out (by omega) (by omega)).opened hpp
              obtain ⟨tt, tr, etQ, htt, htr, euQ⟩ := good_end HG.out hpn hpp
              rw [etQ] at eQ eQ'
              dsimp only at eQ eQ'
              have HEP := Lib.hid (show ep N (pn, pp) = (tt, tr) by unfold ep endAt; dsimp only; rw [etQ]; simp)
              clear etQ euQ
              have hpni : (pn : Int) < N.ends.length := by omega
              have hppi : (pp : Int) < (nthL N.ends pn).length := by omega
              have htti : (tt : Int) < N.ends.length := by omega
              have htri : (tr : Int) < (nthL N.ends tt).length := by omega
              have i0 : (n9 : Int) < z.length := by omega
              have i1 : 0 ≤ (n9 : Int) + 1 ∧ (n9 : Int) + 1 < z.length := by omega
              have w1 : IntKind.i64.wrap ((n9 : Int) + 1) = (n9 : Int) + 1 := by have := hdr; simp [IntKind.wrap, IntKind.bits, IntKind.signed]; omega
              have HZ9 := Lib.hid hz9; clear hz9
              go_wp2_with fail
              refine wp_region_U (fun w' => w'.cell? ⟨w.heap.size, 0, none⟩ = some (.slice (some ⟨b1, o1, none⟩) N.ends.length c1) ∧ w'.cell? ⟨b1, o1 + pn, none⟩ = some (.slice (some ⟨bQ, oQ, none⟩) (nthL N.ends pn).length cQ) ∧ w'.cell? ⟨bQ, oQ + pp * 2, none⟩ = some (.int .i64 (tt : Nat)) ∧ w'.cell? ⟨bQ, oQ + pp * 2 + 1, none⟩ = some (.int .i64 (tr : Nat)) ∧ w'.cell? ⟨br, or9 + n9, none⟩ = some (.int .i64 (pn : Nat)) ∧ w'.cell? ⟨br, or9 + n9 + 1, none⟩ = some (.int .i64 (pp : Nat))) [16] (by kernel_rfl) ?_
              refine nameU ?_
              intro W21 HW21
              have hg21 : wr.grownBy W21 none := by rw [HW21.out]; exact grown_drew _
              clear HW21
              have HGV := Lib.hid hg21
              have hs21 := hg21.size
              have HF21 := Lib.hid (HF.out.still hg21); clear HF
              have DD21 := Lib.hid (ISSx.still HD.out hg21 (by omega)); clear HD
              have SS21 := Lib.hid (OwnSS.still HO.out hg21); clear HO
              have RZ21 := Lib.hid (IntS.still HR.out hg21 (by omega)); clear HR
              have hS22 : W21.cell? ⟨w.heap.size, 0, none⟩ = some (.slice (some ⟨b1, o1, none⟩) N.ends.length c1) ∧ W21.cell? ⟨b1, o1 + pn, none⟩ = some (.slice (some ⟨bQ, oQ, none⟩) (nthL N.ends pn).length cQ) ∧ W21.cell? ⟨bQ, oQ + pp * 2, none⟩ = some (.int .i64 (tt : Nat)) ∧ W21.cell? ⟨bQ, oQ + pp * 2 + 1, none⟩ = some (.int .i64 (tr : Nat)) ∧ W21.cell? ⟨br, or9 + n9, none⟩ = some (.int .i64 (pn : Nat)) ∧ W21.cell? ⟨br, or9 + n9 + 1, none⟩ = some (.int .i64 (pp : Nat)) := ⟨(HF21.out.boxN bx1_1 (by omega)).cell 0 (by simp), (HGV.out.cell qQ (by simp)), (HGV.out.cell eQ (by simp)), (HGV.out.cell eQ' (by simp)), (HGV.out.cell HX1.out (by simp)), (HGV.out.cell HX2.out (by simp))⟩
              refine anyU_take (i := 0) (v := .pointer (some ⟨w.heap.size, 0, none⟩)) rfl (by kernel_rfl) (by kernel_rfl) (by kernel_rfl) (fun _ _ _ h => h) ⟨by rfl, fun w' hS' => (by obtain ⟨s1, s2, s3, s4, s5, s6⟩ := hS'; go_simp)⟩ hS22 ?_
              simp only [List.getElem_toArray, List.getElem_cons_zero, Act.put, List.setIfInBounds_toArray, List.set_cons_zero, List.set_cons_succ]
              refine anyU_take (i := 1) (v := .slice (some ⟨b1, o1, none⟩) N.ends.length c1) rfl (by kernel_rfl) (by kernel_rfl) (by kernel_rfl) (fun _ _ _ h => h) ⟨by rfl, fun w' hS' => (by obtain ⟨s1, s2, s3, s4, s5, s6⟩ := hS'; go_simp)⟩ hS22 ?_
              simp only [List.getElem_toArray, List.getElem_cons_succ, List.getElem_cons_zero, Act.put, List.setIfInBounds_toArray, List.set_cons_zero, List.set_cons_succ]
              refine anyU_take (i := 2) (v := .slice (some ⟨br, or9, none⟩) z.length cr) rfl (by kernel_rfl) (by kernel_rfl) (by kernel_rfl) (fun _ _ _ h => h) ⟨by rfl, fun w' hS' => (by obtain ⟨s1, s2, s3, s4, s5, s6⟩ := hS'; go_simp)⟩ hS22 ?_
              simp only [List.getElem_toArray, List.getElem_cons_succ, List.getElem_cons_zero, Act.put, List.setIfInBounds_toArray, List.set_cons_zero, List.set_cons_succ]
              refine anyU_take (i := 3) (v := .int .i64 (n9 : Nat)) rfl (by kernel_rfl) (by kernel_rfl) (by kernel_rfl) (fun _ _ _ h => h) ⟨by rfl, fun w' hS' => (by obtain ⟨s1, s2, s3, s4, s5, s6⟩ := hS'; go_simp)⟩ hS22 ?_
              simp only [List.getElem_toArray, List.getElem_cons_succ, List.getElem_cons_zero, Act.put, List.setIfInBounds_toArray, List.set_cons_zero, List.set_cons_succ]
              refine anyU_take (i := 4) (v := .pointer (some ⟨br, or9 + n9, none⟩)) rfl (by kernel_rfl) (by kernel_rfl) (by kernel_rfl) (fun _ _ _ h => h) ⟨by rfl, fun w' hS' => (by obtain ⟨s1, s2, s3, s4, s5, s6⟩ := hS'; simp [go_sem, i0])⟩ hS22 ?_
              simp only [List.getElem_toArray, List.getElem_cons_succ, List.getElem_cons_zero, Act.put, List.setIfInBounds_toArray, List.set_cons_zero, List.set_cons_succ]
              refine anyU_take (i := 5) (v := .int .i64 (pn : Nat)) rfl (by kernel_rfl) (by kernel_rfl) (by kernel_rfl) (fun _ _ _ h => h) ⟨by rfl, fun w' hS' => (by obtain ⟨s1, s2, s3, s4, s5, s6⟩ := hS'; go_simp)⟩ hS22 ?_
              simp only [List.getElem_toArray, List.getElem_cons_succ, List.getElem_cons_zero, Act.put, List.setIfInBounds_toArray, List.set_cons_zero, List.set_cons_succ]
              refine anyU_take (i := 6) (v := .pointer (some ⟨b1, o1 + pn, none⟩)) rfl (by kernel_rfl) (by kernel_rfl) (by kernel_rfl) (fun _ _ _ h => h) ⟨by rfl, fun w' hS' => (by obtain ⟨s1, s2, s3, s4, s5, s6⟩ := hS'; simp [go_sem, hpni])⟩ hS22 ?_
              simp only [List.getElem_toArray, List.getElem_cons_succ, List.getElem_cons_zero, Act.put, List.setIfInBounds_toArray, List.set_cons_zero, List.set_cons_succ]
              refine anyU_take (i := 7) (v := .slice (some ⟨bQ, oQ, none⟩) (nthL N.ends pn).length cQ) rfl (by kernel_rfl) (by kernel_rfl) (by kernel_rfl) (fun _ _ _ h => h) ⟨by rfl, fun w' hS' => (by obtain ⟨s1, s2, s3, s4, s5, s6⟩ := hS'; go_simp)⟩ hS22 ?_
              simp only [List.getElem_toArray, List.getElem_cons_succ, List.getElem_cons_zero, Act.put, List.setIfInBounds_toArray, List.set_cons_zero, List.set_cons_succ]
              refine anyU_take (i := 8) (v := .slice (some ⟨br, or9, none⟩) z.length cr) rfl (by kernel_rfl) (by kernel_rfl) (by kernel_rfl) (fun _ _ _ h => h) ⟨by rfl, fun w' hS' => (by obtain ⟨s1, s2, s3, s4, s5, s6⟩ := hS'; go_simp)⟩ hS22 ?_
              simp only [List.getElem_toArray, List.getElem_cons_succ, List.getElem_cons_zero, Act.put, List.setIfInBounds_toArray, List.set_cons_zero, List.set_cons_succ]
              refine anyU_take (i := 9) (v := .int .i64 (n9 : Nat)) rfl (by kernel_rfl) (by kernel_rfl) (by kernel_rfl) (fun _ _ _ h => h) ⟨by rfl, fun w' hS' => (by obtain ⟨s1, s2, s3, s4, s5, s6⟩ := hS'; go_simp)⟩ hS22 ?_
              simp only [List.getElem_toArray, List.getElem_cons_succ, List.getElem_cons_zero, Act.put, List.setIfInBounds_toArray, List.set_cons_zero, List.set_cons_succ]
              refine anyU_take (i := 10) (v := .int .i64 ((n9 : Int) + 1)) rfl (by kernel_rfl) (by kernel_rfl) (by kernel_rfl) (fun _ _ _ h => h) ⟨by rfl, fun w' hS' => (by obtain ⟨s1, s2, s3, s4, s5, s6⟩ := hS'; simp [go_sem, w1])⟩ hS22 ?_
              simp only [List.getElem_toArray, List.getElem_cons_succ, List.getElem_cons_zero, Act.put, List.setIfInBounds_toArray, List.set_cons_zero, List.set_cons_succ]
              refine anyU_take (i := 11) (v := .pointer (some ⟨br, or9 + n9 + 1, none⟩)) rfl (by kernel_rfl) (by kernel_rfl) (by kernel_rfl) (fun _ _ _ h => h) ⟨by rfl, fun w' hS' => (by obtain ⟨s1, s2, s3, s4, s5, s6⟩ := hS'; simp [go_sem, i1, Nat.add_assoc])⟩ hS22 ?_
              simp only [List.getElem_toArray, List.getElem_cons_succ, List.getElem_cons_zero, Act.put, List.setIfInBounds_toArray, List.set_cons_zero, List.set_cons_succ]
              refine anyU_take (i := 12) (v := .int .i64 (pp : Nat)) rfl (by kernel_rfl) (by kernel_rfl) (by kernel_rfl) (fun _ _ _ h => h) ⟨by rfl, fun w' hS' => (by obtain ⟨s1, s2, s3, s4, s5, s6⟩ := hS'; go_simp)⟩ hS22 ?_
              simp only [List.getElem_toArray, List.getElem_cons_succ, List.getElem_cons_zero, Act.put, List.setIfInBounds_toArray, List.set_cons_zero, List.set_cons_succ]
              refine anyU_take (i := 13) (v := .pointer (some ⟨bQ, oQ + pp * 2, none⟩)) rfl (by kernel_rfl) (by kernel_rfl) (by kernel_rfl) (fun _ _ _ h => h) ⟨by rfl, fun w' hS' => (by obtain ⟨s1, s2, s3, s4, s5, s6⟩ := hS'; simp [go_sem, hppi])⟩ hS22 ?_
              simp only [List.getElem_toArray, List.getElem_cons_succ, List.getElem_cons_zero, Act.put, List.setIfInBounds_toArray, List.set_cons_zero, List.set_cons_succ]
              refine anyU_take (i := 14) (v := .agg #[.int .i64 (tt : Nat), .int .i64 (tr : Nat)]) rfl (by kernel_rfl) (by kernel_rfl) (by kernel_rfl) (fun _ _ _ h => h) ⟨by rfl, fun w' hS' => (by obtain ⟨s1, s2, s3, s4, s5, s6⟩ := hS'; go_simp)⟩ hS22 ?_
              simp only [List.getElem_toArray, List.getElem_cons_succ, List.getElem_cons_zero, Act.put, List.setIfInBounds_toArray, List.set_cons_zero, List.set_cons_succ]
              refine anyU_ready (rs := [15]) (by kernel_rfl) (by simp) ?_
              refine ReadyU.cons (i := 15) rfl (fun K hK => ?_) ReadyU.nil
              simp only [List.getElem_toArray, List.getElem_cons_succ, List.getElem_cons_zero]
              refine ite_is (by rfl) ?_
              simp [go_sem]
              refine hK.out _ _ ⟨fun _ => let ⟨s1, s2, s3, s4, s5, s6⟩ := hS22; ⟨(grown_alloc _ _).cell s1 (by simp), (grown_alloc _ _).cell s2 (by simp), (grown_alloc _ _).cell s3 (by simp), (grown_alloc _ _).cell s4 (by simp), (grown_alloc _ _).cell s5 (by simp), (grown_alloc _ _).cell s6 (by simp)⟩, ?_⟩
              clear hK K
              try simp only [List.getElem_toArray, List.getElem_cons_succ, List.getElem_cons_zero, Act.put, List.setIfInBounds_toArray, List.set_cons_zero, List.set_cons_succ]
              refine nameU ?_
              intro W23 HW23
              have hg23 : W21.grownBy W23 none := by rw [HW23.out]; exact grown_alloc _ _
              have HG23 := Lib.hid hg23
              have hs23 := hg23.size
              have HF23 := Lib.hid (HF21.out.still hg23); clear HF21
              have DD23 := Lib.hid (ISSx.still DD21.out hg23 (by omega)); clear DD21
              have SS23 := Lib.hid (OwnSS.still SS21.out hg23); clear SS21
              have RZ23 := Lib.hid (IntS.still RZ21.out hg23 (by omega)); clear RZ21
              have HY := Lib.hid (show BoxN W23 W21.heap.size #[.int .i64 0, .int .i64 0] 48 by rw [HW23.out]; exact BoxN.new _ _ _)
              clear HW23
              have r0 := HY.out.cell 0 (by simp)
              have r1 := HY.out.cell 1 (by simp)
              have f0 := HY.out.frozen 0
              have f1 := HY.out.frozen 1
              dsimp at r0 r1
              refine anyU_ready (rs := [16]) (by kernel_rfl) (by simp) ?_
              refine ReadyU.cons (i := 16) rfl (fun K hK => ?_) ReadyU.nil
              simp only [List.getElem_toArray, List.getElem_cons_succ, List.getElem_cons_zero]
              refine ite_is (by rfl) ?_
              simp [go_sem, r0, r1, f0, f1]
              refine hK.out _ _ ⟨fun h => absurd h (by decide), ?_⟩
              clear hK K
              try simp only [List.getElem_toArray, List.getElem_cons_succ, List.getElem_cons_zero, Act.put, List.setIfInBounds_toArray, List.set_cons_zero, List.set_cons_succ]
              refine nameU ?_
              intro W24 HW24
              have hg24 : W23.grownBy W24 (some W21.heap.size) := by rw [HW24.out]; exact grown_set2 _ _ _ _ _ _
              have HBE := Lib.hid (show BoxN W24 W21.heap.size #[.int .i64 (tt : Nat), .int .i64 (tr : Nat)] 48 by rw [HW24.out]; exact (HY.out.set 0 _).set 1 _)
              clear HW24 r0 r1 f0 f1 HY hS22
              have hado : wr.heap.size ≤ W21.heap.size := by omega
              have SS24 := Lib.hid (show OwnSS W24 W1.heap.size top 23 u4 (σm.out.map numsP) from SS23.out.farNew hg24 W21.heap.size (by omega) rfl (fun g e => by have := (HLOW.out g e).2; omega) (by omega)); clear SS23
              have hs24 := hg24.size
              have HF24 := Lib.hid (HF23.out.grown hg24 (fun g hg => by cases hg; omega)); clear HF23
              have DD24 := Lib.hid (ISSx.far DD23.out hg24 (by omega) (fun g hg => by cases hg; omega)); clear DD23
              have RZ24 := Lib.hid (IntS.far RZ23.out hg24 (by omega) (fun g hg => by cases hg; omega)); clear RZ23
              have hg9a : wr.grownBy W24 none := ⟨by rw [hg24.os, HG23.out.os, HGV.out.os], by rw [hg24.tape, HG23.out.tape, HGV.out.tape], by rw [hg24.output, HG23.out.output, HGV.out.output], by omega, fun k hk _ => (hg24.block k (by omega) (by intro e; injection e; omega)).trans ((HG23.out.block k (by omega) (by simp)).trans (HGV.out.block k hk (by simp)))⟩
              have HG9A := Lib.hid hg9a
              clear hg9a HGV HG23 hg24
              refine anyU_done (by kernel_rfl) ?_ _
              go_wp2_with fail
              have hx1 := HG9A.out.cell HX1.out (by simp)
              have hx2 := HG9A.out.cell HX2.out (by simp)
              obtain ⟨hu1, hu2⟩ := HU.out
              obtain ⟨hu3, hu4⟩ := hu2 pn hpn
              obtain ⟨_, _, b2, o2, c2, hA2, e1, e2, e3, e4, xr2, hr1, hr2, xe2, xf2, hset2⟩ := ISSx.place DD24.out (by omega) (show pn < us.length by rw [hu1]; exact hpn) (show pp < (nthL us pn).length by rw [hu3]; exact hpp)
              injection hA2 with hA2
              injection hA2 with a1 a2
              subst a1; subst a2
              rw [hu3] at xr2 hr1
              unfold degAt at xr2 hr1
              have HU2 := Lib.hid (HU.out.set hpn hpp)
              have HSET2 := Lib.hid (hset2 1)
              clear hu1 hu2 hu3 hu4 hset2
              refine wp_region_U (fun w' => w'.cell? ⟨br, or9 + n9, none⟩ = some (.int .i64 (pn : Nat)) ∧ w'.cell? ⟨br, or9 + n9 + 1, none⟩ = some (.int .i64 (pp : Nat)) ∧ w'.cell? ⟨bd, od + pn, none⟩ = some (.slice (some ⟨b2, o2, none⟩) (nthL N.ends pn).length c2)) [13] (by kernel_rfl) ?_
              refine nameU ?_
              intro W25 HW25
              have hg25 : W24.grownBy W25 none := by rw [HW25.out]; exact grown_drew _
              clear HW25
              have HGV := Lib.hid hg25
              have hs25 := hg25.size
              have HF25 := Lib.hid (HF24.out.still hg25); clear HF24
              have DD25 := Lib.hid (ISSx.still DD24.out hg25 (by omega)); clear DD24
              have SS25 := Lib.hid (OwnSS.still SS24.out hg25); clear SS24
              have RZ25 := Lib.hid (IntS.still RZ24.out hg25 (by omega)); clear RZ24
              have BE25 := Lib.hid (BoxN.still HBE.out hg25); clear HBE
              have hS26 : W25.cell? ⟨br, or9 + n9, none⟩ = some (.int .i64 (pn : Nat)) ∧ W25.cell? ⟨br, or9 + n9 + 1, none⟩ = some (.int .i64 (pp : Nat)) ∧ W25.cell? ⟨bd, od + pn, none⟩ = some (.slice (some ⟨b2, o2, none⟩) (nthL N.ends pn).length c2) := ⟨(HGV.out.cell hx1 (by simp)), (HGV.out.cell hx2 (by simp)), (HGV.out.cell xr2 (by simp))⟩
              refine anyU_take (i := 0) (v := .slice (some ⟨bd, od, none⟩) N.ends.length co) rfl (by kernel_rfl) (by kernel_rfl) (by kernel_rfl) (fun _ _ _ h => h) ⟨by rfl, fun w' hS' => (by obtain ⟨s1, s2, s3⟩ := hS'; go_simp)⟩ hS26 ?_
              simp only [List.getElem_toArray, List.getElem_cons_zero, Act.put, List.setIfInBounds_toArray, List.set_cons_zero, List.set_cons_succ]
              refine anyU_take (i := 1) (v := .slice (some ⟨br, or9, none⟩) z.length cr) rfl (by kernel_rfl) (by kernel_rfl) (by kernel_rfl) (fun _ _ _ h => h) ⟨by rfl, fun w' hS' => (by obtain ⟨s1, s2, s3⟩ := hS'; go_simp)⟩ hS26 ?_
              simp only [List.getElem_toArray, List.getElem_cons_succ, List.getElem_cons_zero, Act.put, List.setIfInBounds_toArray, List.set_cons_zero, List.set_cons_succ]
              refine anyU_take (i := 2) (v := .int .i64 (n9 : Nat)) rfl (by kernel_rfl) (by kernel_rfl) (by kernel_rfl) (fun _ _ _ h => h) ⟨by rfl, fun w' hS' => (by obtain ⟨s1, s2, s3⟩ := hS'; go_simp)⟩ hS26 ?_
              simp only [List.getElem_toArray, List.getElem_cons_succ, List.getElem_cons_zero, Act.put, List.setIfInBounds_toArray, List.set_cons_zero, List.set_cons_succ]
              refine anyU_take (i := 3) (v := .pointer (some ⟨br, or9 + n9, none⟩)) rfl (by kernel_rfl) (by kernel_rfl) (by kernel_rfl) (fun _ _ _ h => h) ⟨by rfl, fun w' hS' => (by obtain ⟨s1, s2, s3⟩ := hS'; simp [go_sem, i0])⟩ hS26 ?_
              simp only [List.getElem_toArray, List.getElem_cons_succ, List.getElem_cons_zero, Act.put, List.setIfInBounds_toArray, List.set_cons_zero, List.set_cons_succ]
              refine anyU_take (i := 4) (v := .int .i64 (pn : Nat)) rfl (by kernel_rfl) (by kernel_rfl) (by kernel_rfl) (fun _ _ _ h => h) ⟨by rfl, fun w' hS' => (by obtain ⟨s1, s2, s3⟩ := hS'; go_simp)⟩ hS26 ?_
              simp only [List.getElem_toArray, List.getElem_cons_succ, List.getElem_cons_zero, Act.put, List.setIfInBounds_toArray, List.set_cons_zero, List.set_cons_succ]
              refine anyU_take (i := 5) (v := .pointer (some ⟨bd, od + pn, none⟩)) rfl (by kernel_rfl) (by kernel_rfl) (by kernel_rfl) (fun _ _ _ h => h) ⟨by rfl, fun w' hS' => (by obtain ⟨s1, s2, s3⟩ := hS'; simp [go_sem, hpni])⟩ hS26 ?_
              simp only [List.getElem_toArray, List.getElem_cons_succ, List.getElem_cons_zero, Act.put, List.setIfInBounds_toArray, List.set_cons_zero, List.set_cons_succ]
              refine anyU_take (i := 6) (v := .slice (some ⟨b2, o2, none⟩) (nthL N.ends pn).length c2) rfl (by kernel_rfl) (by kernel_rfl) (by kernel_rfl) (fun _ _ _ h => h) ⟨by rfl, fun w' hS' => (by obtain ⟨s1, s2, s3⟩ := hS'; go_simp)⟩ hS26 ?_
              simp only [List.getElem_toArray, List.getElem_cons_succ, List.getElem_cons_zero, Act.put, List.setIfInBounds_toArray, List.set_cons_zero, List.set_cons_succ]
              refine anyU_take (i := 7) (v := .slice (some ⟨br, or9, none⟩) z.length cr) rfl (by kernel_rfl) (by kernel_rfl) (by kernel_rfl) (fun _ _ _ h => h) ⟨by rfl, fun w' hS' => (by obtain ⟨s1, s2, s3⟩ := hS'; go_simp)⟩ hS26 ?_
              simp only [List.getElem_toArray, List.getElem_cons_succ, List.getElem_cons_zero, Act.put, List.setIfInBounds_toArray, List.set_cons_zero, List.set_cons_succ]
              refine anyU_take (i := 8) (v := .int .i64 (n9 : Nat)) rfl (by kernel_rfl) (by kernel_rfl) (by kernel_rfl) (fun _ _ _ h => h) ⟨by rfl, fun w' hS' => (by obtain ⟨s1, s2, s3⟩ := hS'; go_simp)⟩ hS26 ?_
              simp only [List.getElem_toArray, List.getElem_cons_succ, List.getElem_cons_zero, Act.put, List.setIfInBounds_toArray, List.set_cons_zero, List.set_cons_succ]
              refine anyU_take (i := 9) (v := .int .i64 ((n9 : Int) + 1)) rfl (by kernel_rfl) (by kernel_rfl) (by kernel_rfl) (fun _ _ _ h => h) ⟨by rfl, fun w' hS' => (by obtain ⟨s1, s2, s3⟩ := hS'; simp [go_sem, w1])⟩ hS26 ?_
              simp only [List.getElem_toArray, List.getElem_cons_succ, List.getElem_cons_zero, Act.put, List.setIfInBounds_toArray, List.set_cons_zero, List.set_cons_succ]
              refine anyU_take (i := 10) (v := .pointer (some ⟨br, or9 + n9 + 1, none⟩)) rfl (by kernel_rfl) (by kernel_rfl) (by kernel_rfl) (fun _ _ _ h => h) ⟨by rfl, fun w' hS' => (by obtain ⟨s1, s2, s3⟩ := hS'; simp [go_sem, i1, Nat.add_assoc])⟩ hS26 ?_
              simp only [List.getElem_toArray, List.getElem_cons_succ, List.getElem_cons_zero, Act.put, List.setIfInBounds_toArray, List.set_cons_zero, List.set_cons_succ]
              refine anyU_take (i := 11) (v := .int .i64 (pp : Nat)) rfl (by kernel_rfl) (by kernel_rfl) (by kernel_rfl) (fun _ _ _ h => h) ⟨by rfl, fun w' hS' => (by obtain ⟨s1, s2, s3⟩ := hS'; go_simp)⟩ hS26 ?_
              simp only [List.getElem_toArray, List.getElem_cons_succ, List.getElem_cons_zero, Act.put, List.setIfInBounds_toArray, List.set_cons_zero, List.set_cons_succ]
              refine anyU_take (i := 12) (v := .pointer (some ⟨b2, o2 + pp, none⟩)) rfl (by kernel_rfl) (by kernel_rfl) (by kernel_rfl) (fun _ _ _ h => h) ⟨by rfl, fun w' hS' => (by obtain ⟨s1, s2, s3⟩ := hS'; simp [go_sem, hppi])⟩ hS26 ?_
              simp only [List.getElem_toArray, List.getElem_cons_succ, List.getElem_cons_zero, Act.put, List.setIfInBounds_toArray, List.set_cons_zero, List.set_cons_succ]
              obtain ⟨hu1, hu2⟩ := HU.out
              obtain ⟨hu3, hu4⟩ := hu2 pn hpn
              obtain ⟨_, _, b2', o2', c2', hA2, e1', e2', e3', e4', xr2', hr1', hr2', xe2', xf2', hset2⟩ := ISSx.place DD25.out (by omega) (show pn < us.length by rw [hu1]; exact hpn) (show pp < (nthL us pn).length by rw [hu3]; exact hpp)
              injection hA2 with hA2
              injection hA2 with a1 a2
              subst a1; subst a2
              have hsame := (HGV.out.cell xr2 (by simp)).symm.trans xr2'
              rw [hu3] at hsame
              injection hsame with hsame
              injection hsame with hsame _ hsame3
              injection hsame with hsame
              injection hsame with a1 a2
              subst a1; subst a2
              have HSET3 := Lib.hid (hset2 1)
              clear hu1 hu2 hu3 hu4 hset2 xr2' hr1' hr2' xe2' xf2' hsame3 HSET2
              have z1 := HGV.out.cell xe2 (by simp)
              have z2 := (World.frozen?_of_block (a := ⟨b2, o2 + pp, none⟩) (HGV.out.block b2 (by omega) (by simp))).trans xf2
              refine anyU_ready (rs := [13]) (by kernel_rfl) (by simp) ?_
              refine ReadyU.cons (i := 13) rfl (fun K hK => ?_) ReadyU.nil
              simp only [List.getElem_toArray, List.getElem_cons_succ, List.getElem_cons_zero]
              refine ite_is (by rfl) ?_
              simp [go_sem, z1, z2]
              refine hK.out _ _ ⟨fun h => absurd h (by decide), ?_⟩
              clear hK K
              try simp only [List.getElem_toArray, List.getElem_cons_succ, List.getElem_cons_zero, Act.put, List.setIfInBounds_toArray, List.set_cons_zero, List.set_cons_succ]
              refine nameU ?_
              intro W27 HW27
              have hg27 : W25.grownBy W27 (some b2) := by rw [HW27.out]; exact grown_set _ ⟨b2, o2 + pp, none⟩ _
              have HDN := Lib.hid (show IntSSx W27 WA.heap.size W1.heap.size (.slice (some ⟨bd, od, none⟩) N.ends.length co) (setAt us pn pp 1) by rw [HW27.out]; exact HSET3.out)
              clear HW27 z1 z2 hS26 DD25
              have hs27 := hg27.size
              have HF27 := Lib.hid (HF25.out.grown hg27 (fun g hg => by cases hg; omega)); clear HF25
              have SS27 := Lib.hid (OwnSS.far SS25.out hg27 (fun g hg => by cases hg; omega)); clear SS25
              have RZ27 := Lib.hid (IntS.far RZ25.out hg27 (by omega) (fun g hg => by cases hg; omega)); clear RZ25
              have BE27 := Lib.hid (BoxN.far BE25.out hg27 (fun g hg => by cases hg; omega)); clear BE25
              have HGS := Lib.hid hg27
              clear hg27
              refine anyU_done (by kernel_rfl) ?_ _
              go_wp2_with fail
              clear HSET3 HU xr2 hx1 hx2 xe2 xf2
              obtain ⟨hu1, hu2⟩ := HU2.out
              obtain ⟨hu3, hu4⟩ := hu2 tt htt
              have HU3 := Lib.hid (HU2.out.set htt htr)
              clear HGV
              obtain ⟨_, _, b4, o4, c4, hA2, _, _, f3, f4, xr4, hr3, hr4, xe4, xf4, hset4⟩ := ISSx.place HDN.out (by omega) (show tt < (setAt us pn pp 1).length by rw [hu1]; exact htt) (show tr < (nthL (setAt us pn pp 1) tt).length by rw [hu3]; exact htr)
              injection hA2 with hA2
              injection hA2 with a1 a2
              subst a1; subst a2
              rw [hu3] at xr4 hr3
              unfold degAt at xr4 hr3
              clear hset4
              refine wp_region_U (fun w' => w'.cell? ⟨W21.heap.size, 0, none⟩ = some (.int .i64 (tt : Nat)) ∧ w'.cell? ⟨W21.heap.size, 1, none⟩ = some (.int .i64 (tr : Nat)) ∧ w'.cell? ⟨bd, od + tt, none⟩ = some (.slice (some ⟨b4, o4, none⟩) (nthL N.ends tt).length c4)) [8] (by kernel_rfl) ?_
              refine nameU ?_
              intro W28 HW28
              have hg28 : W27.grownBy W28 none := by rw [HW28.out]; exact grown_drew _
              clear HW28
              have HGV := Lib.hid hg28
              have hs28 := hg28.size
              have HF28 := Lib.hid (HF27.out.still hg28); clear HF27
              have DD28 := Lib.hid (ISSx.still HDN.out hg28 (by omega)); clear HDN
              have SS28 := Lib.hid (OwnSS.still SS27.out hg28); clear SS27
              have RZ28 := Lib.hid (IntS.still RZ27.out hg28 (by omega)); clear RZ27
              have BE28 := Lib.hid (BoxN.still BE27.out hg28); clear BE27
              have hS29 : W28.cell? ⟨W21.heap.size, 0, none⟩ = some (.int .i64 (tt : Nat)) ∧ W28.cell? ⟨W21.heap.size, 1, none⟩ = some (.int .i64 (tr : Nat)) ∧ W28.cell? ⟨bd, od + tt, none⟩ = some (.slice (some ⟨b4, o4, none⟩) (nthL N.ends tt).length c4) := ⟨BE28.out.cell 0 (by simp), BE28.out.cell 1 (by simp), (HGV.out.cell xr4 (by simp))⟩
              refine anyU_take (i := 0) (v := .slice (some ⟨bd, od, none⟩) N.ends.length co) rfl (by kernel_rfl) (by kernel_rfl) (by kernel_rfl) (fun _ _ _ h => h) ⟨by rfl, fun w' hS' => (by obtain ⟨s1, s2, s3⟩ := hS'; go_simp)⟩ hS29 ?_
              simp only [List.getElem_toArray, List.getElem_cons_zero, Act.put, List.setIfInBounds_toArray, List.set_cons_zero, List.set_cons_succ]
              refine anyU_take (i := 1) (v := .pointer (some ⟨W21.heap.size, 0, none⟩)) rfl (by kernel_rfl) (by kernel_rfl) (by kernel_rfl) (fun _ _ _ h => h) ⟨by rfl, fun w' hS' => (by obtain ⟨s1, s2, s3⟩ := hS'; go_simp)⟩ hS29 ?_
              simp only [List.getElem_toArray, List.getElem_cons_succ, List.getElem_cons_zero, Act.put, List.setIfInBounds_toArray, List.set_cons_zero, List.set_cons_succ]
              refine anyU_take (i := 2) (v := .int .i64 (tt : Nat)) rfl (by kernel_rfl) (by kernel_rfl) (by kernel_rfl) (fun _ _ _ h => h) ⟨by rfl, fun w' hS' => (by obtain ⟨s1, s2, s3⟩ := hS'; go_simp)⟩ hS29 ?_
              simp only [List.getElem_toArray, List.getElem_cons_succ, List.getElem_cons_zero, Act.put, List.setIfInBounds_toArray, List.set_cons_zero, List.set_cons_succ]
              refine anyU_take (i := 3) (v := .pointer (some ⟨bd, od + tt, none⟩)) rfl (by kernel_rfl) (by kernel_rfl) (by kernel_rfl) (fun _ _ _ h => h) ⟨by rfl, fun w' hS' => (by obtain ⟨s1, s2, s3⟩ := hS'; simp [go_sem, htti])⟩ hS29 ?_
              simp only [List.getElem_toArray, List.getElem_cons_succ, List.getElem_cons_zero, Act.put, List.setIfInBounds_toArray, List.set_cons_zero, List.set_cons_succ]
              refine anyU_take (i := 4) (v := .slice (some ⟨b4, o4, none⟩) (nthL N.ends tt).length c4) rfl (by kernel_rfl) (by kernel_rfl) (by kernel_rfl) (fun _ _ _ h => h) ⟨by rfl, fun w' hS' => (by obtain ⟨s1, s2, s3⟩ := hS'; go_simp)⟩ hS29 ?_
              simp only [List.getElem_toArray, List.getElem_cons_succ, List.getElem_cons_zero, Act.put, List.setIfInBounds_toArray, List.set_cons_zero, List.set_cons_succ]
              refine anyU_take (i := 5) (v := .pointer (some ⟨W21.heap.size, 1, none⟩)) rfl (by kernel_rfl) (by kernel_rfl) (by kernel_rfl) (fun _ _ _ h => h) ⟨by rfl, fun w' hS' => (by obtain ⟨s1, s2, s3⟩ := hS'; go_simp)⟩ hS29 ?_
              simp only [List.getElem_toArray, List.getElem_cons_succ, List.getElem_cons_zero, Act.put, List.setIfInBounds_toArray, List.set_cons_zero, List.set_cons_succ]
              refine anyU_take (i := 6) (v := .int .i64 (tr : Nat)) rfl (by kernel_rfl) (by kernel_rfl) (by kernel_rfl) (fun _ _ _ h => h) ⟨by rfl, fun w' hS' => (by obtain ⟨s1, s2, s3⟩ := hS'; go_simp)⟩ hS29 ?_
              simp only [List.getElem_toArray, List.getElem_cons_succ, List.getElem_cons_zero, Act.put, List.setIfInBounds_toArray, List.set_cons_zero, List.set_cons_succ]
              refine anyU_take (i := 7) (v := .pointer (some ⟨b4, o4 + tr, none⟩)) rfl (by kernel_rfl) (by kernel_rfl) (by kernel_rfl) (fun _ _ _ h => h) ⟨by rfl, fun w' hS' => (by obtain ⟨s1, s2, s3⟩ := hS'; simp [go_sem, htri])⟩ hS29 ?_
              simp only [List.getElem_toArray, List.getElem_cons_succ, List.getElem_cons_zero, Act.put, List.setIfInBounds_toArray, List.set_cons_zero, List.set_cons_succ]
              obtain ⟨_, _, b4', o4', c4', hA2, _, _, _, _, xr4', _, _, _, _, hset4⟩ := ISSx.place DD28.out (by omega) (show tt < (setAt us pn pp 1).length by rw [hu1]; exact htt) (show tr < (nthL (setAt us pn pp 1) tt).length by rw [hu3]; exact htr)
              injection hA2 with hA2
              injection hA2 with a1 a2
              subst a1; subst a2
              have hsame := (HGV.out.cell xr4 (by simp)).symm.trans xr4'
              rw [hu3] at hsame
              injection hsame with hsame
              injection hsame with hsame _ hsame3
              injection hsame with hsame
              injection hsame with a1 a2
              subst a1; subst a2
              have HSET5 := Lib.hid (hset4 1)
              clear hset4 xr4' hsame3 hu1 hu2 hu3 hu4
              have z1 := HGV.out.cell xe4 (by simp)
              have z2 := (World.frozen?_of_block (a := ⟨b4, o4 + tr, none⟩) (HGV.out.block b4 (by omega) (by simp))).trans xf4
              refine anyU_ready (rs := [8]) (by kernel_rfl) (by simp) ?_
              refine ReadyU.cons (i := 8) rfl (fun K hK => ?_) ReadyU.nil
              simp only [List.getElem_toArray, List.getElem_cons_succ, List.getElem_cons_zero]
              refine ite_is (by rfl) ?_
              simp [go_sem, z1, z2]
              refine hK.out _ _ ⟨fun h => absurd h (by decide), ?_⟩
              clear hK K
              try simp only [List.getElem_toArray, List.getElem_cons_succ, List.getElem_cons_zero, Act.put, List.setIfInBounds_toArray, List.set_cons_zero, List.set_cons_succ]
              refine nameU ?_
              intro W30 HW30
              have hg30 : W28.grownBy W30 (some b4) := by rw [HW30.out]; exact grown_set _ ⟨b4, o4 + tr, none⟩ _
              have HDN := Lib.hid (show IntSSx W30 WA.heap.size W1.heap.size (.slice (some ⟨bd, od, none⟩) N.ends.length co) (setAt (setAt us pn pp 1) tt tr 1) by rw [HW30.out]; exact HSET5.out)
              clear HW30 z1 z2 hS29 DD28
              have hs30 := hg30.size
              have HF30 := Lib.hid (HF28.out.grown hg30 (fun g hg => by cases hg; omega)); clear HF28
              have SS30 := Lib.hid (OwnSS.far SS28.out hg30 (fun g hg => by cases hg; omega)); clear SS28
              have RZ30 := Lib.hid (IntS.far RZ28.out hg30 (by omega) (fun g hg => by cases hg; omega)); clear RZ28
              have BE30 := Lib.hid (BoxN.far BE28.out hg30 (fun g hg => by cases hg; omega)); clear BE28
              have HGS := Lib.hid hg30
              clear hg30
              refine anyU_done (by kernel_rfl) ?_ _
              go_wp2_with fail
              go_roundw
              case rel =>
                refine ⟨j + 1, _, by omega, by rw [show 2 * (j + 1) = n9 + 2 by have := HN9.out; omega]; go_num, HDN, Lib.hid ?_, SS30, RZ30, Lib.hid (by omega), HF30⟩
                have e : markL N σm.seen (l.take (j + 1)) = setU (setU (markL N σm.seen (l.take j)) pn pp) tt tr := by
                  rw [markL_take N σm.seen l hjl, HP.out]
                  unfold markE
                  rw [HEP.out]
                rw [e]
                exact HU3.out
              case measure => simp [intOf]; have := HN9.out; omega
          · skip
            have HSEC := Lib.hid hsec
            have hopf : op = true := by rw [HOP.out, hsec]; rfl
            subst hopf
            clear hsec
            obtain ⟨pr, HPR⟩ : ∃ x, Hid (prtn N (k, m) = x) := ⟨_, Lib.hid rfl⟩
            cases hpb : pairedB N (k, m) with
            | true =>
              have HPB := Lib.hid hpb
              have hpr : pr = (fl m : Nat) := by rw [← HPR.out]; unfold prtn; rw [if_pos hpb]
              subst hpr
              have h0 : (0 : Int) ≤ (fl m : Nat) := by omega
              clear hpb
              go_wp2_with (go_at_call 34; refine (orPartner_any _ N lo1 hi1 k m wr HNN.out (by omega) HG.out HOK.out).mono ?_; rintro e W4 ⟨rfl, hb4⟩; rw [HPR.out]; have hg4 := grown_below hb4; have HG4 := Lib.hid hg4; clear hb4 hg4)
              go_roundw
              case rel => exact ⟨m + 1, top, us, by omega, by go_num, Lib.hid (ISSx.still HD.out HG4.out (by omega)), by rw [stG_skip2 HSEC.out HPB.out, HS.out]; exact HU, by rw [stG_skip2 HSEC.out HPB.out, HS.out]; exact Lib.hid (HO.out.stillT HG4.out), Lib.hid (HF.out.still HG4.out)⟩
              case measure => simp [intOf]; omega
            | false =>
              have HPB := Lib.hid hpb
              have hpr : pr = -1 := by rw [← HPR.out]; unfold prtn; rw [if_neg (by rw [hpb]; simp)]
              subst hpr
              clear hpb
              go_upto_region 13 with (go_at_call 34; refine (orPartner_any _ N lo1 hi1 k m wr HNN.out (by omega) HG.out HOK.out).mono ?_; rintro e W4 ⟨rfl, hb4⟩; rw [HPR.out]; have hg4 := grown_below hb4; have hz4 := hg4.size; have HG4 := Lib.hid hg4; clear hb4 hg4)
              clear kn0 kn1 kn2 xr xe hop
              have HF4 := Lib.hid (HF.out.still HG4.out)
              have HD4 := Lib.hid (ISSx.still HD.out HG4.out (by omega))
              have HO4 := Lib.hid (HO.out.stillT HG4.out)
              have HTRL := Lib.hid (show Calls Tryz.prog 35 #[.agg #[.slice (some ⟨b1, o1, none⟩) N.ends.length c1, .slice A1' N.ids.length c1', .slice A1'' N.inputs.length c1''], .int .i64 (k : Nat), .int .i64 (m : Nat)] W4 fun e w' => ∃ r, e = .returned (r) ∧ IntS w' W4.heap.size w'.heap.size r z ∧ Below W4.heap.size W4 w' from by
                have := orTrail_any _ N lo1 hi1 k m W4 (Net.turned N_1.out HF4.out (by omega) (by omega)) (by have := HF4.out.size; omega) HG.out HOK.out
                rw [HLL.out, HZ.out] at this
                exact this)
              have kt0 : W4.cell? ⟨w.heap.size, 0, none⟩ = some (.slice (some ⟨b1, o1, none⟩) N.ends.length c1) := (HF4.out.boxN bx1_1 (by omega)).cell 0 (by simp)
              have kt1 : W4.cell? ⟨w.heap.size, 1, none⟩ = some (.slice A1' N.ids.length c1') := (HF4.out.boxN bx1_1 (by omega)).cell 1 (by simp)
              have kt2 : W4.cell? ⟨w.heap.size, 2, none⟩ = some (.slice A1'' N.inputs.length c1'') := (HF4.out.boxN bx1_1 (by omega)).cell 2 (by simp)
              go_upto_region 14 with (go_at_call 35; refine HTRL.out.mono ?_; rintro e W5 ⟨rv, rfl, hrv, hb5⟩; have hg5 := grown_below hb5; have hz5 := hg5.size; have HG5 := Lib.hid hg5; have HR5 := Lib.hid hrv; clear hg5 hb5 hrv HTRL)
              clear kt0 kt1 kt2
              have HF5 := Lib.hid (HF4.out.still HG5.out)
              have HD5 := Lib.hid (ISSx.still HD4.out HG5.out (by have := HF4.out.size; omega))
              have HO5 := Lib.hid (HO4.out.stillT HG5.out)
              obtain ⟨Ar, cr, hvr, hcr, hdr⟩ := HR5.out.dims
              subst hvr
              go_wp2_with fail
              go_loopw [10] (fun jv wr => ∃ (j : Nat) (us : List (List Int)), j ≤ l.length ∧ jv = .int .i64 ((2 * j : Nat) : Int) ∧ Hid (IntSSx wr WA.heap.size W1.heap.size (.slice (some ⟨bd, od, none⟩) N.ends.length co) us) ∧ Hid (DoneL N (markL N σm.seen (l.take j)) us) ∧ Hid (OwnSS wr W1.heap.size top 23 u4 (σm.out.map numsP)) ∧ Hid (IntS wr W4.heap.size W5.heap.size (.slice Ar z.length cr) z) ∧ Hid (W5.heap.size ≤ wr.heap.size) ∧ Hid (Turned WA.heap.size W1.heap.size W1 wr)) (fun jv _ => 2 * l.length - (intOf jv).toNat)
              case atStart => exact ⟨0, us, Nat.zero_le _, rfl, HD5, HU, HO5, HR5, Lib.hid (Nat.le_refl _), HF5⟩
              case round =>
                clear HD5 HO5 HR5 HF5 HD HU HO HF
                obtain ⟨j, us, hj, rfl, HD, HU, HO, HR, HSZ, HF⟩ := hrel
                have hsj := HF.out.size
                have hsz := HSZ.out
                have htop := HTOP.out
                have hWo : wr.heap.size = wr.heap.size := rfl
                by_cases hjl : j < l.length
                case neg =>
                  obtain rfl : j = l.length := by omega
                  rw [List.take_length] at HU
                  have hzz : ¬ ((2 * l.length : Nat) : Int) < z.length := by have := HZL.out; omega
                  go_wp2_with (at_builtin; refine append_ss (s := .tmp 96) Tryz.underlying27 Tryz.infoRow (by decide) wr rfl _ rfl HO.out HR.out (by omega) (by omega) (by omega) (fun g e => .inl (by have := (HLOW.out g e).2; omega)) _ (by simp [Act.eval, go_sem]) (by simp [Act.eval, go_sem]) (by have := HLEN.out; simp; omega) ?_; intro v' W9 ho' hg' hat'; have HO9 := Lib.hid ho'; have HG9 := Lib.hid hg'; clear ho' hg' hat')
                  go_roundw
                  case rel =>
                    have hlow : ∀ g, u4.ownBlock = some g → W1.heap.size ≤ g := fun g e => (HO.out.lt g e).1
                    refine ⟨m + 1, W5.heap.size, us, by omega, by go_num, Lib.hid (ISSx.far HD.out HG9.out (by omega) (fun g e => .inr (hlow g e))), ?_, ?_, Lib.hid (HF.out.grown HG9.out (fun g e => .inr (hlow g e)))⟩
                    · rw [stG_add2 HUS.out (.inr HPB.out), HS.out]
                      unfold addT
                      rw [HLL.out]
                      exact HU
                    · rw [stG_add2 HUS.out (.inr HPB.out), HS.out]
                      unfold addT
                      rw [HLL.out, List.map_append, ← HZ.out] at *
                      exact Lib.hid HO9.out
                  case measure => simp [intOf]; omega
                obtain ⟨⟨pn, pp⟩, HP⟩ : ∃ p, Hid (nthP l j = p) := ⟨_, Lib.hid rfl⟩
                have HPO := Lib.hid (show okP N (pn, pp) by rw [← HP.out]; exact HCH.out.ok _ (nthP_mem hjl))
                obtain ⟨hpn, hpp⟩ := HPO.out
                dsimp only at hpn hpp
                unfold degAt at hpp
                obtain ⟨n9, HN9⟩ : ∃ n9, Hid (2 * j = n9) := ⟨_, Lib.hid rfl⟩
                rw [HN9.out]
                have hz9 : n9 + 1 < z.length := by have := HN9.out; have := HZL.out; omega
                obtain ⟨y1, y2⟩ := nth_numsP l j hjl
                rw [HZ.out, HN9.out, HP.out] at y1 y2
                dsimp only at y1 y2
                obtain ⟨br, or9, rfl, _, hbr, x1, _⟩ := HR.out.opened (j := n9) (by omega)
                have x2 := (HR.out.at_ (j := n9 + 1) hz9).1
                rw [y1] at x1
                rw [y2] at x2
                rw [← Nat.add_assoc] at x2
                have HX1 := Lib.hid x1; have HX2 := Lib.hid x2
                clear x1 x2 y1 y2
                obtain ⟨AQ, cQ, hbQ, qQ, hcQ, hdQ, hRQ⟩ := Net.rowIn N_1.out hpn
                replace qQ := (HF.out.cell (by omega) (by omega)).trans qQ
                have RQ := Lib.hid hRQ; clear hRQ
                obtain ⟨bQ, oQ, rfl, _, hbQ', eQ, eQ'⟩ := (EndS.turned RQ.out HF.out (by omega) (by omega)).opened hpp
                obtain ⟨tt, tr, etQ, htt, htr, euQ⟩ := good_end HG.out hpn hpp
                rw [etQ] at eQ eQ'
                dsimp only at eQ eQ'
                have HEP := Lib.hid (show ep N (pn, pp) = (tt, tr) by unfold ep endAt; dsimp only; rw [etQ]; simp)
                clear etQ euQ
                have hpni : (pn : Int) < N.ends.length := by omega
                have hppi : (pp : Int) < (nthL N.ends pn).length := by omega
                have htti : (tt : Int) < N.ends.length := by omega
                have htri : (tr : Int) < (nthL N.ends tt).length := by omega
                have i0 : (n9 : Int) < z.length := by omega
                have i1 : 0 ≤ (n9 : Int) + 1 ∧ (n9 : Int) + 1 < z.length := by omega
                have w1 : IntKind.i64.wrap ((n9 : Int) + 1) = (n9 : Int) + 1 := by have := hdr; simp [IntKind.wrap, IntKind.bits, IntKind.signed]; omega
                have HZ9 := Lib.hid hz9; clear hz9
                go_wp2_with fail
                refine wp_region_U (fun w' => w'.cell? ⟨w.heap.size, 0, none⟩ = some (.slice (some ⟨b1, o1, none⟩) N.ends.length c1) ∧ w'.cell? ⟨b1, o1 + pn, none⟩ = some (.slice (some ⟨bQ, oQ, none⟩) (nthL N.ends pn).length cQ) ∧ w'.cell? ⟨bQ, oQ + pp * 2, none⟩ = some (.int .i64 (tt : Nat)) ∧ w'.cell? ⟨bQ, oQ + pp * 2 + 1, none⟩ = some (.int .i64 (tr : Nat)) ∧ w'.cell? ⟨br, or9 + n9, none⟩ = some (.int .i64 (pn : Nat)) ∧ w'.cell? ⟨br, or9 + n9 + 1, none⟩ = some (.int .i64 (pp : Nat))) [16] (by kernel_rfl) ?_
                refine nameU ?_
                intro W21 HW21
                have hg21 : wr.grownBy W21 none := by rw [HW21.out]; exact grown_drew _
                clear HW21
                have HGV := Lib.hid hg21
                have hs21 := hg21.size
                have HF21 := Lib.hid (HF.out.still hg21); clear HF
                have DD21 := Lib.hid (ISSx.still HD.out hg21 (by omega)); clear HD
                have SS21 := Lib.hid (OwnSS.still HO.out hg21); clear HO
                have RZ21 := Lib.hid (IntS.still HR.out hg21 (by omega)); clear HR
                have hS22 : W21.cell? ⟨w.heap.size, 0, none⟩ = some (.slice (some ⟨b1, o1, none⟩) N.ends.length c1) ∧ W21.cell? ⟨b1, o1 + pn, none⟩ = some (.slice (some ⟨bQ, oQ, none⟩) (nthL N.ends pn).length cQ) ∧ W21.cell? ⟨bQ, oQ + pp * 2, none⟩ = some (.int .i64 (tt : Nat)) ∧ W21.cell? ⟨bQ, oQ + pp * 2 + 1, none⟩ = some (.int .i64 (tr : Nat)) ∧ W21.cell? ⟨br, or9 + n9, none⟩ = some (.int .i64 (pn : Nat)) ∧ W21.cell? ⟨br, or9 + n9 + 1, none⟩ = some (.int .i64 (pp : Nat)) := ⟨(HF21.out.boxN bx1_1 (by omega)).cell 0 (by simp), (HGV.out.cell qQ (by simp)), (HGV.out.cell eQ (by simp)), (HGV.out.cell eQ' (by simp)), (HGV.out.cell HX1.out (by simp)), (HGV.out.cell HX2.out (by simp))⟩
                refine anyU_take (i := 0) (v := .pointer (some ⟨w.heap.size, 0, none⟩)) rfl (by kernel_rfl) (by kernel_rfl) (by kernel_rfl) (fun _ _ _ h => h) ⟨by rfl, fun w' hS' => (by obtain ⟨s1, s2, s3, s4, s5, s6⟩ := hS'; go_simp)⟩ hS22 ?_
                simp only [List.getElem_toArray, List.getElem_cons_zero, Act.put, List.setIfInBounds_toArray, List.set_cons_zero, List.set_cons_succ]
                refine anyU_take (i := 1) (v := .slice (some ⟨b1, o1, none⟩) N.ends.length c1) rfl (by kernel_rfl) (by kernel_rfl) (by kernel_rfl) (fun _ _ _ h => h) ⟨by rfl, fun w' hS' => (by obtain ⟨s1, s2, s3, s4, s5, s6⟩ := hS'; go_simp)⟩ hS22 ?_
                simp only [List.getElem_toArray, List.getElem_cons_succ, List.getElem_cons_zero, Act.put, List.setIfInBounds_toArray, List.set_cons_zero, List.set_cons_succ]
                refine anyU_take (i := 2) (v := .slice (some ⟨br, or9, none⟩) z.length cr) rfl (by kernel_rfl) (by kernel_rfl) (by kernel_rfl) (fun _ _ _ h => h) ⟨by rfl, fun w' hS' => (by obtain ⟨s1, s2, s3, s4, s5, s6⟩ := hS'; go_simp)⟩ hS22 ?_
                simp only [List.getElem_toArray, List.getElem_cons_succ, List.getElem_cons_zero, Act.put, List.setIfInBounds_toArray, List.set_cons_zero, List.set_cons_succ]
                refine anyU_take (i := 3) (v := .int .i64 (n9 : Nat)) rfl (by kernel_rfl) (by kernel_rfl) (by kernel_rfl) (fun _ _ _ h => h) ⟨by rfl, fun w' hS' => (by obtain ⟨s1, s2, s3, s4, s5, s6⟩ := hS'; go_simp)⟩ hS22 ?_
                simp only [List.getElem_toArray, List.getElem_cons_succ, List.getElem_cons_zero, Act.put, List.setIfInBounds_toArray, List.set_cons_zero, List.set_cons_succ]
                refine anyU_take (i := 4) (v := .pointer (some ⟨br, or9 + n9, none⟩)) rfl (by kernel_rfl) (by kernel_rfl) (by kernel_rfl) (fun _ _ _ h => h) ⟨by rfl, fun w' hS' => (by obtain ⟨s1, s2, s3, s4, s5, s6⟩ := hS'; simp [go_sem, i0])⟩ hS22 ?_
                simp only [List.getElem_toArray, List.getElem_cons_succ, List.getElem_cons_zero, Act.put, List.setIfInBounds_toArray, List.set_cons_zero, List.set_cons_succ]
                refine anyU_take (i := 5) (v := .int .i64 (pn : Nat)) rfl (by kernel_rfl) (by kernel_rfl) (by kernel_rfl) (fun _ _ _ h => h) ⟨by rfl, fun w' hS' => (by obtain ⟨s1, s2, s3, s4, s5, s6⟩ := hS'; go_simp)⟩ hS22 ?_
                simp only [List.getElem_toArray, List.getElem_cons_succ, List.getElem_cons_zero, Act.put, List.setIfInBounds_toArray, List.set_cons_zero, List.set_cons_succ]
                refine anyU_take (i := 6) (v := .pointer (some ⟨b1, o1 + pn, none⟩)) rfl (by kernel_rfl) (by kernel_rfl) (by kernel_rfl) (fun _ _ _ h => h) ⟨by rfl, fun w' hS' => (by obtain ⟨s1, s2, s3, s4, s5, s6⟩ := hS'; simp [go_sem, hpni])⟩ hS22 ?_
                simp only [List.getElem_toArray, List.getElem_cons_succ, List.getElem_cons_zero, Act.put, List.setIfInBounds_toArray, List.set_cons_zero, List.set_cons_succ]
                refine anyU_take (i := 7) (v := .slice (some ⟨bQ, oQ, none⟩) (nthL N.ends pn).length cQ) rfl (by kernel_rfl) (by kernel_rfl) (by kernel_rfl) (fun _ _ _ h => h) ⟨by rfl, fun w' hS' => (by obtain ⟨s1, s2, s3, s4, s5, s6⟩ := hS'; go_simp)⟩ hS22 ?_
                simp only [List.getElem_toArray, List.getElem_cons_succ, List.getElem_cons_zero, Act.put, List.setIfInBounds_toArray, List.set_cons_zero, List.set_cons_succ]
                refine anyU_take (i := 8) (v := .slice (some ⟨br, or9, none⟩) z.length cr) rfl (by kernel_rfl) (by kernel_rfl) (by kernel_rfl) (fun _ _ _ h => h) ⟨by rfl, fun w' hS' => (by obtain ⟨s1, s2, s3, s4, s5, s6⟩ := hS'; go_simp)⟩ hS22 ?_
                simp only [List.getElem_toArray, List.getElem_cons_succ, List.getElem_cons_zero, Act.put, List.setIfInBounds_toArray, List.set_cons_zero, List.set_cons_succ]
                refine anyU_take (i := 9) (v := .int .i64 (n9 : Nat)) rfl (by kernel_rfl) (by kernel_rfl) (by kernel_rfl) (fun _ _ _ h => h) ⟨by rfl, fun w' hS' => (by obtain ⟨s1, s2, s3, s4, s5, s6⟩ := hS'; go_simp)⟩ hS22 ?_
                simp only [List.getElem_toArray, List.getElem_cons_succ, List.getElem_cons_zero, Act.put, List.setIfInBounds_toArray, List.set_cons_zero, List.set_cons_succ]
                refine anyU_take (i := 10) (v := .int .i64 ((n9 : Int) + 1)) rfl (by kernel_rfl) (by kernel_rfl) (by kernel_rfl) (fun _ _ _ h => h) ⟨by rfl, fun w' hS' => (by obtain ⟨s1, s2, s3, s4, s5, s6⟩ := hS'; simp [go_sem, w1])⟩ hS22 ?_
                simp only [List.getElem_toArray, List.getElem_cons_succ, List.getElem_cons_zero, Act.put, List.setIfInBounds_toArray, List.set_cons_zero, List.set_cons_succ]
                refine anyU_take (i := 11) (v := .pointer (some ⟨br, or9 + n9 + 1, none⟩)) rfl (by kernel_rfl) (by kernel_rfl) (by kernel_rfl) (fun _ _ _ h => h) ⟨by rfl, fun w' hS' => (by obtain ⟨s1, s2, s3, s4, s5, s6⟩ := hS'; simp [go_sem, i1, Nat.add_assoc])⟩ hS22 ?_
                simp only [List.getElem_toArray, List.getElem_cons_succ, List.getElem_cons_zero, Act.put, List.setIfInBounds_toArray, List.set_cons_zero, List.set_cons_succ]
                refine anyU_take (i := 12) (v := .int .i64 (pp : Nat)) rfl (by kernel_rfl) (by kernel_rfl) (by kernel_rfl) (fun _ _ _ h => h) ⟨by rfl, fun w' hS' => (by obtain ⟨s1, s2, s3, s4, s5, s6⟩ := hS'; go_simp)⟩ hS22 ?_
                simp only [List.getElem_toArray, List.getElem_cons_succ, List.getElem_cons_zero, Act.put, List.setIfInBounds_toArray, List.set_cons_zero, List.set_cons_succ]
                refine anyU_take (i := 13) (v := .pointer (some ⟨bQ, oQ + pp * 2, none⟩)) rfl (by kernel_rfl) (by kernel_rfl) (by kernel_rfl) (fun _ _ _ h => h) ⟨by rfl, fun w' hS' => (by obtain ⟨s1, s2, s3, s4, s5, s6⟩ := hS'; simp [go_sem, hppi])⟩ hS22 ?_
                simp only [List.getElem_toArray, List.getElem_cons_succ, List.getElem_cons_zero, Act.put, List.setIfInBounds_toArray, List.set_cons_zero, List.set_cons_succ]
                refine anyU_take (i := 14) (v := .agg #[.int .i64 (tt : Nat), .int .i64 (tr : Nat)]) rfl (by kernel_rfl) (by kernel_rfl) (by kernel_rfl) (fun _ _ _ h => h) ⟨by rfl, fun w' hS' => (by obtain ⟨s1, s2, s3, s4, s5, s6⟩ := hS'; go_simp)⟩ hS22 ?_
                simp only [List.getElem_toArray, List.getElem_cons_succ, List.getElem_cons_zero, Act.put, List.setIfInBounds_toArray, List.set_cons_zero, List.set_cons_succ]
                refine anyU_ready (rs := [15]) (by kernel_rfl) (by simp) ?_
                refine ReadyU.cons (i := 15) rfl (fun K hK => ?_) ReadyU.nil
                simp only [List.getElem_toArray, List.getElem_cons_succ, List.getElem_cons_zero]
                refine ite_is (by rfl) ?_
                simp [go_sem]
                refine hK.out _ _ ⟨fun _ => let ⟨s1, s2, s3, s4, s5, s6⟩ := hS22; ⟨(grown_alloc _ _).cell s1 (by simp), (grown_alloc _ _).cell s2 (by simp), (grown_alloc _ _).cell s3 (by simp), (grown_alloc _ _).cell s4 (by simp), (grown_alloc _ _).cell s5 (by simp), (grown_alloc _ _).cell s6 (by simp)⟩, ?_⟩
                clear hK K
                try simp only [List.getElem_toArray, List.getElem_cons_succ, List.getElem_cons_zero, Act.put, List.setIfInBounds_toArray, List.set_cons_zero, List.set_cons_succ]
                refine nameU ?_
                intro W23 HW23
                have hg23 : W21.grownBy W23 none := by rw [HW23.out]; exact grown_alloc _ _
                have HG23 := Lib.hid hg23
                have hs23 := hg23.size
                have HF23 := Lib.hid (HF21.out.still hg23); clear HF21
                have DD23 := Lib.hid (ISSx.still DD21.out hg23 (by omega)); clear DD21
                have SS23 := Lib.hid (OwnSS.still SS21.out hg23); clear SS21
                have RZ23 := Lib.hid (IntS.still RZ21.out hg23 (by omega)); clear RZ21
                have HY := Lib.hid (show BoxN W23 W21.heap.size #[.int .i64 0, .int .i64 0] 48 by rw [HW23.out]; exact BoxN.new _ _ _)
                clear HW23
                have r0 := HY.out.cell 0 (by simp)
                have r1 := HY.out.cell 1 (by simp)
                have f0 := HY.out.frozen 0
                have f1 := HY.out.frozen 1
                dsimp at r0 r1
                refine anyU_ready (rs := [16]) (by kernel_rfl) (by simp) ?_
                refine ReadyU.cons (i := 16) rfl (fun K hK => ?_) ReadyU.nil
                simp only [List.getElem_toArray, List.getElem_cons_succ, List.getElem_cons_zero]
                refine ite_is (by rfl) ?_
                simp [go_sem, r0, r1, f0, f1]
                refine hK.out _ _ ⟨fun h => absurd h (by decide), ?_⟩
                clear hK K
                try simp only [List.getElem_toArray, List.getElem_cons_succ, List.getElem_cons_zero, Act.put, List.setIfInBounds_toArray, List.set_cons_zero, List.set_cons_succ]
                refine nameU ?_
                intro W24 HW24
                have hg24 : W23.grownBy W24 (some W21.heap.size) := by rw [HW24.out]; exact grown_set2 _ _ _ _ _ _
                have HBE := Lib.hid (show BoxN W24 W21.heap.size #[.int .i64 (tt : Nat), .int .i64 (tr : Nat)] 48 by rw [HW24.out]; exact (HY.out.set 0 _).set 1 _)
                clear HW24 r0 r1 f0 f1 HY hS22
                have hado : wr.heap.size ≤ W21.heap.size := by omega
                have SS24 := Lib.hid (show OwnSS W24 W1.heap.size top 23 u4 (σm.out.map numsP) from SS23.out.farNew hg24 W21.heap.size (by omega) rfl (fun g e => by have := (HLOW.out g e).2; omega) (by omega)); clear SS23
                have hs24 := hg24.size
                have HF24 := Lib.hid (HF23.out.grown hg24 (fun g hg => by cases hg; omega)); clear HF23
                have DD24 := Lib.hid (ISSx.far DD23.out hg24 (by omega) (fun g hg => by cases hg; omega)); clear DD23
                have RZ24 := Lib.hid (IntS.far RZ23.out hg24 (by omega) (fun g hg => by cases hg; omega)); clear RZ23
                have hg9a : wr.grownBy W24 none := ⟨by rw [hg24.os, HG23.out.os, HGV.out.os], by rw [hg24.tape, HG23.out.tape, HGV.out.tape], by rw [hg24.output, HG23.out.output, HGV.out.output], by omega, fun k hk _ => (hg24.block k (by omega) (by intro e; injection e; omega)).trans ((HG23.out.block k (by omega) (by simp)).trans (HGV.out.block k hk (by simp)))⟩
                have HG9A := Lib.hid hg9a
                clear hg9a HGV HG23 hg24
                refine anyU_done (by kernel_rfl) ?_ _
                go_wp2_with fail
                have hx1 := HG9A.out.cell HX1.out (by simp)
                have hx2 := HG9A.out.cell HX2.out (by simp)
                obtain ⟨hu1, hu2⟩ := HU.out
                obtain ⟨hu3, hu4⟩ := hu2 pn hpn
                obtain ⟨_, _, b2, o2, c2, hA2, e1, e2, e3, e4, xr2, hr1, hr2, xe2, xf2, hset2⟩ := ISSx.place DD24.out (by omega) (show pn < us.length by rw [hu1]; exact hpn) (show pp < (nthL us pn).length by rw [hu3]; exact hpp)
                injection hA2 with hA2
                injection hA2 with a1 a2
                subst a1; subst a2
                rw [hu3] at xr2 hr1
                unfold degAt at xr2 hr1
                have HU2 := Lib.hid (HU.out.set hpn hpp)
                have HSET2 := Lib.hid (hset2 1)
                clear hu1 hu2 hu3 hu4 hset2
                refine wp_region_U (fun w' => w'.cell? ⟨br, or9 + n9, none⟩ = some (.int .i64 (pn : Nat)) ∧ w'.cell? ⟨br, or9 + n9 + 1, none⟩ = some (.int .i64 (pp : Nat)) ∧ w'.cell? ⟨bd, od + pn, none⟩ = some (.slice (some ⟨b2, o2, none⟩) (nthL N.ends pn).length c2)) [13] (by kernel_rfl) ?_
                refine nameU ?_
                intro W25 HW25
                have hg25 : W24.grownBy W25 none := by rw [HW25.out]; exact grown_drew _
                clear HW25
                have HGV := Lib.hid hg25
                have hs25 := hg25.size
                have HF25 := Lib.hid (HF24.out.still hg25); clear HF24
                have DD25 := Lib.hid (ISSx.still DD24.out hg25 (by omega)); clear DD24
                have SS25 := Lib.hid (OwnSS.still SS24.out hg25); clear SS24
                have RZ25 := Lib.hid (IntS.still RZ24.out hg25 (by omega)); clear RZ24
                have BE25 := Lib.hid (BoxN.still HBE.out hg25); clear HBE
                have hS26 : W25.cell? ⟨br, or9 + n9, none⟩ = some (.int .i64 (pn : Nat)) ∧ W25.cell? ⟨br, or9 + n9 + 1, none⟩ = some (.int .i64 (pp : Nat)) ∧ W25.cell? ⟨bd, od + pn, none⟩ = some (.slice (some ⟨b2, o2, none⟩) (nthL N.ends pn).length c2) := ⟨(HGV.out.cell hx1 (by simp)), (HGV.out.cell hx2 (by simp)), (HGV.out.cell xr2 (by simp))⟩
                refine anyU_take (i := 0) (v := .slice (some ⟨bd, od, none⟩) N.ends.length co) rfl (by kernel_rfl) (by kernel_rfl) (by kernel_rfl) (fun _ _ _ h => h) ⟨by rfl, fun w' hS' => (by obtain ⟨s1, s2, s3⟩ := hS'; go_simp)⟩ hS26 ?_
                simp only [List.getElem_toArray, List.getElem_cons_zero, Act.put, List.setIfInBounds_toArray, List.set_cons_zero, List.set_cons_succ]
                refine anyU_take (i := 1) (v := .slice (some ⟨br, or9, none⟩) z.length cr) rfl (by kernel_rfl) (by kernel_rfl) (by kernel_rfl) (fun _ _ _ h => h) ⟨by rfl, fun w' hS' => (by obtain ⟨s1, s2, s3⟩ := hS'; go_simp)⟩ hS26 ?_
                simp only [List.getElem_toArray, List.getElem_cons_succ, List.getElem_cons_zero, Act.put, List.setIfInBounds_toArray, List.set_cons_zero, List.set_cons_succ]
                refine anyU_take (i := 2) (v := .int .i64 (n9 : Nat)) rfl (by kernel_rfl) (by kernel_rfl) (by kernel_rfl) (fun _ _ _ h => h) ⟨by rfl, fun w' hS' => (by obtain ⟨s1, s2, s3⟩ := hS'; go_simp)⟩ hS26 ?_
                simp only [List.getElem_toArray, List.getElem_cons_succ, List.getElem_cons_zero, Act.put, List.setIfInBounds_toArray, List.set_cons_zero, List.set_cons_succ]
                refine anyU_take (i := 3) (v := .pointer (some ⟨br, or9 + n9, none⟩)) rfl (by kernel_rfl) (by kernel_rfl) (by kernel_rfl) (fun _ _ _ h => h) ⟨by rfl, fun w' hS' => (by obtain ⟨s1, s2, s3⟩ := hS'; simp [go_sem, i0])⟩ hS26 ?_
                simp only [List.getElem_toArray, List.getElem_cons_succ, List.getElem_cons_zero, Act.put, List.setIfInBounds_toArray, List.set_cons_zero, List.set_cons_succ]
                refine anyU_take (i := 4) (v := .int .i64 (pn : Nat)) rfl (by kernel_rfl) (by kernel_rfl) (by kernel_rfl) (fun _ _ _ h => h) ⟨by rfl, fun w' hS' => (by obtain ⟨s1, s2, s3⟩ := hS'; go_simp)⟩ hS26 ?_
                simp only [List.getElem_toArray, List.getElem_cons_succ, List.getElem_cons_zero, Act.put, List.setIfInBounds_toArray, List.set_cons_zero, List.set_cons_succ]
                refine anyU_take (i := 5) (v := .pointer (some ⟨bd, od + pn, none⟩)) rfl (by kernel_rfl) (by kernel_rfl) (by kernel_rfl) (fun _ _ _ h => h) ⟨by rfl, fun w' hS' => (by obtain ⟨s1, s2, s3⟩ := hS'; simp [go_sem, hpni])⟩ hS26 ?_
                simp only [List.getElem_toArray, List.getElem_cons_succ, List.getElem_cons_zero, Act.put, List.setIfInBounds_toArray, List.set_cons_zero, List.set_cons_succ]
                refine anyU_take (i := 6) (v := .slice (some ⟨b2, o2, none⟩) (nthL N.ends pn).length c2) rfl (by kernel_rfl) (by kernel_rfl) (by kernel_rfl) (fun _ _ _ h => h) ⟨by rfl, fun w' hS' => (by obtain ⟨s1, s2, s3⟩ := hS'; go_simp)⟩ hS26 ?_
                simp only [List.getElem_toArray, List.getElem_cons_succ, List.getElem_cons_zero, Act.put, List.setIfInBounds_toArray, List.set_cons_zero, List.set_cons_succ]
                refine anyU_take (i := 7) (v := .slice (some ⟨br, or9, none⟩) z.length cr) rfl (by kernel_rfl) (by kernel_rfl) (by kernel_rfl) (fun _ _ _ h => h) ⟨by rfl, fun w' hS' => (by obtain ⟨s1, s2, s3⟩ := hS'; go_simp)⟩ hS26 ?_
                simp only [List.getElem_toArray, List.getElem_cons_succ, List.getElem_cons_zero, Act.put, List.setIfInBounds_toArray, List.set_cons_zero, List.set_cons_succ]
                refine anyU_take (i := 8) (v := .int .i64 (n9 : Nat)) rfl (by kernel_rfl) (by kernel_rfl) (by kernel_rfl) (fun _ _ _ h => h) ⟨by rfl, fun w' hS' => (by obtain ⟨s1, s2, s3⟩ := hS'; go_simp)⟩ hS26 ?_
                simp only [List.getElem_toArray, List.getElem_cons_succ, List.getElem_cons_zero, Act.put, List.setIfInBounds_toArray, List.set_cons_zero, List.set_cons_succ]
                refine anyU_take (i := 9) (v := .int .i64 ((n9 : Int) + 1)) rfl (by kernel_rfl) (by kernel_rfl) (by kernel_rfl) (fun _ _ _ h => h) ⟨by rfl, fun w' hS' => (by obtain ⟨s1, s2, s3⟩ := hS'; simp [go_sem, w1])⟩ hS26 ?_
                simp only [List.getElem_toArray, List.getElem_cons_succ, List.getElem_cons_zero, Act.put, List.setIfInBounds_toArray, List.set_cons_zero, List.set_cons_succ]
                refine anyU_take (i := 10) (v := .pointer (some ⟨br, or9 + n9 + 1, none⟩)) rfl (by kernel_rfl) (by kernel_rfl) (by kernel_rfl) (fun _ _ _ h => h) ⟨by rfl, fun w' hS' => (by obtain ⟨s1, s2, s3⟩ := hS'; simp [go_sem, i1, Nat.add_assoc])⟩ hS26 ?_
                simp only [List.getElem_toArray, List.getElem_cons_succ, List.getElem_cons_zero, Act.put, List.setIfInBounds_toArray, List.set_cons_zero, List.set_cons_succ]
                refine anyU_take (i := 11) (v := .int .i64 (pp : Nat)) rfl (by kernel_rfl) (by kernel_rfl) (by kernel_rfl) (fun _ _ _ h => h) ⟨by rfl, fun w' hS' => (by obtain ⟨s1, s2, s3⟩ := hS'; go_simp)⟩ hS26 ?_
                simp only [List.getElem_toArray, List.getElem_cons_succ, List.getElem_cons_zero, Act.put, List.setIfInBounds_toArray, List.set_cons_zero, List.set_cons_succ]
                refine anyU_take (i := 12) (v := .pointer (some ⟨b2, o2 + pp, none⟩)) rfl (by kernel_rfl) (by kernel_rfl) (by kernel_rfl) (fun _ _ _ h => h) ⟨by rfl, fun w' hS' => (by obtain ⟨s1, s2, s3⟩ := hS'; simp [go_sem, hppi])⟩ hS26 ?_
                simp only [List.getElem_toArray, List.getElem_cons_succ, List.getElem_cons_zero, Act.put, List.setIfInBounds_toArray, List.set_cons_zero, List.set_cons_succ]
                obtain ⟨hu1, hu2⟩ := HU.out
                obtain ⟨hu3, hu4⟩ := hu2 pn hpn
                obtain ⟨_, _, b2', o2', c2', hA2, e1', e2', e3', e4', xr2', hr1', hr2', xe2', xf2', hset2⟩ := ISSx.place DD25.out (by omega) (show pn < us.length by rw [hu1]; exact hpn) (show pp < (nthL us pn).length by rw [hu3]; exact hpp)
                injection hA2 with hA2
                injection hA2 with a1 a2
                subst a1; subst a2
                have hsame := (HGV.out.cell xr2 (by simp)).symm.trans xr2'
                rw [hu3] at hsame
                injection hsame with hsame
                injection hsame with hsame _ hsame3
                injection hsame with hsame
                injection hsame with a1 a2
                subst a1; subst a2
                have HSET3 := Lib.hid (hset2 1)
                clear hu1 hu2 hu3 hu4 hset2 xr2' hr1' hr2' xe2' xf2' hsame3 HSET2
                have z1 := HGV.out.cell xe2 (by simp)
                have z2 := (World.frozen?_of_block (a := ⟨b2, o2 + pp, none⟩) (HGV.out.block b2 (by omega) (by simp))).trans xf2
                refine anyU_ready (rs := [13]) (by kernel_rfl) (by simp) ?_
                refine ReadyU.cons (i := 13) rfl (fun K hK => ?_) ReadyU.nil
                simp only [List.getElem_toArray, List.getElem_cons_succ, List.getElem_cons_zero]
                refine ite_is (by rfl) ?_
                simp [go_sem, z1, z2]
                refine hK.out _ _ ⟨fun h => absurd h (by decide), ?_⟩
                clear hK K
                try simp only [List.getElem_toArray, List.getElem_cons_succ, List.getElem_cons_zero, Act.put, List.setIfInBounds_toArray, List.set_cons_zero, List.set_cons_succ]
                refine nameU ?_
                intro W27 HW27
                have hg27 : W25.grownBy W27 (some b2) := by rw [HW27.out]; exact grown_set _ ⟨b2, o2 + pp, none⟩ _
                have HDN := Lib.hid (show IntSSx W27 WA.heap.size W1.heap.size (.slice (some ⟨bd, od, none⟩) N.ends.length co) (setAt us pn pp 1) by rw [HW27.out]; exact HSET3.out)
                clear HW27 z1 z2 hS26 DD25
                have hs27 := hg27.size
                have HF27 := Lib.hid (HF25.out.grown hg27 (fun g hg => by cases hg; omega)); clear HF25
                have SS27 := Lib.hid (OwnSS.far SS25.out hg27 (fun g hg => by cases hg; omega)); clear SS25
                have RZ27 := Lib.hid (IntS.far RZ25.out hg27 (by omega) (fun g hg => by cases hg; omega)); clear RZ25
                have BE27 := Lib.hid (BoxN.far BE25.out hg27 (fun g hg => by cases hg; omega)); clear BE25
                have HGS := Lib.hid hg27
                clear hg27
                refine anyU_done (by kernel_rfl) ?_ _
                go_wp2_with fail
                clear HSET3 HU xr2 hx1 hx2 xe2 xf2
                obtain ⟨hu1, hu2⟩ := HU2.out
                obtain ⟨hu3, hu4⟩ := hu2 tt htt
                have HU3 := Lib.hid (HU2.out.set htt htr)
                clear HGV
                obtain ⟨_, _, b4, o4, c4, hA2, _, _, f3, f4, xr4, hr3, hr4, xe4, xf4, hset4⟩ := ISSx.place HDN.out (by omega) (show tt < (setAt us pn pp 1).length by rw [hu1]; exact htt) (show tr < (nthL (setAt us pn pp 1) tt).length by rw [hu3]; exact htr)
                injection hA2 with hA2
                injection hA2 with a1 a2
                subst a1; subst a2
                rw [hu3] at xr4 hr3
                unfold degAt at xr4 hr3
                clear hset4
                refine wp_region_U (fun w' => w'.cell? ⟨W21.heap.size, 0, none⟩ = some (.int .i64 (tt : Nat)) ∧ w'.cell? ⟨W21.heap.size, 1, none⟩ = some (.int .i64 (tr : Nat)) ∧ w'.cell? ⟨bd, od + tt, none⟩ = some (.slice (some ⟨b4, o4, none⟩) (nthL N.ends tt).length c4)) [8] (by kernel_rfl) ?_
                refine nameU ?_
                intro W28 HW28
                have hg28 : W27.grownBy W28 none := by rw [HW28.out]; exact grown_drew _
                clear HW28
                have HGV := Lib.hid hg28
                have hs28 := hg28.size
                have HF28 := Lib.hid (HF27.out.still hg28); clear HF27
                have DD28 := Lib.hid (ISSx.still HDN.out hg28 (by omega)); clear HDN
                have SS28 := Lib.hid (OwnSS.still SS27.out hg28); clear SS27
                have RZ28 := Lib.hid (IntS.still RZ27.out hg28 (by omega)); clear RZ27
                have BE28 := Lib.hid (BoxN.still BE27.out hg28); clear BE27
                have hS29 : W28.cell? ⟨W21.heap.size, 0, none⟩ = some (.int .i64 (tt : Nat)) ∧ W28.cell? ⟨W21.heap.size, 1, none⟩ = some (.int .i64 (tr : Nat)) ∧ W28.cell? ⟨bd, od + tt, none⟩ = some (.slice (some ⟨b4, o4, none⟩) (nthL N.ends tt).length c4) := ⟨BE28.out.cell 0 (by simp), BE28.out.cell 1 (by simp), (HGV.out.cell xr4 (by simp))⟩
                refine anyU_take (i := 0) (v := .slice (some ⟨bd, od, none⟩) N.ends.length co) rfl (by kernel_rfl) (by kernel_rfl) (by kernel_rfl) (fun _ _ _ h => h) ⟨by rfl, fun w' hS' => (by obtain ⟨s1, s2, s3⟩ := hS'; go_simp)⟩ hS29 ?_
                simp only [List.getElem_toArray, List.getElem_cons_zero, Act.put, List.setIfInBounds_toArray, List.set_cons_zero, List.set_cons_succ]
                refine anyU_take (i := 1) (v := .pointer (some ⟨W21.heap.size, 0, none⟩)) rfl (by kernel_rfl) (by kernel_rfl) (by kernel_rfl) (fun _ _ _ h => h) ⟨by rfl, fun w' hS' => (by obtain ⟨s1, s2, s3⟩ := hS'; go_simp)⟩ hS29 ?_
                simp only [List.getElem_toArray, List.getElem_cons_succ, List.getElem_cons_zero, Act.put, List.setIfInBounds_toArray, List.set_cons_zero, List.set_cons_succ]
                refine anyU_take (i := 2) (v := .int .i64 (tt : Nat)) rfl (by kernel_rfl) (by kernel_rfl) (by kernel_rfl) (fun _ _ _ h => h) ⟨by rfl, fun w' hS' => (by obtain ⟨s1, s2, s3⟩ := hS'; go_simp)⟩ hS29 ?_
                simp only [List.getElem_toArray, List.getElem_cons_succ, List.getElem_cons_zero, Act.put, List.setIfInBounds_toArray, List.set_cons_zero, List.set_cons_succ]
                refine anyU_take (i := 3) (v := .pointer (some ⟨bd, od + tt, none⟩)) rfl (by kernel_rfl) (by kernel_rfl) (by kernel_rfl) (fun _ _ _ h => h) ⟨by rfl, fun w' hS' => (by obtain ⟨s1, s2, s3⟩ := hS'; simp [go_sem, htti])⟩ hS29 ?_
                simp only [List.getElem_toArray, List.getElem_cons_succ, List.getElem_cons_zero, Act.put, List.setIfInBounds_toArray, List.set_cons_zero, List.set_cons_succ]
                refine anyU_take (i := 4) (v := .slice (some ⟨b4, o4, none⟩) (nthL N.ends tt).length c4) rfl (by kernel_rfl) (by kernel_rfl) (by kernel_rfl) (fun _ _ _ h => h) ⟨by rfl, fun w' hS' => (by obtain ⟨s1, s2, s3⟩ := hS'; go_simp)⟩ hS29 ?_
                simp only [List.getElem_toArray, List.getElem_cons_succ, List.getElem_cons_zero, Act.put, List.setIfInBounds_toArray, List.set_cons_zero, List.set_cons_succ]
                refine anyU_take (i := 5) (v := .pointer (some ⟨W21.heap.size, 1, none⟩)) rfl (by kernel_rfl) (by kernel_rfl) (by kernel_rfl) (fun _ _ _ h => h) ⟨by rfl, fun w' hS' => (by obtain ⟨s1, s2, s3⟩ := hS'; go_simp)⟩ hS29 ?_
                simp only [List.getElem_toArray, List.getElem_cons_succ, List.getElem_cons_zero, Act.put, List.setIfInBounds_toArray, List.set_cons_zero, List.set_cons_succ]
                refine anyU_take (i := 6) (v := .int .i64 (tr : Nat)) rfl (by kernel_rfl) (by kernel_rfl) (by kernel_rfl) (fun _ _ _ h => h) ⟨by rfl, fun w' hS' => (by obtain ⟨s1, s2, s3⟩ := hS'; go_simp)⟩ hS29 ?_
                simp only [List.getElem_toArray, List.getElem_cons_succ, List.getElem_cons_zero, Act.put, List.setIfInBounds_toArray, List.set_cons_zero, List.set_cons_succ]
                refine anyU_take (i := 7) (v := .pointer (some ⟨b4, o4 + tr, none⟩)) rfl (by kernel_rfl) (by kernel_rfl) (by kernel_rfl) (fun _ _ _ h => h) ⟨by rfl, fun w' hS' => (by obtain ⟨s1, s2, s3⟩ := hS'; simp [go_sem, htri])⟩ hS29 ?_
                simp only [List.getElem_toArray, List.getElem_cons_succ, List.getElem_cons_zero, Act.put, List.setIfInBounds_toArray, List.set_cons_zero, List.set_cons_succ]
                obtain ⟨_, _, b4', o4', c4', hA2, _, _, _, _, xr4', _, _, _, _, hset4⟩ := ISSx.place DD28.out (by omega) (show tt < (setAt us pn pp 1).length by rw [hu1]; exact htt) (show tr < (nthL (setAt us pn pp 1) tt).length by rw [hu3]; exact htr)
                injection hA2 with hA2
                injection hA2 with a1 a2
                subst a1; subst a2
                have hsame := (HGV.out.cell xr4 (by simp)).symm.trans xr4'
                rw [hu3] at hsame
                injection hsame with hsame
                injection hsame with hsame _ hsame3
                injection hsame with hsame
                injection hsame with a1 a2
                subst a1; subst a2
                have HSET5 := Lib.hid (hset4 1)
                clear hset4 xr4' hsame3 hu1 hu2 hu3 hu4
                have z1 := HGV.out.cell xe4 (by simp)
                have z2 := (World.frozen?_of_block (a := ⟨b4, o4 + tr, none⟩) (HGV.out.block b4 (by omega) (by simp))).trans xf4
                refine anyU_ready (rs := [8]) (by kernel_rfl) (by simp) ?_
                refine ReadyU.cons (i := 8) rfl (fun K hK => ?_) ReadyU.nil
                simp only [List.getElem_toArray, List.getElem_cons_succ, List.getElem_cons_zero]
                refine ite_is (by rfl) ?_
                simp [go_sem, z1, z2]
                refine hK.out _ _ ⟨fun h => absurd h (by decide), ?_⟩
                clear hK K
                try simp only [List.getElem_toArray, List.getElem_cons_succ, List.getElem_cons_zero, Act.put, List.setIfInBounds_toArray, List.set_cons_zero, List.set_cons_succ]
                refine nameU ?_
                intro W30 HW30
                have hg30 : W28.grownBy W30 (some b4) := by rw [HW30.out]; exact grown_set _ ⟨b4, o4 + tr, none⟩ _
                have HDN := Lib.hid (show IntSSx W30 WA.heap.size W1.heap.size (.slice (some ⟨bd, od, none⟩) N.ends.length co) (setAt (setAt us pn pp 1) tt tr 1) by rw [HW30.out]; exact HSET5.out)
                clear HW30 z1 z2 hS29 DD28
                have hs30 := hg30.size
                have HF30 := Lib.hid (HF28.out.grown hg30 (fun g hg => by cases hg; omega)); clear HF28
                have SS30 := Lib.hid (OwnSS.far SS28.out hg30 (fun g hg => by cases hg; omega)); clear SS28
                have RZ30 := Lib.hid (IntS.far RZ28.out hg30 (by omega) (fun g hg => by cases hg; omega)); clear RZ28
                have BE30 := Lib.hid (BoxN.far BE28.out hg30 (fun g hg => by cases hg; omega)); clear BE28
                have HGS := Lib.hid hg30
                clear hg30
                refine anyU_done (by kernel_rfl) ?_ _
                go_wp2_with fail
                go_roundw
                case rel =>
                  refine ⟨j + 1, _, by omega, by rw [show 2 * (j + 1) = n9 + 2 by have := HN9.out; omega]; go_num, HDN, Lib.hid ?_, SS30, RZ30, Lib.hid (by omega), HF30⟩
                  have e : markL N σm.seen (l.take (j + 1)) = setU (setU (markL N σm.seen (l.take j)) pn pp) tt tr := by
                    rw [markL_take N σm.seen l hjl, HP.out]
                    unfold markE
                    rw [HEP.out]
                  rw [e]
                  exact HU3.out
                case measure => simp [intOf]; have := HN9.out; omega

end Go.Proofs.YtpanigomfmfknaaGreat
