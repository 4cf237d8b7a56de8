/-
  Contracts: decompositions (program and reference).
-/
import Derived.Test.YtcmmklcampmkjaaClus
import Derived.Test.YtcmmklcampmkjaaDecP
import Derived.Test.YtcmmklcampmkjaaFind
import Derived.Test.YtcmmklcampmkjaaExt
namespace Go.Proofs.Ytcmmklcampmkjaa
open Go.ChangeShapes Go.WideShapes Go.ChangeAt Go.RowKit
set_option linter.unusedVariables false

theorem clus_mk {N : NetD} {l : List Int} (hg : N.good = true) (hl : l.length = N.ends.length) (h40 : ∀ x ∈ l, 0 ≤ x ∧ x ≤ 40) (hk : ∀ k : Nat, (k : Int) < mostI l → (k : Int) ∈ l) (hp : ∀ v, v < N.ends.length → ∀ w, w < v → nth l v = nth l w → comp N v = comp N w) : Clus N l := by
  obtain ⟨n1, n40⟩ := good_n hg
  obtain ⟨a, b, c⟩ := mostI_spec l
  have hfull : ∀ k : Nat, (k : Int) ≤ mostI l → (k : Int) ∈ l := fun k hkl => by
    by_cases e : (k : Int) < mostI l
    · exact hk k e
    · have e2 : (k : Int) = mostI l := by omega
      rcases c with c | c
      · have hm : nth l 0 ∈ l := nth_mem (by omega)
        have h1 := h40 _ hm
        have h2 := b _ hm
        rwa [show nth l 0 = (k : Int) by omega] at hm
      · rw [e2]; exact c
  have hpg := pigeon ((mostI l).toNat + 1) l fun j hj => hfull j (by omega)
  refine ⟨hl, fun x hx => ?_, hfull, fun v w hv hw e => ?_⟩
  · have h1 := h40 x hx
    have h2 := b x hx
    omega
  · rcases Nat.lt_trichotomy v w with h | h | h
    · exact (hp w hw v h e.symm).symm
    · rw [h]
    · exact hp v hv w h e

set_option maxHeartbeats 4000000 in
set_option maxRecDepth 100000 in
theorem deClustering_any (v1 : Value) (N : NetD) (lo1 hi1 : Nat) (v2 : Value) (l : List Int) (lo2 hi2 : Nat) (w : World) (h1 : Net w lo1 hi1 v1 N) (hh1 : hi1 ≤ w.heap.size) (h2 : IntS w lo2 hi2 v2 l) (hh2 : hi2 ≤ w.heap.size) (hg : N.good = true) (hz : l.length ≤ 1048576) :
    Calls Try.prog 72 #[v1, v2] w fun e w' => e = .returned (.bool (clusB N l)) ∧ Below w.heap.size w w' := by
  obtain ⟨n1, n40⟩ := good_n hg
  have HG := Lib.hid hg; clear hg
  have F1 := Lib.hid h1
  obtain ⟨A1, c1, A1', c1', A1'', c1'', rfl, hc1, hd1, _⟩ := h1.parts
  obtain ⟨b1, o1, _, _, rfl, _⟩ := Net.rowAt F1.out (u := 0) (by omega)
  clear h1
  have F2 := Lib.hid h2
  obtain ⟨A2, c2, rfl, hc2, hd2⟩ := h2.dims
  clear h2
  obtain ⟨WA, HWA⟩ : ∃ W, Hid (W = (w.alloc (.cells #[.slice (some ⟨b1, o1, none⟩) N.ends.length c1, .slice A1' N.ids.length c1', .slice A1'' N.inputs.length c1''] 34))) := ⟨_, Lib.hid rfl⟩
  have hbA : Below w.heap.size w WA := by rw [HWA.out]; exact ((Below.refl _ _).alloc (Nat.le_refl _) _)
  have hsA : w.heap.size + 1 ≤ WA.heap.size := by rw [HWA.out]; simp; try omega
  have bx1 : BoxN WA (w.heap.size) #[.slice (some ⟨b1, o1, none⟩) N.ends.length c1, .slice A1' N.ids.length c1', .slice A1'' N.inputs.length c1''] 34 := by rw [HWA.out]; exact (BoxN.new' _ _ _ (by simp))
  have G1 := Lib.hid (Net.below F1.out hbA hh1); clear F1
  have G2 := Lib.hid (IntS.below F2.out hbA hh2); clear F2
  go_enter Try.func72, Try.ntmps72
  go_upto_region 1 with (fail)
  rw [← HWA.out]; clear HWA
  have kbx1_0 : WA.cell? ⟨w.heap.size, 0, none⟩ = some (.slice (some ⟨b1, o1, none⟩) N.ends.length c1) := bx1.cell 0 (by simp)
  have kbx1_1 : WA.cell? ⟨w.heap.size, 1, none⟩ = some (.slice A1' N.ids.length c1') := bx1.cell 1 (by simp)
  have kbx1_2 : WA.cell? ⟨w.heap.size, 2, none⟩ = some (.slice A1'' N.inputs.length c1'') := bx1.cell 2 (by simp)
  by_cases hl : l.length = N.ends.length
  case neg =>
    have hl' : ((l.length : Int) != (N.ends.length : Int)) = true := by simp; omega
    have HL := Lib.hid (clusB_no (N := N) (l := l) fun h => hl h.len); clear hl
    go_wp2_with fail
    go_ret
    exact ⟨ret_bool HL.out.symm, hbA⟩
  have hl' : ((l.length : Int) != (N.ends.length : Int)) = false := by simp; omega
  have HL := Lib.hid hl
  have hle : N.ends.length ≤ l.length := by omega
  have hle2 : l.length ≤ N.ends.length := by omega
  clear hl
  cases hok : l.all (fun x => inB x 0 40) with
  | false =>
    have HOK := Lib.hid hok
    have HNO := Lib.hid (clusB_no (N := N) (l := l) fun h => by rw [Bool.eq_false_iff] at hok; exact hok (List.all_eq_true.2 fun x hx => by have := h.low x hx; exact inB_true (by omega) (by omega))); clear hok
    go_wp2_with (go_at_call 53; refine (l1All_any _ l 0 40 _ _ _ G2.out).mono ?_; rintro e w' ⟨rfl, rfl⟩; rw [HOK.out])
    go_ret
    exact ⟨ret_bool HNO.out.symm, hbA⟩
  | true =>
    have HOK := Lib.hid hok
    have H40 := Lib.hid (fun x (hx : x ∈ l) => inB_le (List.all_eq_true.1 hok x hx)); clear hok
    obtain ⟨m, hm⟩ : ∃ m : Nat, mostI l = m := ⟨(mostI l).toNat, by have := (mostI_spec l).1; omega⟩
    have hmn : m ≤ 40 := by
      obtain ⟨a, b, c⟩ := mostI_spec l
      rcases c with c | c
      · omega
      · have := H40.out _ c; omega
    have HM := Lib.hid hm; clear hm
    go_wp2_with (go_at_call 53; refine (l1All_any _ l 0 40 _ _ _ G2.out).mono ?_; rintro e w' ⟨rfl, rfl⟩; rw [HOK.out])
    clear kbx1_0 kbx1_1 kbx1_2
    go_loop [5] (fun i => ∃ (k : Nat), k ≤ m ∧ i = .int .i64 k ∧ Hid (∀ j : Nat, j < k → (j : Int) ∈ l)) (fun i => m - (intOf i).toNat)
    case atStart => exact ⟨0, Nat.zero_le _, rfl, Lib.hid fun j hj => absurd hj (by omega)⟩
    case round =>
      obtain ⟨k, hk, rfl, HU⟩ := hrel
      by_cases hlt : k < m
      case pos =>
        cases hh : decide ((k : Int) ∈ l) with
        | true =>
          have HH := Lib.hid hh; clear hh
          go_wp2_with (first | (go_at_call 55; refine (meMost_any _ l _ _ _ G2.out (by omega)).mono ?_; rintro e w' ⟨rfl, rfl⟩; rw [HM.out]) | (go_at_call 51; refine (l1Has_any _ l k _ _ _ G2.out).mono ?_; rintro e w' ⟨rfl, rfl⟩; rw [HH.out]))
          go_round
          case rel =>
            refine ⟨k + 1, by omega, by go_num, Lib.hid fun j hj => ?_⟩
            by_cases e : j = k
            · rw [e]; exact of_decide_eq_true HH.out
            · exact HU.out j (by omega)
          case measure => simp [intOf]; omega
        | false =>
          have HH := Lib.hid hh; clear hh
          have HNO := Lib.hid (clusB_no (N := N) (l := l) fun h => of_decide_eq_false HH.out (h.full k (by rw [HM.out]; omega)))
          go_wp2_with (first | (go_at_call 55; refine (meMost_any _ l _ _ _ G2.out (by omega)).mono ?_; rintro e w' ⟨rfl, rfl⟩; rw [HM.out]) | (go_at_call 51; refine (l1Has_any _ l k _ _ _ G2.out).mono ?_; rintro e w' ⟨rfl, rfl⟩; rw [HH.out]))
          go_ret
          exact ⟨ret_bool HNO.out.symm, hbA⟩
      have kbx1_0 : WA.cell? ⟨w.heap.size, 0, none⟩ = some (.slice (some ⟨b1, o1, none⟩) N.ends.length c1) := bx1.cell 0 (by simp)
      have kbx1_1 : WA.cell? ⟨w.heap.size, 1, none⟩ = some (.slice A1' N.ids.length c1') := bx1.cell 1 (by simp)
      have kbx1_2 : WA.cell? ⟨w.heap.size, 2, none⟩ = some (.slice A1'' N.inputs.length c1'') := bx1.cell 2 (by simp)
      go_wp2_with (go_at_call 55; refine (meMost_any _ l _ _ _ G2.out (by omega)).mono ?_; rintro e w' ⟨rfl, rfl⟩; rw [HM.out])
      clear kbx1_0 kbx1_1 kbx1_2
      refine (meParts_any _ N lo1 hi1 _ G1.out (by omega) HG.out).mono ?_
      rintro e W2 ⟨rp, rfl, hrp, hb2⟩
      have hg2 := grown_below hb2; clear hb2
      have hs2 := hg2.size
      have HF2 := Lib.hid ((Turned.refl WA.heap.size WA.heap.size WA).still hg2)
      have P2 := Lib.hid hrp; clear hrp
      obtain ⟨Ap, cp, rfl, hcp, hdp⟩ := P2.out.dims
      rw [compAll_length] at hcp P2 ⊢
      have HUM := Lib.hid (fun (j : Nat) (hj : (j : Int) < mostI l) => HU.out j (by rw [HM.out] at hj; omega))
      have N_2 := Lib.hid (Net.turned G1.out HF2.out (by omega) (by omega)); clear G1
      have l_2 := Lib.hid (IntS.turned G2.out HF2.out (by omega) (by omega)); clear G2
      have bx1_2 := HF2.out.boxN bx1 (by omega); clear bx1
      have hbA2 := (HF2.out.below_of hbA (by omega) (by omega)); clear hbA HF2
      go_wp2_with fail
      go_loopw [36] (fun i wr => ∃ (v : Nat), v ≤ N.ends.length ∧ i = .int .i64 v ∧ Hid (∀ v', v' < v → ∀ w, w < v' → nth l v' = nth l w → comp N v' = comp N w) ∧ Hid (Turned W2.heap.size W2.heap.size W2 wr)) (fun i _ => N.ends.length - (intOf i).toNat)
      case atStart => exact ⟨0, Nat.zero_le _, rfl, Lib.hid fun j hj => absurd hj (by omega), Lib.hid (Turned.refl W2.heap.size W2.heap.size W2)⟩
      case round =>
        obtain ⟨v, hv, rfl, HV, HF3⟩ := hrel
        have hs3 := HF3.out.size
        by_cases hlt : v < N.ends.length
        case neg =>
          obtain rfl : v = N.ends.length := by omega
          go_wp2_with fail
          go_ret
          exact ⟨ret_bool (clusB_yes (clus_mk HG.out HL.out H40.out HUM.out HV.out)).symm, (HF3.out.below_of hbA2 (by omega) (by omega))⟩
        have hvl : v < l.length := by omega
        obtain ⟨bl, ol, rfl, -, hbl, xv, -⟩ := IntS.opened (IntS.turned l_2.out HF3.out (by omega) (by omega)) hvl
        obtain ⟨bp, op, rfl, -, hbp, -, -⟩ := IntS.opened (IntS.turned P2.out HF3.out (by omega) (by omega)) (j := v) (by rw [compAll_length]; exact hlt)
        obtain ⟨x, HX⟩ : ∃ x, Hid (nth l v = x) := ⟨_, Lib.hid rfl⟩
        rw [HX.out] at xv
        obtain ⟨wo, rfl⟩ : ∃ wo : World, wo = wr := ⟨_, rfl⟩
        go_wp2_with fail
        go_loopw [45] (fun i wr => ∃ (q nd : Nat), q ≤ v ∧ i = .int .i64 q ∧ Hid (∀ w, w < q → nth l v = nth l w → comp N v = comp N w) ∧ wr = wo.drewN nd) (fun i _ => v - (intOf i).toNat)
        case atStart => exact ⟨0, 0, Nat.zero_le _, rfl, Lib.hid fun j hj => absurd hj (by omega), rfl⟩
        case round =>
          obtain ⟨q, nd, hq, rfl, HQ, rfl⟩ := hrel
          by_cases hql : q < v
          case neg =>
            obtain rfl : q = v := by omega
            go_wp2_with fail
            go_roundw
            case rel =>
              refine ⟨q + 1, by omega, by go_num, Lib.hid fun v' hv' => ?_, Lib.hid (HF3.out.still (grown_drewN _ nd))⟩
              by_cases e : v' = q
              · rw [e]; exact HQ.out
              · exact HV.out v' (by omega)
            case measure => simp [intOf]; omega
          have xw := ((IntS.turned l_2.out HF3.out (by omega) (by omega)).at_ (j := q) (by omega)).1
          have y1 := ((IntS.turned P2.out HF3.out (by omega) (by omega)).at_ (j := v) (by rw [compAll_length]; exact hlt)).1
          have y2 := ((IntS.turned P2.out HF3.out (by omega) (by omega)).at_ (j := q) (by rw [compAll_length]; omega)).1
          rw [nth_compAll hlt] at y1
          rw [nth_compAll (by omega)] at y2
          obtain ⟨y, HY⟩ : ∃ y, Hid (nth l q = y) := ⟨_, Lib.hid rfl⟩
          rw [HY.out] at xw
          obtain ⟨c1x, HC1⟩ : ∃ c, Hid (comp N v = c) := ⟨_, Lib.hid rfl⟩
          obtain ⟨c2x, HC2⟩ : ∃ c, Hid (comp N q = c) := ⟨_, Lib.hid rfl⟩
          rw [HC1.out] at y1
          rw [HC2.out] at y2
          have i1 : (v : Int) < N.ends.length := by omega
          have i2 : (q : Int) < N.ends.length := by omega
          by_cases hxy : x = y
          case neg =>
            have b1' : (x == y) = false := by simpa using hxy
            have HXY := Lib.hid hxy; clear hxy
            go_wp2_with fail
            go_quiet (fail)
            go_wp2_with fail
            go_roundw
            case rel =>
              refine ⟨q + 1, nd + nq, by omega, by go_num, Lib.hid fun w hw e9 => ?_, rfl⟩
              by_cases e : w = q
              · rw [e, HX.out, HY.out] at e9; exact absurd e9 HXY.out
              · exact HQ.out w (by omega) e9
            case measure => simp [intOf]; omega
          have b1' : (x == y) = true := by simpa using hxy
          have HXY := Lib.hid hxy; clear hxy
          by_cases hcc : c1x = c2x
          case neg =>
            have b2' : ((c1x : Int) != (c2x : Int)) = true := by simp; omega
            have HNO := Lib.hid (clusB_no (N := N) (l := l) fun h => hcc (by rw [← HC1.out, ← HC2.out]; exact h.one v q hlt (by omega) (by rw [HX.out, HY.out, HXY.out])))
            clear hcc
            go_wp2_with fail
            go_quiet (fail)
            go_wp2_with fail
            go_ret
            exact ⟨ret_bool HNO.out.symm, below_drewN (below_drewN (HF3.out.below_of hbA2 (by omega) (by omega)) _) _⟩
          have b2' : ((c1x : Int) != (c2x : Int)) = false := by simp; omega
          have HCC := Lib.hid hcc; clear hcc
          go_wp2_with fail
          go_quiet (fail)
          go_wp2_with fail
          go_roundw
          case rel =>
            refine ⟨q + 1, nd + nq, by omega, by go_num, Lib.hid fun w hw e9 => ?_, rfl⟩
            by_cases e : w = q
            · rw [e, HC1.out, HC2.out, HCC.out]
            · exact HQ.out w (by omega) e9
          case measure => simp [intOf]; omega

set_option maxHeartbeats 1000000 in
theorem dc1_any (v i t r g : Nat) (D : DecD) (A1 A2 : Option Addr) (c1 c2 lo hi : Nat) (w : World) (hbx : BoxN w g #[.slice A1 D.cluster.length c1, .slice A2 D.colour.length c2] 36) (h1 : IntS w lo hi (.slice A1 D.cluster.length c1) D.cluster) (h2 : IntS w lo hi (.slice A2 D.colour.length c2) D.colour) (hh : hi ≤ w.heap.size)
    (hv : v < D.cluster.length) (ht : t < D.cluster.length) (a b : Nat) (ha : nth D.cluster v = a) (hb : nth D.cluster t = b) (ha2 : a < D.colour.length) (hb2 : b < D.colour.length) :
    Calls Try.prog 84 #[.agg #[.int .i64 v, .int .i64 i, .int .i64 t, .int .i64 r], .pointer (some ⟨g, 0, none⟩)] w fun e w' => e = .returned (.bool (clash D v t)) ∧ Below w.heap.size w w' := by
  obtain ⟨b1, o1, rfl, _, _, y1, _⟩ := h1.opened hv
  have y2 := (h1.at_ ht).1
  obtain ⟨b2, o2, rfl, _, _, z1, _⟩ := h2.opened ha2
  have z2 := (h2.at_ hb2).1
  rw [ha] at y1
  rw [hb] at y2
  obtain ⟨p, hp⟩ : ∃ p, Hid (nth D.colour a = p) := ⟨_, Lib.hid rfl⟩
  obtain ⟨q, hq⟩ : ∃ q, Hid (nth D.colour b = q) := ⟨_, Lib.hid rfl⟩
  rw [hp.out] at z1
  rw [hq.out] at z2
  have HCL := Lib.hid (show clash D v t = (!decide ((a : Int) = b) && decide (p = q)) by unfold clash; rw [ha, hb, Int.toNat_natCast, Int.toNat_natCast, hp.out, hq.out])
  have hbd := h1.dims
  obtain ⟨WA, HWA⟩ : ∃ W, Hid (W = w.alloc (.cells #[.int .i64 v, .int .i64 i, .int .i64 t, .int .i64 r] 95)) := ⟨_, Lib.hid rfl⟩
  have hbA : Below w.heap.size w WA := by rw [HWA.out]; exact below_a1 _ _
  have hsA : w.heap.size + 1 ≤ WA.heap.size := by rw [HWA.out]; simp
  have bx : BoxN WA w.heap.size #[.int .i64 v, .int .i64 i, .int .i64 t, .int .i64 r] 95 := by rw [HWA.out]; exact BoxN.new _ _ _
  have k0 : WA.cell? ⟨w.heap.size, 0, none⟩ = some (.int .i64 v) := bx.cell 0 (by simp)
  have k2 : WA.cell? ⟨w.heap.size, 2, none⟩ = some (.int .i64 t) := bx.cell 2 (by simp)
  have bg := hbx.below hbA hbx.lt
  have g0 : WA.cell? ⟨g, 0, none⟩ = some (.slice (some ⟨b1, o1, none⟩) D.cluster.length c1) := bg.cell 0 (by simp)
  have g1 : WA.cell? ⟨g, 1, none⟩ = some (.slice (some ⟨b2, o2, none⟩) D.colour.length c2) := bg.cell 1 (by simp)
  replace y1 := (hbA.cell (p := ⟨b1, o1 + v, none⟩) (by show b1 < _; omega)).trans y1
  replace y2 := (hbA.cell (p := ⟨b1, o1 + t, none⟩) (by show b1 < _; omega)).trans y2
  replace z1 := (hbA.cell (p := ⟨b2, o2 + a, none⟩) (by show b2 < _; omega)).trans z1
  replace z2 := (hbA.cell (p := ⟨b2, o2 + b, none⟩) (by show b2 < _; omega)).trans z2
  have i1 : (v : Int) < D.cluster.length := by omega
  have i2 : (t : Int) < D.cluster.length := by omega
  have i3 : (a : Int) < D.colour.length := by omega
  have i4 : (b : Int) < D.colour.length := by omega
  clear h1 h2 hbx hbd bg bx ha hb
  by_cases hab : a = b
  · have hab' : ((a : Int) != (b : Int)) = false := by simp; omega
    have HR := Lib.hid (show clash D v t = false by rw [HCL.out, hab]; simp)
    clear hab
    go_enter Try.func84, Try.ntmps84
    go_upto_region 1 with (fail)
    rw [← HWA.out]; clear HWA
    go_quiet (fail)
    go_wp2_with fail
    go_quiet (fail)
    go_wp2_with fail
    go_ret
    exact ⟨ret_bool HR.out.symm, below_drewN (below_drewN hbA _) _⟩
  · have hab' : ((a : Int) != (b : Int)) = true := by simp; omega
    have HAB := Lib.hid hab; clear hab
    cases hpq : (p == q) with
    | true =>
      have HR := Lib.hid (show clash D v t = true by rw [HCL.out, decide_eq_false (by have := HAB.out; omega), decide_eq_true (by simpa using hpq)]; rfl)
      go_enter Try.func84, Try.ntmps84
      go_upto_region 1 with (fail)
      rw [← HWA.out]; clear HWA
      go_quiet (fail)
      go_wp2_with fail
      go_quiet (fail)
      go_wp2_with fail
      go_ret
      exact ⟨ret_bool HR.out.symm, below_drewN (below_drewN hbA _) _⟩
    | false =>
      have HR := Lib.hid (show clash D v t = false by rw [HCL.out, decide_eq_false (show ¬ p = q by simpa using hpq)]; simp)
      go_enter Try.func84, Try.ntmps84
      go_upto_region 1 with (fail)
      rw [← HWA.out]; clear HWA
      go_quiet (fail)
      go_wp2_with fail
      go_quiet (fail)
      go_wp2_with fail
      go_ret
      exact ⟨ret_bool HR.out.symm, below_drewN (below_drewN hbA _) _⟩

theorem any_range_nthQ (l : List Quad) (p : Quad → Bool) : (List.range l.length).any (fun k => p (nthQ l k)) = l.any p := by
  rw [Bool.eq_iff_iff, List.any_eq_true, List.any_eq_true]
  constructor
  · rintro ⟨k, hk, h⟩; exact ⟨_, nthQ_mem (List.mem_range.1 hk), h⟩
  · rintro ⟨q, hq, h⟩
    obtain ⟨k, hk, e⟩ := List.mem_iff_getElem.1 hq
    exact ⟨k, List.mem_range.2 hk, by rw [nthQ_eq hk, e]; exact h⟩

set_option maxHeartbeats 4000000 in
set_option maxRecDepth 100000 in
theorem isDecomposition_any (v1 : Value) (N : NetD) (lo1 hi1 : Nat) (v2 : Value) (D : DecD) (lo2 hi2 : Nat) (w : World) (h1 : Net w lo1 hi1 v1 N) (hh1 : hi1 ≤ w.heap.size) (h2 : Dec w lo2 hi2 v2 D) (hh2 : hi2 ≤ w.heap.size) (hg : N.good = true) (hz : D.sz ≤ 1048576) :
    Calls Try.prog 58 #[v1, v2] w fun e w' => e = .returned (.bool (decB N D)) ∧ Below w.heap.size w w' := by
  have hdz : D.cluster.length ≤ 1048576 ∧ D.colour.length ≤ 1048576 := by unfold DecD.sz at hz; omega
  obtain ⟨hdz1, hdz2⟩ := hdz
  clear hz
  obtain ⟨n1, n40⟩ := good_n hg
  have HG := Lib.hid hg; clear hg
  have hmf : ∀ (fn : Fn) (first cap : Array Value) (w : World), (Instr.makeFunc fn first cap).run Try.prog w = .ok (.func fn first cap) w := fun _ _ _ _ => rfl
  have F1 := Lib.hid h1
  obtain ⟨A1, c1, A1', c1', A1'', c1'', rfl, hc1, hd1, _⟩ := h1.parts
  obtain ⟨b1, o1, _, _, rfl, _⟩ := Net.rowAt F1.out (u := 0) (by omega)
  clear h1
  have F2 := Lib.hid h2
  obtain ⟨A2, c2, A2', c2', rfl, hc2, hd2⟩ := h2.parts
  clear h2
  obtain ⟨WA, HWA⟩ : ∃ W, Hid (W = ((w.alloc (.cells #[.slice (some ⟨b1, o1, none⟩) N.ends.length c1, .slice A1' N.ids.length c1', .slice A1'' N.inputs.length c1''] 34)).alloc (.cells #[.slice A2 D.cluster.length c2, .slice A2' D.colour.length c2'] 36))) := ⟨_, Lib.hid rfl⟩
  have hbA : Below w.heap.size w WA := by rw [HWA.out]; exact (((Below.refl _ _).alloc (Nat.le_refl _) _).alloc (by simp; try omega) _)
  have hsA : w.heap.size + 2 ≤ WA.heap.size := by rw [HWA.out]; simp; try omega
  have bx1 : BoxN WA (w.heap.size) #[.slice (some ⟨b1, o1, none⟩) N.ends.length c1, .slice A1' N.ids.length c1', .slice A1'' N.inputs.length c1''] 34 := by rw [HWA.out]; exact (BoxN.new' _ _ _ (by simp)).still (grown_alloc _ _)
  have bx2 : BoxN WA (w.heap.size + 1) #[.slice A2 D.cluster.length c2, .slice A2' D.colour.length c2'] 36 := by rw [HWA.out]; exact (BoxN.new' _ _ _ (by simp))
  have G1 := Lib.hid (Net.below F1.out hbA hh1); clear F1
  have G2 := Lib.hid (Dec.below F2.out hbA hh2); clear F2
  go_enter Try.func58, Try.ntmps58
  go_upto_region 1 with (fail)
  rw [← HWA.out]; clear HWA
  have gC := Lib.hid (Dec.clusterS G2.out)
  have gL := Lib.hid (Dec.colourS G2.out)
  cases hcl : clusB N D.cluster with
  | false =>
    have HCL := Lib.hid hcl
    have HR := Lib.hid (show decB N D = false by unfold decB; rw [hcl]; rfl)
    clear hcl
    have ebx1_0 : ∀ p, (ext WA p).cell? ⟨w.heap.size, 0, none⟩ = some (.slice (some ⟨b1, o1, none⟩) N.ends.length c1) := ext_cell WA (a := ⟨w.heap.size, 0, none⟩) (bx1).lt (bx1.cell 0 (by simp))
    have ebx1_1 : ∀ p, (ext WA p).cell? ⟨w.heap.size, 1, none⟩ = some (.slice A1' N.ids.length c1') := ext_cell WA (a := ⟨w.heap.size, 1, none⟩) (bx1).lt (bx1.cell 1 (by simp))
    have ebx1_2 : ∀ p, (ext WA p).cell? ⟨w.heap.size, 2, none⟩ = some (.slice A1'' N.inputs.length c1'') := ext_cell WA (a := ⟨w.heap.size, 2, none⟩) (bx1).lt (bx1.cell 2 (by simp))
    have ebx2_0 : ∀ p, (ext WA p).cell? ⟨w.heap.size + 1, 0, none⟩ = some (.slice A2 D.cluster.length c2) := ext_cell WA (a := ⟨w.heap.size + 1, 0, none⟩) (bx2).lt (bx2.cell 0 (by simp))
    have ebx2_1 : ∀ p, (ext WA p).cell? ⟨w.heap.size + 1, 1, none⟩ = some (.slice A2' D.colour.length c2') := ext_cell WA (a := ⟨w.heap.size + 1, 1, none⟩) (bx2).lt (bx2.cell 1 (by simp))
    refine wp_region_ext (by kernel_rfl) (by kernel_rfl) ?_
    repeat (go_big_quiet_step ((first | (go_at_call 80; exact ext_call ((isClustering_any _ N lo1 hi1 _ D.cluster lo2 hi2 _ (Net.below G1.out (ext_below _ _) (by omega)) (Nat.le_trans (by omega) (ext_size _ _)) (IntS.below gC.out (ext_below _ _) (by omega)) (Nat.le_trans (by omega) (ext_size _ _)) HG.out (by omega)).mono fun e w' ⟨he, hb⟩ => ⟨by rw [he, HCL.out], hb⟩)))))
    refine wpQuiet_nil ?_
    rintro w1 ⟨p, rfl⟩
    clear ebx1_0 ebx1_1 ebx1_2 ebx2_0 ebx2_1
    obtain ⟨W1, HW1⟩ : ∃ W, Hid (W = ext WA p) := ⟨_, Lib.hid rfl⟩
    rw [← HW1.out]
    have hg1 : WA.grownBy W1 none := by rw [HW1.out]; exact grown_below (ext_below _ _)
    clear HW1
    have hs1 := hg1.size
    have HF1 := Lib.hid ((Turned.refl WA.heap.size WA.heap.size WA).still hg1)
    go_wp2_with fail
    go_ret
    exact ⟨ret_bool HR.out.symm, (HF1.out.below_of hbA (by omega) (by omega))⟩
  | true =>
    have HCL := Lib.hid hcl
    have HK := Lib.hid (clusB_is hcl); clear hcl
    obtain ⟨m, hm, hmn⟩ := HK.out.most HG.out
    have hcl0 : D.cluster.length = N.ends.length := HK.out.len
    have hcpos : 0 < D.cluster.length := by omega
    have HCLN := Lib.hid hcl0
    have hcle : D.cluster.length ≤ N.ends.length := by omega
    have hcle2 : N.ends.length ≤ D.cluster.length := by omega
    clear hcl0
    have w1x : IntKind.i64.wrap ((m : Int) + 1) = (m : Int) + 1 := IntWalk.i64_in _ (by omega)
    have HM := Lib.hid hm
    have HM1 := Lib.hid (show mostI D.cluster + 1 = (m : Int) + 1 by rw [hm])
    have HMT := Lib.hid (show (mostI D.cluster).toNat = m by omega)
    clear hm
    by_cases hln : D.colour.length = m + 1
    case neg =>
      have hl' : ((D.colour.length : Int) != (m : Int) + 1) = true := by simp; omega
      have HR := Lib.hid (show decB N D = false by unfold decB; rw [HMT.out, decide_eq_false hln]; simp)
      clear hln
      have ebx1_0 : ∀ p, (ext WA p).cell? ⟨w.heap.size, 0, none⟩ = some (.slice (some ⟨b1, o1, none⟩) N.ends.length c1) := ext_cell WA (a := ⟨w.heap.size, 0, none⟩) (bx1).lt (bx1.cell 0 (by simp))
      have ebx1_1 : ∀ p, (ext WA p).cell? ⟨w.heap.size, 1, none⟩ = some (.slice A1' N.ids.length c1') := ext_cell WA (a := ⟨w.heap.size, 1, none⟩) (bx1).lt (bx1.cell 1 (by simp))
      have ebx1_2 : ∀ p, (ext WA p).cell? ⟨w.heap.size, 2, none⟩ = some (.slice A1'' N.inputs.length c1'') := ext_cell WA (a := ⟨w.heap.size, 2, none⟩) (bx1).lt (bx1.cell 2 (by simp))
      have ebx2_0 : ∀ p, (ext WA p).cell? ⟨w.heap.size + 1, 0, none⟩ = some (.slice A2 D.cluster.length c2) := ext_cell WA (a := ⟨w.heap.size + 1, 0, none⟩) (bx2).lt (bx2.cell 0 (by simp))
      have ebx2_1 : ∀ p, (ext WA p).cell? ⟨w.heap.size + 1, 1, none⟩ = some (.slice A2' D.colour.length c2') := ext_cell WA (a := ⟨w.heap.size + 1, 1, none⟩) (bx2).lt (bx2.cell 1 (by simp))
      refine wp_region_ext (by kernel_rfl) (by kernel_rfl) ?_
      repeat (go_big_quiet_step ((first | (go_at_call 80; exact ext_call ((isClustering_any _ N lo1 hi1 _ D.cluster lo2 hi2 _ (Net.below G1.out (ext_below _ _) (by omega)) (Nat.le_trans (by omega) (ext_size _ _)) (IntS.below gC.out (ext_below _ _) (by omega)) (Nat.le_trans (by omega) (ext_size _ _)) HG.out (by omega)).mono fun e w' ⟨he, hb⟩ => ⟨by rw [he, HCL.out], hb⟩)) | (go_at_call 60; exact ext_call_same ((classCount_any _ D.cluster _ _ _ (IntS.below gC.out (ext_below _ _) (by omega)) (by omega) (fun x hx => (HK.out.low x hx).1) (fun x hx => by have := (HK.out.low x hx).2; omega)).mono fun e w' ⟨he, hb⟩ => ⟨by rw [he, HM1.out], hb⟩)))))
      refine wpQuiet_nil ?_
      rintro w1 ⟨p, rfl⟩
      clear ebx1_0 ebx1_1 ebx1_2 ebx2_0 ebx2_1
      obtain ⟨W2, HW2⟩ : ∃ W, Hid (W = ext WA p) := ⟨_, Lib.hid rfl⟩
      rw [← HW2.out]
      have hg2 : WA.grownBy W2 none := by rw [HW2.out]; exact grown_below (ext_below _ _)
      clear HW2
      have hs2 := hg2.size
      have HF2 := Lib.hid ((Turned.refl WA.heap.size WA.heap.size WA).still hg2)
      go_wp2_with fail
      go_ret
      exact ⟨ret_bool HR.out.symm, (HF2.out.below_of hbA (by omega) (by omega))⟩
    have hl' : ((D.colour.length : Int) != (m : Int) + 1) = false := by simp; omega
    have HLN := Lib.hid hln
    have hle3 : m + 1 ≤ D.colour.length := by omega
    have hle4 : D.colour.length ≤ m + 1 := by omega
    clear hln
    cases hok : D.colour.all (fun x => inB x 0 40) with
    | false =>
      have HOK := Lib.hid hok
      have HR := Lib.hid (show decB N D = false by unfold decB; rw [hok]; simp)
      clear hok
      have ebx1_0 : ∀ p, (ext WA p).cell? ⟨w.heap.size, 0, none⟩ = some (.slice (some ⟨b1, o1, none⟩) N.ends.length c1) := ext_cell WA (a := ⟨w.heap.size, 0, none⟩) (bx1).lt (bx1.cell 0 (by simp))
      have ebx1_1 : ∀ p, (ext WA p).cell? ⟨w.heap.size, 1, none⟩ = some (.slice A1' N.ids.length c1') := ext_cell WA (a := ⟨w.heap.size, 1, none⟩) (bx1).lt (bx1.cell 1 (by simp))
      have ebx1_2 : ∀ p, (ext WA p).cell? ⟨w.heap.size, 2, none⟩ = some (.slice A1'' N.inputs.length c1'') := ext_cell WA (a := ⟨w.heap.size, 2, none⟩) (bx1).lt (bx1.cell 2 (by simp))
      have ebx2_0 : ∀ p, (ext WA p).cell? ⟨w.heap.size + 1, 0, none⟩ = some (.slice A2 D.cluster.length c2) := ext_cell WA (a := ⟨w.heap.size + 1, 0, none⟩) (bx2).lt (bx2.cell 0 (by simp))
      have ebx2_1 : ∀ p, (ext WA p).cell? ⟨w.heap.size + 1, 1, none⟩ = some (.slice A2' D.colour.length c2') := ext_cell WA (a := ⟨w.heap.size + 1, 1, none⟩) (bx2).lt (bx2.cell 1 (by simp))
      refine wp_region_ext (by kernel_rfl) (by kernel_rfl) ?_
      repeat (go_big_quiet_step ((first | (go_at_call 80; exact ext_call ((isClustering_any _ N lo1 hi1 _ D.cluster lo2 hi2 _ (Net.below G1.out (ext_below _ _) (by omega)) (Nat.le_trans (by omega) (ext_size _ _)) (IntS.below gC.out (ext_below _ _) (by omega)) (Nat.le_trans (by omega) (ext_size _ _)) HG.out (by omega)).mono fun e w' ⟨he, hb⟩ => ⟨by rw [he, HCL.out], hb⟩)) | (go_at_call 60; exact ext_call_same ((classCount_any _ D.cluster _ _ _ (IntS.below gC.out (ext_below _ _) (by omega)) (by omega) (fun x hx => (HK.out.low x hx).1) (fun x hx => by have := (HK.out.low x hx).2; omega)).mono fun e w' ⟨he, hb⟩ => ⟨by rw [he, HM1.out], hb⟩)) | (go_at_call 81; exact ext_call ((allWithin_any _ D.colour 0 40 _ _ _ (IntS.below gL.out (ext_below _ _) (by omega)) (Nat.le_trans (by omega) (ext_size _ _))).mono fun e w' ⟨he, hb⟩ => ⟨by rw [he, HOK.out], hb⟩)))))
      refine wpQuiet_nil ?_
      rintro w1 ⟨p, rfl⟩
      clear ebx1_0 ebx1_1 ebx1_2 ebx2_0 ebx2_1
      obtain ⟨W3, HW3⟩ : ∃ W, Hid (W = ext WA p) := ⟨_, Lib.hid rfl⟩
      rw [← HW3.out]
      have hg3 : WA.grownBy W3 none := by rw [HW3.out]; exact grown_below (ext_below _ _)
      clear HW3
      have hs3 := hg3.size
      have HF3 := Lib.hid ((Turned.refl WA.heap.size WA.heap.size WA).still hg3)
      go_wp2_with fail
      go_ret
      exact ⟨ret_bool HR.out.symm, (HF3.out.below_of hbA (by omega) (by omega))⟩
    | true =>
      have HOK := Lib.hid hok
      have HDB := Lib.hid (show decB N D = noClash N D by unfold decB; rw [HCL.out, hok, HMT.out, HLN.out]; simp)
      have HNAT := Lib.hid (fun v (hv : v < N.ends.length) => show ∃ a : Nat, nth D.cluster v = a ∧ a < D.colour.length by obtain ⟨a, ha, _⟩ := HK.out.nat hv; have h2 := (mostI_spec D.cluster).2.1 _ (nth_mem (zs := D.cluster) (i := v) (by omega)); have h3 := HM.out; exact ⟨a, ha, by omega⟩)
      clear hok
      have ebx1_0 : ∀ p, (ext WA p).cell? ⟨w.heap.size, 0, none⟩ = some (.slice (some ⟨b1, o1, none⟩) N.ends.length c1) := ext_cell WA (a := ⟨w.heap.size, 0, none⟩) (bx1).lt (bx1.cell 0 (by simp))
      have ebx1_1 : ∀ p, (ext WA p).cell? ⟨w.heap.size, 1, none⟩ = some (.slice A1' N.ids.length c1') := ext_cell WA (a := ⟨w.heap.size, 1, none⟩) (bx1).lt (bx1.cell 1 (by simp))
      have ebx1_2 : ∀ p, (ext WA p).cell? ⟨w.heap.size, 2, none⟩ = some (.slice A1'' N.inputs.length c1'') := ext_cell WA (a := ⟨w.heap.size, 2, none⟩) (bx1).lt (bx1.cell 2 (by simp))
      have ebx2_0 : ∀ p, (ext WA p).cell? ⟨w.heap.size + 1, 0, none⟩ = some (.slice A2 D.cluster.length c2) := ext_cell WA (a := ⟨w.heap.size + 1, 0, none⟩) (bx2).lt (bx2.cell 0 (by simp))
      have ebx2_1 : ∀ p, (ext WA p).cell? ⟨w.heap.size + 1, 1, none⟩ = some (.slice A2' D.colour.length c2') := ext_cell WA (a := ⟨w.heap.size + 1, 1, none⟩) (bx2).lt (bx2.cell 1 (by simp))
      refine wp_region_ext (by kernel_rfl) (by kernel_rfl) ?_
      repeat (go_big_quiet_step ((first | (go_at_call 80; exact ext_call ((isClustering_any _ N lo1 hi1 _ D.cluster lo2 hi2 _ (Net.below G1.out (ext_below _ _) (by omega)) (Nat.le_trans (by omega) (ext_size _ _)) (IntS.below gC.out (ext_below _ _) (by omega)) (Nat.le_trans (by omega) (ext_size _ _)) HG.out (by omega)).mono fun e w' ⟨he, hb⟩ => ⟨by rw [he, HCL.out], hb⟩)) | (go_at_call 60; exact ext_call_same ((classCount_any _ D.cluster _ _ _ (IntS.below gC.out (ext_below _ _) (by omega)) (by omega) (fun x hx => (HK.out.low x hx).1) (fun x hx => by have := (HK.out.low x hx).2; omega)).mono fun e w' ⟨he, hb⟩ => ⟨by rw [he, HM1.out], hb⟩)) | (go_at_call 81; exact ext_call ((allWithin_any _ D.colour 0 40 _ _ _ (IntS.below gL.out (ext_below _ _) (by omega)) (Nat.le_trans (by omega) (ext_size _ _))).mono fun e w' ⟨he, hb⟩ => ⟨by rw [he, HOK.out], hb⟩)))))
      refine wpQuiet_nil ?_
      rintro w1 ⟨p, rfl⟩
      clear ebx1_0 ebx1_1 ebx1_2 ebx2_0 ebx2_1
      obtain ⟨W4, HW4⟩ : ∃ W, Hid (W = ext WA p) := ⟨_, Lib.hid rfl⟩
      rw [← HW4.out]
      have hg4 : WA.grownBy W4 none := by rw [HW4.out]; exact grown_below (ext_below _ _)
      clear HW4
      have hs4 := hg4.size
      have HF4 := Lib.hid ((Turned.refl WA.heap.size WA.heap.size WA).still hg4)
      clear hl' w1x HM1
      have N_4 := Lib.hid (Net.turned G1.out HF4.out (by omega) (by omega)); clear G1
      have D_4 := Lib.hid (Dec.turned G2.out HF4.out (by omega) (by omega)); clear G2
      have bx1_4 := HF4.out.boxN bx1 (by omega); clear bx1
      have bx2_4 := HF4.out.boxN bx2 (by omega); clear bx2
      have Cl_4 := Lib.hid (IntS.turned gC.out HF4.out (by omega) (by omega)); clear gC
      have Co_4 := Lib.hid (IntS.turned gL.out HF4.out (by omega) (by omega)); clear gL
      have hbA4 := (HF4.out.below_of hbA (by omega) (by omega)); clear hbA HF4
      have kbx1_0 : W4.cell? ⟨w.heap.size, 0, none⟩ = some (.slice (some ⟨b1, o1, none⟩) N.ends.length c1) := bx1_4.cell 0 (by simp)
      have kbx1_1 : W4.cell? ⟨w.heap.size, 1, none⟩ = some (.slice A1' N.ids.length c1') := bx1_4.cell 1 (by simp)
      have kbx1_2 : W4.cell? ⟨w.heap.size, 2, none⟩ = some (.slice A1'' N.inputs.length c1'') := bx1_4.cell 2 (by simp)
      go_wp2_with fail
      clear kbx1_0 kbx1_1 kbx1_2
      refine (edges_any _ N lo1 hi1 _ N_4.out (by omega) HG.out).mono ?_
      rintro e W5 ⟨rq, rfl, hrq, hb5⟩
      have hg5 := grown_below hb5; clear hb5
      have hs5 := hg5.size
      have HF5 := Lib.hid ((Turned.refl W4.heap.size W4.heap.size W4).still hg5)
      have Q5 := Lib.hid hrq; clear hrq
      obtain ⟨Aq, cq, rfl, hcq, hdq⟩ := Q5.out.dims
      have b9 := Lib.hid (HF5.out.boxN bx2_4 (by omega))
      have c9 := Lib.hid (IntS.turned Cl_4.out HF5.out (by omega) (by omega))
      have l9 := Lib.hid (IntS.turned Co_4.out HF5.out (by omega) (by omega))
      have HCF := Lib.hid (ContainsFunc_edge 84 #[.pointer (some ⟨w.heap.size + 1, 0, none⟩)] (enters_of Try.func84 (by kernel_rfl) rfl) (fun k => clashQ D (nthQ (edges N) k)) _ (edges N) _ _ _ Q5.out (Nat.le_refl _) (fun k hk W hW => by
        obtain ⟨v, i, t, r, eq, q1, q2, q3, q4, _⟩ := edge_nat HG.out (nthQ_mem hk)
        obtain ⟨a, ha, ha2⟩ := HNAT.out v q1
        obtain ⟨b, hb, hb2⟩ := HNAT.out t q3
        have hws := hW.size
        rw [eq]
        exact dc1_any v i t r _ D _ _ _ _ lo2 hi2 W (b9.out.below hW b9.out.lt) (c9.out.below hW (by omega)) (l9.out.below hW (by omega)) (by omega) (by omega) (by omega) a b ha hb ha2 hb2))
      clear b9 c9 l9
      go_wp2_with fail
      refine (HCF.out).mono ?_
      rintro e W6 ⟨rfl, hb6⟩
      have hg6 := grown_below hb6; clear hb6
      have hs6 := hg6.size
      have HF6 := Lib.hid (HF5.out.still hg6); clear HF5
      have Q6 := Lib.hid (QuadS.still Q5.out hg6 (by omega)); clear Q5
      have HR := Lib.hid (show decB N D = !(List.range (edges N).length).any (fun k => clashQ D (nthQ (edges N) k)) by rw [HDB.out, noClash_eq HG.out, any_range_nthQ])
      cases hany : (List.range (edges N).length).any (fun k => clashQ D (nthQ (edges N) k)) with
      | true =>
        rw [hany] at HR; clear hany
        go_wp2_with fail
        go_ret
        exact ⟨ret_bool HR.out.symm, (HF6.out.below_of hbA4 (by omega) (by omega))⟩
      | false =>
        rw [hany] at HR; clear hany
        go_wp2_with fail
        go_ret
        exact ⟨ret_bool HR.out.symm, (HF6.out.below_of hbA4 (by omega) (by omega))⟩

set_option maxHeartbeats 4000000 in
set_option maxRecDepth 100000 in
theorem deGood_any (v1 : Value) (N : NetD) (lo1 hi1 : Nat) (v2 : Value) (D : DecD) (lo2 hi2 : Nat) (w : World) (h1 : Net w lo1 hi1 v1 N) (hh1 : hi1 ≤ w.heap.size) (h2 : Dec w lo2 hi2 v2 D) (hh2 : hi2 ≤ w.heap.size) (hg : N.good = true) (hz : D.sz ≤ 1048576) :
    Calls Try.prog 49 #[v1, v2] w fun e w' => e = .returned (.bool (decB N D)) ∧ Below w.heap.size w w' := by
  have hdz : D.cluster.length ≤ 1048576 ∧ D.colour.length ≤ 1048576 := by unfold DecD.sz at hz; omega
  obtain ⟨hdz1, hdz2⟩ := hdz
  clear hz
  obtain ⟨n1, n40⟩ := good_n hg
  have HG := Lib.hid hg; clear hg
  have F1 := Lib.hid h1
  obtain ⟨A1, c1, A1', c1', A1'', c1'', rfl, hc1, hd1, _⟩ := h1.parts
  obtain ⟨b1, o1, _, _, rfl, _⟩ := Net.rowAt F1.out (u := 0) (by omega)
  clear h1
  have F2 := Lib.hid h2
  obtain ⟨A2, c2, A2', c2', rfl, hc2, hd2⟩ := h2.parts
  clear h2
  obtain ⟨WA, HWA⟩ : ∃ W, Hid (W = ((w.alloc (.cells #[.slice (some ⟨b1, o1, none⟩) N.ends.length c1, .slice A1' N.ids.length c1', .slice A1'' N.inputs.length c1''] 34)).alloc (.cells #[.slice A2 D.cluster.length c2, .slice A2' D.colour.length c2'] 36))) := ⟨_, Lib.hid rfl⟩
  have hbA : Below w.heap.size w WA := by rw [HWA.out]; exact (((Below.refl _ _).alloc (Nat.le_refl _) _).alloc (by simp; try omega) _)
  have hsA : w.heap.size + 2 ≤ WA.heap.size := by rw [HWA.out]; simp; try omega
  have bx1 : BoxN WA (w.heap.size) #[.slice (some ⟨b1, o1, none⟩) N.ends.length c1, .slice A1' N.ids.length c1', .slice A1'' N.inputs.length c1''] 34 := by rw [HWA.out]; exact (BoxN.new' _ _ _ (by simp)).still (grown_alloc _ _)
  have bx2 : BoxN WA (w.heap.size + 1) #[.slice A2 D.cluster.length c2, .slice A2' D.colour.length c2'] 36 := by rw [HWA.out]; exact (BoxN.new' _ _ _ (by simp))
  have G1 := Lib.hid (Net.below F1.out hbA hh1); clear F1
  have G2 := Lib.hid (Dec.below F2.out hbA hh2); clear F2
  go_enter Try.func49, Try.ntmps49
  go_upto_region 1 with (fail)
  rw [← HWA.out]; clear HWA
  have gC := Lib.hid (Dec.clusterS G2.out)
  have gL := Lib.hid (Dec.colourS G2.out)
  cases hcl : clusB N D.cluster with
  | false =>
    have HCL := Lib.hid hcl
    have HR := Lib.hid (show decB N D = false by unfold decB; rw [hcl]; rfl)
    clear hcl
    have ebx1_0 : ∀ p, (ext WA p).cell? ⟨w.heap.size, 0, none⟩ = some (.slice (some ⟨b1, o1, none⟩) N.ends.length c1) := ext_cell WA (a := ⟨w.heap.size, 0, none⟩) (bx1).lt (bx1.cell 0 (by simp))
    have ebx1_1 : ∀ p, (ext WA p).cell? ⟨w.heap.size, 1, none⟩ = some (.slice A1' N.ids.length c1') := ext_cell WA (a := ⟨w.heap.size, 1, none⟩) (bx1).lt (bx1.cell 1 (by simp))
    have ebx1_2 : ∀ p, (ext WA p).cell? ⟨w.heap.size, 2, none⟩ = some (.slice A1'' N.inputs.length c1'') := ext_cell WA (a := ⟨w.heap.size, 2, none⟩) (bx1).lt (bx1.cell 2 (by simp))
    have ebx2_0 : ∀ p, (ext WA p).cell? ⟨w.heap.size + 1, 0, none⟩ = some (.slice A2 D.cluster.length c2) := ext_cell WA (a := ⟨w.heap.size + 1, 0, none⟩) (bx2).lt (bx2.cell 0 (by simp))
    have ebx2_1 : ∀ p, (ext WA p).cell? ⟨w.heap.size + 1, 1, none⟩ = some (.slice A2' D.colour.length c2') := ext_cell WA (a := ⟨w.heap.size + 1, 1, none⟩) (bx2).lt (bx2.cell 1 (by simp))
    refine wp_region_ext (by kernel_rfl) (by kernel_rfl) ?_
    repeat (go_big_quiet_step ((first | (go_at_call 72; exact ext_call ((deClustering_any _ N lo1 hi1 _ D.cluster lo2 hi2 _ (Net.below G1.out (ext_below _ _) (by omega)) (Nat.le_trans (by omega) (ext_size _ _)) (IntS.below gC.out (ext_below _ _) (by omega)) (Nat.le_trans (by omega) (ext_size _ _)) HG.out (by omega)).mono fun e w' ⟨he, hb⟩ => ⟨by rw [he, HCL.out], hb⟩)))))
    refine wpQuiet_nil ?_
    rintro w1 ⟨p, rfl⟩
    clear ebx1_0 ebx1_1 ebx1_2 ebx2_0 ebx2_1
    obtain ⟨W1, HW1⟩ : ∃ W, Hid (W = ext WA p) := ⟨_, Lib.hid rfl⟩
    rw [← HW1.out]
    have hg1 : WA.grownBy W1 none := by rw [HW1.out]; exact grown_below (ext_below _ _)
    clear HW1
    have hs1 := hg1.size
    have HF1 := Lib.hid ((Turned.refl WA.heap.size WA.heap.size WA).still hg1)
    go_wp2_with fail
    go_ret
    exact ⟨ret_bool HR.out.symm, (HF1.out.below_of hbA (by omega) (by omega))⟩
  | true =>
    have HCL := Lib.hid hcl
    have HK := Lib.hid (clusB_is hcl); clear hcl
    obtain ⟨m, hm, hmn⟩ := HK.out.most HG.out
    have hcl0 : D.cluster.length = N.ends.length := HK.out.len
    have hcpos : 0 < D.cluster.length := by omega
    have HCLN := Lib.hid hcl0
    have hcle : D.cluster.length ≤ N.ends.length := by omega
    have hcle2 : N.ends.length ≤ D.cluster.length := by omega
    clear hcl0
    have w1x : IntKind.i64.wrap ((m : Int) + 1) = (m : Int) + 1 := IntWalk.i64_in _ (by omega)
    have HM := Lib.hid hm
    have HM1 := Lib.hid (show mostI D.cluster + 1 = (m : Int) + 1 by rw [hm])
    have HMT := Lib.hid (show (mostI D.cluster).toNat = m by omega)
    clear hm
    by_cases hln : D.colour.length = m + 1
    case neg =>
      have hl' : ((D.colour.length : Int) != (m : Int) + 1) = true := by simp; omega
      have HR := Lib.hid (show decB N D = false by unfold decB; rw [HMT.out, decide_eq_false hln]; simp)
      clear hln
      have ebx1_0 : ∀ p, (ext WA p).cell? ⟨w.heap.size, 0, none⟩ = some (.slice (some ⟨b1, o1, none⟩) N.ends.length c1) := ext_cell WA (a := ⟨w.heap.size, 0, none⟩) (bx1).lt (bx1.cell 0 (by simp))
      have ebx1_1 : ∀ p, (ext WA p).cell? ⟨w.heap.size, 1, none⟩ = some (.slice A1' N.ids.length c1') := ext_cell WA (a := ⟨w.heap.size, 1, none⟩) (bx1).lt (bx1.cell 1 (by simp))
      have ebx1_2 : ∀ p, (ext WA p).cell? ⟨w.heap.size, 2, none⟩ = some (.slice A1'' N.inputs.length c1'') := ext_cell WA (a := ⟨w.heap.size, 2, none⟩) (bx1).lt (bx1.cell 2 (by simp))
      have ebx2_0 : ∀ p, (ext WA p).cell? ⟨w.heap.size + 1, 0, none⟩ = some (.slice A2 D.cluster.length c2) := ext_cell WA (a := ⟨w.heap.size + 1, 0, none⟩) (bx2).lt (bx2.cell 0 (by simp))
      have ebx2_1 : ∀ p, (ext WA p).cell? ⟨w.heap.size + 1, 1, none⟩ = some (.slice A2' D.colour.length c2') := ext_cell WA (a := ⟨w.heap.size + 1, 1, none⟩) (bx2).lt (bx2.cell 1 (by simp))
      refine wp_region_ext (by kernel_rfl) (by kernel_rfl) ?_
      repeat (go_big_quiet_step ((first | (go_at_call 72; exact ext_call ((deClustering_any _ N lo1 hi1 _ D.cluster lo2 hi2 _ (Net.below G1.out (ext_below _ _) (by omega)) (Nat.le_trans (by omega) (ext_size _ _)) (IntS.below gC.out (ext_below _ _) (by omega)) (Nat.le_trans (by omega) (ext_size _ _)) HG.out (by omega)).mono fun e w' ⟨he, hb⟩ => ⟨by rw [he, HCL.out], hb⟩)) | (go_at_call 55; exact ext_call_same ((meMost_any _ D.cluster _ _ _ (IntS.below gC.out (ext_below _ _) (by omega)) (Nat.le_trans (by omega) (ext_size _ _))).mono fun e w' ⟨he, hb⟩ => ⟨by rw [he, HM.out], hb⟩)))))
      refine wpQuiet_nil ?_
      rintro w1 ⟨p, rfl⟩
      clear ebx1_0 ebx1_1 ebx1_2 ebx2_0 ebx2_1
      obtain ⟨W2, HW2⟩ : ∃ W, Hid (W = ext WA p) := ⟨_, Lib.hid rfl⟩
      rw [← HW2.out]
      have hg2 : WA.grownBy W2 none := by rw [HW2.out]; exact grown_below (ext_below _ _)
      clear HW2
      have hs2 := hg2.size
      have HF2 := Lib.hid ((Turned.refl WA.heap.size WA.heap.size WA).still hg2)
      go_wp2_with fail
      go_ret
      exact ⟨ret_bool HR.out.symm, (HF2.out.below_of hbA (by omega) (by omega))⟩
    have hl' : ((D.colour.length : Int) != (m : Int) + 1) = false := by simp; omega
    have HLN := Lib.hid hln
    have hle3 : m + 1 ≤ D.colour.length := by omega
    have hle4 : D.colour.length ≤ m + 1 := by omega
    clear hln
    cases hok : D.colour.all (fun x => inB x 0 40) with
    | false =>
      have HOK := Lib.hid hok
      have HR := Lib.hid (show decB N D = false by unfold decB; rw [hok]; simp)
      clear hok
      have ebx1_0 : ∀ p, (ext WA p).cell? ⟨w.heap.size, 0, none⟩ = some (.slice (some ⟨b1, o1, none⟩) N.ends.length c1) := ext_cell WA (a := ⟨w.heap.size, 0, none⟩) (bx1).lt (bx1.cell 0 (by simp))
      have ebx1_1 : ∀ p, (ext WA p).cell? ⟨w.heap.size, 1, none⟩ = some (.slice A1' N.ids.length c1') := ext_cell WA (a := ⟨w.heap.size, 1, none⟩) (bx1).lt (bx1.cell 1 (by simp))
      have ebx1_2 : ∀ p, (ext WA p).cell? ⟨w.heap.size, 2, none⟩ = some (.slice A1'' N.inputs.length c1'') := ext_cell WA (a := ⟨w.heap.size, 2, none⟩) (bx1).lt (bx1.cell 2 (by simp))
      have ebx2_0 : ∀ p, (ext WA p).cell? ⟨w.heap.size + 1, 0, none⟩ = some (.slice A2 D.cluster.length c2) := ext_cell WA (a := ⟨w.heap.size + 1, 0, none⟩) (bx2).lt (bx2.cell 0 (by simp))
      have ebx2_1 : ∀ p, (ext WA p).cell? ⟨w.heap.size + 1, 1, none⟩ = some (.slice A2' D.colour.length c2') := ext_cell WA (a := ⟨w.heap.size + 1, 1, none⟩) (bx2).lt (bx2.cell 1 (by simp))
      refine wp_region_ext (by kernel_rfl) (by kernel_rfl) ?_
      repeat (go_big_quiet_step ((first | (go_at_call 72; exact ext_call ((deClustering_any _ N lo1 hi1 _ D.cluster lo2 hi2 _ (Net.below G1.out (ext_below _ _) (by omega)) (Nat.le_trans (by omega) (ext_size _ _)) (IntS.below gC.out (ext_below _ _) (by omega)) (Nat.le_trans (by omega) (ext_size _ _)) HG.out (by omega)).mono fun e w' ⟨he, hb⟩ => ⟨by rw [he, HCL.out], hb⟩)) | (go_at_call 55; exact ext_call_same ((meMost_any _ D.cluster _ _ _ (IntS.below gC.out (ext_below _ _) (by omega)) (Nat.le_trans (by omega) (ext_size _ _))).mono fun e w' ⟨he, hb⟩ => ⟨by rw [he, HM.out], hb⟩)) | (go_at_call 53; exact ext_call_same ((l1All_any _ D.colour 0 40 _ _ _ (IntS.below gL.out (ext_below _ _) (by omega))).mono fun e w' ⟨he, hb⟩ => ⟨by rw [he, HOK.out], hb⟩)))))
      refine wpQuiet_nil ?_
      rintro w1 ⟨p, rfl⟩
      clear ebx1_0 ebx1_1 ebx1_2 ebx2_0 ebx2_1
      obtain ⟨W3, HW3⟩ : ∃ W, Hid (W = ext WA p) := ⟨_, Lib.hid rfl⟩
      rw [← HW3.out]
      have hg3 : WA.grownBy W3 none := by rw [HW3.out]; exact grown_below (ext_below _ _)
      clear HW3
      have hs3 := hg3.size
      have HF3 := Lib.hid ((Turned.refl WA.heap.size WA.heap.size WA).still hg3)
      go_wp2_with fail
      go_ret
      exact ⟨ret_bool HR.out.symm, (HF3.out.below_of hbA (by omega) (by omega))⟩
    | true =>
      have HOK := Lib.hid hok
      have HDB := Lib.hid (show decB N D = noClash N D by unfold decB; rw [HCL.out, hok, HMT.out, HLN.out]; simp)
      have HNAT := Lib.hid (fun v (hv : v < N.ends.length) => show ∃ a : Nat, nth D.cluster v = a ∧ a < D.colour.length by obtain ⟨a, ha, _⟩ := HK.out.nat hv; have h2 := (mostI_spec D.cluster).2.1 _ (nth_mem (zs := D.cluster) (i := v) (by omega)); have h3 := HM.out; exact ⟨a, ha, by omega⟩)
      clear hok
      have ebx1_0 : ∀ p, (ext WA p).cell? ⟨w.heap.size, 0, none⟩ = some (.slice (some ⟨b1, o1, none⟩) N.ends.length c1) := ext_cell WA (a := ⟨w.heap.size, 0, none⟩) (bx1).lt (bx1.cell 0 (by simp))
      have ebx1_1 : ∀ p, (ext WA p).cell? ⟨w.heap.size, 1, none⟩ = some (.slice A1' N.ids.length c1') := ext_cell WA (a := ⟨w.heap.size, 1, none⟩) (bx1).lt (bx1.cell 1 (by simp))
      have ebx1_2 : ∀ p, (ext WA p).cell? ⟨w.heap.size, 2, none⟩ = some (.slice A1'' N.inputs.length c1'') := ext_cell WA (a := ⟨w.heap.size, 2, none⟩) (bx1).lt (bx1.cell 2 (by simp))
      have ebx2_0 : ∀ p, (ext WA p).cell? ⟨w.heap.size + 1, 0, none⟩ = some (.slice A2 D.cluster.length c2) := ext_cell WA (a := ⟨w.heap.size + 1, 0, none⟩) (bx2).lt (bx2.cell 0 (by simp))
      have ebx2_1 : ∀ p, (ext WA p).cell? ⟨w.heap.size + 1, 1, none⟩ = some (.slice A2' D.colour.length c2') := ext_cell WA (a := ⟨w.heap.size + 1, 1, none⟩) (bx2).lt (bx2.cell 1 (by simp))
      refine wp_region_ext (by kernel_rfl) (by kernel_rfl) ?_
      repeat (go_big_quiet_step ((first | (go_at_call 72; exact ext_call ((deClustering_any _ N lo1 hi1 _ D.cluster lo2 hi2 _ (Net.below G1.out (ext_below _ _) (by omega)) (Nat.le_trans (by omega) (ext_size _ _)) (IntS.below gC.out (ext_below _ _) (by omega)) (Nat.le_trans (by omega) (ext_size _ _)) HG.out (by omega)).mono fun e w' ⟨he, hb⟩ => ⟨by rw [he, HCL.out], hb⟩)) | (go_at_call 55; exact ext_call_same ((meMost_any _ D.cluster _ _ _ (IntS.below gC.out (ext_below _ _) (by omega)) (Nat.le_trans (by omega) (ext_size _ _))).mono fun e w' ⟨he, hb⟩ => ⟨by rw [he, HM.out], hb⟩)) | (go_at_call 53; exact ext_call_same ((l1All_any _ D.colour 0 40 _ _ _ (IntS.below gL.out (ext_below _ _) (by omega))).mono fun e w' ⟨he, hb⟩ => ⟨by rw [he, HOK.out], hb⟩)))))
      refine wpQuiet_nil ?_
      rintro w1 ⟨p, rfl⟩
      clear ebx1_0 ebx1_1 ebx1_2 ebx2_0 ebx2_1
      obtain ⟨W4, HW4⟩ : ∃ W, Hid (W = ext WA p) := ⟨_, Lib.hid rfl⟩
      rw [← HW4.out]
      have hg4 : WA.grownBy W4 none := by rw [HW4.out]; exact grown_below (ext_below _ _)
      clear HW4
      have hs4 := hg4.size
      have HF4 := Lib.hid ((Turned.refl WA.heap.size WA.heap.size WA).still hg4)
      clear hl' w1x HM1
      have N_4 := Lib.hid (Net.turned G1.out HF4.out (by omega) (by omega)); clear G1
      have D_4 := Lib.hid (Dec.turned G2.out HF4.out (by omega) (by omega)); clear G2
      have bx1_4 := HF4.out.boxN bx1 (by omega); clear bx1
      have bx2_4 := HF4.out.boxN bx2 (by omega); clear bx2
      have Cl_4 := Lib.hid (IntS.turned gC.out HF4.out (by omega) (by omega)); clear gC
      have Co_4 := Lib.hid (IntS.turned gL.out HF4.out (by omega) (by omega)); clear gL
      have hbA4 := (HF4.out.below_of hbA (by omega) (by omega)); clear hbA HF4
      have kbx2_0 : W4.cell? ⟨w.heap.size + 1, 0, none⟩ = some (.slice A2 D.cluster.length c2) := bx2_4.cell 0 (by simp)
      have kbx2_1 : W4.cell? ⟨w.heap.size + 1, 1, none⟩ = some (.slice A2' D.colour.length c2') := bx2_4.cell 1 (by simp)
      go_wp2_with fail
      clear kbx2_0 kbx2_1
      go_loopw [34] (fun i wr => ∃ (k : Nat), k ≤ N.ends.length ∧ i = .int .i64 k ∧ Hid (∀ v, v < k → ((List.range (nthL N.ends v).length).all fun i => !clash D v (endN N v i)) = true) ∧ Hid (Turned W4.heap.size W4.heap.size W4 wr)) (fun i _ => N.ends.length - (intOf i).toNat)
      case atStart => exact ⟨0, Nat.zero_le _, rfl, Lib.hid fun j hj => absurd hj (by omega), Lib.hid (Turned.refl W4.heap.size W4.heap.size W4)⟩
      case round =>
        obtain ⟨k, hk, rfl, HV, HF5⟩ := hrel
        have hs5 := HF5.out.size
        by_cases hlt : k < N.ends.length
        case neg =>
          obtain rfl : k = N.ends.length := by omega
          go_wp2_with fail
          go_ret
          exact ⟨ret_bool (by rw [HDB.out]; exact (rangeAll_true HV.out).symm), (HF5.out.below_of hbA4 (by omega) (by omega))⟩
        obtain ⟨a, ha, ha2⟩ := HNAT.out k hlt
        have hkl : k < D.cluster.length := by omega
        obtain ⟨bc, oc, rfl, _, hbc, xk, _⟩ := IntS.opened (IntS.turned Cl_4.out HF5.out (by omega) (by omega)) hkl
        obtain ⟨bl, ol, rfl, -, hbl, -, -⟩ := IntS.opened (IntS.turned Co_4.out HF5.out (by omega) (by omega)) ha2
        rw [ha] at xk
        have HA := Lib.hid ha; clear ha
        have hd6 := good_deg HG.out hlt
        have kbx1_0 : wr.cell? ⟨w.heap.size, 0, none⟩ = some (.slice (some ⟨b1, o1, none⟩) N.ends.length c1) := (HF5.out.boxN bx1_4 (by omega)).cell 0 (by simp)
        have kbx1_1 : wr.cell? ⟨w.heap.size, 1, none⟩ = some (.slice A1' N.ids.length c1') := (HF5.out.boxN bx1_4 (by omega)).cell 1 (by simp)
        have kbx1_2 : wr.cell? ⟨w.heap.size, 2, none⟩ = some (.slice A1'' N.inputs.length c1'') := (HF5.out.boxN bx1_4 (by omega)).cell 2 (by simp)
        have kbx2_0 : wr.cell? ⟨w.heap.size + 1, 0, none⟩ = some (.slice (some ⟨bc, oc, none⟩) D.cluster.length c2) := (HF5.out.boxN bx2_4 (by omega)).cell 0 (by simp)
        have kbx2_1 : wr.cell? ⟨w.heap.size + 1, 1, none⟩ = some (.slice (some ⟨bl, ol, none⟩) D.colour.length c2') := (HF5.out.boxN bx2_4 (by omega)).cell 1 (by simp)
        go_wp2_with fail
        clear kbx1_0 kbx1_1 kbx1_2 kbx2_0 kbx2_1
        refine (neNear_any _ N k lo1 hi1 _ (Net.turned N_4.out HF5.out (by omega) (by omega)) (by omega) hlt (by omega)).mono ?_
        rintro e W6 ⟨rn, rfl, hrn, hb6⟩
        have hg6 := grown_below hb6; clear hb6
        have hs6 := hg6.size
        have HF6 := Lib.hid (HF5.out.still hg6); clear HF5
        have R6 := Lib.hid hrn; clear hrn
        obtain ⟨Ar, cr, rfl, hcr, hdr⟩ := R6.out.dims
        rw [nbs_length] at hcr ⊢
        obtain ⟨wo, rfl⟩ : ∃ wo : World, wo = W6 := ⟨_, rfl⟩
        have kd0 : wo.cell? ⟨w.heap.size + 1, 0, none⟩ = some (.slice (some ⟨bc, oc, none⟩) D.cluster.length c2) := (HF6.out.boxN bx2_4 (by omega)).cell 0 (by simp)
        have kd1 : wo.cell? ⟨w.heap.size + 1, 1, none⟩ = some (.slice (some ⟨bl, ol, none⟩) D.colour.length c2') := (HF6.out.boxN bx2_4 (by omega)).cell 1 (by simp)
        go_wp2_with fail
        go_loopw [43] (fun i wr => ∃ (q nd : Nat), q ≤ (nthL N.ends k).length ∧ i = .int .i64 q ∧ Hid (∀ j, j < q → (!clash D k (endN N k j)) = true) ∧ wr = wo.drewN nd) (fun i _ => (nthL N.ends k).length - (intOf i).toNat)
        case atStart => exact ⟨0, 0, Nat.zero_le _, rfl, Lib.hid fun j hj => absurd hj (by omega), rfl⟩
        case round =>
          obtain ⟨q, nd, hq, rfl, HQ, rfl⟩ := hrel
          by_cases hql : q < (nthL N.ends k).length
          case neg =>
            obtain rfl : q = (nthL N.ends k).length := by omega
            go_wp2_with fail
            go_roundw
            case rel =>
              refine ⟨k + 1, by omega, by go_num, Lib.hid fun v hv => ?_, Lib.hid (HF6.out.still (grown_drewN _ nd))⟩
              by_cases e : v = k
              · rw [e]; exact rangeAll_true HQ.out
              · exact HV.out v (by omega)
            case measure => simp [intOf]; omega
          obtain ⟨br, or, rfl, _, _, xr, _⟩ := IntS.opened R6.out (j := q) (by rw [nbs_length]; exact hql)
          obtain ⟨t, r, et, ht, hr, _⟩ := good_end HG.out hlt hql
          rw [nth_nbs N k hql, et] at xr
          dsimp only at xr
          have HEN := Lib.hid (show endN N k q = t by unfold endN; rw [et]; rfl)
          clear et
          obtain ⟨b, hb, hb2⟩ := HNAT.out t ht
          have xt := ((IntS.turned Cl_4.out HF6.out (by omega) (by omega)).at_ (j := t) (by omega)).1
          rw [hb] at xt
          have z1 := ((IntS.turned Co_4.out HF6.out (by omega) (by omega)).at_ (j := a) ha2).1
          have z2 := ((IntS.turned Co_4.out HF6.out (by omega) (by omega)).at_ (j := b) hb2).1
          obtain ⟨p, hp⟩ : ∃ p, Hid (nth D.colour a = p) := ⟨_, Lib.hid rfl⟩
          obtain ⟨q', hq'⟩ : ∃ q, Hid (nth D.colour b = q) := ⟨_, Lib.hid rfl⟩
          rw [hp.out] at z1
          rw [hq'.out] at z2
          have HCC := Lib.hid (show clash D k (endN N k q) = (!decide ((a : Int) = b) && decide (p = q')) by rw [HEN.out]; unfold clash; rw [HA.out, hb, Int.toNat_natCast, Int.toNat_natCast, hp.out, hq'.out])
          have i1 : (k : Int) < D.cluster.length := by omega
          have i2 : (t : Int) < D.cluster.length := by omega
          have i3 : (a : Int) < D.colour.length := by omega
          have i4 : (b : Int) < D.colour.length := by omega
          clear hb
          by_cases hab : a = b
          case pos =>
            have hab' : ((a : Int) != (b : Int)) = false := by simp; omega
            have HC1 := Lib.hid (show clash D k (endN N k q) = false by rw [HCC.out, hab]; simp)
            clear hab
            go_wp2_with fail
            go_quiet (fail)
            go_wp2_with fail
            go_roundw
            case rel =>
              refine ⟨q + 1, nd + nq, by omega, by go_num, Lib.hid fun j hj => ?_, rfl⟩
              by_cases e : j = q
              · rw [e, HC1.out]; rfl
              · exact HQ.out j (by omega)
            case measure => simp [intOf]; omega
          have hab' : ((a : Int) != (b : Int)) = true := by simp; omega
          have HAB := Lib.hid hab; clear hab
          cases hpq : (p == q') with
          | false =>
            have HC1 := Lib.hid (show clash D k (endN N k q) = false by rw [HCC.out, decide_eq_false (show ¬ p = q' by simpa using hpq)]; simp)
            go_wp2_with fail
            go_quiet (fail)
            go_wp2_with fail
            go_roundw
            case rel =>
              refine ⟨q + 1, nd + nq, by omega, by go_num, Lib.hid fun j hj => ?_, rfl⟩
              by_cases e : j = q
              · rw [e, HC1.out]; rfl
              · exact HQ.out j (by omega)
            case measure => simp [intOf]; omega
          | true =>
            have HC1 := Lib.hid (show clash D k (endN N k q) = true by rw [HCC.out, decide_eq_false (by have := HAB.out; omega), decide_eq_true (by simpa using hpq)]; rfl)
            go_wp2_with fail
            go_quiet (fail)
            go_wp2_with fail
            go_ret
            refine ⟨ret_bool ?_, below_drewN (below_drewN (HF6.out.below_of hbA4 (by omega) (by omega)) _) _⟩
            rw [HDB.out]
            exact (rangeAll_false hlt (rangeAll_false hql (by rw [HC1.out]; rfl))).symm

end Go.Proofs.Ytcmmklcampmkjaa
