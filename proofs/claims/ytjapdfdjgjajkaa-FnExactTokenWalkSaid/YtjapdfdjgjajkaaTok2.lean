/-
  Contract: the program's visit of the token.
-/
import Derived.Test.YtjapdfdjgjajkaaTok
namespace Go.Proofs.Ytjapdfdjgjajkaa
open Go.ChangeShapes Go.WideShapes Go.ChangeAt Go.RowKit
set_option linter.unusedVariables false

theorem ite_is {c : Prop} [Decidable c] {x y : Prop} (h : c) (k : x) : if c then x else y := by rw [if_pos h]; exact k
/-- a network's row of ends, and one of its ends -/
theorem ESS.rowAt {w : World} {lo hi n c : Nat} {A : Option Addr} {ess : List (List (Int × Int))} (h : EndSS w lo hi (.slice A n c) ess) {v : Nat} (hv : v < ess.length) :
    ∃ b off A2 c2, A = some ⟨b, off, none⟩ ∧ b < hi ∧ w.cell? ⟨b, off + v, none⟩ = some (.slice A2 (nthL ess v).length c2) ∧ (nthL ess v).length ≤ c2 ∧ c2 ≤ maxLen ∧
      ∀ i, i < (nthL ess v).length → ∃ b2 o2, A2 = some ⟨b2, o2, none⟩ ∧ b2 < hi ∧ w.cell? ⟨b2, o2 + i * 2, none⟩ = some (.int .i64 (nthE (nthL ess v) i).1) ∧ w.cell? ⟨b2, o2 + i * 2 + 1, none⟩ = some (.int .i64 (nthE (nthL ess v) i).2) := by
  obtain ⟨A', c', e, h1, h2, h3⟩ := h.form
  injection e with e _ _
  subst e
  obtain ⟨b, off, rfl, _, hb, hc⟩ := h3 (by omega)
  obtain ⟨u, hu, hE⟩ := hc v hv
  obtain ⟨A2, c2, rfl, g1, g2, g3⟩ := hE.form
  refine ⟨b, off, A2, c2, rfl, hb, hu, g1, g2, fun i hi => ?_⟩
  obtain ⟨b2, o2, rfl, _, hb2, hcs⟩ := g3 (by omega)
  exact ⟨b2, o2, rfl, hb2, (hcs i hi).1, (hcs i hi).2⟩

set_option maxHeartbeats 8000000 in
set_option maxRecDepth 100000 in
theorem visit_any (N : NetD) (hgood : N.good = true) (w0 : World) (lo hi n : Nat) (hn : Hid (N.ends.length = n)) (A1 : Option Addr) (c1 : Nat) (x1 x2 : Value) (B base g mb fb : Nat) (hL : Lay B base g mb fb) (hE : EndSS w0 lo hi (.slice A1 n c1) N.ends) (hhi : hi ≤ B) (hB0 : B ≤ w0.heap.size) :
    ∀ (f v : Nat) (σ : Tk) (vm : Value) (w : World), v < n → σ.met v = false → unm n σ.met ≤ f → bnd σ ≤ 480 → TokI w B base g mb fb n (.slice A1 n c1) x1 x2 σ vm (2 * σ.moves.length) → base ≤ w.heap.size → Below B w0 w →
      Calls Try.prog 53 #[.pointer (some ⟨g, 0, none⟩), .int .i64 v] w (fun e w' => e = .returned (.tuple #[]) ∧ ∃ vm', TokI w' B base g mb fb n (.slice A1 n c1) x1 x2 (tvisit N f v σ) vm' (2 * (tvisit N f v σ).moves.length) ∧ Fr B base w vm w' vm') := by
  have HGD := Lib.hid hgood
  have HLAY := Lib.hid hL
  obtain ⟨g1, g2, m1, m2, f1, f2, gm, gf, mf⟩ := hL
  have HE := Lib.hid hE
  have h40 := (good_n hgood).2
  have H40 := Lib.hid h40
  have H6 := Lib.hid (show ∀ v, degAt N v ≤ 6 from fun v => by
    by_cases hv : v < N.ends.length
    · exact good_deg hgood hv
    · unfold degAt nthL; rw [List.getD_eq_getElem?_getD, List.getElem?_eq_none (by omega)]; exact Nat.zero_le _)
  rw [hn.out] at h40
  clear hE hgood
  intro f
  induction f with
  | zero =>
    intro v σ vm w hv hm hu
    have := unm_pos hv hm
    omega
  | succ f ih =>
    intro v σ vm w hv hm hu hbn ht hbs hbl
    have HIH := Lib.hid ih; clear ih
    have HMV := Lib.hid hm; clear hm
    have hut := unm_set hv HMV.out
    have hu1 : unm n (setM σ.met v) ≤ f := by omega
    have HU1 := Lib.hid hu1
    clear hut hu hu1
    have HBN := Lib.hid hbn; clear hbn
    have HBL := Lib.hid hbl; clear hbl
    have HT := Lib.hid ht; clear ht
    obtain ⟨b, off, A2, c2, rfl, hb, hrow, hr1, hr2, hends⟩ := ESS.rowAt HE.out (v := v) (by rw [hn.out]; exact hv)
    have HENDS := Lib.hid hends; clear hends
    obtain ⟨d, HD⟩ : ∃ d, Hid ((nthL N.ends v).length = d) := ⟨_, Lib.hid rfl⟩
    rw [HD.out] at hrow hr1
    have HROW := Lib.hid hrow; clear hrow
    have hd6 : d ≤ 6 := by rw [← HD.out]; exact good_deg HGD.out (by rw [hn.out]; exact hv)
    unfold maxLen at hr2
    have k4 : w.cell? ⟨g, 4, none⟩ = some (.slice (some ⟨fb, 0, none⟩) n n) := HT.out.box.cell 4 (by simp)
    obtain ⟨kf, kz⟩ := HT.out.met.at0 (j := v) (by rw [metL_length]; exact hv)
    go_enter Try.func53, Try.ntmps53
    go_upto_region 1 with fail
    clear k4 kf kz
    refine nameC ?_
    intro W1 HW1
    have hg1 : w.grownBy W1 (some fb) := by rw [HW1.out]; exact grown_set _ ⟨fb, v, none⟩ _
    have hs1 := hg1.size
    have hT1 : TokI W1 B base g mb fb n (.slice (some ⟨b, off, none⟩) n c1) x1 x2 (tin v σ) vm (2 * σ.moves.length) := by
      refine ⟨HT.out.box.far hg1 (fun k e => by injection e; omega), HT.out.map.kept hg1 (fun e => by injection e; omega), ?_, ?_⟩
      · have := HT.out.met.set0 (j := v) (by rw [metL_length]; exact hv) true
        rw [metL_set _ hv] at this
        rw [HW1.out]
        exact this
      · obtain ⟨top, hmm⟩ := HT.out.mvs
        exact ⟨top, hmm.far hg1 (fun k e => by injection e; omega)⟩
    have HT1 := Lib.hid hT1
    have hF1 : Fr B base w vm W1 vm := Fr.turn hg1 f1 f2
    have HF1 := Lib.hid hF1
    clear HW1 hT1 hF1 hg1
    have k0 : W1.cell? ⟨g, 0, none⟩ = some (.slice (some ⟨b, off, none⟩) n c1) := HT1.out.box.cell 0 (by simp)
    have hvl : ∀ k, vm.ownBlock = some k → B ≤ k := fun k e => by obtain ⟨top, hmm⟩ := HT.out.mvs; have := (hmm.lt k e).1; omega
    have HVL := Lib.hid hvl
    have hbl1 : Below B w0 W1 := HBL.out.trans (HF1.out.below HVL.out (Nat.le_refl _) (by omega))
    have kr := (hbl1.cell (p := ⟨b, off + v, none⟩) (by show b < B; omega)).trans HROW.out
    clear hbl1 hvl
    go_wp2_with fail
    clear k0 kr
    go_loopw [21] (fun i' wr => ∃ (k : Nat) (vk : Value), k ≤ d ∧ i' = .int .i64 k ∧ Hid (TokI wr B base g mb fb n (.slice (some ⟨b, off, none⟩) n c1) x1 x2 (tloop N (tvisit N f) v k (tin v σ)) vk (2 * (tloop N (tvisit N f) v k (tin v σ)).moves.length)) ∧ Hid (Fr B base w vm wr vk)) (fun i' _ => d - (intOf i').toNat)
    case atStart => exact ⟨0, vm, Nat.zero_le _, rfl, HT1, HF1⟩
    case round =>
      clear HT1 HF1 hs1
      obtain ⟨k, vk, hk, rfl, HTK, HFK⟩ := hrel
      have hsk := HFK.out.size
      by_cases hlt : k < d
      case neg =>
        obtain rfl : k = d := by omega
        go_wp2_with fail
        go_end0
        refine ⟨rfl, vk, ?_, HFK.out⟩
        rw [tvisit_succ]
        unfold degAt
        rw [HD.out]
        exact HTK.out
      obtain ⟨σk, HS⟩ : ∃ s, Hid (tloop N (tvisit N f) v k (tin v σ) = s) := ⟨_, Lib.hid rfl⟩
      rw [HS.out] at HTK
      have HNX := Lib.hid (show tloop N (tvisit N f) v (k + 1) (tin v σ) = tstep N (tvisit N f) v k σk by rw [tloop, HS.out])
      have HBK := Lib.hid (show bnd σk ≤ 480 by rw [← HS.out]; exact Nat.le_trans (tloop_bnd H40.out H6.out (tvisit_bnd H40.out H6.out f) v k _ (by unfold degAt; rw [HD.out]; omega)) HBN.out)
      have HUK := Lib.hid (show unm n σk.met ≤ f from Nat.le_trans (unm_mono (fun x hx => by rw [← HS.out]; exact tloop_keeps (tvisit_keeps N f) v k _ x hx)) HU1.out)
      have hvk : ∀ j, vk.ownBlock = some j → B ≤ j := fun j e => by obtain ⟨top, hmm⟩ := HTK.out.mvs; have := (hmm.lt j e).1; omega
      have HVK := Lib.hid hvk; clear hvk
      have HOWN := Lib.hid (show vk.ownBlock = some wr.heap.size → False from fun e => by obtain ⟨top, hmm⟩ := HTK.out.mvs; have := (hmm.lt _ e).2; omega)
      have HBW := Lib.hid (show Below B w0 wr from HBL.out.trans (HFK.out.below HVL.out (Nat.le_refl _) (by omega)))
      obtain ⟨t, r, he, ht1, hr3, _⟩ := good_end HGD.out (v := v) (i := k) (by rw [hn.out]; exact hv) (by rw [HD.out]; exact hlt)
      rw [hn.out] at ht1
      have hrd : r < 6 := by have := good_deg HGD.out (v := t) (by rw [hn.out]; exact ht1); omega
      have HEN := Lib.hid (show endAt N v k = ((t : Int), (r : Int)) from he)
      obtain ⟨b2, o2, hA2, hb2, y1, y2⟩ := HENDS.out k (by rw [HD.out]; exact hlt)
      subst hA2
      rw [he] at y1 y2
      clear he
      have p1 := (HBW.out.cell (p := ⟨b2, o2 + k * 2, none⟩) (by show b2 < B; omega)).trans y1
      have p2 := (HBW.out.cell (p := ⟨b2, o2 + k * 2 + 1, none⟩) (by show b2 < B; omega)).trans y2
      dsimp only at p1 p2
      clear y1 y2
      go_upto_region 4 with fail
      clear p1 p2
      refine nameC ?_
      intro W2 HW2
      have hg2 : wr.grownBy W2 none := by rw [HW2.out]; exact grown_alloc _ _
      have hs2 : wr.heap.size + 1 ≤ W2.heap.size := by rw [HW2.out]; simp
      have hbe : BoxN W2 wr.heap.size #[.int .i64 t, .int .i64 r] 60 := by rw [HW2.out]; exact BoxN.new _ _ _
      clear HW2
      have HBE := Lib.hid hbe
      have HT2 := Lib.hid (HTK.out.still (by omega) hg2)
      have HF2 := Lib.hid (show Fr B base w vm W2 vk from HFK.out.trans (Fr.still hg2))
      clear hbe HTK HFK
      have q3 : W2.cell? ⟨g, 3, none⟩ = some (.map (some mb)) := HT2.out.box.cell 3 (by simp)
      have hlk := HT2.out.map.look (x := (v : Int)) (y := (k : Int)) (by unfold I64; omega) (by unfold I64; omega)
      cases hus : σk.used v k with
      | true =>
        rw [hus] at hlk
        have HST := Lib.hid (tstep_used (N := N) (rec := tvisit N f) hus); clear hus
        go_wp2_with fail
        go_roundw
        case rel => exact ⟨k + 1, vk, by omega, by go_num, Lib.hid (by rw [HNX.out, HST.out]; exact HT2.out), HF2⟩
        case measure => simp [intOf]; omega
      | false =>
        rw [hus] at hlk
        have HUS := Lib.hid hus; clear hus
        have hpre := bnd_pre H40.out H6.out (N := N) (v := v) (i := k) (σ := σk) (by unfold degAt; rw [HD.out]; exact hlt) HUS.out
        have HPRE := Lib.hid (show bnd (tpre N v k σk) + 1 ≤ 480 from Nat.le_trans hpre HBK.out); clear hpre
        have hml : σk.moves.length ≤ 480 := by have := HBK.out; unfold bnd at this; omega
        go_wp2_with fail
        clear q3 hlk
        refine wp_region_U (fun w' => w'.cell? ⟨g, 3, none⟩ = some (.map (some mb)) ∧ w'.cell? ⟨wr.heap.size, 0, none⟩ = some (.int .i64 t) ∧ w'.cell? ⟨wr.heap.size, 1, none⟩ = some (.int .i64 r)) [] (by kernel_rfl) ?_
        refine nameU ?_
        intro V HV
        have hgV : W2.grownBy V none := by rw [HV.out]; exact grown_drew _
        have hzV := hgV.size
        clear HV
        have hTV := HT2.out.still (by omega) hgV
        have hBV := HBE.out.still hgV
        have hS : V.cell? ⟨g, 3, none⟩ = some (.map (some mb)) ∧ V.cell? ⟨wr.heap.size, 0, none⟩ = some (.int .i64 t) ∧ V.cell? ⟨wr.heap.size, 1, none⟩ = some (.int .i64 r) := ⟨hTV.box.cell 3 (by simp), hBV.cell 0 (by simp), hBV.cell 1 (by simp)⟩
        obtain ⟨a0, st1, V1, V2, hE1, hE2, hgE1, hgE2, hM1⟩ := hTV.map.entry (by omega) (x := (v : Int)) (y := (k : Int)) (by unfold I64; omega) (by unfold I64; omega)
        obtain ⟨a9, st2, V3, V4, hE3, hE4, hgE3, hgE4, hM2⟩ := hM1.entry (by omega) (x := (t : Int)) (y := (r : Int)) (by unfold I64; omega) (by unfold I64; omega)
        have keepS : ∀ (X Y : World), X.cell? ⟨g, 3, none⟩ = some (.map (some mb)) ∧ X.cell? ⟨wr.heap.size, 0, none⟩ = some (.int .i64 t) ∧ X.cell? ⟨wr.heap.size, 1, none⟩ = some (.int .i64 r) → X.grownBy Y (some mb) → wr.heap.size < X.heap.size ∧ g < X.heap.size → Y.cell? ⟨g, 3, none⟩ = some (.map (some mb)) ∧ Y.cell? ⟨wr.heap.size, 0, none⟩ = some (.int .i64 t) ∧ Y.cell? ⟨wr.heap.size, 1, none⟩ = some (.int .i64 r) := fun X Y ⟨s1, s2, s3⟩ hg ⟨z1, z2⟩ =>
          ⟨(World.cell?_of_block (hg.block g z2 (by intro e; injection e; omega))).trans s1, (World.cell?_of_block (hg.block wr.heap.size z1 (by intro e; injection e; omega))).trans s2, (World.cell?_of_block (hg.block wr.heap.size z1 (by intro e; injection e; omega))).trans s3⟩
        have hgg : g < V.heap.size := by omega
        have z1 := hgE1.size
        have z2 := hgE2.size
        have z3 := hgE3.size
        have z4 := hgE4.size
        have hS1 := keepS V V1 hS hgE1 ⟨by omega, hgg⟩
        have hS2 := keepS V1 V2 hS1 hgE2 ⟨by omega, by omega⟩
        have hS3 := keepS V2 V3 hS2 hgE3 ⟨by omega, by omega⟩
        have hS4 := keepS V3 V4 hS3 hgE4 ⟨by omega, by omega⟩
        clear keepS
        refine anyU_take (i := 0) (v := .pointer (some ⟨g, 0, none⟩)) rfl (by kernel_rfl) (by kernel_rfl) (by kernel_rfl) (fun _ _ _ h => h) ⟨by rfl, fun w' hS' => (by obtain ⟨s1, s2, s3⟩ := hS'; go_simp)⟩ hS ?_
        simp only [List.getElem_toArray, List.getElem_cons_zero, Act.put, List.setIfInBounds_toArray, List.set_cons_zero, List.set_cons_succ]
        refine anyU_take (i := 1) (v := .pointer (some ⟨g, 0, none⟩)) rfl (by kernel_rfl) (by kernel_rfl) (by kernel_rfl) (fun _ _ _ h => h) ⟨by rfl, fun w' hS' => (by obtain ⟨s1, s2, s3⟩ := hS'; go_simp)⟩ hS ?_
        simp only [List.getElem_toArray, List.getElem_cons_succ, List.getElem_cons_zero, Act.put, List.setIfInBounds_toArray, List.set_cons_zero, List.set_cons_succ]
        refine anyU_take (i := 2) (v := .pointer (some ⟨g, 3, none⟩)) rfl (by kernel_rfl) (by kernel_rfl) (by kernel_rfl) (fun _ _ _ h => h) ⟨by rfl, fun w' hS' => (by obtain ⟨s1, s2, s3⟩ := hS'; go_simp)⟩ hS ?_
        simp only [List.getElem_toArray, List.getElem_cons_succ, List.getElem_cons_zero, Act.put, List.setIfInBounds_toArray, List.set_cons_zero, List.set_cons_succ]
        refine anyU_take (i := 3) (v := .map (some mb)) rfl (by kernel_rfl) (by kernel_rfl) (by kernel_rfl) (fun _ _ _ h => h) ⟨by rfl, fun w' hS' => (by obtain ⟨s1, s2, s3⟩ := hS'; go_simp)⟩ hS ?_
        simp only [List.getElem_toArray, List.getElem_cons_succ, List.getElem_cons_zero, Act.put, List.setIfInBounds_toArray, List.set_cons_zero, List.set_cons_succ]
        refine anyU_take (i := 4) (v := .int .i64 v) rfl (by kernel_rfl) (by kernel_rfl) (by kernel_rfl) (fun _ _ _ h => h) ⟨by rfl, fun w' hS' => (by obtain ⟨s1, s2, s3⟩ := hS'; go_simp)⟩ hS ?_
        simp only [List.getElem_toArray, List.getElem_cons_succ, List.getElem_cons_zero, Act.put, List.setIfInBounds_toArray, List.set_cons_zero, List.set_cons_succ]
        refine anyU_take (i := 5) (v := .int .i64 k) rfl (by kernel_rfl) (by kernel_rfl) (by kernel_rfl) (fun _ _ _ h => h) ⟨by rfl, fun w' hS' => (by obtain ⟨s1, s2, s3⟩ := hS'; go_simp)⟩ hS ?_
        simp only [List.getElem_toArray, List.getElem_cons_succ, List.getElem_cons_zero, Act.put, List.setIfInBounds_toArray, List.set_cons_zero, List.set_cons_succ]
        refine anyU_take (i := 6) (v := .agg #[.int .i64 v, .int .i64 k]) rfl (by kernel_rfl) (by kernel_rfl) (by kernel_rfl) (fun _ _ _ h => h) ⟨by rfl, fun w' hS' => (by obtain ⟨s1, s2, s3⟩ := hS'; go_simp)⟩ hS ?_
        simp only [List.getElem_toArray, List.getElem_cons_succ, List.getElem_cons_zero, Act.put, List.setIfInBounds_toArray, List.set_cons_zero, List.set_cons_succ]
        refine anyU_take (i := 7) (v := .pointer (some ⟨g, 0, none⟩)) rfl (by kernel_rfl) (by kernel_rfl) (by kernel_rfl) (fun _ _ _ h => h) ⟨by rfl, fun w' hS' => (by obtain ⟨s1, s2, s3⟩ := hS'; go_simp)⟩ hS ?_
        simp only [List.getElem_toArray, List.getElem_cons_succ, List.getElem_cons_zero, Act.put, List.setIfInBounds_toArray, List.set_cons_zero, List.set_cons_succ]
        refine anyU_take (i := 8) (v := .pointer (some ⟨g, 0, none⟩)) rfl (by kernel_rfl) (by kernel_rfl) (by kernel_rfl) (fun _ _ _ h => h) ⟨by rfl, fun w' hS' => (by obtain ⟨s1, s2, s3⟩ := hS'; go_simp)⟩ hS ?_
        simp only [List.getElem_toArray, List.getElem_cons_succ, List.getElem_cons_zero, Act.put, List.setIfInBounds_toArray, List.set_cons_zero, List.set_cons_succ]
        refine anyU_take (i := 9) (v := .pointer (some ⟨g, 3, none⟩)) rfl (by kernel_rfl) (by kernel_rfl) (by kernel_rfl) (fun _ _ _ h => h) ⟨by rfl, fun w' hS' => (by obtain ⟨s1, s2, s3⟩ := hS'; go_simp)⟩ hS ?_
        simp only [List.getElem_toArray, List.getElem_cons_succ, List.getElem_cons_zero, Act.put, List.setIfInBounds_toArray, List.set_cons_zero, List.set_cons_succ]
        refine anyU_take (i := 10) (v := .map (some mb)) rfl (by kernel_rfl) (by kernel_rfl) (by kernel_rfl) (fun _ _ _ h => h) ⟨by rfl, fun w' hS' => (by obtain ⟨s1, s2, s3⟩ := hS'; go_simp)⟩ hS ?_
        simp only [List.getElem_toArray, List.getElem_cons_succ, List.getElem_cons_zero, Act.put, List.setIfInBounds_toArray, List.set_cons_zero, List.set_cons_succ]
        refine anyU_take (i := 11) (v := .agg #[.int .i64 t, .int .i64 r]) rfl (by kernel_rfl) (by kernel_rfl) (by kernel_rfl) (fun _ _ _ h => h) ⟨by rfl, fun w' hS' => (by obtain ⟨s1, s2, s3⟩ := hS'; go_simp)⟩ hS ?_
        simp only [List.getElem_toArray, List.getElem_cons_succ, List.getElem_cons_zero, Act.put, List.setIfInBounds_toArray, List.set_cons_zero, List.set_cons_succ]
        refine anyU_ready (rs := [12]) (by kernel_rfl) (by simp) ?_
        refine ReadyU.cons (i := 12) rfl (fun K hK => ?_) ReadyU.nil
        simp only [List.getElem_toArray, List.getElem_cons_succ, List.getElem_cons_zero]
        refine ite_is (by rfl) ?_
        simp [go_sem, hE1]
        refine hK.out _ _ ⟨fun _ => hS1, ?_⟩
        clear hK K
        try simp only [List.getElem_toArray, List.getElem_cons_succ, List.getElem_cons_zero, Act.put, List.setIfInBounds_toArray, List.set_cons_zero, List.set_cons_succ]
        refine anyU_ready (rs := [13]) (by kernel_rfl) (by simp) ?_
        refine ReadyU.cons (i := 13) rfl (fun K hK => ?_) ReadyU.nil
        simp only [List.getElem_toArray, List.getElem_cons_succ, List.getElem_cons_zero]
        refine ite_is (by rfl) ?_
        simp [go_sem]
        refine hK.out _ _ ⟨fun _ => hS1, ?_⟩
        clear hK K
        try simp only [List.getElem_toArray, List.getElem_cons_succ, List.getElem_cons_zero, Act.put, List.setIfInBounds_toArray, List.set_cons_zero, List.set_cons_succ]
        refine anyU_ready (rs := [14]) (by kernel_rfl) (by simp) ?_
        refine ReadyU.cons (i := 14) rfl (fun K hK => ?_) ReadyU.nil
        simp only [List.getElem_toArray, List.getElem_cons_succ, List.getElem_cons_zero]
        refine ite_is (by rfl) ?_
        simp [go_sem, hE2]
        refine hK.out _ _ ⟨fun _ => hS2, ?_⟩
        clear hK K
        try simp only [List.getElem_toArray, List.getElem_cons_succ, List.getElem_cons_zero, Act.put, List.setIfInBounds_toArray, List.set_cons_zero, List.set_cons_succ]
        refine anyU_ready (rs := [15]) (by kernel_rfl) (by simp) ?_
        refine ReadyU.cons (i := 15) rfl (fun K hK => ?_) ReadyU.nil
        simp only [List.getElem_toArray, List.getElem_cons_succ, List.getElem_cons_zero]
        refine ite_is (by rfl) ?_
        simp [go_sem, hE3]
        refine hK.out _ _ ⟨fun _ => hS3, ?_⟩
        clear hK K
        try simp only [List.getElem_toArray, List.getElem_cons_succ, List.getElem_cons_zero, Act.put, List.setIfInBounds_toArray, List.set_cons_zero, List.set_cons_succ]
        refine anyU_ready (rs := [16]) (by kernel_rfl) (by simp) ?_
        refine ReadyU.cons (i := 16) rfl (fun K hK => ?_) ReadyU.nil
        simp only [List.getElem_toArray, List.getElem_cons_succ, List.getElem_cons_zero]
        refine ite_is (by rfl) ?_
        simp [go_sem]
        refine hK.out _ _ ⟨fun _ => hS3, ?_⟩
        clear hK K
        try simp only [List.getElem_toArray, List.getElem_cons_succ, List.getElem_cons_zero, Act.put, List.setIfInBounds_toArray, List.set_cons_zero, List.set_cons_succ]
        refine anyU_ready (rs := [17]) (by kernel_rfl) (by simp) ?_
        refine ReadyU.cons (i := 17) rfl (fun K hK => ?_) ReadyU.nil
        simp only [List.getElem_toArray, List.getElem_cons_succ, List.getElem_cons_zero]
        refine ite_is (by rfl) ?_
        simp [go_sem, hE4]
        refine hK.out _ _ ⟨fun _ => hS4, ?_⟩
        clear hK K
        try simp only [List.getElem_toArray, List.getElem_cons_succ, List.getElem_cons_zero, Act.put, List.setIfInBounds_toArray, List.set_cons_zero, List.set_cons_succ]
        refine anyU_done (by kernel_rfl) ?_ _
        have hg14 : V.grownBy V4 (some mb) := ((hgE1.trans hgE2).trans hgE3).trans hgE4
        have HT4 := Lib.hid (show TokI V4 B base g mb fb n (.slice (some ⟨b, off, none⟩) n c1) x1 x2 ⟨setU (setU σk.used v k) t r, σk.met, σk.moves⟩ vk (2 * σk.moves.length + 1 + 1) from ⟨hTV.box.far hg14 (fun k e => by injection e; omega), hM2, hTV.met.far hg14 (by omega) (fun k e => by injection e; omega), let ⟨top, hmm⟩ := hTV.mvs; ⟨top, hmm.far hg14 (fun k e => by injection e; omega)⟩⟩)
        have HF4 := Lib.hid (show Fr B base w vm V4 vk from (HF2.out.trans (Fr.still hgV)).trans (Fr.turn hg14 m1 m2))
        have HB4 := Lib.hid (hBV.far hg14 (fun k e => by injection e; omega))
        have howk : vk.ownBlock ≠ some wr.heap.size := fun e => by obtain ⟨top, hmm⟩ := HT4.out.mvs; exact HOWN.out e
        clear hS hS1 hS2 hS3 hS4 hE1 hE2 hE3 hE4 hgE1 hgE2 hgE3 hgE4 hM1 hM2 hTV hBV hg14 hgV
        have HPR := Lib.hid (show tpre N v k σk = ⟨setU (setU σk.used v k) t r, σk.met, σk.moves ++ [[(v : Int), (k : Int)]]⟩ by unfold tpre; rw [HEN.out])
        have HOWK := Lib.hid howk; clear howk
        cases hmt : σk.met t with
        | true =>
          have HMT := Lib.hid hmt
          go_upto_region 7 with (go_at_call 69; refine (leave_any B base g mb fb n _ x1 x2 _ vk _ _ _ V4 HLAY.out HT4.out (by omega) (by dsimp only; omega)).mono ?_; rintro e V5 ⟨rfl, v5, hT5, hF5⟩; have HT5 := Lib.hid hT5; have HF5 := Lib.hid (HF4.out.trans hF5); have hb5 := hF5.box HB4.out (.inr (by omega)) HOWK.out; have HB5 := Lib.hid hb5; have hz5 := hF5.size; have how5 : v5.ownBlock ≠ some wr.heap.size := (fun e => (hF5.own _ e).elim (fun e2 => HOWK.out e2) (fun e2 => by have := HB4.out.lt; omega)); have HOW5 := Lib.hid how5; clear how5; have c4 : V5.cell? ⟨g, 4, none⟩ = some (.slice (some ⟨fb, 0, none⟩) n n) := hT5.box.cell 4 (by simp); have ce : V5.cell? ⟨wr.heap.size, 0, none⟩ = some (.int .i64 t) := hb5.cell 0 (by simp); have cm := (hT5.met.at0 (j := t) (by rw [metL_length]; exact ht1)).1; rw [nthB_metL _ ht1] at cm; dsimp only at cm; rw [hmt] at cm; clear hT5 hF5 hb5)
          go_quiet (fail)
          go_upto_region 9 with fail
          clear c4 ce cm hmt
          refine nameC ?_
          intro X HX
          have hgX : V5.grownBy X none := by rw [HX.out]; exact grown_drewN _ _
          have hzX := hgX.size
          clear HX
          have HTX := Lib.hid (show TokI X B base g mb fb n (.slice (some ⟨b, off, none⟩) n c1) x1 x2 (tpre N v k σk) v5 (2 * (tpre N v k σk).moves.length) by
            have h9 := HT5.out.still (by omega) hgX
            rw [HPR.out]
            exact ⟨h9.box, h9.map.mono (by simp; omega), h9.met, h9.mvs⟩)
          have HFX := Lib.hid (show Fr B base w vm X v5 from HF5.out.trans (Fr.still hgX))
          have HBX := Lib.hid (HB5.out.still hgX)
          clear HT5 HF5 HB5 hgX HT4 HF4 HB4
          have e0 : X.cell? ⟨wr.heap.size, 0, none⟩ = some (.int .i64 t) := HBX.out.cell 0 (by simp)
          have hx5 : ∀ j, v5.ownBlock = some j → base ≤ j ∧ j < X.heap.size := fun j e => by obtain ⟨top, hmm⟩ := HTX.out.mvs; exact hmm.lt j e
          clear hx5 e0
          have HBT := Lib.hid (show bnd (tpre N v k σk) + 1 ≤ 480 from HPRE.out)
          have hmx : (tpre N v k σk).moves.length ≤ 480 := by have := HBT.out; unfold bnd at this; omega
          have hzW : base ≤ X.heap.size := by have := HFX.out.size; omega
          have e0 : X.cell? ⟨wr.heap.size, 0, none⟩ = some (.int .i64 t) := HBX.out.cell 0 (by simp)
          have e1 : X.cell? ⟨wr.heap.size, 1, none⟩ = some (.int .i64 r) := HBX.out.cell 1 (by simp)
          go_wp2_with (go_at_call 69; refine (leave_any B base g mb fb n _ x1 x2 _ v5 _ _ _ X HLAY.out HTX.out hzW (by omega)).mono ?_; rintro e Y ⟨rfl, vy, hTY, hFY⟩; have HTY := Lib.hid hTY; have HFY := Lib.hid (HFX.out.trans hFY); clear hTY hFY e0 e1)
          go_roundw
          case rel =>
            refine ⟨k + 1, vy, by omega, by go_num, Lib.hid ?_, HFY⟩
            rw [HNX.out, tstep_met HUS.out (by rw [HEN.out]; exact HMT.out), HEN.out]
            exact ⟨HTY.out.box, HTY.out.map.mono (Nat.mul_le_mul_left 2 (by unfold tpost; simp)), HTY.out.met, HTY.out.mvs⟩
          case measure => simp [intOf]; omega
        | false =>
          have HMT := Lib.hid hmt
          go_upto_region 7 with (go_at_call 69; refine (leave_any B base g mb fb n _ x1 x2 _ vk _ _ _ V4 HLAY.out HT4.out (by omega) (by dsimp only; omega)).mono ?_; rintro e V5 ⟨rfl, v5, hT5, hF5⟩; have HT5 := Lib.hid hT5; have HF5 := Lib.hid (HF4.out.trans hF5); have hb5 := hF5.box HB4.out (.inr (by omega)) HOWK.out; have HB5 := Lib.hid hb5; have hz5 := hF5.size; have how5 : v5.ownBlock ≠ some wr.heap.size := (fun e => (hF5.own _ e).elim (fun e2 => HOWK.out e2) (fun e2 => by have := HB4.out.lt; omega)); have HOW5 := Lib.hid how5; clear how5; have c4 : V5.cell? ⟨g, 4, none⟩ = some (.slice (some ⟨fb, 0, none⟩) n n) := hT5.box.cell 4 (by simp); have ce : V5.cell? ⟨wr.heap.size, 0, none⟩ = some (.int .i64 t) := hb5.cell 0 (by simp); have cm := (hT5.met.at0 (j := t) (by rw [metL_length]; exact ht1)).1; rw [nthB_metL _ ht1] at cm; dsimp only at cm; rw [hmt] at cm; clear hT5 hF5 hb5)
          go_quiet (fail)
          go_upto_region 8 with fail
          clear c4 ce cm hmt
          refine nameC ?_
          intro X HX
          have hgX : V5.grownBy X none := by rw [HX.out]; exact grown_drewN _ _
          have hzX := hgX.size
          clear HX
          have HTX := Lib.hid (show TokI X B base g mb fb n (.slice (some ⟨b, off, none⟩) n c1) x1 x2 (tpre N v k σk) v5 (2 * (tpre N v k σk).moves.length) by
            have h9 := HT5.out.still (by omega) hgX
            rw [HPR.out]
            exact ⟨h9.box, h9.map.mono (by simp; omega), h9.met, h9.mvs⟩)
          have HFX := Lib.hid (show Fr B base w vm X v5 from HF5.out.trans (Fr.still hgX))
          have HBX := Lib.hid (HB5.out.still hgX)
          clear HT5 HF5 HB5 hgX HT4 HF4 HB4
          have e0 : X.cell? ⟨wr.heap.size, 0, none⟩ = some (.int .i64 t) := HBX.out.cell 0 (by simp)
          have hx5 : ∀ j, v5.ownBlock = some j → base ≤ j ∧ j < X.heap.size := fun j e => by obtain ⟨top, hmm⟩ := HTX.out.mvs; exact hmm.lt j e
          have HX5 := Lib.hid hx5; clear hx5
          have hbX : Below B w0 X := HBL.out.trans (HFX.out.below HVL.out (Nat.le_refl _) (by omega))
          have HCALL := Lib.hid (HIH.out t (tpre N v k σk) v5 X ht1 HMT.out HUK.out (Nat.le_of_succ_le HPRE.out) HTX.out (by omega) hbX)
          clear hbX
          go_upto_region 9 with (go_at_call 53; refine HCALL.out.mono ?_; rintro e Z ⟨rfl, vz, hTZ, hFZ⟩; have HTZ := Lib.hid hTZ; have HFZ := Lib.hid (HFX.out.trans hFZ); have HBZ := Lib.hid (hFZ.box HBX.out (.inr (by omega)) HOW5.out); clear hTZ hFZ)
          clear e0 HTX HFX HBX
          have HBT := Lib.hid (show bnd (tvisit N f t (tpre N v k σk)) + 1 ≤ 480 from Nat.le_trans (Nat.succ_le_succ (tvisit_bnd H40.out H6.out f t _)) HPRE.out)
          have hmx : (tvisit N f t (tpre N v k σk)).moves.length ≤ 480 := by have := HBT.out; unfold bnd at this; omega
          have hzW : base ≤ Z.heap.size := by have := HFZ.out.size; omega
          have e0 : Z.cell? ⟨wr.heap.size, 0, none⟩ = some (.int .i64 t) := HBZ.out.cell 0 (by simp)
          have e1 : Z.cell? ⟨wr.heap.size, 1, none⟩ = some (.int .i64 r) := HBZ.out.cell 1 (by simp)
          go_wp2_with (go_at_call 69; refine (leave_any B base g mb fb n _ x1 x2 _ vz _ _ _ Z HLAY.out HTZ.out hzW (by omega)).mono ?_; rintro e Y ⟨rfl, vy, hTY, hFY⟩; have HTY := Lib.hid hTY; have HFY := Lib.hid (HFZ.out.trans hFY); clear hTY hFY e0 e1)
          go_roundw
          case rel =>
            refine ⟨k + 1, vy, by omega, by go_num, Lib.hid ?_, HFY⟩
            rw [HNX.out, tstep_new HUS.out (by rw [HEN.out]; exact HMT.out), HEN.out]
            exact ⟨HTY.out.box, HTY.out.map.mono (Nat.mul_le_mul_left 2 (by unfold tpost; simp)), HTY.out.met, HTY.out.mvs⟩
          case measure => simp [intOf]; omega

end Go.Proofs.Ytjapdfdjgjajkaa
