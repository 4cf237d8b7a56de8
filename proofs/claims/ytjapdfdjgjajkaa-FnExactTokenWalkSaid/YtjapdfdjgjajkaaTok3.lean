/-
  Contract: the reference's visit of the token.
-/
import Derived.Test.YtjapdfdjgjajkaaTokS
import Derived.Test.YtjapdfdjgjajkaaTok2
namespace Go.Proofs.Ytjapdfdjgjajkaa
open Go.ChangeShapes Go.WideShapes Go.ChangeAt Go.RowKit
set_option linter.unusedVariables false

set_option maxHeartbeats 8000000 in
set_option maxRecDepth 100000 in
theorem svisit_any (N : NetD) (hgood : N.good = true) (w0 : World) (lo hi n : Nat) (hn : Hid (N.ends.length = n)) (A1 : Option Addr) (c1 b3 o3 c3 b4 o4 c4 : Nat) (hc3 : n ≤ c3 ∧ c3 ≤ 9223372036854775807) (hc4 : n ≤ c4 ∧ c4 ≤ 9223372036854775807) (x1 x2 : Value) (B base g ulo uhi flo fhi : Nat) (hL : LayS B base g ulo uhi flo fhi) (hE : EndSS w0 lo hi (.slice A1 n c1) N.ends) (hhi : hi ≤ B) (hB0 : B ≤ w0.heap.size) :
    ∀ (f v : Nat) (σ : Tk) (vm : Value) (w : World), v < n → σ.met v = false → unm n σ.met ≤ f → bnd σ ≤ 480 → TokS w N B base g ulo uhi flo fhi n (.slice A1 n c1) x1 x2 (.slice (some ⟨b3, o3, none⟩) n c3) (.slice (some ⟨b4, o4, none⟩) n c4) (tin v σ) vm → base ≤ w.heap.size → Below B w0 w →
      Calls Try.prog 47 #[.pointer (some ⟨g, 0, none⟩), .int .i64 v] w (fun e w' => e = .returned (.tuple #[]) ∧ ∃ vm', TokS w' N B base g ulo uhi flo fhi n (.slice A1 n c1) x1 x2 (.slice (some ⟨b3, o3, none⟩) n c3) (.slice (some ⟨b4, o4, none⟩) n c4) (tvisit N f v σ) vm' ∧ Fr B base w vm w' vm') := by
  have HGD := Lib.hid hgood
  have HLAY := Lib.hid hL
  obtain ⟨g1, g2, u1, u2, u3, f1, f2, f3, gu, gf, uf⟩ := hL
  have HE := Lib.hid hE
  have h40 := (good_n hgood).2
  have H40 := Lib.hid h40
  have H6 := Lib.hid (show ∀ v, degAt N v ≤ 6 from fun v => by
    by_cases hv : v < N.ends.length
    · exact good_deg hgood hv
    · unfold degAt nthL; rw [List.getD_eq_getElem?_getD, List.getElem?_eq_none (by omega)]; exact Nat.zero_le _)
  rw [hn.out] at h40
  clear hE hgood
  obtain ⟨hc3a, hc3b⟩ := hc3
  obtain ⟨hc4a, hc4b⟩ := hc4
  intro f
  induction f with
  | zero =>
    intro v σ vm w hv hm hu
    have := unm_pos hv hm
    omega
  | succ f ih =>
    intro v σ vm w hv hm hu hbn ht hbs hbl
    have HIH := Lib.hid ih; clear ih
    have HMV := Lib.hid hm; clear hm
    have hut := unm_set hv HMV.out
    have hu1 : unm n (setM σ.met v) ≤ f := by omega
    have HU1 := Lib.hid hu1
    clear hut hu hu1
    have HBN := Lib.hid hbn; clear hbn
    have HBL := Lib.hid hbl
    have HT := Lib.hid ht; clear ht
    obtain ⟨b, off, A2, c2, rfl, hb, hrow, hr1, hr2, hends⟩ := ESS.rowAt HE.out (v := v) (by rw [hn.out]; exact hv)
    have HENDS := Lib.hid hends; clear hends
    obtain ⟨d, HD⟩ : ∃ d, Hid ((nthL N.ends v).length = d) := ⟨_, Lib.hid rfl⟩
    rw [HD.out] at hrow hr1
    have hd6 : d ≤ 6 := by rw [← HD.out]; exact good_deg HGD.out (by rw [hn.out]; exact hv)
    unfold maxLen at hr2
    have k0 : w.cell? ⟨g, 0, none⟩ = some (.slice (some ⟨b, off, none⟩) n c1) := HT.out.box.cell 0 (by simp)
    have kr := (hbl.cell (p := ⟨b, off + v, none⟩) (by show b < B; omega)).trans hrow
    have hvl : ∀ k, vm.ownBlock = some k → B ≤ k := fun k e => by have := (HT.out.own k e).1; omega
    have HVL := Lib.hid hvl
    clear hbl hvl hrow
    go_enter Try.func47, Try.ntmps47
    go_wp2_with fail
    clear k0 kr
    go_loopw [15] (fun i' wr => ∃ (k : Nat) (vk : Value), k ≤ d ∧ i' = .int .i64 k ∧ Hid (TokS wr N B base g ulo uhi flo fhi n (.slice (some ⟨b, off, none⟩) n c1) x1 x2 (.slice (some ⟨b3, o3, none⟩) n c3) (.slice (some ⟨b4, o4, none⟩) n c4) (tloop N (tvisit N f) v k (tin v σ)) vk) ∧ Hid (Fr B base w vm wr vk)) (fun i' _ => d - (intOf i').toNat)
    case atStart => exact ⟨0, vm, Nat.zero_le _, rfl, HT, Lib.hid (Fr.refl _ _ _ _)⟩
    case round =>
      obtain ⟨k, vk, hk, rfl, HTK, HFK⟩ := hrel
      have hsk := HFK.out.size
      by_cases hlt : k < d
      case neg =>
        obtain rfl : k = d := by omega
        go_wp2_with fail
        go_end0
        refine ⟨rfl, vk, ?_, HFK.out⟩
        rw [tvisit_succ]
        unfold degAt
        rw [HD.out]
        exact HTK.out
      obtain ⟨σk, HS⟩ : ∃ s, Hid (tloop N (tvisit N f) v k (tin v σ) = s) := ⟨_, Lib.hid rfl⟩
      rw [HS.out] at HTK
      have HNX := Lib.hid (show tloop N (tvisit N f) v (k + 1) (tin v σ) = tstep N (tvisit N f) v k σk by rw [tloop, HS.out])
      have HBK := Lib.hid (show bnd σk ≤ 480 by rw [← HS.out]; exact Nat.le_trans (tloop_bnd H40.out H6.out (tvisit_bnd H40.out H6.out f) v k _ (by unfold degAt; rw [HD.out]; omega)) HBN.out)
      have HUK := Lib.hid (show unm n σk.met ≤ f from Nat.le_trans (unm_mono (fun x hx => by rw [← HS.out]; exact tloop_keeps (tvisit_keeps N f) v k _ x hx)) HU1.out)
      have HBW := Lib.hid (show Below B w0 wr from HBL.out.trans (HFK.out.below HVL.out (Nat.le_refl _) (by omega)))
      obtain ⟨t, r, he, ht1, hr3, _⟩ := good_end HGD.out (v := v) (i := k) (by rw [hn.out]; exact hv) (by rw [HD.out]; exact hlt)
      rw [hn.out] at ht1
      have hrd : r < degAt N t := hr3
      have hr6 : r < 6 := by have := H6.out t; omega
      have HRD := Lib.hid hrd; clear hr3 hrd
      have HEN := Lib.hid (show endAt N v k = ((t : Int), (r : Int)) from he)
      obtain ⟨b2, o2, hA2, hb2, y1, y2⟩ := HENDS.out k (by rw [HD.out]; exact hlt)
      subst hA2
      rw [he] at y1 y2
      clear he
      have p1 := (HBW.out.cell (p := ⟨b2, o2 + k * 2, none⟩) (by show b2 < B; omega)).trans y1
      have p2 := (HBW.out.cell (p := ⟨b2, o2 + k * 2 + 1, none⟩) (by show b2 < B; omega)).trans y2
      dsimp only at p1 p2
      clear y1 y2
      go_upto_region 3 with fail
      clear p1 p2
      refine nameC ?_
      intro W2 HW2
      have hg2 : wr.grownBy W2 none := by rw [HW2.out]; exact grown_alloc _ _
      have hs2 : wr.heap.size + 1 ≤ W2.heap.size := by rw [HW2.out]; simp
      have hbe : BoxN W2 wr.heap.size #[.int .i64 t, .int .i64 r] 60 := by rw [HW2.out]; exact BoxN.new _ _ _
      clear HW2
      have HBE := Lib.hid hbe
      have HOWN := Lib.hid (show vk.ownBlock ≠ some wr.heap.size from fun e => by have := (HTK.out.own _ e).2; omega)
      have HT2 := Lib.hid (HTK.out.still HLAY.out (by omega) hg2)
      have HF2 := Lib.hid (show Fr B base w vm W2 vk from HFK.out.trans (Fr.still hg2))
      clear hbe HTK HFK
      have hdk : k < degAt N v := by unfold degAt; rw [HD.out]; exact hlt
      obtain ⟨r1, q1, c5, j1, j2, j3, j4, j5, j6, j7, j8, j9, j10⟩ := HT2.out.useAt HLAY.out (by omega) hn.out hv hdk
      have HDA := Lib.hid (show degAt N v = d from HD.out)
      rw [HDA.out] at j1 j2
      have HJ := Lib.hid j10; clear j10 hdk
      have q3 : W2.cell? ⟨g, 3, none⟩ = some (.slice (some ⟨b3, o3, none⟩) n c3) := HT2.out.box.cell 3 (by simp)
      cases hus : σk.used v k with
      | true =>
        rw [hus, if_pos rfl] at j4
        have HST := Lib.hid (tstep_used (N := N) (rec := tvisit N f) hus); clear hus
        go_wp2_with fail
        go_roundw
        case rel => exact ⟨k + 1, vk, by omega, by go_num, Lib.hid (by rw [HNX.out, HST.out]; exact HT2.out), HF2⟩
        case measure => simp [intOf]; omega
      | false =>
        rw [hus, if_neg (by simp)] at j4
        have HUS := Lib.hid hus; clear hus
        have hpre := bnd_pre H40.out H6.out (N := N) (v := v) (i := k) (σ := σk) (by unfold degAt; rw [HD.out]; exact hlt) HUS.out
        have HPRE := Lib.hid (show bnd (tpre N v k σk) + 1 ≤ 480 from Nat.le_trans hpre HBK.out); clear hpre
        have hml : σk.moves.length ≤ 480 := by have := HBK.out; unfold bnd at this; omega
        go_upto_region 5 with fail
        clear q3 j1 j4 j5
        refine nameC ?_
        intro W3 HW3
        have hg3 : W2.grownBy W3 (some r1) := by rw [HW3.out]; exact grown_set _ ⟨r1, q1 + k, none⟩ _
        have hs3 := hg3.size
        have hT3 := HJ.out
        rw [← HW3.out] at hT3
        have HT3 := Lib.hid hT3
        have HF3 := Lib.hid (show Fr B base w vm W3 vk from HF2.out.trans (Fr.turn hg3 (by omega) (by omega)))
        have HB3 := Lib.hid (HBE.out.far hg3 (fun k e => by injection e; omega))
        clear HW3 hT3 hg3 HJ HT2 HF2 HBE
        obtain ⟨r2, q2, c6, j1, j2, j3, j4, j5, j6, j7, j8, j9, j10⟩ := HT3.out.useAt HLAY.out (by omega) hn.out ht1 HRD.out
        have hrd := HRD.out
        refine wp_region_U (fun w' => w'.cell? ⟨g, 3, none⟩ = some (.slice (some ⟨b3, o3, none⟩) n c3) ∧ w'.cell? ⟨wr.heap.size, 0, none⟩ = some (.int .i64 t) ∧ w'.cell? ⟨wr.heap.size, 1, none⟩ = some (.int .i64 r) ∧ w'.cell? ⟨b3, o3 + t, none⟩ = some (.slice (some ⟨r2, q2, none⟩) (degAt N t) c6)) [11] (by kernel_rfl) ?_
        refine nameU ?_
        intro V HV
        have hgV : W3.grownBy V none := by rw [HV.out]; exact grown_drew _
        have hzV := hgV.size
        clear HV
        have hTV := HT3.out.still HLAY.out (by omega) hgV
        have hBV := HB3.out.still hgV
        have v3 : V.cell? ⟨b3, o3 + t, none⟩ = some (.slice (some ⟨r2, q2, none⟩) (degAt N t) c6) := (World.cell?_of_block (hgV.block b3 (by omega) (by simp))).trans j1
        have v4 : V.frozen? ⟨r2, q2 + r, none⟩ = false := (World.frozen?_of_block (hgV.block r2 (by omega) (by simp))).trans j5
        have v5 := (World.cell?_of_block (a := ⟨r2, q2 + r, none⟩) (hgV.block r2 (by omega) (by simp))).trans j4
        have hS : V.cell? ⟨g, 3, none⟩ = some (.slice (some ⟨b3, o3, none⟩) n c3) ∧ V.cell? ⟨wr.heap.size, 0, none⟩ = some (.int .i64 t) ∧ V.cell? ⟨wr.heap.size, 1, none⟩ = some (.int .i64 r) ∧ V.cell? ⟨b3, o3 + t, none⟩ = some (.slice (some ⟨r2, q2, none⟩) (degAt N t) c6) := ⟨hTV.box.cell 3 (by simp), hBV.cell 0 (by simp), hBV.cell 1 (by simp), v3⟩
        refine anyU_take (i := 0) (v := .pointer (some ⟨g, 0, none⟩)) rfl (by kernel_rfl) (by kernel_rfl) (by kernel_rfl) (fun _ _ _ h => h) ⟨by rfl, fun w' hS' => (by obtain ⟨s1, s2, s3, s4⟩ := hS'; go_simp)⟩ hS ?_
        simp only [List.getElem_toArray, List.getElem_cons_zero, Act.put, List.setIfInBounds_toArray, List.set_cons_zero, List.set_cons_succ]
        refine anyU_take (i := 1) (v := .pointer (some ⟨g, 0, none⟩)) rfl (by kernel_rfl) (by kernel_rfl) (by kernel_rfl) (fun _ _ _ h => h) ⟨by rfl, fun w' hS' => (by obtain ⟨s1, s2, s3, s4⟩ := hS'; go_simp)⟩ hS ?_
        simp only [List.getElem_toArray, List.getElem_cons_succ, List.getElem_cons_zero, Act.put, List.setIfInBounds_toArray, List.set_cons_zero, List.set_cons_succ]
        refine anyU_take (i := 2) (v := .pointer (some ⟨g, 3, none⟩)) rfl (by kernel_rfl) (by kernel_rfl) (by kernel_rfl) (fun _ _ _ h => h) ⟨by rfl, fun w' hS' => (by obtain ⟨s1, s2, s3, s4⟩ := hS'; go_simp)⟩ hS ?_
        simp only [List.getElem_toArray, List.getElem_cons_succ, List.getElem_cons_zero, Act.put, List.setIfInBounds_toArray, List.set_cons_zero, List.set_cons_succ]
        refine anyU_take (i := 3) (v := .slice (some ⟨b3, o3, none⟩) n c3) rfl (by kernel_rfl) (by kernel_rfl) (by kernel_rfl) (fun _ _ _ h => h) ⟨by rfl, fun w' hS' => (by obtain ⟨s1, s2, s3, s4⟩ := hS'; go_simp)⟩ hS ?_
        simp only [List.getElem_toArray, List.getElem_cons_succ, List.getElem_cons_zero, Act.put, List.setIfInBounds_toArray, List.set_cons_zero, List.set_cons_succ]
        refine anyU_take (i := 4) (v := .pointer (some ⟨wr.heap.size, 0, none⟩)) rfl (by kernel_rfl) (by kernel_rfl) (by kernel_rfl) (fun _ _ _ h => h) ⟨by rfl, fun w' hS' => (by obtain ⟨s1, s2, s3, s4⟩ := hS'; go_simp)⟩ hS ?_
        simp only [List.getElem_toArray, List.getElem_cons_succ, List.getElem_cons_zero, Act.put, List.setIfInBounds_toArray, List.set_cons_zero, List.set_cons_succ]
        refine anyU_take (i := 5) (v := .int .i64 t) rfl (by kernel_rfl) (by kernel_rfl) (by kernel_rfl) (fun _ _ _ h => h) ⟨by rfl, fun w' hS' => (by obtain ⟨s1, s2, s3, s4⟩ := hS'; go_simp)⟩ hS ?_
        simp only [List.getElem_toArray, List.getElem_cons_succ, List.getElem_cons_zero, Act.put, List.setIfInBounds_toArray, List.set_cons_zero, List.set_cons_succ]
        refine anyU_take (i := 6) (v := .pointer (some ⟨b3, o3 + t, none⟩)) rfl (by kernel_rfl) (by kernel_rfl) (by kernel_rfl) (fun _ _ _ h => h) ⟨by rfl, fun w' hS' => (by obtain ⟨s1, s2, s3, s4⟩ := hS'; go_simp)⟩ hS ?_
        simp only [List.getElem_toArray, List.getElem_cons_succ, List.getElem_cons_zero, Act.put, List.setIfInBounds_toArray, List.set_cons_zero, List.set_cons_succ]
        refine anyU_take (i := 7) (v := .slice (some ⟨r2, q2, none⟩) (degAt N t) c6) rfl (by kernel_rfl) (by kernel_rfl) (by kernel_rfl) (fun _ _ _ h => h) ⟨by rfl, fun w' hS' => (by obtain ⟨s1, s2, s3, s4⟩ := hS'; go_simp)⟩ hS ?_
        simp only [List.getElem_toArray, List.getElem_cons_succ, List.getElem_cons_zero, Act.put, List.setIfInBounds_toArray, List.set_cons_zero, List.set_cons_succ]
        refine anyU_take (i := 8) (v := .pointer (some ⟨wr.heap.size, 1, none⟩)) rfl (by kernel_rfl) (by kernel_rfl) (by kernel_rfl) (fun _ _ _ h => h) ⟨by rfl, fun w' hS' => (by obtain ⟨s1, s2, s3, s4⟩ := hS'; go_simp)⟩ hS ?_
        simp only [List.getElem_toArray, List.getElem_cons_succ, List.getElem_cons_zero, Act.put, List.setIfInBounds_toArray, List.set_cons_zero, List.set_cons_succ]
        refine anyU_take (i := 9) (v := .int .i64 r) rfl (by kernel_rfl) (by kernel_rfl) (by kernel_rfl) (fun _ _ _ h => h) ⟨by rfl, fun w' hS' => (by obtain ⟨s1, s2, s3, s4⟩ := hS'; go_simp)⟩ hS ?_
        simp only [List.getElem_toArray, List.getElem_cons_succ, List.getElem_cons_zero, Act.put, List.setIfInBounds_toArray, List.set_cons_zero, List.set_cons_succ]
        refine anyU_take (i := 10) (v := .pointer (some ⟨r2, q2 + r, none⟩)) rfl (by kernel_rfl) (by kernel_rfl) (by kernel_rfl) (fun _ _ _ h => h) ⟨by rfl, fun w' hS' => (by obtain ⟨s1, s2, s3, s4⟩ := hS'; go_simp)⟩ hS ?_
        simp only [List.getElem_toArray, List.getElem_cons_succ, List.getElem_cons_zero, Act.put, List.setIfInBounds_toArray, List.set_cons_zero, List.set_cons_succ]
        refine anyU_ready (rs := [11]) (by kernel_rfl) (by simp) ?_
        refine ReadyU.cons (i := 11) rfl (fun K hK => ?_) ReadyU.nil
        simp only [List.getElem_toArray, List.getElem_cons_succ, List.getElem_cons_zero]
        refine ite_is (by rfl) ?_
        simp [go_sem, v4, v5]
        refine hK.out _ _ ⟨fun h => absurd h (by decide), ?_⟩
        clear hK K
        try simp only [List.getElem_toArray, List.getElem_cons_succ, List.getElem_cons_zero, Act.put, List.setIfInBounds_toArray, List.set_cons_zero, List.set_cons_succ]
        refine nameU ?_
        intro W4 HW4
        refine anyU_done (by kernel_rfl) ?_ _
        have hg4 : V.grownBy W4 (some r2) := by rw [HW4.out]; exact grown_set _ ⟨r2, q2 + r, none⟩ _
        have hz4 := hg4.size
        have hT4 : TokS W4 N B base g ulo uhi flo fhi n (.slice (some ⟨b, off, none⟩) n c1) x1 x2 (.slice (some ⟨b3, o3, none⟩) n c3) (.slice (some ⟨b4, o4, none⟩) n c4) ⟨setU (setU σk.used v k) t r, σk.met, σk.moves⟩ vk := by
          obtain ⟨r2', q2', c6', i1, i2, i3, i4, i5, i6, i7, i8, i9, i10⟩ := hTV.useAt HLAY.out (by omega) hn.out ht1 HRD.out
          rw [v3] at i1
          injection i1 with i1
          injection i1 with e1 e2 e3
          injection e1 with e1
          injection e1 with e4 e5 _
          subst e4 e5
          rw [HW4.out]
          exact i10
        have HT4 := Lib.hid hT4
        have HF4 := Lib.hid (show Fr B base w vm W4 vk from (HF3.out.trans (Fr.still hgV)).trans (Fr.turn hg4 (by omega) (by omega)))
        have HB4 := Lib.hid (hBV.far hg4 (fun k e => by injection e; omega))
        clear HW4 hT4 hg4 hTV hBV hgV v3 v4 v5 hS j1 j4 j5 j10 HT3 HF3 HB3
        have HPR := Lib.hid (show tpre N v k σk = ⟨setU (setU σk.used v k) t r, σk.met, σk.moves ++ [[(v : Int), (k : Int)]]⟩ by unfold tpre; rw [HEN.out])
        obtain ⟨top, hm⟩ := HT4.out.mvs
        have HMV4 := Lib.hid hm
        obtain ⟨A, c, rfl, hcc1, hcc2⟩ := hm.len
        have hlv := hm.lt
        have htop : top ≤ W4.heap.size := by obtain ⟨_, _, _, _, _, _, h, _⟩ := hm; exact h
        have HLV := Lib.hid hlv
        dsimp only at hcc1
        have k5 : W4.cell? ⟨g, 5, none⟩ = some (.slice A σk.moves.length c) := HT4.out.box.cell 5 (by simp)
        clear hm hlv
        obtain ⟨m, HM⟩ : ∃ m, Hid (σk.moves.length = m) := ⟨_, Lib.hid rfl⟩
        rw [HM.out] at k5 hcc1 hml HMV4 HLV HT4 HF4 HOWN
        go_upto_region 7 with (at_builtin; refine append_ss (s := .tmp 55) Try.underlying27 Try.infoRow (by decide) (W4.alloc (.cells #[.int .i64 v, .int .i64 k] 3)) rfl _ rfl (HMV4.out.alloc _) (lo := W4.heap.size) (hi := W4.heap.size + 1) (IntS.newN W4 [(v : Int), (k : Int)] _ rfl (by simp)) htop (by simp) (by omega) (fun g hg => .inl (HLV.out g hg).2) _ rfl (by simp [Act.eval, go_sem]) (by dsimp only; rw [HM.out]; omega) ?_; intro v' w5 ho' hg' hat'; obtain ⟨A', c', hv', hc1', hc2'⟩ := ho'.len; obtain ⟨m9, HM9⟩ : ∃ z, Hid ((σk.moves ++ [[(v : Int), (k : Int)]]).length = z) := ⟨_, Lib.hid rfl⟩; dsimp only at hv' hc1' ho'; rw [HM9.out] at hv' hc1'; subst hv'; have bx2 := (HT4.out.box.still (grown_alloc W4 _)).far hg' (fun k e => by have := HLV.out k e; omega); have f5 := bx2.frozen 5; have k6 : w5.cell? ⟨g, 5, none⟩ = some (.slice A m c) := bx2.cell 5 (by simp))
        clear k5 k6 f5
        refine nameC ?_
        intro W5 HW5
        have hpush := HT4.out.push HLAY.out (by omega) (grown_alloc W4 _) hg' ho' (by
          rcases hat' with e | e
          · exact .inl e
          · exact .inr ⟨_, e, by simp⟩)
        rw [← HW5.out] at hpush
        obtain ⟨hT5, hF5⟩ := hpush
        have hb5 := hF5.box HB4.out (.inr (by omega)) HOWN.out
        have HT5 := Lib.hid hT5
        have HB5 := Lib.hid hb5
        have hz5 := hF5.size
        have how5 : (Value.slice A' m9 c').ownBlock ≠ some wr.heap.size := fun e => (hF5.own _ e).elim (fun e2 => HOWN.out e2) (fun e2 => by have := HB4.out.lt; omega)
        have HOW5 := Lib.hid how5
        have HF5 := Lib.hid (HF4.out.trans hF5)
        obtain ⟨v5, HV5⟩ : ∃ u, u = Value.slice A' m9 c' := ⟨_, rfl⟩
        rw [← HV5] at HT5 HF5 HOW5
        clear hT5 hF5 hb5 how5 HV5 HW5 bx2 ho' hg' hat' hc1' hc2' HMV4 HLV HT4 HF4 HB4 htop
        obtain ⟨z, l1, l2, l3, l4, l5, l6⟩ := HT5.out.firstAt HLAY.out (by omega) ht1
        have HL6 := Lib.hid l6; clear l6
        dsimp only at l3
        cases hmt : σk.met t with
        | true =>
          have HMT := Lib.hid hmt
          rw [hmt] at l3
          have c4' : W5.cell? ⟨g, 4, none⟩ = some (.slice (some ⟨b4, o4, none⟩) n c4) := HT5.out.box.cell 4 (by simp)
          have ce : W5.cell? ⟨wr.heap.size, 0, none⟩ = some (.int .i64 t) := HB5.out.cell 0 (by simp)
          simp only [Bool.not_true] at l3
          go_wp2_with fail
          go_quiet (fail)
          go_upto_region 10 with fail
          clear c4' ce hmt l1 l2 l3
          refine nameC ?_
          intro X HX
          have hgX : W5.grownBy X none := by rw [HX.out]; exact grown_drewN _ _
          have hzX := hgX.size
          clear HX
          have HTX := Lib.hid (show TokS X N B base g ulo uhi flo fhi n (.slice (some ⟨b, off, none⟩) n c1) x1 x2 (.slice (some ⟨b3, o3, none⟩) n c3) (.slice (some ⟨b4, o4, none⟩) n c4) (tpre N v k σk) v5 by rw [HPR.out]; exact HT5.out.still HLAY.out (by omega) hgX)
          have HFX := Lib.hid (show Fr B base w vm X v5 from HF5.out.trans (Fr.still hgX))
          have HBX := Lib.hid (HB5.out.still hgX)
          clear HT5 HF5 HB5 hgX
          have HBT := Lib.hid (show bnd (tpre N v k σk) + 1 ≤ 480 from HPRE.out)
          have hmx : (tpre N v k σk).moves.length ≤ 480 := by have := HBT.out; unfold bnd at this; omega
          have hzW : base ≤ X.heap.size := by have := HFX.out.size; omega
          obtain ⟨top6, hm6⟩ := HTX.out.mvs
          have HMV6 := Lib.hid hm6
          obtain ⟨A6, c6', rfl, hd1, hd2⟩ := hm6.len
          have htop6 : top6 ≤ X.heap.size := by obtain ⟨_, _, _, _, _, _, h, _⟩ := hm6; exact h
          have HLV6 := Lib.hid hm6.lt
          clear hm6
          obtain ⟨m6, HM6⟩ : ∃ m, Hid ((tpre N v k σk).moves.length = m) := ⟨_, Lib.hid rfl⟩
          rw [HM6.out] at hmx hd1 HMV6 HLV6 HTX HFX HOW5
          refine wp_region_U (fun w' => w'.cell? ⟨g, 5, none⟩ = some (.slice A6 m6 c6') ∧ w'.cell? ⟨wr.heap.size, 0, none⟩ = some (.int .i64 t) ∧ w'.cell? ⟨wr.heap.size, 1, none⟩ = some (.int .i64 r)) [14] (by kernel_rfl) ?_
          refine nameU ?_
          intro U HU
          have hgU : X.grownBy U none := by rw [HU.out]; exact grown_drew _
          have hzU := hgU.size
          clear HU
          have hTU := HTX.out.still HLAY.out (by omega) hgU
          have hBU := HBX.out.still hgU
          have hFU := HFX.out.trans (Fr.still hgU)
          have hMU := HMV6.out.drew
          have hS : U.cell? ⟨g, 5, none⟩ = some (.slice A6 m6 c6') ∧ U.cell? ⟨wr.heap.size, 0, none⟩ = some (.int .i64 t) ∧ U.cell? ⟨wr.heap.size, 1, none⟩ = some (.int .i64 r) := ⟨hTU.box.cell 5 (by simp), hBU.cell 0 (by simp), hBU.cell 1 (by simp)⟩
          obtain ⟨topU, hmU⟩ := hTU.mvs
          have htopU : topU ≤ U.heap.size := by obtain ⟨_, _, _, _, _, _, h, _⟩ := hmU; exact h
          have hLVU := hmU.lt
          clear hMU
          refine anyU_take (i := 0) (v := .pointer (some ⟨g, 0, none⟩)) rfl (by kernel_rfl) (by kernel_rfl) (by kernel_rfl) (fun _ _ _ h => h) ⟨by rfl, fun w' hS' => (by obtain ⟨s1, s2, s3⟩ := hS'; go_simp)⟩ hS ?_
          simp only [List.getElem_toArray, List.getElem_cons_zero, Act.put, List.setIfInBounds_toArray, List.set_cons_zero, List.set_cons_succ]
          refine anyU_take (i := 1) (v := .pointer (some ⟨g, 0, none⟩)) rfl (by kernel_rfl) (by kernel_rfl) (by kernel_rfl) (fun _ _ _ h => h) ⟨by rfl, fun w' hS' => (by obtain ⟨s1, s2, s3⟩ := hS'; go_simp)⟩ hS ?_
          simp only [List.getElem_toArray, List.getElem_cons_succ, List.getElem_cons_zero, Act.put, List.setIfInBounds_toArray, List.set_cons_zero, List.set_cons_succ]
          refine anyU_take (i := 2) (v := .pointer (some ⟨g, 0, none⟩)) rfl (by kernel_rfl) (by kernel_rfl) (by kernel_rfl) (fun _ _ _ h => h) ⟨by rfl, fun w' hS' => (by obtain ⟨s1, s2, s3⟩ := hS'; go_simp)⟩ hS ?_
          simp only [List.getElem_toArray, List.getElem_cons_succ, List.getElem_cons_zero, Act.put, List.setIfInBounds_toArray, List.set_cons_zero, List.set_cons_succ]
          refine anyU_take (i := 3) (v := .pointer (some ⟨g, 5, none⟩)) rfl (by kernel_rfl) (by kernel_rfl) (by kernel_rfl) (fun _ _ _ h => h) ⟨by rfl, fun w' hS' => (by obtain ⟨s1, s2, s3⟩ := hS'; go_simp)⟩ hS ?_
          simp only [List.getElem_toArray, List.getElem_cons_succ, List.getElem_cons_zero, Act.put, List.setIfInBounds_toArray, List.set_cons_zero, List.set_cons_succ]
          refine anyU_take (i := 4) (v := .slice A6 m6 c6') rfl (by kernel_rfl) (by kernel_rfl) (by kernel_rfl) (fun _ _ _ h => h) ⟨by rfl, fun w' hS' => (by obtain ⟨s1, s2, s3⟩ := hS'; go_simp)⟩ hS ?_
          simp only [List.getElem_toArray, List.getElem_cons_succ, List.getElem_cons_zero, Act.put, List.setIfInBounds_toArray, List.set_cons_zero, List.set_cons_succ]
          refine anyU_take (i := 5) (v := .pointer (some ⟨wr.heap.size, 0, none⟩)) rfl (by kernel_rfl) (by kernel_rfl) (by kernel_rfl) (fun _ _ _ h => h) ⟨by rfl, fun w' hS' => (by obtain ⟨s1, s2, s3⟩ := hS'; go_simp)⟩ hS ?_
          simp only [List.getElem_toArray, List.getElem_cons_succ, List.getElem_cons_zero, Act.put, List.setIfInBounds_toArray, List.set_cons_zero, List.set_cons_succ]
          refine anyU_take (i := 6) (v := .int .i64 t) rfl (by kernel_rfl) (by kernel_rfl) (by kernel_rfl) (fun _ _ _ h => h) ⟨by rfl, fun w' hS' => (by obtain ⟨s1, s2, s3⟩ := hS'; go_simp)⟩ hS ?_
          simp only [List.getElem_toArray, List.getElem_cons_succ, List.getElem_cons_zero, Act.put, List.setIfInBounds_toArray, List.set_cons_zero, List.set_cons_succ]
          refine anyU_take (i := 7) (v := .pointer (some ⟨wr.heap.size, 1, none⟩)) rfl (by kernel_rfl) (by kernel_rfl) (by kernel_rfl) (fun _ _ _ h => h) ⟨by rfl, fun w' hS' => (by obtain ⟨s1, s2, s3⟩ := hS'; go_simp)⟩ hS ?_
          simp only [List.getElem_toArray, List.getElem_cons_succ, List.getElem_cons_zero, Act.put, List.setIfInBounds_toArray, List.set_cons_zero, List.set_cons_succ]
          refine anyU_take (i := 8) (v := .int .i64 r) rfl (by kernel_rfl) (by kernel_rfl) (by kernel_rfl) (fun _ _ _ h => h) ⟨by rfl, fun w' hS' => (by obtain ⟨s1, s2, s3⟩ := hS'; go_simp)⟩ hS ?_
          simp only [List.getElem_toArray, List.getElem_cons_succ, List.getElem_cons_zero, Act.put, List.setIfInBounds_toArray, List.set_cons_zero, List.set_cons_succ]
          have hS2 : ∀ o, (U.alloc o).cell? ⟨g, 5, none⟩ = some (.slice A6 m6 c6') ∧ (U.alloc o).cell? ⟨wr.heap.size, 0, none⟩ = some (.int .i64 t) ∧ (U.alloc o).cell? ⟨wr.heap.size, 1, none⟩ = some (.int .i64 r) := fun o => ⟨(hTU.box.still (grown_alloc U o)).cell 5 (by simp), (hBU.still (grown_alloc U o)).cell 0 (by simp), (hBU.still (grown_alloc U o)).cell 1 (by simp)⟩
          have hS3 : ∀ o o2, ((U.alloc o).alloc o2).cell? ⟨g, 5, none⟩ = some (.slice A6 m6 c6') ∧ ((U.alloc o).alloc o2).cell? ⟨wr.heap.size, 0, none⟩ = some (.int .i64 t) ∧ ((U.alloc o).alloc o2).cell? ⟨wr.heap.size, 1, none⟩ = some (.int .i64 r) := fun o o2 => ⟨((hTU.box.still (grown_alloc U o)).still (grown_alloc _ o2)).cell 5 (by simp), ((hBU.still (grown_alloc U o)).still (grown_alloc _ o2)).cell 0 (by simp), ((hBU.still (grown_alloc U o)).still (grown_alloc _ o2)).cell 1 (by simp)⟩
          refine anyU_ready (rs := [9]) (by kernel_rfl) (by simp) ?_
          refine ReadyU.cons (i := 9) rfl (fun K hK => ?_) ReadyU.nil
          simp only [List.getElem_toArray, List.getElem_cons_succ, List.getElem_cons_zero]
          refine ite_is (by rfl) ?_
          simp [go_sem]
          refine hK.out _ _ ⟨fun _ => hS2 _, ?_⟩
          clear hK K
          try simp only [List.getElem_toArray, List.getElem_cons_succ, List.getElem_cons_zero, Act.put, List.setIfInBounds_toArray, List.set_cons_zero, List.set_cons_succ]
          refine anyU_ready (rs := [10]) (by kernel_rfl) (by simp) ?_
          refine ReadyU.cons (i := 10) rfl (fun K hK => ?_) ReadyU.nil
          simp only [List.getElem_toArray, List.getElem_cons_succ, List.getElem_cons_zero]
          refine ite_is (by rfl) ?_
          simp [go_sem]
          refine hK.out _ _ ⟨fun _ => hS3 _ _, ?_⟩
          clear hK K
          try simp only [List.getElem_toArray, List.getElem_cons_succ, List.getElem_cons_zero, Act.put, List.setIfInBounds_toArray, List.set_cons_zero, List.set_cons_succ]
          refine nameU ?_
          intro U2 HU2
          have hgU2 : U.grownBy U2 none := by rw [HU2.out]; exact (grown_alloc _ _).trans (grown_alloc _ _)
          have hzU2 : U.heap.size + 2 ≤ U2.heap.size := by rw [HU2.out]; simp
          have hrw : IntS U2 U.heap.size (U.heap.size + 1) (.slice (some ⟨U.heap.size, 0, none⟩) 2 2) [(t : Int), (r : Int)] := by rw [HU2.out]; exact (IntS.newN U [(t : Int), (r : Int)] _ rfl (by simp)).still (grown_alloc _ _) (by simp)
          have hcw : U2.cell? ⟨U.heap.size + 1, 0, none⟩ = some (.slice (some ⟨U.heap.size, 0, none⟩) 2 2) := by rw [HU2.out]; simp
          have hm2 := hmU.below (w' := U2) ⟨hgU2.os, hgU2.tape, hgU2.output, hgU2.size, fun k hk => hgU2.block k hk (by simp)⟩
          clear HU2
          refine anyU_ready (rs := [11]) (by kernel_rfl) (by simp) ?_
          refine ReadyU.cons (i := 11) rfl (fun K hK => ?_) ReadyU.nil
          simp only [List.getElem_toArray, List.getElem_cons_succ, List.getElem_cons_zero]
          refine ite_is (by rfl) ?_
          refine step_append_ss (bytes := 24) Try.underlying27 Try.infoRow (by decide) _ _ (by rfl) hm2 hrw htopU (by omega) (by omega) (fun g hg => .inl (hLVU g hg).2) (U.heap.size + 1) hcw (by rfl) (by rfl) (by rw [HM6.out]; omega) _ rfl ?_
          intro gg cap w6 ho6 hg6 hat6 hlt6
          have bx6 := (hTU.box.still hgU2).far hg6 (fun k e => by have := hLVU k e; omega)
          have f6 := bx6.frozen 5
          have k6 : w6.cell? ⟨g, 5, none⟩ = some (.slice A6 m6 c6') := bx6.cell 5 (by simp)
          have he6 := (hBU.still hgU2).far hg6 (fun k e e2 => HOW5.out (by rw [e, e2]))
          have hS6 : w6.cell? ⟨g, 5, none⟩ = some (.slice A6 m6 c6') ∧ w6.cell? ⟨wr.heap.size, 0, none⟩ = some (.int .i64 t) ∧ w6.cell? ⟨wr.heap.size, 1, none⟩ = some (.int .i64 r) := ⟨k6, he6.cell 0 (by simp), he6.cell 1 (by simp)⟩
          refine hK.out _ _ ⟨fun _ => hS6, ?_⟩
          clear hK K hS
          have hS := hS6
          clear hS6
          simp only [Act.put, List.setIfInBounds_toArray, List.set_cons_zero, List.set_cons_succ]
          refine anyU_take (i := 12) (v := .pointer (some ⟨g, 0, none⟩)) rfl (by kernel_rfl) (by kernel_rfl) (by kernel_rfl) (fun _ _ _ h => h) ⟨by rfl, fun w' hS' => (by obtain ⟨s1, s2, s3⟩ := hS'; go_simp)⟩ hS ?_
          simp only [List.getElem_toArray, List.getElem_cons_succ, List.getElem_cons_zero, Act.put, List.setIfInBounds_toArray, List.set_cons_zero, List.set_cons_succ]
          refine anyU_take (i := 13) (v := .pointer (some ⟨g, 5, none⟩)) rfl (by kernel_rfl) (by kernel_rfl) (by kernel_rfl) (fun _ _ _ h => h) ⟨by rfl, fun w' hS' => (by obtain ⟨s1, s2, s3⟩ := hS'; go_simp)⟩ hS ?_
          simp only [List.getElem_toArray, List.getElem_cons_succ, List.getElem_cons_zero, Act.put, List.setIfInBounds_toArray, List.set_cons_zero, List.set_cons_succ]
          refine anyU_ready (rs := [14]) (by kernel_rfl) (by simp) ?_
          refine ReadyU.cons (i := 14) rfl (fun K hK => ?_) ReadyU.nil
          simp only [List.getElem_toArray, List.getElem_cons_succ, List.getElem_cons_zero]
          refine ite_is (by rfl) ?_
          simp [go_sem, f6, k6]
          refine hK.out _ _ ⟨fun h => absurd h (by decide), ?_⟩
          clear hK K
          try simp only [List.getElem_toArray, List.getElem_cons_succ, List.getElem_cons_zero, Act.put, List.setIfInBounds_toArray, List.set_cons_zero, List.set_cons_succ]
          refine nameU ?_
          intro Y HY
          refine anyU_done (by kernel_rfl) ?_ _
          have hpush := hTU.push HLAY.out (by omega) hgU2 hg6 ho6 (by
            rcases hat6 with e | e
            · exact .inl e.symm
            · exact .inr ⟨gg, rfl, by omega⟩)
          rw [← HY.out] at hpush
          obtain ⟨hTY, hFY⟩ := hpush
          have HTY := Lib.hid hTY
          have HFY := Lib.hid (hFU.trans hFY)
          clear hTY hFY hFU hTU hBU hS hS2 hS3 HY hgU2 hg6 ho6 hat6 bx6 f6 k6 he6 hm2 hrw hcw hmU hLVU
          go_wp2_with fail
          go_roundw
          case rel =>
            refine ⟨k + 1, _, by omega, by go_num, Lib.hid ?_, HFY⟩
            rw [HNX.out, tstep_met HUS.out (by rw [HEN.out]; exact HMT.out), HEN.out]
            exact HTY.out
          case measure => simp [intOf]; omega
        | false =>
          have HMT := Lib.hid hmt
          rw [hmt] at l3
          have c4' : W5.cell? ⟨g, 4, none⟩ = some (.slice (some ⟨b4, o4, none⟩) n c4) := HT5.out.box.cell 4 (by simp)
          have ce : W5.cell? ⟨wr.heap.size, 0, none⟩ = some (.int .i64 t) := HB5.out.cell 0 (by simp)
          simp only [Bool.not_false] at l3
          go_wp2_with fail
          go_quiet (fail)
          go_upto_region 8 with fail
          clear c4' ce hmt l1 l2 l3
          refine nameC ?_
          intro X HX
          have hgX : W5.grownBy X none := by rw [HX.out]; exact grown_drewN _ _
          have hzX := hgX.size
          clear HX
          have HTX := Lib.hid (show TokS X N B base g ulo uhi flo fhi n (.slice (some ⟨b, off, none⟩) n c1) x1 x2 (.slice (some ⟨b3, o3, none⟩) n c3) (.slice (some ⟨b4, o4, none⟩) n c4) (tpre N v k σk) v5 by rw [HPR.out]; exact HT5.out.still HLAY.out (by omega) hgX)
          have HFX := Lib.hid (show Fr B base w vm X v5 from HF5.out.trans (Fr.still hgX))
          have HBX := Lib.hid (HB5.out.still hgX)
          clear HT5 HF5 HB5 hgX
          obtain ⟨z', l1, l2, l3, l4', l5', l6⟩ := HTX.out.firstAt HLAY.out (by omega) ht1
          refine wp_region_U (fun w' => w'.cell? ⟨g, 4, none⟩ = some (.slice (some ⟨b4, o4, none⟩) n c4) ∧ w'.cell? ⟨wr.heap.size, 0, none⟩ = some (.int .i64 t) ∧ w'.cell? ⟨wr.heap.size, 1, none⟩ = some (.int .i64 r)) [9] (by kernel_rfl) ?_
          refine nameU ?_
          intro V HV
          have hgV : X.grownBy V none := by rw [HV.out]; exact grown_drew _
          have hzV := hgV.size
          clear HV
          have hTV := HTX.out.still HLAY.out (by omega) hgV
          have hBV := HBX.out.still hgV
          have v4 : V.frozen? ⟨b4, o4 + t, none⟩ = false := (World.frozen?_of_block (hgV.block b4 (by omega) (by simp))).trans l2
          have v5' := (World.cell?_of_block (a := ⟨b4, o4 + t, none⟩) (hgV.block b4 (by omega) (by simp))).trans l1
          have hS : V.cell? ⟨g, 4, none⟩ = some (.slice (some ⟨b4, o4, none⟩) n c4) ∧ V.cell? ⟨wr.heap.size, 0, none⟩ = some (.int .i64 t) ∧ V.cell? ⟨wr.heap.size, 1, none⟩ = some (.int .i64 r) := ⟨hTV.box.cell 4 (by simp), hBV.cell 0 (by simp), hBV.cell 1 (by simp)⟩
          refine anyU_take (i := 0) (v := .pointer (some ⟨g, 0, none⟩)) rfl (by kernel_rfl) (by kernel_rfl) (by kernel_rfl) (fun _ _ _ h => h) ⟨by rfl, fun w' hS' => (by obtain ⟨s1, s2, s3⟩ := hS'; go_simp)⟩ hS ?_
          simp only [List.getElem_toArray, List.getElem_cons_zero, Act.put, List.setIfInBounds_toArray, List.set_cons_zero, List.set_cons_succ]
          refine anyU_take (i := 1) (v := .pointer (some ⟨g, 0, none⟩)) rfl (by kernel_rfl) (by kernel_rfl) (by kernel_rfl) (fun _ _ _ h => h) ⟨by rfl, fun w' hS' => (by obtain ⟨s1, s2, s3⟩ := hS'; go_simp)⟩ hS ?_
          simp only [List.getElem_toArray, List.getElem_cons_succ, List.getElem_cons_zero, Act.put, List.setIfInBounds_toArray, List.set_cons_zero, List.set_cons_succ]
          refine anyU_take (i := 2) (v := .pointer (some ⟨g, 4, none⟩)) rfl (by kernel_rfl) (by kernel_rfl) (by kernel_rfl) (fun _ _ _ h => h) ⟨by rfl, fun w' hS' => (by obtain ⟨s1, s2, s3⟩ := hS'; go_simp)⟩ hS ?_
          simp only [List.getElem_toArray, List.getElem_cons_succ, List.getElem_cons_zero, Act.put, List.setIfInBounds_toArray, List.set_cons_zero, List.set_cons_succ]
          refine anyU_take (i := 3) (v := .slice (some ⟨b4, o4, none⟩) n c4) rfl (by kernel_rfl) (by kernel_rfl) (by kernel_rfl) (fun _ _ _ h => h) ⟨by rfl, fun w' hS' => (by obtain ⟨s1, s2, s3⟩ := hS'; go_simp)⟩ hS ?_
          simp only [List.getElem_toArray, List.getElem_cons_succ, List.getElem_cons_zero, Act.put, List.setIfInBounds_toArray, List.set_cons_zero, List.set_cons_succ]
          refine anyU_take (i := 4) (v := .pointer (some ⟨wr.heap.size, 0, none⟩)) rfl (by kernel_rfl) (by kernel_rfl) (by kernel_rfl) (fun _ _ _ h => h) ⟨by rfl, fun w' hS' => (by obtain ⟨s1, s2, s3⟩ := hS'; go_simp)⟩ hS ?_
          simp only [List.getElem_toArray, List.getElem_cons_succ, List.getElem_cons_zero, Act.put, List.setIfInBounds_toArray, List.set_cons_zero, List.set_cons_succ]
          refine anyU_take (i := 5) (v := .int .i64 t) rfl (by kernel_rfl) (by kernel_rfl) (by kernel_rfl) (fun _ _ _ h => h) ⟨by rfl, fun w' hS' => (by obtain ⟨s1, s2, s3⟩ := hS'; go_simp)⟩ hS ?_
          simp only [List.getElem_toArray, List.getElem_cons_succ, List.getElem_cons_zero, Act.put, List.setIfInBounds_toArray, List.set_cons_zero, List.set_cons_succ]
          refine anyU_take (i := 6) (v := .pointer (some ⟨wr.heap.size, 1, none⟩)) rfl (by kernel_rfl) (by kernel_rfl) (by kernel_rfl) (fun _ _ _ h => h) ⟨by rfl, fun w' hS' => (by obtain ⟨s1, s2, s3⟩ := hS'; go_simp)⟩ hS ?_
          simp only [List.getElem_toArray, List.getElem_cons_succ, List.getElem_cons_zero, Act.put, List.setIfInBounds_toArray, List.set_cons_zero, List.set_cons_succ]
          refine anyU_take (i := 7) (v := .int .i64 r) rfl (by kernel_rfl) (by kernel_rfl) (by kernel_rfl) (fun _ _ _ h => h) ⟨by rfl, fun w' hS' => (by obtain ⟨s1, s2, s3⟩ := hS'; go_simp)⟩ hS ?_
          simp only [List.getElem_toArray, List.getElem_cons_succ, List.getElem_cons_zero, Act.put, List.setIfInBounds_toArray, List.set_cons_zero, List.set_cons_succ]
          refine anyU_take (i := 8) (v := .pointer (some ⟨b4, o4 + t, none⟩)) rfl (by kernel_rfl) (by kernel_rfl) (by kernel_rfl) (fun _ _ _ h => h) ⟨by rfl, fun w' hS' => (by obtain ⟨s1, s2, s3⟩ := hS'; go_simp)⟩ hS ?_
          simp only [List.getElem_toArray, List.getElem_cons_succ, List.getElem_cons_zero, Act.put, List.setIfInBounds_toArray, List.set_cons_zero, List.set_cons_succ]
          refine anyU_ready (rs := [9]) (by kernel_rfl) (by simp) ?_
          refine ReadyU.cons (i := 9) rfl (fun K hK => ?_) ReadyU.nil
          simp only [List.getElem_toArray, List.getElem_cons_succ, List.getElem_cons_zero]
          refine ite_is (by rfl) ?_
          simp [go_sem, v4, v5']
          refine hK.out _ _ ⟨fun h => absurd h (by decide), ?_⟩
          clear hK K
          try simp only [List.getElem_toArray, List.getElem_cons_succ, List.getElem_cons_zero, Act.put, List.setIfInBounds_toArray, List.set_cons_zero, List.set_cons_succ]
          refine nameU ?_
          intro X2 HX2
          refine anyU_done (by kernel_rfl) ?_ _
          have hgX2 : V.grownBy X2 (some b4) := by rw [HX2.out]; exact grown_set _ ⟨b4, o4 + t, none⟩ _
          have hzX2 := hgX2.size
          have hTX2 : TokS X2 N B base g ulo uhi flo fhi n (.slice (some ⟨b, off, none⟩) n c1) x1 x2 (.slice (some ⟨b3, o3, none⟩) n c3) (.slice (some ⟨b4, o4, none⟩) n c4) (tin t (tpre N v k σk)) v5 := by
            obtain ⟨z', i1, i2, i3, i4, i5, i6⟩ := hTV.firstAt HLAY.out (by omega) ht1
            rw [HX2.out]
            exact i6 r (by omega)
          have HTX2 := Lib.hid hTX2
          have HFX2 := Lib.hid (show Fr B base w vm X2 v5 from (HFX.out.trans (Fr.still hgV)).trans (Fr.turn hgX2 (by omega) (by omega)))
          have HBX2 := Lib.hid (hBV.far hgX2 (fun k e => by injection e; omega))
          have hbX : Below B w0 X2 := HBL.out.trans (HFX2.out.below HVL.out (Nat.le_refl _) (by omega))
          have HCALL := Lib.hid (HIH.out t (tpre N v k σk) v5 X2 ht1 HMT.out HUK.out (Nat.le_of_succ_le HPRE.out) HTX2.out (by omega) hbX)
          have e0 : X2.cell? ⟨wr.heap.size, 0, none⟩ = some (.int .i64 t) := HBX2.out.cell 0 (by simp)
          clear hbX hTX2 hgX2 HX2 hTV hBV v4 v5' hS l1 l2 l3 l4' l5' l6 HTX HFX HBX hgV
          go_upto_region 10 with (go_at_call 47; refine HCALL.out.mono ?_; rintro e Z ⟨rfl, vz, hTZ, hFZ⟩; have HTZ := Lib.hid hTZ; have HFZ := Lib.hid (HFX2.out.trans hFZ); have HBZ := Lib.hid (hFZ.box HBX2.out (.inr (by omega)) HOW5.out); have HOWZ := Lib.hid (show vz.ownBlock ≠ some wr.heap.size from fun e => (hFZ.own _ e).elim (fun e2 => HOW5.out e2) (fun e2 => by have := HBX2.out.lt; omega)); clear hTZ hFZ)
          clear e0 HTX2 HFX2 HBX2
          have HBT := Lib.hid (show bnd (tvisit N f t (tpre N v k σk)) + 1 ≤ 480 from Nat.le_trans (Nat.succ_le_succ (tvisit_bnd H40.out H6.out f t _)) HPRE.out)
          have hmx : (tvisit N f t (tpre N v k σk)).moves.length ≤ 480 := by have := HBT.out; unfold bnd at this; omega
          have hzW : base ≤ Z.heap.size := by have := HFZ.out.size; omega
          obtain ⟨top6, hm6⟩ := HTZ.out.mvs
          have HMV6 := Lib.hid hm6
          obtain ⟨A6, c6', rfl, hd1, hd2⟩ := hm6.len
          have htop6 : top6 ≤ Z.heap.size := by obtain ⟨_, _, _, _, _, _, h, _⟩ := hm6; exact h
          have HLV6 := Lib.hid hm6.lt
          clear hm6
          obtain ⟨m6, HM6⟩ : ∃ m, Hid ((tvisit N f t (tpre N v k σk)).moves.length = m) := ⟨_, Lib.hid rfl⟩
          rw [HM6.out] at hmx hd1 HMV6 HLV6 HTZ HFZ HOWZ
          refine wp_region_U (fun w' => w'.cell? ⟨g, 5, none⟩ = some (.slice A6 m6 c6') ∧ w'.cell? ⟨wr.heap.size, 0, none⟩ = some (.int .i64 t) ∧ w'.cell? ⟨wr.heap.size, 1, none⟩ = some (.int .i64 r)) [14] (by kernel_rfl) ?_
          refine nameU ?_
          intro U HU
          have hgU : Z.grownBy U none := by rw [HU.out]; exact grown_drew _
          have hzU := hgU.size
          clear HU
          have hTU := HTZ.out.still HLAY.out (by omega) hgU
          have hBU := HBZ.out.still hgU
          have hFU := HFZ.out.trans (Fr.still hgU)
          have hMU := HMV6.out.drew
          have hS : U.cell? ⟨g, 5, none⟩ = some (.slice A6 m6 c6') ∧ U.cell? ⟨wr.heap.size, 0, none⟩ = some (.int .i64 t) ∧ U.cell? ⟨wr.heap.size, 1, none⟩ = some (.int .i64 r) := ⟨hTU.box.cell 5 (by simp), hBU.cell 0 (by simp), hBU.cell 1 (by simp)⟩
          obtain ⟨topU, hmU⟩ := hTU.mvs
          have htopU : topU ≤ U.heap.size := by obtain ⟨_, _, _, _, _, _, h, _⟩ := hmU; exact h
          have hLVU := hmU.lt
          clear hMU
          refine anyU_take (i := 0) (v := .pointer (some ⟨g, 0, none⟩)) rfl (by kernel_rfl) (by kernel_rfl) (by kernel_rfl) (fun _ _ _ h => h) ⟨by rfl, fun w' hS' => (by obtain ⟨s1, s2, s3⟩ := hS'; go_simp)⟩ hS ?_
          simp only [List.getElem_toArray, List.getElem_cons_zero, Act.put, List.setIfInBounds_toArray, List.set_cons_zero, List.set_cons_succ]
          refine anyU_take (i := 1) (v := .pointer (some ⟨g, 0, none⟩)) rfl (by kernel_rfl) (by kernel_rfl) (by kernel_rfl) (fun _ _ _ h => h) ⟨by rfl, fun w' hS' => (by obtain ⟨s1, s2, s3⟩ := hS'; go_simp)⟩ hS ?_
          simp only [List.getElem_toArray, List.getElem_cons_succ, List.getElem_cons_zero, Act.put, List.setIfInBounds_toArray, List.set_cons_zero, List.set_cons_succ]
          refine anyU_take (i := 2) (v := .pointer (some ⟨g, 0, none⟩)) rfl (by kernel_rfl) (by kernel_rfl) (by kernel_rfl) (fun _ _ _ h => h) ⟨by rfl, fun w' hS' => (by obtain ⟨s1, s2, s3⟩ := hS'; go_simp)⟩ hS ?_
          simp only [List.getElem_toArray, List.getElem_cons_succ, List.getElem_cons_zero, Act.put, List.setIfInBounds_toArray, List.set_cons_zero, List.set_cons_succ]
          refine anyU_take (i := 3) (v := .pointer (some ⟨g, 5, none⟩)) rfl (by kernel_rfl) (by kernel_rfl) (by kernel_rfl) (fun _ _ _ h => h) ⟨by rfl, fun w' hS' => (by obtain ⟨s1, s2, s3⟩ := hS'; go_simp)⟩ hS ?_
          simp only [List.getElem_toArray, List.getElem_cons_succ, List.getElem_cons_zero, Act.put, List.setIfInBounds_toArray, List.set_cons_zero, List.set_cons_succ]
          refine anyU_take (i := 4) (v := .slice A6 m6 c6') rfl (by kernel_rfl) (by kernel_rfl) (by kernel_rfl) (fun _ _ _ h => h) ⟨by rfl, fun w' hS' => (by obtain ⟨s1, s2, s3⟩ := hS'; go_simp)⟩ hS ?_
          simp only [List.getElem_toArray, List.getElem_cons_succ, List.getElem_cons_zero, Act.put, List.setIfInBounds_toArray, List.set_cons_zero, List.set_cons_succ]
          refine anyU_take (i := 5) (v := .pointer (some ⟨wr.heap.size, 0, none⟩)) rfl (by kernel_rfl) (by kernel_rfl) (by kernel_rfl) (fun _ _ _ h => h) ⟨by rfl, fun w' hS' => (by obtain ⟨s1, s2, s3⟩ := hS'; go_simp)⟩ hS ?_
          simp only [List.getElem_toArray, List.getElem_cons_succ, List.getElem_cons_zero, Act.put, List.setIfInBounds_toArray, List.set_cons_zero, List.set_cons_succ]
          refine anyU_take (i := 6) (v := .int .i64 t) rfl (by kernel_rfl) (by kernel_rfl) (by kernel_rfl) (fun _ _ _ h => h) ⟨by rfl, fun w' hS' => (by obtain ⟨s1, s2, s3⟩ := hS'; go_simp)⟩ hS ?_
          simp only [List.getElem_toArray, List.getElem_cons_succ, List.getElem_cons_zero, Act.put, List.setIfInBounds_toArray, List.set_cons_zero, List.set_cons_succ]
          refine anyU_take (i := 7) (v := .pointer (some ⟨wr.heap.size, 1, none⟩)) rfl (by kernel_rfl) (by kernel_rfl) (by kernel_rfl) (fun _ _ _ h => h) ⟨by rfl, fun w' hS' => (by obtain ⟨s1, s2, s3⟩ := hS'; go_simp)⟩ hS ?_
          simp only [List.getElem_toArray, List.getElem_cons_succ, List.getElem_cons_zero, Act.put, List.setIfInBounds_toArray, List.set_cons_zero, List.set_cons_succ]
          refine anyU_take (i := 8) (v := .int .i64 r) rfl (by kernel_rfl) (by kernel_rfl) (by kernel_rfl) (fun _ _ _ h => h) ⟨by rfl, fun w' hS' => (by obtain ⟨s1, s2, s3⟩ := hS'; go_simp)⟩ hS ?_
          simp only [List.getElem_toArray, List.getElem_cons_succ, List.getElem_cons_zero, Act.put, List.setIfInBounds_toArray, List.set_cons_zero, List.set_cons_succ]
          have hS2 : ∀ o, (U.alloc o).cell? ⟨g, 5, none⟩ = some (.slice A6 m6 c6') ∧ (U.alloc o).cell? ⟨wr.heap.size, 0, none⟩ = some (.int .i64 t) ∧ (U.alloc o).cell? ⟨wr.heap.size, 1, none⟩ = some (.int .i64 r) := fun o => ⟨(hTU.box.still (grown_alloc U o)).cell 5 (by simp), (hBU.still (grown_alloc U o)).cell 0 (by simp), (hBU.still (grown_alloc U o)).cell 1 (by simp)⟩
          have hS3 : ∀ o o2, ((U.alloc o).alloc o2).cell? ⟨g, 5, none⟩ = some (.slice A6 m6 c6') ∧ ((U.alloc o).alloc o2).cell? ⟨wr.heap.size, 0, none⟩ = some (.int .i64 t) ∧ ((U.alloc o).alloc o2).cell? ⟨wr.heap.size, 1, none⟩ = some (.int .i64 r) := fun o o2 => ⟨((hTU.box.still (grown_alloc U o)).still (grown_alloc _ o2)).cell 5 (by simp), ((hBU.still (grown_alloc U o)).still (grown_alloc _ o2)).cell 0 (by simp), ((hBU.still (grown_alloc U o)).still (grown_alloc _ o2)).cell 1 (by simp)⟩
          refine anyU_ready (rs := [9]) (by kernel_rfl) (by simp) ?_
          refine ReadyU.cons (i := 9) rfl (fun K hK => ?_) ReadyU.nil
          simp only [List.getElem_toArray, List.getElem_cons_succ, List.getElem_cons_zero]
          refine ite_is (by rfl) ?_
          simp [go_sem]
          refine hK.out _ _ ⟨fun _ => hS2 _, ?_⟩
          clear hK K
          try simp only [List.getElem_toArray, List.getElem_cons_succ, List.getElem_cons_zero, Act.put, List.setIfInBounds_toArray, List.set_cons_zero, List.set_cons_succ]
          refine anyU_ready (rs := [10]) (by kernel_rfl) (by simp) ?_
          refine ReadyU.cons (i := 10) rfl (fun K hK => ?_) ReadyU.nil
          simp only [List.getElem_toArray, List.getElem_cons_succ, List.getElem_cons_zero]
          refine ite_is (by rfl) ?_
          simp [go_sem]
          refine hK.out _ _ ⟨fun _ => hS3 _ _, ?_⟩
          clear hK K
          try simp only [List.getElem_toArray, List.getElem_cons_succ, List.getElem_cons_zero, Act.put, List.setIfInBounds_toArray, List.set_cons_zero, List.set_cons_succ]
          refine nameU ?_
          intro U2 HU2
          have hgU2 : U.grownBy U2 none := by rw [HU2.out]; exact (grown_alloc _ _).trans (grown_alloc _ _)
          have hzU2 : U.heap.size + 2 ≤ U2.heap.size := by rw [HU2.out]; simp
          have hrw : IntS U2 U.heap.size (U.heap.size + 1) (.slice (some ⟨U.heap.size, 0, none⟩) 2 2) [(t : Int), (r : Int)] := by rw [HU2.out]; exact (IntS.newN U [(t : Int), (r : Int)] _ rfl (by simp)).still (grown_alloc _ _) (by simp)
          have hcw : U2.cell? ⟨U.heap.size + 1, 0, none⟩ = some (.slice (some ⟨U.heap.size, 0, none⟩) 2 2) := by rw [HU2.out]; simp
          have hm2 := hmU.below (w' := U2) ⟨hgU2.os, hgU2.tape, hgU2.output, hgU2.size, fun k hk => hgU2.block k hk (by simp)⟩
          clear HU2
          refine anyU_ready (rs := [11]) (by kernel_rfl) (by simp) ?_
          refine ReadyU.cons (i := 11) rfl (fun K hK => ?_) ReadyU.nil
          simp only [List.getElem_toArray, List.getElem_cons_succ, List.getElem_cons_zero]
          refine ite_is (by rfl) ?_
          refine step_append_ss (bytes := 24) Try.underlying27 Try.infoRow (by decide) _ _ (by rfl) hm2 hrw htopU (by omega) (by omega) (fun g hg => .inl (hLVU g hg).2) (U.heap.size + 1) hcw (by rfl) (by rfl) (by rw [HM6.out]; omega) _ rfl ?_
          intro gg cap w6 ho6 hg6 hat6 hlt6
          have bx6 := (hTU.box.still hgU2).far hg6 (fun k e => by have := hLVU k e; omega)
          have f6 := bx6.frozen 5
          have k6 : w6.cell? ⟨g, 5, none⟩ = some (.slice A6 m6 c6') := bx6.cell 5 (by simp)
          have he6 := (hBU.still hgU2).far hg6 (fun k e e2 => HOWZ.out (by rw [e, e2]))
          have hS6 : w6.cell? ⟨g, 5, none⟩ = some (.slice A6 m6 c6') ∧ w6.cell? ⟨wr.heap.size, 0, none⟩ = some (.int .i64 t) ∧ w6.cell? ⟨wr.heap.size, 1, none⟩ = some (.int .i64 r) := ⟨k6, he6.cell 0 (by simp), he6.cell 1 (by simp)⟩
          refine hK.out _ _ ⟨fun _ => hS6, ?_⟩
          clear hK K hS
          have hS := hS6
          clear hS6
          simp only [Act.put, List.setIfInBounds_toArray, List.set_cons_zero, List.set_cons_succ]
          refine anyU_take (i := 12) (v := .pointer (some ⟨g, 0, none⟩)) rfl (by kernel_rfl) (by kernel_rfl) (by kernel_rfl) (fun _ _ _ h => h) ⟨by rfl, fun w' hS' => (by obtain ⟨s1, s2, s3⟩ := hS'; go_simp)⟩ hS ?_
          simp only [List.getElem_toArray, List.getElem_cons_succ, List.getElem_cons_zero, Act.put, List.setIfInBounds_toArray, List.set_cons_zero, List.set_cons_succ]
          refine anyU_take (i := 13) (v := .pointer (some ⟨g, 5, none⟩)) rfl (by kernel_rfl) (by kernel_rfl) (by kernel_rfl) (fun _ _ _ h => h) ⟨by rfl, fun w' hS' => (by obtain ⟨s1, s2, s3⟩ := hS'; go_simp)⟩ hS ?_
          simp only [List.getElem_toArray, List.getElem_cons_succ, List.getElem_cons_zero, Act.put, List.setIfInBounds_toArray, List.set_cons_zero, List.set_cons_succ]
          refine anyU_ready (rs := [14]) (by kernel_rfl) (by simp) ?_
          refine ReadyU.cons (i := 14) rfl (fun K hK => ?_) ReadyU.nil
          simp only [List.getElem_toArray, List.getElem_cons_succ, List.getElem_cons_zero]
          refine ite_is (by rfl) ?_
          simp [go_sem, f6, k6]
          refine hK.out _ _ ⟨fun h => absurd h (by decide), ?_⟩
          clear hK K
          try simp only [List.getElem_toArray, List.getElem_cons_succ, List.getElem_cons_zero, Act.put, List.setIfInBounds_toArray, List.set_cons_zero, List.set_cons_succ]
          refine nameU ?_
          intro Y HY
          refine anyU_done (by kernel_rfl) ?_ _
          have hpush := hTU.push HLAY.out (by omega) hgU2 hg6 ho6 (by
            rcases hat6 with e | e
            · exact .inl e.symm
            · exact .inr ⟨gg, rfl, by omega⟩)
          rw [← HY.out] at hpush
          obtain ⟨hTY, hFY⟩ := hpush
          have HTY := Lib.hid hTY
          have HFY := Lib.hid (hFU.trans hFY)
          clear hTY hFY hFU hTU hBU hS hS2 hS3 HY hgU2 hg6 ho6 hat6 bx6 f6 k6 he6 hm2 hrw hcw hmU hLVU
          go_wp2_with fail
          go_roundw
          case rel =>
            refine ⟨k + 1, _, by omega, by go_num, Lib.hid ?_, HFY⟩
            rw [HNX.out, tstep_new HUS.out (by rw [HEN.out]; exact HMT.out), HEN.out]
            exact HTY.out
          case measure => simp [intOf]; omega

end Go.Proofs.Ytjapdfdjgjajkaa
