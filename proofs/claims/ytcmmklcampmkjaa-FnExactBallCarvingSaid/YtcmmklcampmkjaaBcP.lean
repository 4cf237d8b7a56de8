/-
  Several texts in one: Car, Car2. No condition on any program.
-/
import Derived.Test.YtcmmklcampmkjaaBcJ
import Derived.Test.YtcmmklcampmkjaaBcN
import Derived.Test.YtcmmklcampmkjaaBcO
import Derived.Test.YtcmmklcampmkjaaBcH
import Derived.Test.YtcmmklcampmkjaaBcG
import Derived.BigQuiet
import Derived.Deep.QuietTactic

/- Contracts: carve, activeBall (program). -/
namespace Go.Proofs.Ytcmmklcampmkjaa
open Go.ChangeShapes Go.WideShapes Go.ChangeAt Go.RowKit
set_option linter.unusedVariables false

theorem foldl_max_spec : ∀ (zs : List Int) (a : Int), a ≤ zs.foldl max a ∧ (∀ x ∈ zs, x ≤ zs.foldl max a) ∧ (zs.foldl max a = a ∨ zs.foldl max a ∈ zs)
  | [], a => ⟨Int.le_refl _, (fun x h => by cases h), .inl rfl⟩
  | x :: zs, a => by
    obtain ⟨h1, h2, h3⟩ := foldl_max_spec zs (max a x)
    rw [List.foldl_cons]
    refine ⟨by omega, fun y hy => ?_, ?_⟩
    · rcases List.mem_cons.1 hy with rfl | hy
      · omega
      · exact h2 y hy
    · rcases h3 with h3 | h3
      · by_cases e : a ≤ x
        · right; rw [h3, show max a x = x by omega]; exact List.mem_cons_self ..
        · left; rw [h3]; omega
      · exact .inr (List.mem_cons_of_mem _ h3)
theorem slicesMax2_any (v : Value) (zs : List Int) (lo hi : Nat) (w : World) (h : IntS w lo hi v zs) (hn : 0 < zs.length) (h0 : ∃ x ∈ zs, 0 ≤ x) :
    Calls Try.prog 35 #[v] w fun e w' => e = .returned (.int .i64 (mostI zs)) ∧ w = w' := by
  have e1 : Lib.maxOf zs = mostI zs := by
    cases zs with
    | nil => simp at hn
    | cons x zs =>
      obtain ⟨a1, a2, a3⟩ := foldl_max_spec zs x
      unfold Lib.maxOf
      rw [List.headD_cons, List.foldl_cons, show max x x = x by omega]
      obtain ⟨y, hy, h0⟩ := h0
      have hle : ∀ z ∈ x :: zs, z ≤ zs.foldl max x := fun z hz => by
        rcases List.mem_cons.1 hz with rfl | hz
        · exact a1
        · exact a2 z hz
      refine (mostI_eq (by have := hle y hy; omega) hle (.inr ?_)).symm
      rcases a3 with a3 | a3
      · rw [a3]; exact List.mem_cons_self ..
      · exact List.mem_cons_of_mem _ a3
  obtain ⟨A, c, rfl, hc, hd⟩ := h.dims
  obtain ⟨b, off, rfl, _⟩ := h.opened hn
  refine (Try.slices_Max_int b off zs.length c zs w hn (Nat.le_refl _) (by omega) (fun j hj => (h.at_ hj).1)).mono ?_
  rintro e w' ⟨rfl, rfl⟩
  rw [List.take_length, e1]
  exact ⟨rfl, rfl⟩
theorem ball_neg (D : List Int) (n : Nat) : (ballL D (((0 : Nat) : Int) - 1) n).length = 0 := by
  unfold ballL
  rw [List.filter_eq_nil_iff.2 (fun v _ => by rw [inB]; simp; omega)]; rfl
theorem ball_up (D : List Int) (k : Nat) (n : Nat) : (ballL D (k : Int) n).length = (ballL D ((k : Int) - 1) n).length + (fibL D k n).length := by
  cases k with
  | zero =>
    rw [ball_neg, show ((0 : Nat) : Int) = 0 from rfl, ball_zero]; simp
  | succ k => rw [ball_shell, show (((k + 1 : Nat) : Int) - 1) = (k : Int) by omega]
theorem netEnds {w : World} {lo hi : Nat} {v1 v2 v3 : Value} {N : NetD} (h : Net w lo hi (.agg #[v1, v2, v3]) N) : EndSS w lo hi v1 N.ends := by
  obtain ⟨a, b, c, e, h1, _⟩ := h
  simp only [Value.agg.injEq, Array.mk.injEq, List.cons.injEq, and_true] at e
  obtain ⟨rfl, rfl, rfl⟩ := e
  exact h1
theorem NetF.far {w w' : World} {lo hi : Nat} {v : Value} {N : NetD} {row : Option Nat} (h : Net w lo hi v N) (hg : w.grownBy w' row) (hB : hi ≤ w.heap.size) (hr : ∀ g, row = some g → g < lo ∨ hi ≤ g) : Net w' lo hi v N := by
  obtain ⟨a, b, c, rfl, h1, h2, h3⟩ := h
  exact ⟨a, b, c, rfl, SS.keep (fun h => EndS.far h hg hB hr) h1 fun k k1 k2 => hg.block k (by omega) (fun e => by have := hr k e.symm; omega), h2.far hg hB hr, h3.far hg hB hr⟩
theorem NetF.still {w w' : World} {lo hi : Nat} {v : Value} {N : NetD} (h : Net w lo hi v N) (hg : w.grownBy w' none) (hB : hi ≤ w.heap.size) : Net w' lo hi v N := NetF.far h hg hB (no_row _ _)
theorem netC_deg {N : NetD} (hg : N.good = true) : ∀ u, u < N.ends.length → (nthL N.ends u).length ≤ 1048576 := fun u hu => by have := good_deg hg hu; omega

set_option maxHeartbeats 4000000 in
set_option maxRecDepth 100000 in
theorem ab1_any (v i gn ga : Nat) (N : NetD) (ac : List Bool) (VA VE : Value) (lo1 hi1 lo2 hi2 : Nat) (w : World) (x1 : w.cell? ⟨ga, 0, none⟩ = some VA) (x2 : w.cell? ⟨gn, 0, none⟩ = some VE) (hA : BoolS w lo2 hi2 VA ac) (hE : EndSS w lo1 hi1 VE N.ends) (hg : N.good = true) (hl : ac.length = N.ends.length) (hv : v < N.ends.length) (hi : i < (nthL N.ends v).length) :
    Calls Try.prog 68 (#[.int .i64 (v : Nat), .int .i64 (i : Nat)] ++ #[.pointer (some ⟨ga, 0, none⟩), .pointer (some ⟨gn, 0, none⟩)]) w fun e w' => e = .returned (.bool (kpA N ac v i)) ∧ Below w.heap.size w w' := by
  obtain ⟨t, r, et, ht, _, _⟩ := good_end hg hv hi
  obtain ⟨A, k, rfl, hk1, hk2⟩ := SS.dims hE
  obtain ⟨b, o, u, rfl, _, hb, z, hu⟩ := SS.opened hE hv
  obtain ⟨A2, k2, rfl, hk3, hk4⟩ := hu.dims
  obtain ⟨b2, o2, rfl, _, hb2, y, _⟩ := hu.opened hi
  rw [et] at y
  dsimp only at y
  obtain ⟨A3, k3, rfl, hk5, hk6⟩ := hA.dims
  obtain ⟨b3, o3, rfl, _, hb3, y1, _⟩ := hA.opened (j := v) (by rw [hl]; exact hv)
  have y2 := (hA.at_ (j := t) (by rw [hl]; exact ht)).1
  obtain ⟨p, HP⟩ : ∃ x, Hid (nthB ac v = x) := ⟨_, Lib.hid rfl⟩
  obtain ⟨q, HQ⟩ : ∃ x, Hid (nthB ac t = x) := ⟨_, Lib.hid rfl⟩
  have HK := Lib.hid (show kpA N ac v i = (p && q) by unfold kpA; rw [et, Int.toNat_natCast, HP.out, HQ.out])
  rw [HP.out] at y1
  rw [HQ.out] at y2
  have hvi : (v : Int) < N.ends.length := by omega
  have hvl : (v : Int) < ac.length := by omega
  have htl : (t : Int) < ac.length := by omega
  have hii : (i : Int) < (nthL N.ends v).length := by omega
  have HL := Lib.hid hl
  clear hE hu hA hl et
  show Calls Try.prog 68 #[.int .i64 (v : Nat), .int .i64 (i : Nat), .pointer (some ⟨ga, 0, none⟩), .pointer (some ⟨gn, 0, none⟩)] w _
  cases p
  all_goals
    go_enter Try.func68, Try.ntmps68
    go_wp2_with fail
    go_quiet (fail)
    go_wp2_with fail
    go_ret
    exact ⟨ret_bool HK.out.symm, below_drewN (Below.refl _ _) _⟩

set_option maxHeartbeats 4000000 in
set_option maxRecDepth 100000 in
theorem carve_any (v1 : Value) (S : List (List Int)) (lo1 hi1 : Nat) (w : World) (h1 : IntSS w lo1 hi1 v1 S) (hh1 : hi1 ≤ w.heap.size) (D : List Int) (n mx : Nat) (hS : S = fibsAt D (mx + 1) n) (hmx : ∀ v, v < n → nth D v ≤ (mx : Int)) (hn : n ≤ 40) (hm : mx ≤ 40) :
    Calls Try.prog 44 #[v1] w fun e w' => e = .returned (.int .i64 ((radD D n : Nat) + 1)) ∧ w = w' := by
  subst hS
  have HMX := Lib.hid hmx; clear hmx
  have F1 := Lib.hid h1
  obtain ⟨A1, c1, rfl, hc1, hd1⟩ := h1.dims
  clear h1
  go_enter Try.func44, Try.ntmps44
  have hfl : (fibsAt D (mx + 1) n).length = mx + 1 := fibsAt_length _ _ _
  rw [hfl] at hc1
  have HFL := Lib.hid hfl
  rw [hfl]
  clear hfl
  go_wp2_with fail
  go_loop [8, 3] (fun kv iv => ∃ (k a : Nat), k ≤ mx + 1 ∧ kv = .int .i64 k ∧ iv = .int .i64 a ∧ Hid (a = (ballL D ((k : Int) - 1) n).length) ∧ Hid (∀ s, s < k → stopB D n s = false)) (fun kv iv => mx + 1 - (intOf kv).toNat)
  case atStart => exact ⟨0, 0, Nat.zero_le _, rfl, rfl, Lib.hid (ball_neg D n).symm, Lib.hid (fun s hs => absurd hs (by omega))⟩
  case round =>
    obtain ⟨k, a, hk, rfl, rfl, HA, HST⟩ := hrel
    have hkm : k < mx + 1 := by
      rcases Nat.lt_or_ge k (mx + 1) with h | h
      · exact h
      · exfalso
        have h1 := HST.out mx (by omega)
        rw [stop_far HMX.out] at h1; cases h1
    have ha40 : a ≤ 40 := by rw [HA.out]; exact Nat.le_trans (ballL_len _ _ _) hn
    have HUP := Lib.hid (ball_up D k n)
    have hbl := ballL_len D (k : Int) n
    obtain ⟨f, HF⟩ : ∃ f, Hid ((fibL D k n).length = f) := ⟨_, Lib.hid rfl⟩
    have HSUM := Lib.hid (show (ballL D (k : Int) n).length = a + f by rw [HUP.out, HA.out, HF.out])
    have hf40 : a + f ≤ 40 := by rw [← HSUM.out]; omega
    have HS0 := Lib.hid (stop_shell (D := D) (n := n) (r := k))
    have hki : (k : Int) < (mx : Int) + 1 := by omega
    clear hbl
    obtain ⟨br, or, ur, rfl, _, hbr, zr, hur⟩ := SS.opened F1.out (by rw [HFL.out]; exact hkm)
    obtain ⟨Ar, cr, rfl, hcr, hdr⟩ := hur.dims
    have Ur := Lib.hid hur; clear hur
    rw [nthL_fibsAt hkm] at zr Ur hcr
    rw [HF.out] at zr hcr
    by_cases hke : k = mx
    case pos =>
      subst hke
      have HSP := Lib.hid (radD_is (stop_far HMX.out) HST.out (by omega))
      go_wp2_with fail
      go_ret
      exact ⟨ret_int (by rw [HSP.out]), rfl⟩
    have hk1 : k + 1 < mx + 1 := by omega
    have hke2 : ¬ ((k : Int) + 1 = (mx : Int) + 1) := by omega
    obtain ⟨uq, hbq, zq, huq⟩ := SS.openedIn F1.out (by rw [HFL.out]; exact hk1)
    obtain ⟨Aq, cq, rfl, hcq, hdq⟩ := huq.dims
    have Uq := Lib.hid huq; clear huq
    rw [nthL_fibsAt hk1] at zq Uq hcq
    obtain ⟨g, HG⟩ : ∃ g, Hid ((fibL D (k + 1) n).length = g) := ⟨_, Lib.hid rfl⟩
    have hg40 : g ≤ 40 := by rw [← HG.out]; exact Nat.le_trans (fibL_len _ _ _) hn
    rw [HG.out] at zq hcq
    have hki1 : (k : Int) + 1 < (mx : Int) + 1 := by omega
    by_cases hst : g ≤ a + f
    case pos =>
      have HSP := Lib.hid (radD_is (HS0.out.2 (by rw [HG.out, HSUM.out]; exact hst)) HST.out (by omega))
      have hst2 : (g : Int) ≤ (a : Int) + f := by omega
      go_wp2_with fail
      go_ret
      exact ⟨ret_int (by rw [HSP.out]), rfl⟩
    have hst2 : ¬ (g : Int) ≤ (a : Int) + f := by omega
    have HSN := Lib.hid (show stopB D n k = false by
      cases e : stopB D n k with
      | false => rfl
      | true => have := HS0.out.1 e; rw [HG.out, HSUM.out] at this; exact absurd this hst)
    go_wp2_with fail
    go_round
    case rel => exact ⟨k + 1, a + f, by omega, by go_num, by go_num, Lib.hid (by rw [← HSUM.out]; congr 2; omega), Lib.hid (fun s hs => if e : s = k then by rw [e]; exact HSN.out else HST.out s (by omega))⟩
    case measure => simp [intOf]; omega

end Go.Proofs.Ytcmmklcampmkjaa

/- Contract: activeBall (program). -/
namespace Go.Proofs.Ytcmmklcampmkjaa
open Go.ChangeShapes Go.WideShapes Go.ChangeAt Go.RowKit
set_option linter.unusedVariables false

/-- the greatest distance -/
def mxD (D : List Int) : Nat := (mostI D).toNat
theorem mxD_at {N : NetD} {ac : List Bool} (hg : N.good = true) {c : Nat} (hc : c < N.ends.length) : ((mxD (dA N ac c) : Nat) : Int) = mostI (dA N ac c) ∧ (∀ v, v < N.ends.length → nth (dA N ac c) v ≤ (mxD (dA N ac c) : Int)) ∧ mxD (dA N ac c) ≤ 40 := by
  obtain ⟨a, b, d⟩ := mostI_spec (dA N ac c)
  have hl := dA_len (ac := ac) hg hc
  have h40 := (good_n hg).2
  have e : ((mxD (dA N ac c) : Nat) : Int) = mostI (dA N ac c) := by unfold mxD; omega
  refine ⟨e, fun v hv => by rw [e]; exact b _ (nth_mem (by rw [hl]; exact hv)), ?_⟩
  rcases d with d | d
  · omega
  · obtain ⟨j, hj, ej⟩ := List.mem_iff_getElem.1 d
    have := (dA_low (ac := ac) hg hc (v := j) (by rw [← hl]; exact hj)).2
    rw [nth_eq hj, ej] at this
    omega
theorem fibsAt_none {l : List Int} {k m : Nat} (h : nth l m < 0) : fibsAt l k (m + 1) = fibsAt l k m := by
  unfold fibsAt
  refine List.map_congr_left fun c hc => ?_
  exact fibL_no (by omega)

set_option maxHeartbeats 8000000 in
set_option maxRecDepth 100000 in
theorem activeBall_any (v1 : Value) (N : NetD) (lo1 hi1 : Nat) (v2 : Value) (ac : List Bool) (lo2 hi2 : Nat) (c : Nat) (w : World) (h1 : Net w lo1 hi1 v1 N) (hh1 : hi1 ≤ w.heap.size) (h2 : BoolS w lo2 hi2 v2 ac) (hh2 : hi2 ≤ w.heap.size) (hg : N.good = true) (hl : ac.length = N.ends.length) (hc : c < N.ends.length) :
    Calls Try.prog 43 #[v1, v2, .int .i64 (c : Nat)] w fun e w' => ∃ r, e = .returned (r) ∧ IntSS w' w.heap.size w'.heap.size r (fibsAt (dA N ac c) (mxD (dA N ac c) + 1) N.ends.length) ∧ Below w.heap.size w w' := by
  obtain ⟨n1, n40⟩ := good_n hg
  have HG := Lib.hid hg; clear hg
  have HL := Lib.hid hl; clear hl
  have HPG := Lib.hid (alone_good (ac := ac) HG.out)
  have HPN := Lib.hid (alone_n N ac)
  obtain ⟨hmx1, hmx2, hmx3⟩ := mxD_at (ac := ac) HG.out hc
  have HDL := Lib.hid (dA_len (ac := ac) HG.out hc)
  have HDS := Lib.hid (dA_self (ac := ac) HG.out hc)
  have HDO := Lib.hid (fun v (hv : v < N.ends.length) => dA_low (ac := ac) HG.out hc hv)
  have HDE := Lib.hid (show dist (aloneN N ac) c = dA N ac c from rfl)
  generalize dA N ac c = D at *
  generalize mxD D = mx at *
  have HM1 := Lib.hid hmx1; have HM2 := Lib.hid hmx2; clear hmx1 hmx2
  have F1 := Lib.hid h1
  obtain ⟨A1, c1, A1', c1', A1'', c1'', rfl, hc1, hd1, _⟩ := h1.parts
  obtain ⟨b1, o1, _, _, rfl, _⟩ := Net.rowAt F1.out (u := 0) (by omega)
  clear h1
  have F2 := Lib.hid h2
  obtain ⟨A2, c2, rfl, hc2, hd2⟩ := h2.dims
  clear h2
  obtain ⟨WA, HWA⟩ : ∃ W, Hid (W = ((w.alloc (.cells #[.slice (some ⟨b1, o1, none⟩) N.ends.length c1, .slice A1' N.ids.length c1', .slice A1'' N.inputs.length c1''] 34)).alloc (.cells #[.slice A2 ac.length c2] 72))) := ⟨_, Lib.hid rfl⟩
  have hbA : Below w.heap.size w WA := by rw [HWA.out]; exact (((Below.refl _ _).alloc (Nat.le_refl _) _).alloc (by simp; try omega) _)
  have hsA : w.heap.size + 2 ≤ WA.heap.size := by rw [HWA.out]; simp; try omega
  have bx1 : BoxN WA (w.heap.size) #[.slice (some ⟨b1, o1, none⟩) N.ends.length c1, .slice A1' N.ids.length c1', .slice A1'' N.inputs.length c1''] 34 := by rw [HWA.out]; exact ((BoxN.new' _ _ _ (by simp)).still (grown_alloc _ _))
  have bx2 : BoxN WA (w.heap.size + 1) #[.slice A2 ac.length c2] 72 := by rw [HWA.out]; exact (BoxN.new' _ _ _ (by simp))
  have G1 := Lib.hid (Net.below F1.out hbA hh1); clear F1
  have G2 := Lib.hid (BoolS.below F2.out hbA hh2); clear F2
  go_enter Try.func43, Try.ntmps43
  go_upto_region 1 with (fail)
  rw [← HWA.out]; clear HWA
  go_wp2_with fail
  refine region_cut [12, 13, 14, 15, 16, 17, 18, 7] (fun vs W => ∃ (gO : Nat) (Az A5 A6 A7 : Option Addr) (cz c5 c6 c7 : Nat), vs = [.agg #[.slice (some ⟨b1, o1, none⟩) N.ends.length c1, .slice A1' N.ids.length c1', .slice A1'' N.inputs.length c1''], .pointer (some ⟨w.heap.size, 0, none⟩), .slice (some ⟨b1, o1, none⟩) N.ends.length c1, .int .i64 N.ends.length, .slice Az (upTo N.ends.length).length cz, .func (.func 68) #[] #[.pointer (some ⟨w.heap.size + 1, 0, none⟩), .pointer (some ⟨w.heap.size, 0, none⟩)], .agg #[.slice A5 (aloneN N ac).ends.length c5, .slice A6 (aloneN N ac).ids.length c6, .slice A7 (aloneN N ac).inputs.length c7], .pointer (some ⟨gO, 0, none⟩)] ∧ Hid (BoxN W gO #[.slice A5 (aloneN N ac).ends.length c5, .slice A6 (aloneN N ac).ids.length c6, .slice A7 (aloneN N ac).inputs.length c7] 34) ∧ Hid (Net W WA.heap.size W.heap.size (.agg #[.slice A5 (aloneN N ac).ends.length c5, .slice A6 (aloneN N ac).ids.length c6, .slice A7 (aloneN N ac).inputs.length c7]) (aloneN N ac)) ∧ WA.heap.size ≤ gO ∧ Hid (Turned WA.heap.size WA.heap.size WA W)) ?_ ?_
  case refine_1 =>
    refine wp_region_U (fun w' => w'.cell? ⟨w.heap.size, 0, none⟩ = some (.slice (some ⟨b1, o1, none⟩) N.ends.length c1) ∧ w'.cell? ⟨w.heap.size, 1, none⟩ = some (.slice A1' N.ids.length c1') ∧ w'.cell? ⟨w.heap.size, 2, none⟩ = some (.slice A1'' N.inputs.length c1'') ∧ w'.cell? ⟨w.heap.size + 1, 0, none⟩ = some (.slice A2 ac.length c2)) [] (by kernel_rfl) ?_
    refine nameU ?_
    intro W1 HW1
    have hg1 : WA.grownBy W1 none := by rw [HW1.out]; exact grown_drew _
    clear HW1
    have hs1 := hg1.size
    have HF1 := Lib.hid ((Turned.refl WA.heap.size WA.heap.size WA).still hg1)
    have hS2 : W1.cell? ⟨w.heap.size, 0, none⟩ = some (.slice (some ⟨b1, o1, none⟩) N.ends.length c1) ∧ W1.cell? ⟨w.heap.size, 1, none⟩ = some (.slice A1' N.ids.length c1') ∧ W1.cell? ⟨w.heap.size, 2, none⟩ = some (.slice A1'' N.inputs.length c1'') ∧ W1.cell? ⟨w.heap.size + 1, 0, none⟩ = some (.slice A2 ac.length c2) := ⟨(HF1.out.boxN bx1 (by omega)).cell 0 (by simp), (HF1.out.boxN bx1 (by omega)).cell 1 (by simp), (HF1.out.boxN bx1 (by omega)).cell 2 (by simp), (HF1.out.boxN bx2 (by omega)).cell 0 (by simp)⟩
    refine anyU_take (i := 0) (v := .agg #[.slice (some ⟨b1, o1, none⟩) N.ends.length c1, .slice A1' N.ids.length c1', .slice A1'' N.inputs.length c1'']) rfl (by kernel_rfl) (by kernel_rfl) (by kernel_rfl) (fun _ _ _ ⟨_, _, h, _⟩ => by cases h) ⟨by rfl, fun w' hS' => (by obtain ⟨s1, s2, s3, s4⟩ := hS'; go_simp)⟩ hS2 ?_
    simp only [List.getElem_toArray, List.getElem_cons_zero, Act.put, List.setIfInBounds_toArray, List.set_cons_zero, List.set_cons_succ]
    refine anyU_take (i := 1) (v := .pointer (some ⟨w.heap.size, 0, none⟩)) rfl (by kernel_rfl) (by kernel_rfl) (by kernel_rfl) (fun _ _ _ ⟨_, _, h, _⟩ => by cases h) ⟨by rfl, fun w' hS' => (by obtain ⟨s1, s2, s3, s4⟩ := hS'; go_simp)⟩ hS2 ?_
    simp only [List.getElem_toArray, List.getElem_cons_succ, List.getElem_cons_zero, Act.put, List.setIfInBounds_toArray, List.set_cons_zero, List.set_cons_succ]
    refine anyU_take (i := 2) (v := .slice (some ⟨b1, o1, none⟩) N.ends.length c1) rfl (by kernel_rfl) (by kernel_rfl) (by kernel_rfl) (fun _ _ _ ⟨_, _, h, _⟩ => by cases h) ⟨by rfl, fun w' hS' => (by obtain ⟨s1, s2, s3, s4⟩ := hS'; go_simp)⟩ hS2 ?_
    simp only [List.getElem_toArray, List.getElem_cons_succ, List.getElem_cons_zero, Act.put, List.setIfInBounds_toArray, List.set_cons_zero, List.set_cons_succ]
    refine anyU_take (i := 3) (v := .int .i64 N.ends.length) rfl (by kernel_rfl) (by kernel_rfl) (by kernel_rfl) (fun _ _ _ ⟨_, _, h, _⟩ => by cases h) ⟨by rfl, fun w' hS' => (by obtain ⟨s1, s2, s3, s4⟩ := hS'; go_simp)⟩ hS2 ?_
    simp only [List.getElem_toArray, List.getElem_cons_succ, List.getElem_cons_zero, Act.put, List.setIfInBounds_toArray, List.set_cons_zero, List.set_cons_succ]
    refine anyU_take (i := 5) (v := .func (.func 68) #[] #[.pointer (some ⟨w.heap.size + 1, 0, none⟩), .pointer (some ⟨w.heap.size, 0, none⟩)]) rfl (by kernel_rfl) (by kernel_rfl) (by kernel_rfl) (fun _ _ _ ⟨_, _, h, _⟩ => by cases h) ⟨by rfl, fun w' hS' => (by obtain ⟨s1, s2, s3, s4⟩ := hS'; simp [go_sem])⟩ hS2 ?_
    simp only [List.getElem_toArray, List.getElem_cons_succ, List.getElem_cons_zero, Act.put, List.setIfInBounds_toArray, List.set_cons_zero, List.set_cons_succ]
    refine anyU_ready (rs := [4, 7]) (by kernel_rfl) (by simp) ?_
    refine ReadyU.cons (i := 4) rfl (fun K hK => ?_) ?_
    case refine_1 =>
      simp only [List.getElem_toArray, List.getElem_cons_succ, List.getElem_cons_zero]
      refine ite_is (by rfl) ?_
      simp [go_sem]
      refine (numbersTo_any N.ends.length _ (by omega)).mono ?_
      rintro e W3 ⟨rz, rfl, hrz, hb3⟩
      have hg3 := grown_below hb3; clear hb3
      have hs3 := hg3.size
      have HF3 := Lib.hid (HF1.out.still hg3); clear HF1
      obtain ⟨Az, cz, rfl, hcz, hdz⟩ := hrz.dims
      have Z3 := Lib.hid hrz; clear hrz
      have hS4 : W3.cell? ⟨w.heap.size, 0, none⟩ = some (.slice (some ⟨b1, o1, none⟩) N.ends.length c1) ∧ W3.cell? ⟨w.heap.size, 1, none⟩ = some (.slice A1' N.ids.length c1') ∧ W3.cell? ⟨w.heap.size, 2, none⟩ = some (.slice A1'' N.inputs.length c1'') ∧ W3.cell? ⟨w.heap.size + 1, 0, none⟩ = some (.slice A2 ac.length c2) := ⟨(HF3.out.boxN bx1 (by omega)).cell 0 (by simp), (HF3.out.boxN bx1 (by omega)).cell 1 (by simp), (HF3.out.boxN bx1 (by omega)).cell 2 (by simp), (HF3.out.boxN bx2 (by omega)).cell 0 (by simp)⟩
      refine hK.out _ _ ⟨fun _ => hS4, ?_⟩
      clear hK K hS2
      try simp only [List.getElem_toArray, List.getElem_cons_succ, List.getElem_cons_zero, Act.put, List.setIfInBounds_toArray, List.set_cons_zero, List.set_cons_succ]
      refine anyU_ready (rs := [6, 7]) (by kernel_rfl) (by simp) ?_
      refine ReadyU.cons (i := 6) rfl (fun K hK => ?_) ?_
      case refine_1 =>
        simp only [List.getElem_toArray, List.getElem_cons_succ, List.getElem_cons_zero]
        refine ite_is (by rfl) ?_
        simp [go_sem]
        have HB1 := Lib.hid (show W3.cell? ⟨w.heap.size + 1, 0, none⟩ = some (.slice A2 ac.length c2) from (HF3.out.boxN bx2 (by omega)).cell 0 (by simp))
        have HB2 := Lib.hid (show W3.cell? ⟨w.heap.size, 0, none⟩ = some (.slice (some ⟨b1, o1, none⟩) N.ends.length c1) from (HF3.out.boxN bx1 (by omega)).cell 0 (by simp))
        have HCS := Lib.hid (BoolS.turned G2.out HF3.out (by omega) (by omega))
        have HES := Lib.hid (netEnds (Net.turned G1.out HF3.out (by omega) (by omega)))
        have hgd : w.heap.size + 1 < W3.heap.size := by omega
        have hgn : w.heap.size < W3.heap.size := by omega
        have hh1' : hi1 ≤ W3.heap.size := by omega
        have hh2' : hi2 ≤ W3.heap.size := by omega
        have HCLO := Lib.hid (show ∀ v i : Nat, v < N.ends.length → i < (nthL N.ends v).length → ∀ W, Below W3.heap.size W3 W → Calls Try.prog 68 (#[.int .i64 (v : Nat), .int .i64 (i : Nat)] ++ #[.pointer (some ⟨w.heap.size + 1, 0, none⟩), .pointer (some ⟨w.heap.size, 0, none⟩)]) W fun e w' => e = .returned (.bool (kpA N ac v i)) ∧ Below W.heap.size W w' from fun v i hv hi W hW =>
          ab1_any v i (w.heap.size) (w.heap.size + 1) N ac _ _ lo1 hi1 lo2 hi2 W ((hW.cell (p := ⟨w.heap.size + 1, 0, none⟩) hgd).trans HB1.out) ((hW.cell (p := ⟨w.heap.size, 0, none⟩) hgn).trans HB2.out) (BoolS.below HCS.out hW hh2') (ESS.below HES.out hW hh1') HG.out HL.out hv hi)
        refine (part_any _ N lo1 hi1 _ (upTo N.ends.length) _ _ 68 _ _ (Net.turned G1.out HF3.out (by omega) (by omega)) (by omega) Z3.out (by omega) (enters_of Try.func68 (by kernel_rfl) rfl) (kpA N ac) HCLO.out HG.out (fun j hj => ⟨j, nth_upTo (by rw [upTo_length] at hj; exact hj), by rw [upTo_length] at hj; exact hj⟩) (by rw [upTo_length]; omega)).mono ?_
        rintro e W5 ⟨rp, rfl, hrp, hb5⟩
        have hg5 := grown_below hb5; clear hb5 HB1 HB2 HCS HES HCLO hgd hgn hh1' hh2'
        have hs5 := hg5.size
        have HF5 := Lib.hid (HF3.out.still hg5); clear HF3
        have Z5 := Lib.hid (IntS.still Z3.out hg5 (by omega)); clear Z3
        obtain ⟨A5, c5, A6, c6, A7, c7, rfl, hc5, hd5, _⟩ := hrp.parts
        have M5 := Lib.hid (show Net W5 _ _ _ (aloneN N ac) from hrp); clear hrp
        have hS6 : W5.cell? ⟨w.heap.size, 0, none⟩ = some (.slice (some ⟨b1, o1, none⟩) N.ends.length c1) ∧ W5.cell? ⟨w.heap.size, 1, none⟩ = some (.slice A1' N.ids.length c1') ∧ W5.cell? ⟨w.heap.size, 2, none⟩ = some (.slice A1'' N.inputs.length c1'') ∧ W5.cell? ⟨w.heap.size + 1, 0, none⟩ = some (.slice A2 ac.length c2) := ⟨(HF5.out.boxN bx1 (by omega)).cell 0 (by simp), (HF5.out.boxN bx1 (by omega)).cell 1 (by simp), (HF5.out.boxN bx1 (by omega)).cell 2 (by simp), (HF5.out.boxN bx2 (by omega)).cell 0 (by simp)⟩
        refine hK.out _ _ ⟨fun _ => hS6, ?_⟩
        clear hK K hS4
        try simp only [List.getElem_toArray, List.getElem_cons_succ, List.getElem_cons_zero, Act.put, List.setIfInBounds_toArray, List.set_cons_zero, List.set_cons_succ]
        refine anyU_ready (rs := [7]) (by kernel_rfl) (by simp) ?_
        refine ReadyU.cons (i := 7) rfl (fun K hK => ?_) ?_
        case refine_1 =>
          simp only [List.getElem_toArray, List.getElem_cons_succ, List.getElem_cons_zero]
          refine ite_is (by rfl) ?_
          simp [go_sem]
          refine nameA ?_
          intro W7 HW7
          have hg7 : W5.grownBy W7 none := by rw [HW7.out]; exact grown_alloc _ _
          have OUT7 := Lib.hid (show BoxN W7 W5.heap.size #[.slice none 0 0, .slice none 0 0, .slice none 0 0] 34 by rw [HW7.out]; exact BoxN.new _ _ _)
          have hz7 : W5.heap.size < W7.heap.size := OUT7.out.lt
          clear HW7
          have hs7 := hg7.size
          have HF7 := Lib.hid (HF5.out.still hg7); clear HF5
          have Z7 := Lib.hid (IntS.still Z5.out hg7 (by omega)); clear Z5
          have M7 := Lib.hid (NetF.still M5.out hg7 (by omega)); clear M5
          have hS8 : W7.cell? ⟨w.heap.size, 0, none⟩ = some (.slice (some ⟨b1, o1, none⟩) N.ends.length c1) ∧ W7.cell? ⟨w.heap.size, 1, none⟩ = some (.slice A1' N.ids.length c1') ∧ W7.cell? ⟨w.heap.size, 2, none⟩ = some (.slice A1'' N.inputs.length c1'') ∧ W7.cell? ⟨w.heap.size + 1, 0, none⟩ = some (.slice A2 ac.length c2) := ⟨(HF7.out.boxN bx1 (by omega)).cell 0 (by simp), (HF7.out.boxN bx1 (by omega)).cell 1 (by simp), (HF7.out.boxN bx1 (by omega)).cell 2 (by simp), (HF7.out.boxN bx2 (by omega)).cell 0 (by simp)⟩
          refine hK.out _ _ ⟨fun _ => hS8, ?_⟩
          clear hK K hS6
          try simp only [List.getElem_toArray, List.getElem_cons_succ, List.getElem_cons_zero, Act.put, List.setIfInBounds_toArray, List.set_cons_zero, List.set_cons_succ]
          refine anyU_ready (rs := [8]) (by kernel_rfl) (by simp) ?_
          refine ReadyU.cons (i := 8) rfl (fun K hK => ?_) ?_
          case refine_1 =>
            simp only [List.getElem_toArray, List.getElem_cons_succ, List.getElem_cons_zero]
            refine ite_is (by rfl) ?_
            have kd0 : W7.cell? ⟨W5.heap.size, 0, none⟩ = some (.slice none 0 0) := OUT7.out.cell 0 (by simp)
            have kf0 := OUT7.out.frozen 0
            have kd1 : W7.cell? ⟨W5.heap.size, 1, none⟩ = some (.slice none 0 0) := OUT7.out.cell 1 (by simp)
            have kf1 := OUT7.out.frozen 1
            have kd2 : W7.cell? ⟨W5.heap.size, 2, none⟩ = some (.slice none 0 0) := OUT7.out.cell 2 (by simp)
            have kf2 := OUT7.out.frozen 2
            simp [go_sem, kd0, kf0, kd1, kf1, kd2, kf2]
            refine nameA ?_
            intro W9 HW9
            have hg9 : W7.grownBy W9 (some (W5.heap.size)) := by rw [HW9.out]; exact grownBy_setCell (p := ⟨W5.heap.size, 2, none⟩) (grownBy_setCell (p := ⟨W5.heap.size, 1, none⟩) (grown_set _ ⟨W5.heap.size, 0, none⟩ _) rfl _) rfl _
            have hs9 := hg9.size
            have HF9 := Lib.hid (HF7.out.grown hg9 (fun g e => .inr (by cases e; omega)))
            have Z9 := Lib.hid (IntS.far Z7.out hg9 (by omega) (fun g e => by cases e; omega)); clear Z7
            have M9 := Lib.hid (NetF.far M7.out hg9 (by omega) (fun g e => by cases e; omega)); clear M7
            have OUT9 := Lib.hid (show BoxN W9 (W5.heap.size) #[.slice A5 (partN N (upTo N.ends.length) (kpA N ac)).ends.length c5, .slice A6 (partN N (upTo N.ends.length) (kpA N ac)).ids.length c6, .slice A7 (partN N (upTo N.ends.length) (kpA N ac)).inputs.length c7] 34 by rw [HW9.out]; exact ((OUT7.out.set 0 _).set 1 _).set 2 _)
            clear HW9 kd0 kf0 kd1 kf1 kd2 kf2 OUT7
            have hS10 : W9.cell? ⟨w.heap.size, 0, none⟩ = some (.slice (some ⟨b1, o1, none⟩) N.ends.length c1) ∧ W9.cell? ⟨w.heap.size, 1, none⟩ = some (.slice A1' N.ids.length c1') ∧ W9.cell? ⟨w.heap.size, 2, none⟩ = some (.slice A1'' N.inputs.length c1'') ∧ W9.cell? ⟨w.heap.size + 1, 0, none⟩ = some (.slice A2 ac.length c2) := ⟨(HF9.out.boxN bx1 (by omega)).cell 0 (by simp), (HF9.out.boxN bx1 (by omega)).cell 1 (by simp), (HF9.out.boxN bx1 (by omega)).cell 2 (by simp), (HF9.out.boxN bx2 (by omega)).cell 0 (by simp)⟩
            refine hK.out _ _ ⟨fun _ => hS10, ?_⟩
            clear hK K hS8
            try simp only [List.getElem_toArray, List.getElem_cons_succ, List.getElem_cons_zero, Act.put, List.setIfInBounds_toArray, List.set_cons_zero, List.set_cons_succ]
            clear hS10
            refine anyU_done (by kernel_rfl) ?_ _
            exact ⟨[.agg #[.slice (some ⟨b1, o1, none⟩) N.ends.length c1, .slice A1' N.ids.length c1', .slice A1'' N.inputs.length c1''], .pointer (some ⟨w.heap.size, 0, none⟩), .slice (some ⟨b1, o1, none⟩) N.ends.length c1, .int .i64 N.ends.length, .slice Az (upTo N.ends.length).length cz, .func (.func 68) #[] #[.pointer (some ⟨w.heap.size + 1, 0, none⟩), .pointer (some ⟨w.heap.size, 0, none⟩)], .agg #[.slice A5 (partN N (upTo N.ends.length) (kpA N ac)).ends.length c5, .slice A6 (partN N (upTo N.ends.length) (kpA N ac)).ids.length c6, .slice A7 (partN N (upTo N.ends.length) (kpA N ac)).inputs.length c7], .pointer (some ⟨W5.heap.size, 0, none⟩)], ⟨_, _, _, _, _, _, _, _, _, rfl, OUT9, Lib.hid (Net.mono M9.out (by omega) (by omega)), by omega, HF9⟩, rfl, by simp only [puts, Act.put, List.setIfInBounds_toArray, List.set_cons_zero, List.set_cons_succ]⟩
          exact ReadyU.nil
        exact ReadyU.nil
      refine ReadyU.cons (i := 7) rfl (fun K hK => ?_) ?_
      case refine_1 =>
        simp only [List.getElem_toArray, List.getElem_cons_succ, List.getElem_cons_zero]
        refine ite_is (by rfl) ?_
        simp [go_sem]
        refine nameA ?_
        intro W11 HW11
        have hg11 : W3.grownBy W11 none := by rw [HW11.out]; exact grown_alloc _ _
        have OUT11 := Lib.hid (show BoxN W11 W3.heap.size #[.slice none 0 0, .slice none 0 0, .slice none 0 0] 34 by rw [HW11.out]; exact BoxN.new _ _ _)
        have hz11 : W3.heap.size < W11.heap.size := OUT11.out.lt
        clear HW11
        have hs11 := hg11.size
        have HF11 := Lib.hid (HF3.out.still hg11); clear HF3
        have Z11 := Lib.hid (IntS.still Z3.out hg11 (by omega)); clear Z3
        have hS12 : W11.cell? ⟨w.heap.size, 0, none⟩ = some (.slice (some ⟨b1, o1, none⟩) N.ends.length c1) ∧ W11.cell? ⟨w.heap.size, 1, none⟩ = some (.slice A1' N.ids.length c1') ∧ W11.cell? ⟨w.heap.size, 2, none⟩ = some (.slice A1'' N.inputs.length c1'') ∧ W11.cell? ⟨w.heap.size + 1, 0, none⟩ = some (.slice A2 ac.length c2) := ⟨(HF11.out.boxN bx1 (by omega)).cell 0 (by simp), (HF11.out.boxN bx1 (by omega)).cell 1 (by simp), (HF11.out.boxN bx1 (by omega)).cell 2 (by simp), (HF11.out.boxN bx2 (by omega)).cell 0 (by simp)⟩
        refine hK.out _ _ ⟨fun _ => hS12, ?_⟩
        clear hK K hS4
        try simp only [List.getElem_toArray, List.getElem_cons_succ, List.getElem_cons_zero, Act.put, List.setIfInBounds_toArray, List.set_cons_zero, List.set_cons_succ]
        refine anyU_ready (rs := [6]) (by kernel_rfl) (by simp) ?_
        refine ReadyU.cons (i := 6) rfl (fun K hK => ?_) ?_
        case refine_1 =>
          simp only [List.getElem_toArray, List.getElem_cons_succ, List.getElem_cons_zero]
          refine ite_is (by rfl) ?_
          simp [go_sem]
          have HB1 := Lib.hid (show W11.cell? ⟨w.heap.size + 1, 0, none⟩ = some (.slice A2 ac.length c2) from (HF11.out.boxN bx2 (by omega)).cell 0 (by simp))
          have HB2 := Lib.hid (show W11.cell? ⟨w.heap.size, 0, none⟩ = some (.slice (some ⟨b1, o1, none⟩) N.ends.length c1) from (HF11.out.boxN bx1 (by omega)).cell 0 (by simp))
          have HCS := Lib.hid (BoolS.turned G2.out HF11.out (by omega) (by omega))
          have HES := Lib.hid (netEnds (Net.turned G1.out HF11.out (by omega) (by omega)))
          have hgd : w.heap.size + 1 < W11.heap.size := by omega
          have hgn : w.heap.size < W11.heap.size := by omega
          have hh1' : hi1 ≤ W11.heap.size := by omega
          have hh2' : hi2 ≤ W11.heap.size := by omega
          have HCLO := Lib.hid (show ∀ v i : Nat, v < N.ends.length → i < (nthL N.ends v).length → ∀ W, Below W11.heap.size W11 W → Calls Try.prog 68 (#[.int .i64 (v : Nat), .int .i64 (i : Nat)] ++ #[.pointer (some ⟨w.heap.size + 1, 0, none⟩), .pointer (some ⟨w.heap.size, 0, none⟩)]) W fun e w' => e = .returned (.bool (kpA N ac v i)) ∧ Below W.heap.size W w' from fun v i hv hi W hW =>
            ab1_any v i (w.heap.size) (w.heap.size + 1) N ac _ _ lo1 hi1 lo2 hi2 W ((hW.cell (p := ⟨w.heap.size + 1, 0, none⟩) hgd).trans HB1.out) ((hW.cell (p := ⟨w.heap.size, 0, none⟩) hgn).trans HB2.out) (BoolS.below HCS.out hW hh2') (ESS.below HES.out hW hh1') HG.out HL.out hv hi)
          refine (part_any _ N lo1 hi1 _ (upTo N.ends.length) _ _ 68 _ _ (Net.turned G1.out HF11.out (by omega) (by omega)) (by omega) Z11.out (by omega) (enters_of Try.func68 (by kernel_rfl) rfl) (kpA N ac) HCLO.out HG.out (fun j hj => ⟨j, nth_upTo (by rw [upTo_length] at hj; exact hj), by rw [upTo_length] at hj; exact hj⟩) (by rw [upTo_length]; omega)).mono ?_
          rintro e W13 ⟨rp, rfl, hrp, hb13⟩
          have hg13 := grown_below hb13; clear hb13 HB1 HB2 HCS HES HCLO hgd hgn hh1' hh2'
          have hs13 := hg13.size
          have HF13 := Lib.hid (HF11.out.still hg13); clear HF11
          have Z13 := Lib.hid (IntS.still Z11.out hg13 (by omega)); clear Z11
          have OUT13 := Lib.hid (BoxN.still OUT11.out hg13); clear OUT11
          obtain ⟨A5, c5, A6, c6, A7, c7, rfl, hc5, hd5, _⟩ := hrp.parts
          have M13 := Lib.hid (show Net W13 _ _ _ (aloneN N ac) from hrp); clear hrp
          have hS14 : W13.cell? ⟨w.heap.size, 0, none⟩ = some (.slice (some ⟨b1, o1, none⟩) N.ends.length c1) ∧ W13.cell? ⟨w.heap.size, 1, none⟩ = some (.slice A1' N.ids.length c1') ∧ W13.cell? ⟨w.heap.size, 2, none⟩ = some (.slice A1'' N.inputs.length c1'') ∧ W13.cell? ⟨w.heap.size + 1, 0, none⟩ = some (.slice A2 ac.length c2) := ⟨(HF13.out.boxN bx1 (by omega)).cell 0 (by simp), (HF13.out.boxN bx1 (by omega)).cell 1 (by simp), (HF13.out.boxN bx1 (by omega)).cell 2 (by simp), (HF13.out.boxN bx2 (by omega)).cell 0 (by simp)⟩
          refine hK.out _ _ ⟨fun _ => hS14, ?_⟩
          clear hK K hS12
          try simp only [List.getElem_toArray, List.getElem_cons_succ, List.getElem_cons_zero, Act.put, List.setIfInBounds_toArray, List.set_cons_zero, List.set_cons_succ]
          refine anyU_ready (rs := [8]) (by kernel_rfl) (by simp) ?_
          refine ReadyU.cons (i := 8) rfl (fun K hK => ?_) ?_
          case refine_1 =>
            simp only [List.getElem_toArray, List.getElem_cons_succ, List.getElem_cons_zero]
            refine ite_is (by rfl) ?_
            have kd0 : W13.cell? ⟨W3.heap.size, 0, none⟩ = some (.slice none 0 0) := OUT13.out.cell 0 (by simp)
            have kf0 := OUT13.out.frozen 0
            have kd1 : W13.cell? ⟨W3.heap.size, 1, none⟩ = some (.slice none 0 0) := OUT13.out.cell 1 (by simp)
            have kf1 := OUT13.out.frozen 1
            have kd2 : W13.cell? ⟨W3.heap.size, 2, none⟩ = some (.slice none 0 0) := OUT13.out.cell 2 (by simp)
            have kf2 := OUT13.out.frozen 2
            simp [go_sem, kd0, kf0, kd1, kf1, kd2, kf2]
            refine nameA ?_
            intro W15 HW15
            have hg15 : W13.grownBy W15 (some (W3.heap.size)) := by rw [HW15.out]; exact grownBy_setCell (p := ⟨W3.heap.size, 2, none⟩) (grownBy_setCell (p := ⟨W3.heap.size, 1, none⟩) (grown_set _ ⟨W3.heap.size, 0, none⟩ _) rfl _) rfl _
            have hs15 := hg15.size
            have HF15 := Lib.hid (HF13.out.grown hg15 (fun g e => .inr (by cases e; omega)))
            have Z15 := Lib.hid (IntS.far Z13.out hg15 (by omega) (fun g e => by cases e; omega)); clear Z13
            have M15 := Lib.hid (NetF.far M13.out hg15 (by omega) (fun g e => by cases e; omega)); clear M13
            have OUT15 := Lib.hid (show BoxN W15 (W3.heap.size) #[.slice A5 (partN N (upTo N.ends.length) (kpA N ac)).ends.length c5, .slice A6 (partN N (upTo N.ends.length) (kpA N ac)).ids.length c6, .slice A7 (partN N (upTo N.ends.length) (kpA N ac)).inputs.length c7] 34 by rw [HW15.out]; exact ((OUT13.out.set 0 _).set 1 _).set 2 _)
            clear HW15 kd0 kf0 kd1 kf1 kd2 kf2 OUT13
            have hS16 : W15.cell? ⟨w.heap.size, 0, none⟩ = some (.slice (some ⟨b1, o1, none⟩) N.ends.length c1) ∧ W15.cell? ⟨w.heap.size, 1, none⟩ = some (.slice A1' N.ids.length c1') ∧ W15.cell? ⟨w.heap.size, 2, none⟩ = some (.slice A1'' N.inputs.length c1'') ∧ W15.cell? ⟨w.heap.size + 1, 0, none⟩ = some (.slice A2 ac.length c2) := ⟨(HF15.out.boxN bx1 (by omega)).cell 0 (by simp), (HF15.out.boxN bx1 (by omega)).cell 1 (by simp), (HF15.out.boxN bx1 (by omega)).cell 2 (by simp), (HF15.out.boxN bx2 (by omega)).cell 0 (by simp)⟩
            refine hK.out _ _ ⟨fun _ => hS16, ?_⟩
            clear hK K hS14
            try simp only [List.getElem_toArray, List.getElem_cons_succ, List.getElem_cons_zero, Act.put, List.setIfInBounds_toArray, List.set_cons_zero, List.set_cons_succ]
            clear hS16
            refine anyU_done (by kernel_rfl) ?_ _
            exact ⟨[.agg #[.slice (some ⟨b1, o1, none⟩) N.ends.length c1, .slice A1' N.ids.length c1', .slice A1'' N.inputs.length c1''], .pointer (some ⟨w.heap.size, 0, none⟩), .slice (some ⟨b1, o1, none⟩) N.ends.length c1, .int .i64 N.ends.length, .slice Az (upTo N.ends.length).length cz, .func (.func 68) #[] #[.pointer (some ⟨w.heap.size + 1, 0, none⟩), .pointer (some ⟨w.heap.size, 0, none⟩)], .agg #[.slice A5 (partN N (upTo N.ends.length) (kpA N ac)).ends.length c5, .slice A6 (partN N (upTo N.ends.length) (kpA N ac)).ids.length c6, .slice A7 (partN N (upTo N.ends.length) (kpA N ac)).inputs.length c7], .pointer (some ⟨W3.heap.size, 0, none⟩)], ⟨_, _, _, _, _, _, _, _, _, rfl, OUT15, Lib.hid (Net.mono M15.out (by omega) (by omega)), by omega, HF15⟩, rfl, by simp only [puts, Act.put, List.setIfInBounds_toArray, List.set_cons_zero, List.set_cons_succ]⟩
          exact ReadyU.nil
        exact ReadyU.nil
      exact ReadyU.nil
    refine ReadyU.cons (i := 7) rfl (fun K hK => ?_) ?_
    case refine_1 =>
      simp only [List.getElem_toArray, List.getElem_cons_succ, List.getElem_cons_zero]
      refine ite_is (by rfl) ?_
      simp [go_sem]
      refine nameA ?_
      intro W17 HW17
      have hg17 : W1.grownBy W17 none := by rw [HW17.out]; exact grown_alloc _ _
      have OUT17 := Lib.hid (show BoxN W17 W1.heap.size #[.slice none 0 0, .slice none 0 0, .slice none 0 0] 34 by rw [HW17.out]; exact BoxN.new _ _ _)
      have hz17 : W1.heap.size < W17.heap.size := OUT17.out.lt
      clear HW17
      have hs17 := hg17.size
      have HF17 := Lib.hid (HF1.out.still hg17); clear HF1
      have hS18 : W17.cell? ⟨w.heap.size, 0, none⟩ = some (.slice (some ⟨b1, o1, none⟩) N.ends.length c1) ∧ W17.cell? ⟨w.heap.size, 1, none⟩ = some (.slice A1' N.ids.length c1') ∧ W17.cell? ⟨w.heap.size, 2, none⟩ = some (.slice A1'' N.inputs.length c1'') ∧ W17.cell? ⟨w.heap.size + 1, 0, none⟩ = some (.slice A2 ac.length c2) := ⟨(HF17.out.boxN bx1 (by omega)).cell 0 (by simp), (HF17.out.boxN bx1 (by omega)).cell 1 (by simp), (HF17.out.boxN bx1 (by omega)).cell 2 (by simp), (HF17.out.boxN bx2 (by omega)).cell 0 (by simp)⟩
      refine hK.out _ _ ⟨fun _ => hS18, ?_⟩
      clear hK K hS2
      try simp only [List.getElem_toArray, List.getElem_cons_succ, List.getElem_cons_zero, Act.put, List.setIfInBounds_toArray, List.set_cons_zero, List.set_cons_succ]
      refine anyU_ready (rs := [4]) (by kernel_rfl) (by simp) ?_
      refine ReadyU.cons (i := 4) rfl (fun K hK => ?_) ?_
      case refine_1 =>
        simp only [List.getElem_toArray, List.getElem_cons_succ, List.getElem_cons_zero]
        refine ite_is (by rfl) ?_
        simp [go_sem]
        refine (numbersTo_any N.ends.length _ (by omega)).mono ?_
        rintro e W19 ⟨rz, rfl, hrz, hb19⟩
        have hg19 := grown_below hb19; clear hb19
        have hs19 := hg19.size
        have HF19 := Lib.hid (HF17.out.still hg19); clear HF17
        have OUT19 := Lib.hid (BoxN.still OUT17.out hg19); clear OUT17
        obtain ⟨Az, cz, rfl, hcz, hdz⟩ := hrz.dims
        have Z19 := Lib.hid hrz; clear hrz
        have hS20 : W19.cell? ⟨w.heap.size, 0, none⟩ = some (.slice (some ⟨b1, o1, none⟩) N.ends.length c1) ∧ W19.cell? ⟨w.heap.size, 1, none⟩ = some (.slice A1' N.ids.length c1') ∧ W19.cell? ⟨w.heap.size, 2, none⟩ = some (.slice A1'' N.inputs.length c1'') ∧ W19.cell? ⟨w.heap.size + 1, 0, none⟩ = some (.slice A2 ac.length c2) := ⟨(HF19.out.boxN bx1 (by omega)).cell 0 (by simp), (HF19.out.boxN bx1 (by omega)).cell 1 (by simp), (HF19.out.boxN bx1 (by omega)).cell 2 (by simp), (HF19.out.boxN bx2 (by omega)).cell 0 (by simp)⟩
        refine hK.out _ _ ⟨fun _ => hS20, ?_⟩
        clear hK K hS18
        try simp only [List.getElem_toArray, List.getElem_cons_succ, List.getElem_cons_zero, Act.put, List.setIfInBounds_toArray, List.set_cons_zero, List.set_cons_succ]
        refine anyU_ready (rs := [6]) (by kernel_rfl) (by simp) ?_
        refine ReadyU.cons (i := 6) rfl (fun K hK => ?_) ?_
        case refine_1 =>
          simp only [List.getElem_toArray, List.getElem_cons_succ, List.getElem_cons_zero]
          refine ite_is (by rfl) ?_
          simp [go_sem]
          have HB1 := Lib.hid (show W19.cell? ⟨w.heap.size + 1, 0, none⟩ = some (.slice A2 ac.length c2) from (HF19.out.boxN bx2 (by omega)).cell 0 (by simp))
          have HB2 := Lib.hid (show W19.cell? ⟨w.heap.size, 0, none⟩ = some (.slice (some ⟨b1, o1, none⟩) N.ends.length c1) from (HF19.out.boxN bx1 (by omega)).cell 0 (by simp))
          have HCS := Lib.hid (BoolS.turned G2.out HF19.out (by omega) (by omega))
          have HES := Lib.hid (netEnds (Net.turned G1.out HF19.out (by omega) (by omega)))
          have hgd : w.heap.size + 1 < W19.heap.size := by omega
          have hgn : w.heap.size < W19.heap.size := by omega
          have hh1' : hi1 ≤ W19.heap.size := by omega
          have hh2' : hi2 ≤ W19.heap.size := by omega
          have HCLO := Lib.hid (show ∀ v i : Nat, v < N.ends.length → i < (nthL N.ends v).length → ∀ W, Below W19.heap.size W19 W → Calls Try.prog 68 (#[.int .i64 (v : Nat), .int .i64 (i : Nat)] ++ #[.pointer (some ⟨w.heap.size + 1, 0, none⟩), .pointer (some ⟨w.heap.size, 0, none⟩)]) W fun e w' => e = .returned (.bool (kpA N ac v i)) ∧ Below W.heap.size W w' from fun v i hv hi W hW =>
            ab1_any v i (w.heap.size) (w.heap.size + 1) N ac _ _ lo1 hi1 lo2 hi2 W ((hW.cell (p := ⟨w.heap.size + 1, 0, none⟩) hgd).trans HB1.out) ((hW.cell (p := ⟨w.heap.size, 0, none⟩) hgn).trans HB2.out) (BoolS.below HCS.out hW hh2') (ESS.below HES.out hW hh1') HG.out HL.out hv hi)
          refine (part_any _ N lo1 hi1 _ (upTo N.ends.length) _ _ 68 _ _ (Net.turned G1.out HF19.out (by omega) (by omega)) (by omega) Z19.out (by omega) (enters_of Try.func68 (by kernel_rfl) rfl) (kpA N ac) HCLO.out HG.out (fun j hj => ⟨j, nth_upTo (by rw [upTo_length] at hj; exact hj), by rw [upTo_length] at hj; exact hj⟩) (by rw [upTo_length]; omega)).mono ?_
          rintro e W21 ⟨rp, rfl, hrp, hb21⟩
          have hg21 := grown_below hb21; clear hb21 HB1 HB2 HCS HES HCLO hgd hgn hh1' hh2'
          have hs21 := hg21.size
          have HF21 := Lib.hid (HF19.out.still hg21); clear HF19
          have OUT21 := Lib.hid (BoxN.still OUT19.out hg21); clear OUT19
          have Z21 := Lib.hid (IntS.still Z19.out hg21 (by omega)); clear Z19
          obtain ⟨A5, c5, A6, c6, A7, c7, rfl, hc5, hd5, _⟩ := hrp.parts
          have M21 := Lib.hid (show Net W21 _ _ _ (aloneN N ac) from hrp); clear hrp
          have hS22 : W21.cell? ⟨w.heap.size, 0, none⟩ = some (.slice (some ⟨b1, o1, none⟩) N.ends.length c1) ∧ W21.cell? ⟨w.heap.size, 1, none⟩ = some (.slice A1' N.ids.length c1') ∧ W21.cell? ⟨w.heap.size, 2, none⟩ = some (.slice A1'' N.inputs.length c1'') ∧ W21.cell? ⟨w.heap.size + 1, 0, none⟩ = some (.slice A2 ac.length c2) := ⟨(HF21.out.boxN bx1 (by omega)).cell 0 (by simp), (HF21.out.boxN bx1 (by omega)).cell 1 (by simp), (HF21.out.boxN bx1 (by omega)).cell 2 (by simp), (HF21.out.boxN bx2 (by omega)).cell 0 (by simp)⟩
          refine hK.out _ _ ⟨fun _ => hS22, ?_⟩
          clear hK K hS20
          try simp only [List.getElem_toArray, List.getElem_cons_succ, List.getElem_cons_zero, Act.put, List.setIfInBounds_toArray, List.set_cons_zero, List.set_cons_succ]
          refine anyU_ready (rs := [8]) (by kernel_rfl) (by simp) ?_
          refine ReadyU.cons (i := 8) rfl (fun K hK => ?_) ?_
          case refine_1 =>
            simp only [List.getElem_toArray, List.getElem_cons_succ, List.getElem_cons_zero]
            refine ite_is (by rfl) ?_
            have kd0 : W21.cell? ⟨W1.heap.size, 0, none⟩ = some (.slice none 0 0) := OUT21.out.cell 0 (by simp)
            have kf0 := OUT21.out.frozen 0
            have kd1 : W21.cell? ⟨W1.heap.size, 1, none⟩ = some (.slice none 0 0) := OUT21.out.cell 1 (by simp)
            have kf1 := OUT21.out.frozen 1
            have kd2 : W21.cell? ⟨W1.heap.size, 2, none⟩ = some (.slice none 0 0) := OUT21.out.cell 2 (by simp)
            have kf2 := OUT21.out.frozen 2
            simp [go_sem, kd0, kf0, kd1, kf1, kd2, kf2]
            refine nameA ?_
            intro W23 HW23
            have hg23 : W21.grownBy W23 (some (W1.heap.size)) := by rw [HW23.out]; exact grownBy_setCell (p := ⟨W1.heap.size, 2, none⟩) (grownBy_setCell (p := ⟨W1.heap.size, 1, none⟩) (grown_set _ ⟨W1.heap.size, 0, none⟩ _) rfl _) rfl _
            have hs23 := hg23.size
            have HF23 := Lib.hid (HF21.out.grown hg23 (fun g e => .inr (by cases e; omega)))
            have Z23 := Lib.hid (IntS.far Z21.out hg23 (by omega) (fun g e => by cases e; omega)); clear Z21
            have M23 := Lib.hid (NetF.far M21.out hg23 (by omega) (fun g e => by cases e; omega)); clear M21
            have OUT23 := Lib.hid (show BoxN W23 (W1.heap.size) #[.slice A5 (partN N (upTo N.ends.length) (kpA N ac)).ends.length c5, .slice A6 (partN N (upTo N.ends.length) (kpA N ac)).ids.length c6, .slice A7 (partN N (upTo N.ends.length) (kpA N ac)).inputs.length c7] 34 by rw [HW23.out]; exact ((OUT21.out.set 0 _).set 1 _).set 2 _)
            clear HW23 kd0 kf0 kd1 kf1 kd2 kf2 OUT21
            have hS24 : W23.cell? ⟨w.heap.size, 0, none⟩ = some (.slice (some ⟨b1, o1, none⟩) N.ends.length c1) ∧ W23.cell? ⟨w.heap.size, 1, none⟩ = some (.slice A1' N.ids.length c1') ∧ W23.cell? ⟨w.heap.size, 2, none⟩ = some (.slice A1'' N.inputs.length c1'') ∧ W23.cell? ⟨w.heap.size + 1, 0, none⟩ = some (.slice A2 ac.length c2) := ⟨(HF23.out.boxN bx1 (by omega)).cell 0 (by simp), (HF23.out.boxN bx1 (by omega)).cell 1 (by simp), (HF23.out.boxN bx1 (by omega)).cell 2 (by simp), (HF23.out.boxN bx2 (by omega)).cell 0 (by simp)⟩
            refine hK.out _ _ ⟨fun _ => hS24, ?_⟩
            clear hK K hS22
            try simp only [List.getElem_toArray, List.getElem_cons_succ, List.getElem_cons_zero, Act.put, List.setIfInBounds_toArray, List.set_cons_zero, List.set_cons_succ]
            clear hS24
            refine anyU_done (by kernel_rfl) ?_ _
            exact ⟨[.agg #[.slice (some ⟨b1, o1, none⟩) N.ends.length c1, .slice A1' N.ids.length c1', .slice A1'' N.inputs.length c1''], .pointer (some ⟨w.heap.size, 0, none⟩), .slice (some ⟨b1, o1, none⟩) N.ends.length c1, .int .i64 N.ends.length, .slice Az (upTo N.ends.length).length cz, .func (.func 68) #[] #[.pointer (some ⟨w.heap.size + 1, 0, none⟩), .pointer (some ⟨w.heap.size, 0, none⟩)], .agg #[.slice A5 (partN N (upTo N.ends.length) (kpA N ac)).ends.length c5, .slice A6 (partN N (upTo N.ends.length) (kpA N ac)).ids.length c6, .slice A7 (partN N (upTo N.ends.length) (kpA N ac)).inputs.length c7], .pointer (some ⟨W1.heap.size, 0, none⟩)], ⟨_, _, _, _, _, _, _, _, _, rfl, OUT23, Lib.hid (Net.mono M23.out (by omega) (by omega)), by omega, HF23⟩, rfl, by simp only [puts, Act.put, List.setIfInBounds_toArray, List.set_cons_zero, List.set_cons_succ]⟩
          exact ReadyU.nil
        exact ReadyU.nil
      exact ReadyU.nil
    exact ReadyU.nil
  case refine_2 =>
    rintro vs W25 ⟨gO, Az, A5, A6, A7, cz, c5, c6, c7, rfl, HB, HM, hgO, HF25⟩
    simp only [puts, Act.put, List.setIfInBounds_toArray, List.set_cons_zero, List.set_cons_succ]
    have hs25 := HF25.out.size
    have hgl := HB.out.lt
    obtain ⟨P, HP⟩ : ∃ P, Hid ((aloneN N ac) = P) := ⟨_, Lib.hid rfl⟩
    have HDP := Lib.hid (show dist P c = D by rw [← HP.out]; exact HDE.out)
    rw [HP.out] at HB HM HPG HPN ⊢
    have kO0 : W25.cell? ⟨gO, 0, none⟩ = some (.slice A5 P.ends.length c5) := HB.out.cell 0 (by simp)
    have kO1 : W25.cell? ⟨gO, 1, none⟩ = some (.slice A6 P.ids.length c6) := HB.out.cell 1 (by simp)
    have kO2 : W25.cell? ⟨gO, 2, none⟩ = some (.slice A7 P.inputs.length c7) := HB.out.cell 2 (by simp)
    go_wp2_with fail
    clear kO0 kO1 kO2
    have hcP : c < P.ends.length := by rw [HPN.out]; exact hc
    refine (distancesFrom_any _ P c _ _ _ HM.out (by omega) hcP (by rw [HPN.out]; omega) (good_nodes HPG.out) (netC_deg HPG.out)).mono ?_
    rintro e W26 ⟨r, rfl, hr, hb26⟩
    have hg26 := grown_below hb26; clear hb26
    have hs26 := hg26.size
    have HF26 := Lib.hid (HF25.out.still hg26); clear HF25
    have OUT26 := Lib.hid (BoxN.still HB.out hg26); clear HB
    have M26 := Lib.hid (NetF.still HM.out hg26 (by omega)); clear HM
    rw [HDP.out] at hr
    have R26 := Lib.hid hr; clear hr
    obtain ⟨Ar, cr, rfl, hcr, hdr⟩ := R26.out.dims
    have HRL := Lib.hid HDL.out
    rw [HDL.out] at hcr ⊢
    go_wp2_with fail
    have HR9 := Lib.hid R26.out
    rw [← HDL.out]
    refine (slicesMax2_any _ D _ _ _ HR9.out (by rw [HDL.out]; omega) ⟨nth D c, nth_mem (by rw [HDL.out]; exact hc), by rw [HDS.out]; omega⟩).mono ?_
    rintro e w' ⟨rfl, rfl⟩
    rw [← HM1.out, HDL.out]
    have hmk := fun W => run_make_row' (P := Try.prog) 63 23 (.slice none 0 0) 24 Try.underlying63 Try.infoRow rfl .i64 .i64 (mx + 1) (by omega) (by omega) W
    have hcast : ((mx + 1 : Nat) : Int) = (mx : Int) + 1 := by omega
    simp only [hcast] at hmk
    have N_26 := Lib.hid (Net.turned G1.out HF26.out (by omega) (by omega)); clear G1
    have ac_26 := Lib.hid (BoolS.turned G2.out HF26.out (by omega) (by omega)); clear G2
    have bx1_26 := HF26.out.boxN bx1 (by omega); clear bx1
    have bx2_26 := HF26.out.boxN bx2 (by omega); clear bx2
    have hbA26 : Below w.heap.size w W26 := (HF26.out.below_of hbA (by omega) (by omega)); clear hbA HF26
    go_upto_region 4 with (fail)
    clear hmk hcast
    refine nameC ?_
    intro W27 HW27
    have hg27 : W26.grownBy W27 none := by rw [HW27.out]; exact grown_alloc _ _
    have hs27 := hg27.size
    have HF27 := Lib.hid ((Turned.refl W26.heap.size W26.heap.size W26).still hg27)
    have HGR := Lib.hid (show Gro W27 W26.heap.size 3 (fibsAt D (mx + 1) 0) by rw [HW27.out, fibsAt_zero]; exact Gro.made W26 (mx + 1) _ _ rfl (by omega))
    have hz : W26.heap.size + 1 ≤ W27.heap.size := by rw [HW27.out]; simp
    clear HW27
    go_wp2_with fail
    go_loopw [28] (fun kv wr => ∃ (m : Nat), m ≤ N.ends.length ∧ kv = .int .i64 m ∧ Hid (Gro wr W26.heap.size 3 (fibsAt D (mx + 1) m)) ∧ W26.heap.size + 1 ≤ wr.heap.size ∧ Hid (Turned W26.heap.size W26.heap.size W26 wr)) (fun kv _ => N.ends.length - (intOf kv).toNat)
    case atStart => exact ⟨0, Nat.zero_le _, rfl, HGR, hz, HF27⟩
    case round =>
      clear HF27
      obtain ⟨m, hm, rfl, HGG, hzz, HF28⟩ := hrel
      have hs28 := HF28.out.size
      by_cases hmn : m < N.ends.length
      case neg =>
        obtain rfl : m = N.ends.length := by omega
        have HRR := Lib.hid (HGG.out.ssx.ss)
        rw [fibsAt_length] at HRR
        go_wp2_with fail
        go_ret
        exact ⟨_, rfl, ISS.mono HRR.out (by omega) (Nat.le_refl _), (HF28.out.below_of hbA26 (by omega) (by omega))⟩
      have hmi : (m : Int) < N.ends.length := by omega
      have hDm := HDO.out m hmn
      have hDx := HM2.out m hmn
      obtain ⟨be, oe, rfl, _, hbe', xe, _⟩ := (IntS.turned R26.out HF28.out (by omega) (by omega)).opened (by rw [HDL.out]; exact hmn)
      obtain ⟨x, HX⟩ : ∃ x, Hid (nth D m = x) := ⟨_, Lib.hid rfl⟩
      rw [HX.out] at xe hDm hDx
      by_cases hx0 : 0 ≤ x
      case neg =>
        have HSN := Lib.hid (fibsAt_none (l := D) (k := mx + 1) (m := m) (by rw [HX.out]; omega))
        go_wp2_with fail
        go_roundw
        case rel => exact ⟨m + 1, by omega, by go_num, Lib.hid (by rw [HSN.out]; exact HGG.out), hzz, HF28⟩
        case measure => simp [intOf]; omega
      obtain ⟨tt, ett⟩ : ∃ tt : Nat, x = tt := ⟨x.toNat, by omega⟩
      subst ett
      have htk : tt < mx + 1 := by omega
      have HS := Lib.hid (fibsAt_succ (l := D) (k := mx + 1) HX.out htk)
      obtain ⟨u, hu1, hu2, hu3, hu4, hu5⟩ := HGG.out.open_ (i := tt) (by rw [fibsAt_length]; exact htk)
      have hfl := fibL_len D tt m
      obtain ⟨Au, cu, rfl, hcu, hdu⟩ := hu3.ints.dims
      rw [nthL_fibsAt htk] at hcu hu3 hu1 hu5
      have hlv := hu3.lt
      have HLV := Lib.hid hlv
      have HU3 := Lib.hid hu3
      have HU5 := Lib.hid hu5
      have hti : (tt : Int) < (mx : Int) + 1 := by omega
      clear hu3 hu5 hlv
      rw [nthL_fibsAt htk] at HS
      go_wp2_with (at_builtin; refine append_int (s := .tmp 40) Try.underlying23 Try.info3 (by decide) wr rfl _ rfl HU3.out m _ rfl (by simp [Act.eval, go_sem]) (by omega) (by omega) ?_; intro v' w' ho' hg' hat'; have kc : w'.cell? ⟨W26.heap.size, tt, none⟩ = some (.slice Au (fibL D tt m).length cu) := (World.cell?_of_block (a := ⟨W26.heap.size, tt, none⟩) (hg'.block W26.heap.size (by omega) (fun e => by have := HLV.out _ e.symm; omega))).trans hu1; have kf : w'.frozen? ⟨W26.heap.size, tt, none⟩ = false := (World.frozen?_of_block (a := ⟨W26.heap.size, tt, none⟩) (hg'.block W26.heap.size (by omega) (fun e => by have := HLV.out _ e.symm; omega))).trans hu2; have hd9 : ∃ A c, v' = .slice A ((fibL D tt m).length + 1) c := (by obtain ⟨A, c, e, _, _⟩ := ho'.ints.dims; exact ⟨A, c, by simp [e]⟩); obtain ⟨Av, cv, rfl⟩ := hd9; have HO' := Lib.hid ho')
      go_roundw
      case rel =>
        have hgs := hg'.size
        refine ⟨m + 1, by omega, by go_num, ?_, by rw [size_setCell]; omega, Lib.hid ((HF28.out.grown hg' fun g hg => .inr (by have := HLV.out g hg; omega)).grown (grown_set _ _ _) fun g hg => .inr (by cases hg; show _ ≤ W26.heap.size; omega))⟩
        rw [HS.out]
        exact Lib.hid (HU5.out _ _ _ HO'.out hg' hat')
      case measure => simp [intOf]; omega

end Go.Proofs.Ytcmmklcampmkjaa
