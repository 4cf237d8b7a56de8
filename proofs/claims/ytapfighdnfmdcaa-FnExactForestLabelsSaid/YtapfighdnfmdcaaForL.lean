/-
  Contracts of ForestLabels (program and reference).
-/
import Derived.Test.YtapfighdnfmdcaaOrd3
import Derived.Test.YtapfighdnfmdcaaSSet2
import Derived.Test.YtapfighdnfmdcaaOri4
import Derived.RegionTactic
namespace Go.Proofs.Ytapfighdnfmdcaa
open Go.ChangeShapes Go.WideShapes Go.ChangeAt Go.RowKit
set_option linter.unusedVariables false

def flStep (N : NetD) (o : List (List Int)) (v : Nat) (xss : List (List Int)) (i : Nat) : List (List Int) :=
  if nth (nthL o v) i = 1 then setAt (setAt xss v i (onesI ((nthL o v).take i))) (nthE (nthL N.ends v) i).1.toNat (nthE (nthL N.ends v) i).2.toNat (onesI ((nthL o v).take i)) else xss
def flRow (N : NetD) (o : List (List Int)) (v m : Nat) (xss : List (List Int)) : List (List Int) := (List.range m).foldl (flStep N o v) xss
def flUp (N : NetD) (o : List (List Int)) (k : Nat) : List (List Int) := (List.range k).foldl (fun xss v => flRow N o v (nthL N.ends v).length xss) (zeroP N)
def flOut (N : NetD) (o : List (List Int)) : List (List Int) := if ordOk N o = true then flUp N o N.ends.length else []
theorem flRow_succ (N : NetD) (o : List (List Int)) (v m : Nat) (xss : List (List Int)) : flRow N o v (m + 1) xss = flStep N o v (flRow N o v m xss) m := by unfold flRow; rw [List.range_succ, List.foldl_append]; rfl
theorem flUp_succ (N : NetD) (o : List (List Int)) (k : Nat) : flUp N o (k + 1) = flRow N o k (nthL N.ends k).length (flUp N o k) := by unfold flUp; rw [List.range_succ, List.foldl_append]; rfl
theorem flStep_shape {N : NetD} (hg : N.good = true) {o : List (List Int)} {v i : Nat} (hv : v < N.ends.length) (hi : i < (nthL N.ends v).length) {xss : List (List Int)} (h : Shape N xss) : Shape N (flStep N o v xss i) := by
  unfold flStep
  obtain ⟨t, r, e, ht, hr, _⟩ := good_end hg hv hi
  rw [e]
  split
  · exact (h.setAt hv _ _).setAt (by simpa using ht) _ _
  · exact h
theorem flRow_shape {N : NetD} (hg : N.good = true) {o : List (List Int)} {v : Nat} (hv : v < N.ends.length) {xss : List (List Int)} (h : Shape N xss) : ∀ m, m ≤ (nthL N.ends v).length → Shape N (flRow N o v m xss)
  | 0, _ => h
  | m + 1, hm => by rw [flRow_succ]; exact flStep_shape hg hv (by omega) (flRow_shape hg hv h m (by omega))
theorem flUp_shape {N : NetD} (hg : N.good = true) (o : List (List Int)) : ∀ k, k ≤ N.ends.length → Shape N (flUp N o k)
  | 0, _ => Shape.zero N
  | k + 1, hk => by rw [flUp_succ]; exact flRow_shape hg (by omega) (flUp_shape hg o k (by omega)) _ (Nat.le_refl _)
theorem ordOk_ori {N : NetD} {o : List (List Int)} (h : ordOk N o = true) : oriOk N o = true := by unfold ordOk at h; rw [Bool.and_eq_true] at h; exact h.1
theorem flOut_cnt (N : NetD) (o : List (List Int)) : cntSS (flOut N o) ≤ N.cnt := by
  unfold flOut
  split
  · rename_i h
    rw [(flUp_shape (oriOk_parts (ordOk_ori h)).2.1 o _ (Nat.le_refl _)).cnt]
    unfold NetD.cnt; omega
  · show 0 ≤ _; omega
theorem flStep_at {N : NetD} {o : List (List Int)} {v i t r : Nat} (e : nthE (nthL N.ends v) i = ((t : Int), (r : Int))) (xss : List (List Int)) : flStep N o v xss i = if nth (nthL o v) i = 1 then setAt (setAt xss v i (onesI ((nthL o v).take i))) t r (onesI ((nthL o v).take i)) else xss := by
  unfold flStep; rw [e]; rfl

set_option maxHeartbeats 4000000 in
set_option maxRecDepth 100000 in
theorem ForestLabels_impl (v1 : Value) (N : NetD) (lo1 hi1 : Nat) (v2 : Value) (o : List (List Int)) (lo2 hi2 : Nat) (w : World) (h1 : Net w lo1 hi1 v1 N) (hh1 : hi1 ≤ w.heap.size) (h2 : IntSS w lo2 hi2 v2 o) (hh2 : hi2 ≤ w.heap.size) (hz1 : N.sz ≤ 1048576) (hz2 : szSS o ≤ 1048576) (ok1 : N.Ok) (ok2 : ∀ l ∈ o, ∀ z ∈ l, I64 z) :
    Calls Try.prog 46 #[v1, v2] w fun e w' => ∃ r, e = .returned (.tuple #[r, .bool (ordOk N o)]) ∧ IntSSx w' w.heap.size w'.heap.size r (flOut N o) ∧ Below w.heap.size w w' := by
  have F1 := Lib.hid h1
  obtain ⟨A1, c1, A1', c1', A1'', c1'', rfl, hc1, hd1, _⟩ := h1.parts
  clear h1
  have F2 := Lib.hid h2
  obtain ⟨A2, c2, rfl, hc2, hd2⟩ := h2.dims
  clear h2
  obtain ⟨WA, HWA⟩ : ∃ W, Hid (W = (w.alloc (.cells #[.slice A1 N.ends.length c1, .slice A1' N.ids.length c1', .slice A1'' N.inputs.length c1''] 31))) := ⟨_, Lib.hid rfl⟩
  have hbA : Below w.heap.size w WA := by rw [HWA.out]; exact ((Below.refl _ _).alloc (Nat.le_refl _) _)
  have hsA : w.heap.size + 1 ≤ WA.heap.size := by rw [HWA.out]; simp; try omega
  have bx1 : BoxN WA (w.heap.size) #[.slice A1 N.ends.length c1, .slice A1' N.ids.length c1', .slice A1'' N.inputs.length c1''] 31 := by rw [HWA.out]; exact (BoxN.new' _ _ _ (by simp))
  have G1 := Lib.hid (Net.below F1.out hbA hh1); clear F1
  have G2 := Lib.hid (ISS.below F2.out hbA hh2); clear F2
  go_enter Try.func46, Try.ntmps46
  go_upto_region 1 with (fail)
  rw [← HWA.out]; clear HWA
  have kbx1_0 : WA.cell? ⟨w.heap.size, 0, none⟩ = some (.slice A1 N.ends.length c1) := bx1.cell 0 (by simp)
  have kbx1_1 : WA.cell? ⟨w.heap.size, 1, none⟩ = some (.slice A1' N.ids.length c1') := bx1.cell 1 (by simp)
  have kbx1_2 : WA.cell? ⟨w.heap.size, 2, none⟩ = some (.slice A1'' N.inputs.length c1'') := bx1.cell 2 (by simp)
  go_wp2_with fail
  clear kbx1_0 kbx1_1 kbx1_2
  refine (OrderOfOrientation_impl _ N lo1 hi1 _ o lo2 hi2 _ G1.out (by omega) G2.out (by omega) hz1 hz2 ok1 ok2).mono ?_
  rintro e W1 ⟨r, rfl, hr, hb1⟩
  have hg1 := grown_below hb1; clear hb1
  have hs1 := hg1.size
  have HF1 := Lib.hid ((Turned.refl WA.heap.size WA.heap.size WA).still hg1)
  have R1 := Lib.hid hr; clear hr
  obtain ⟨Ar, cr, rfl, hcr, hdr⟩ := R1.out.dims
  clear ok1 ok2
  cases hok : ordOk N o with
  | false =>
    have HOK := Lib.hid hok; clear hok
    go_wp2_with fail
    go_ret2
    exact ⟨_, ret_vb HOK.out.symm, by unfold flOut; rw [HOK.out]; exact SSx.nil _ _ _, (HF1.out.below_of hbA (by omega) (by omega))⟩
  | true =>
    have HOK := Lib.hid hok; clear hok
    obtain ⟨hst, hg, hpb, hri, _⟩ := oriOk_parts (ordOk_ori HOK.out)
    have HG := Lib.hid hg
    have HPB := Lib.hid hpb
    have HRI := Lib.hid hri
    have hol : N.ends.length ≤ o.length := by have := ports_len hpb; omega
    obtain ⟨n1, n40⟩ := good_n hg
    clear hst hg hpb hri
    have kbx1_0 : W1.cell? ⟨w.heap.size, 0, none⟩ = some (.slice A1 N.ends.length c1) := (HF1.out.boxN bx1 (by omega)).cell 0 (by simp)
    have kbx1_1 : W1.cell? ⟨w.heap.size, 1, none⟩ = some (.slice A1' N.ids.length c1') := (HF1.out.boxN bx1 (by omega)).cell 1 (by simp)
    have kbx1_2 : W1.cell? ⟨w.heap.size, 2, none⟩ = some (.slice A1'' N.inputs.length c1'') := (HF1.out.boxN bx1 (by omega)).cell 2 (by simp)
    go_wp2_with fail
    clear kbx1_0 kbx1_1 kbx1_2
    refine (byPorts_any _ N lo1 hi1 _ (Net.turned G1.out HF1.out (by omega) (by omega)) (by omega) HG.out).mono ?_
    rintro e W2 ⟨ro, rfl, hro, hb2⟩
    have hg2 := grown_below hb2; clear hb2
    have hs2 := hg2.size
    have HF2 := Lib.hid (HF1.out.still hg2); clear HF1
    have O2 := Lib.hid hro; clear hro
    obtain ⟨Ao, co, rfl, hco, hdo⟩ := ISSx.dims O2.out
    rw [zeroP_length] at hco ⊢
    have N_2 := Lib.hid (Net.turned G1.out HF2.out (by omega) (by omega)); clear G1
    have o_2 := Lib.hid (ISS.turned G2.out HF2.out (by omega) (by omega)); clear G2
    have bx1_2 := HF2.out.boxN bx1 (by omega); clear bx1
    have hbA2 := (HF2.out.below_of hbA (by omega) (by omega)); clear hbA HF2
    rw [zeroP_length] at O2
    obtain ⟨b1, o1, _, _, rfl, _⟩ := Net.rowAt N_2.out (u := 0) (by omega)
    have kbx1_0 : W2.cell? ⟨w.heap.size, 0, none⟩ = some (.slice (some ⟨b1, o1, none⟩) N.ends.length c1) := bx1_2.cell 0 (by simp)
    have kbx1_1 : W2.cell? ⟨w.heap.size, 1, none⟩ = some (.slice A1' N.ids.length c1') := bx1_2.cell 1 (by simp)
    have kbx1_2 : W2.cell? ⟨w.heap.size, 2, none⟩ = some (.slice A1'' N.inputs.length c1'') := bx1_2.cell 2 (by simp)
    go_wp2_with fail
    clear kbx1_0 kbx1_1 kbx1_2
    go_loopw [27] (fun i wr => ∃ (k : Nat) (xss : List (List Int)), k ≤ N.ends.length ∧ i = .int .i64 k ∧ Hid (IntSSx wr W1.heap.size W2.heap.size (.slice Ao N.ends.length co) xss) ∧ Hid (xss = flUp N o k) ∧ Hid (Turned W1.heap.size W2.heap.size W2 wr)) (fun i _ => N.ends.length - (intOf i).toNat)
    case atStart => exact ⟨0, zeroP N, Nat.zero_le _, rfl, O2, Lib.hid rfl, Lib.hid (Turned.refl W1.heap.size W2.heap.size W2)⟩
    case round =>
      obtain ⟨k, xss, hk, rfl, HO, HX, HF3⟩ := hrel
      have hs3 := HF3.out.size
      by_cases hlt : k < N.ends.length
      case neg =>
        obtain rfl : k = N.ends.length := by omega
        go_wp2_with fail
        go_ret2
        refine ⟨_, ret_vb HOK.out.symm, ?_, (HF3.out.below_of hbA2 (by omega) (by omega))⟩
        have e : flOut N o = xss := by unfold flOut; rw [HOK.out, if_pos rfl, HX.out]
        rw [e]
        exact ISSx.mono HO.out (by omega) (by omega)
      obtain ⟨Ar, cr, hbr, qr, hcr, hdr, hRr⟩ := Net.rowIn N_2.out hlt
      replace qr := (HF3.out.cell (by omega) (by omega)).trans qr
      have Rr := Lib.hid hRr; clear hRr
      have hd6 := good_deg HG.out hlt
      have hrw := ports_row HPB.out hlt
      obtain ⟨wo, rfl⟩ : ∃ wo : World, wo = wr := ⟨_, rfl⟩
      go_wp2_with fail
      clear qr
      go_loopw [34] (fun i wi => ∃ (m : Nat) (xss : List (List Int)), m ≤ (nthL N.ends k).length ∧ i = .int .i64 m ∧ Hid (IntSSx wi W1.heap.size W2.heap.size (.slice Ao N.ends.length co) xss) ∧ Hid (xss = flRow N o k m (flUp N o k)) ∧ Hid (Shape N xss) ∧ Hid (Turned W1.heap.size W2.heap.size W2 wi)) (fun i _ => (nthL N.ends k).length - (intOf i).toNat)
      case atStart => exact ⟨0, xss, Nat.zero_le _, rfl, HO, Lib.hid HX.out, Lib.hid (by rw [HX.out]; exact flUp_shape HG.out o k hk), HF3⟩
      case round =>
        clear HF3
        obtain ⟨m, xss, hm, rfl, HO, HY, HS, HF4⟩ := hrel
        have hs4 := HF4.out.size
        by_cases hml : m < (nthL N.ends k).length
        case neg =>
          obtain rfl : m = (nthL N.ends k).length := by omega
          go_wp2_with fail
          go_roundw
          case rel => exact ⟨k + 1, _, by omega, by go_num, HO, Lib.hid (by rw [flUp_succ, HY.out]), HF4⟩
          case measure => simp [intOf]; omega
        obtain ⟨br, or, rfl, _, hbr', er, er'⟩ := (EndS.turned Rr.out HF4.out (by omega) (by omega)).opened hml
        obtain ⟨t, r, etr, ht, hr, eur⟩ := good_end HG.out hlt hml
        rw [etr] at er er'
        dsimp only at er er'
        have ETr := Lib.hid etr
        have EUr := Lib.hid eur
        clear etr eur
        go_upto_region 11 with (fail)
        refine nameC ?_
        intro W5 HW5
        have hg5 : wr.grownBy W5 none := by rw [HW5.out]; exact grown_alloc _ _
        have hs5 := hg5.size
        have HF5 := Lib.hid (HF4.out.still hg5); clear HF4
        have O5 := Lib.hid (ISSx.still HO.out hg5 (by omega)); clear HO
        have bxe5 := Lib.hid (show BoxN W5 wr.heap.size #[.int .i64 t, .int .i64 r] 81 by rw [HW5.out]; exact BoxN.new _ _ _)
        clear HW5
        clear er er'
        have HYY := Lib.hid (show flRow N o k (m + 1) (flUp N o k) = if nth (nthL o k) m = 1 then setAt (setAt xss k m (onesI ((nthL o k).take m))) t r (onesI ((nthL o k).take m)) else xss by rw [flRow_succ, ← HY.out, flStep_at ETr.out])
        have HON := Lib.hid (onesI_take (zs := nthL o k) (k := m) (by omega))
        have hol2 := onesI_le ((nthL o k).take m)
        rw [List.length_take] at hol2
        obtain ⟨bo, oo, u5, rfl, _, hb5, z5, hu5⟩ := SS.opened o_2.out (j := k) (by omega)
        replace z5 := (HF5.out.cell (by omega) (by omega)).trans z5
        obtain ⟨A5, c5, rfl, hc5, hd5⟩ := hu5.dims
        have U5 := Lib.hid (IntS.turned hu5 HF5.out (by omega) (by omega))
        obtain ⟨b6, o6, rfl, _, hb6, x6, _⟩ := IntS.opened U5.out (j := m) (by omega)
        obtain ⟨v1, v2⟩ := rows_val HRI.out (v := k) (i := m) (by omega) (by omega)
        obtain ⟨y, HYV⟩ : ∃ y, Hid (nth (nthL o k) m = y) := ⟨_, Lib.hid rfl⟩
        rw [HYV.out] at x6 HYY v1 v2 HON
        obtain ⟨p, HPP⟩ : ∃ p : Nat, Hid (onesI ((nthL o k).take m) = p) := ⟨_, Lib.hid rfl⟩
        rw [HPP.out] at HYY hol2 HON
        have hko : (k : Int) < o.length := by omega
        have hmo : (m : Int) < (nthL o k).length := by omega
        have hki : (k : Int) < N.ends.length := by omega
        clear hu5
        by_cases hy : y = 1
        case neg =>
          have hy' : (y == 1) = false := by simpa using hy
          have HYN := Lib.hid hy; clear hy
          go_wp2_with fail
          go_roundw
          case rel => exact ⟨m + 1, xss, by omega, by go_num, O5, Lib.hid (by rw [HYY.out, if_neg HYN.out]), HS, HF5⟩
          case measure => simp [intOf]; omega
        have hy' : (y == 1) = true := by simpa using hy
        have HYN := Lib.hid hy; clear hy
        have hxl := HS.out.len
        have hr1 := HS.out.row k hlt
        have hr2 := HS.out.row t ht
        obtain ⟨bT, oT, b2, o2, c2, b3, o3, c3, rfl, p1, p2, p3, p4, p5, p6, q1, q2, q3, q4, q5, q6, s1, s2, s3, s4, pset⟩ := ISSx.place2 O5.out (by omega) (a := k) (i := m) (d := t) (j := r) (by omega) (by omega) (by omega) (by omega)
        obtain ⟨⟨ys, g1⟩, g2, gset⟩ := pset (p : Int)
        have GS := Lib.hid gset; clear gset pset
        have hrow2 : (nthL xss k).length ≤ 6 := by omega
        have hti : (t : Int) < N.ends.length := by omega
        have hmx : (m : Int) < (nthL xss k).length := by omega
        have hrx : (r : Int) < (nthL xss t).length := by omega
        have gf : (W5.setCell ⟨b2, o2 + m, none⟩ (.int .i64 p)).frozen? ⟨b3, o3 + r, none⟩ = false := by rw [World.frozen?_setCell]; exact s4
        have kbxe_0 : W5.cell? ⟨wr.heap.size, 0, none⟩ = some (.int .i64 t) := bxe5.out.cell 0 (by simp)
        have kbxe_1 : W5.cell? ⟨wr.heap.size, 1, none⟩ = some (.int .i64 r) := bxe5.out.cell 1 (by simp)
        go_wp2_with (go_at_call 86; refine (ones_any _ ((nthL o k).take m) _ _ _ (IntS.take U5.out m (by omega)) (by omega) (by rw [List.length_take]; omega)).mono ?_; rintro e w' ⟨rfl, rfl⟩; rw [HPP.out])
        go_region
        go_wp2_with fail
        go_roundw
        case rel =>
          refine ⟨m + 1, _, by omega, by go_num, GS, Lib.hid (by rw [HYY.out, if_pos HYN.out]), Lib.hid ((HS.out.setAt hlt _ _).setAt ht _ _), Lib.hid ?_⟩
          exact (((HF5.out.grown (grown_set W5 ⟨b2, o2 + m, none⟩ (.int .i64 p)) fun g hg => .inl (by cases hg; exact ⟨p3, p4⟩)).grown (grown_set _ ⟨b3, o3 + r, none⟩ (.int .i64 p)) fun g hg => .inl (by cases hg; exact ⟨p5, p6⟩))).still (grown_drew _)
        case measure => simp [intOf]; omega

set_option maxHeartbeats 4000000 in
set_option maxRecDepth 100000 in
theorem ForestLabels_spec (v1 : Value) (N : NetD) (lo1 hi1 : Nat) (v2 : Value) (o : List (List Int)) (lo2 hi2 : Nat) (w : World) (h1 : Net w lo1 hi1 v1 N) (hh1 : hi1 ≤ w.heap.size) (h2 : IntSS w lo2 hi2 v2 o) (hh2 : hi2 ≤ w.heap.size) (hz1 : N.sz ≤ 1048576) (hz2 : szSS o ≤ 1048576) (ok1 : N.Ok) (ok2 : ∀ l ∈ o, ∀ z ∈ l, I64 z) :
    Calls Try.prog 45 #[v1, v2] w fun e w' => ∃ r, e = .returned (.tuple #[r, .bool (ordOk N o)]) ∧ IntSSx w' w.heap.size w'.heap.size r (flOut N o) ∧ Below w.heap.size w w' := by
  have F1 := Lib.hid h1
  obtain ⟨A1, c1, A1', c1', A1'', c1'', rfl, hc1, hd1, _⟩ := h1.parts
  clear h1
  have F2 := Lib.hid h2
  obtain ⟨A2, c2, rfl, hc2, hd2⟩ := h2.dims
  clear h2
  obtain ⟨WA, HWA⟩ : ∃ W, Hid (W = (w.alloc (.cells #[.slice A1 N.ends.length c1, .slice A1' N.ids.length c1', .slice A1'' N.inputs.length c1''] 31))) := ⟨_, Lib.hid rfl⟩
  have hbA : Below w.heap.size w WA := by rw [HWA.out]; exact ((Below.refl _ _).alloc (Nat.le_refl _) _)
  have hsA : w.heap.size + 1 ≤ WA.heap.size := by rw [HWA.out]; simp; try omega
  have bx1 : BoxN WA (w.heap.size) #[.slice A1 N.ends.length c1, .slice A1' N.ids.length c1', .slice A1'' N.inputs.length c1''] 31 := by rw [HWA.out]; exact (BoxN.new' _ _ _ (by simp))
  have G1 := Lib.hid (Net.below F1.out hbA hh1); clear F1
  have G2 := Lib.hid (ISS.below F2.out hbA hh2); clear F2
  go_enter Try.func45, Try.ntmps45
  go_upto_region 1 with (fail)
  rw [← HWA.out]; clear HWA
  have kbx1_0 : WA.cell? ⟨w.heap.size, 0, none⟩ = some (.slice A1 N.ends.length c1) := bx1.cell 0 (by simp)
  have kbx1_1 : WA.cell? ⟨w.heap.size, 1, none⟩ = some (.slice A1' N.ids.length c1') := bx1.cell 1 (by simp)
  have kbx1_2 : WA.cell? ⟨w.heap.size, 2, none⟩ = some (.slice A1'' N.inputs.length c1'') := bx1.cell 2 (by simp)
  go_wp2_with fail
  clear kbx1_0 kbx1_1 kbx1_2
  refine (OrderOfOrientation_spec _ N lo1 hi1 _ o lo2 hi2 _ G1.out (by omega) G2.out (by omega) hz1 hz2 ok1 ok2).mono ?_
  rintro e W1 ⟨r, rfl, hr, hb1⟩
  have hg1 := grown_below hb1; clear hb1
  have hs1 := hg1.size
  have HF1 := Lib.hid ((Turned.refl WA.heap.size WA.heap.size WA).still hg1)
  have R1 := Lib.hid hr; clear hr
  obtain ⟨Ar, cr, rfl, hcr, hdr⟩ := R1.out.dims
  clear ok1 ok2
  cases hok : ordOk N o with
  | false =>
    have HOK := Lib.hid hok; clear hok
    go_wp2_with fail
    go_ret2
    exact ⟨_, ret_vb HOK.out.symm, by unfold flOut; rw [HOK.out]; exact SSx.nil _ _ _, (HF1.out.below_of hbA (by omega) (by omega))⟩
  | true =>
    have HOK := Lib.hid hok; clear hok
    obtain ⟨hst, hg, hpb, hri, _⟩ := oriOk_parts (ordOk_ori HOK.out)
    have HG := Lib.hid hg
    have HPB := Lib.hid hpb
    have HRI := Lib.hid hri
    have hol : N.ends.length ≤ o.length := by have := ports_len hpb; omega
    obtain ⟨n1, n40⟩ := good_n hg
    clear hst hg hpb hri
    have kbx1_0 : W1.cell? ⟨w.heap.size, 0, none⟩ = some (.slice A1 N.ends.length c1) := (HF1.out.boxN bx1 (by omega)).cell 0 (by simp)
    have kbx1_1 : W1.cell? ⟨w.heap.size, 1, none⟩ = some (.slice A1' N.ids.length c1') := (HF1.out.boxN bx1 (by omega)).cell 1 (by simp)
    have kbx1_2 : W1.cell? ⟨w.heap.size, 2, none⟩ = some (.slice A1'' N.inputs.length c1'') := (HF1.out.boxN bx1 (by omega)).cell 2 (by simp)
    go_wp2_with fail
    clear kbx1_0 kbx1_1 kbx1_2
    refine (orZero_any _ N lo1 hi1 _ (Net.turned G1.out HF1.out (by omega) (by omega)) (by omega) HG.out).mono ?_
    rintro e W2 ⟨ro, rfl, hro, hb2⟩
    have hg2 := grown_below hb2; clear hb2
    have hs2 := hg2.size
    have HF2 := Lib.hid (HF1.out.still hg2); clear HF1
    have O2 := Lib.hid hro; clear hro
    obtain ⟨Ao, co, rfl, hco, hdo⟩ := ISSx.dims O2.out
    rw [zeroP_length] at hco ⊢
    have N_2 := Lib.hid (Net.turned G1.out HF2.out (by omega) (by omega)); clear G1
    have o_2 := Lib.hid (ISS.turned G2.out HF2.out (by omega) (by omega)); clear G2
    have bx1_2 := HF2.out.boxN bx1 (by omega); clear bx1
    have hbA2 := (HF2.out.below_of hbA (by omega) (by omega)); clear hbA HF2
    rw [zeroP_length] at O2
    obtain ⟨b1, o1, _, _, rfl, _⟩ := Net.rowAt N_2.out (u := 0) (by omega)
    have kbx1_0 : W2.cell? ⟨w.heap.size, 0, none⟩ = some (.slice (some ⟨b1, o1, none⟩) N.ends.length c1) := bx1_2.cell 0 (by simp)
    have kbx1_1 : W2.cell? ⟨w.heap.size, 1, none⟩ = some (.slice A1' N.ids.length c1') := bx1_2.cell 1 (by simp)
    have kbx1_2 : W2.cell? ⟨w.heap.size, 2, none⟩ = some (.slice A1'' N.inputs.length c1'') := bx1_2.cell 2 (by simp)
    go_wp2_with fail
    clear kbx1_0 kbx1_1 kbx1_2
    go_loopw [27] (fun i wr => ∃ (k : Nat) (xss : List (List Int)), k ≤ N.ends.length ∧ i = .int .i64 k ∧ Hid (IntSSx wr W1.heap.size W2.heap.size (.slice Ao N.ends.length co) xss) ∧ Hid (xss = flUp N o k) ∧ Hid (Turned W1.heap.size W2.heap.size W2 wr)) (fun i _ => N.ends.length - (intOf i).toNat)
    case atStart => exact ⟨0, zeroP N, Nat.zero_le _, rfl, O2, Lib.hid rfl, Lib.hid (Turned.refl W1.heap.size W2.heap.size W2)⟩
    case round =>
      obtain ⟨k, xss, hk, rfl, HO, HX, HF3⟩ := hrel
      have hs3 := HF3.out.size
      by_cases hlt : k < N.ends.length
      case neg =>
        obtain rfl : k = N.ends.length := by omega
        go_wp2_with fail
        go_ret2
        refine ⟨_, ret_vb HOK.out.symm, ?_, (HF3.out.below_of hbA2 (by omega) (by omega))⟩
        have e : flOut N o = xss := by unfold flOut; rw [HOK.out, if_pos rfl, HX.out]
        rw [e]
        exact ISSx.mono HO.out (by omega) (by omega)
      obtain ⟨Ar, cr, hbr, qr, hcr, hdr, hRr⟩ := Net.rowIn N_2.out hlt
      replace qr := (HF3.out.cell (by omega) (by omega)).trans qr
      have Rr := Lib.hid hRr; clear hRr
      have hd6 := good_deg HG.out hlt
      have hrw := ports_row HPB.out hlt
      obtain ⟨wo, rfl⟩ : ∃ wo : World, wo = wr := ⟨_, rfl⟩
      go_wp2_with fail
      clear qr
      go_loopw [34, 11] (fun i cv wi => ∃ (m : Nat) (xss : List (List Int)), m ≤ (nthL N.ends k).length ∧ i = .int .i64 m ∧ cv = .int .i64 (onesI ((nthL o k).take m)) ∧ Hid (IntSSx wi W1.heap.size W2.heap.size (.slice Ao N.ends.length co) xss) ∧ Hid (xss = flRow N o k m (flUp N o k)) ∧ Hid (Shape N xss) ∧ Hid (Turned W1.heap.size W2.heap.size W2 wi)) (fun i cv _ => (nthL N.ends k).length - (intOf i).toNat)
      case atStart => exact ⟨0, xss, Nat.zero_le _, rfl, rfl, HO, Lib.hid HX.out, Lib.hid (by rw [HX.out]; exact flUp_shape HG.out o k hk), HF3⟩
      case round =>
        clear HF3
        obtain ⟨m, xss, hm, rfl, rfl, HO, HY, HS, HF4⟩ := hrel
        have hs4 := HF4.out.size
        by_cases hml : m < (nthL N.ends k).length
        case neg =>
          obtain rfl : m = (nthL N.ends k).length := by omega
          go_wp2_with fail
          go_roundw
          case rel => exact ⟨k + 1, _, by omega, by go_num, HO, Lib.hid (by rw [flUp_succ, HY.out]), HF4⟩
          case measure => simp [intOf]; omega
        obtain ⟨br, or, rfl, _, hbr', er, er'⟩ := (EndS.turned Rr.out HF4.out (by omega) (by omega)).opened hml
        obtain ⟨t, r, etr, ht, hr, eur⟩ := good_end HG.out hlt hml
        rw [etr] at er er'
        dsimp only at er er'
        have ETr := Lib.hid etr
        have EUr := Lib.hid eur
        clear etr eur
        go_upto_region 12 with (fail)
        refine nameC ?_
        intro W5 HW5
        have hg5 : wr.grownBy W5 none := by rw [HW5.out]; exact grown_alloc _ _
        have hs5 := hg5.size
        have HF5 := Lib.hid (HF4.out.still hg5); clear HF4
        have O5 := Lib.hid (ISSx.still HO.out hg5 (by omega)); clear HO
        have bxe5 := Lib.hid (show BoxN W5 wr.heap.size #[.int .i64 t, .int .i64 r] 81 by rw [HW5.out]; exact BoxN.new _ _ _)
        clear HW5
        clear er er'
        have HYY := Lib.hid (show flRow N o k (m + 1) (flUp N o k) = if nth (nthL o k) m = 1 then setAt (setAt xss k m (onesI ((nthL o k).take m))) t r (onesI ((nthL o k).take m)) else xss by rw [flRow_succ, ← HY.out, flStep_at ETr.out])
        have HON := Lib.hid (onesI_take (zs := nthL o k) (k := m) (by omega))
        have hol2 := onesI_le ((nthL o k).take m)
        rw [List.length_take] at hol2
        obtain ⟨bo, oo, u5, rfl, _, hb5, z5, hu5⟩ := SS.opened o_2.out (j := k) (by omega)
        replace z5 := (HF5.out.cell (by omega) (by omega)).trans z5
        obtain ⟨A5, c5, rfl, hc5, hd5⟩ := hu5.dims
        have U5 := Lib.hid (IntS.turned hu5 HF5.out (by omega) (by omega))
        obtain ⟨b6, o6, rfl, _, hb6, x6, _⟩ := IntS.opened U5.out (j := m) (by omega)
        obtain ⟨v1, v2⟩ := rows_val HRI.out (v := k) (i := m) (by omega) (by omega)
        obtain ⟨y, HYV⟩ : ∃ y, Hid (nth (nthL o k) m = y) := ⟨_, Lib.hid rfl⟩
        rw [HYV.out] at x6 HYY v1 v2 HON
        obtain ⟨p, HPP⟩ : ∃ p : Nat, Hid (onesI ((nthL o k).take m) = p) := ⟨_, Lib.hid rfl⟩
        rw [HPP.out] at HYY hol2 HON ⊢
        have hko : (k : Int) < o.length := by omega
        have hmo : (m : Int) < (nthL o k).length := by omega
        have hki : (k : Int) < N.ends.length := by omega
        clear hu5
        by_cases hy : y = 1
        case neg =>
          have hy' : (y == 1) = false := by simpa using hy
          have HYN := Lib.hid hy; clear hy
          go_wp2_with fail
          go_roundw
          case rel => exact ⟨m + 1, xss, by omega, by go_num, by rw [HON.out, if_neg (by have := HYN.out; omega)]; rfl, O5, Lib.hid (by rw [HYY.out, if_neg HYN.out]), HS, HF5⟩
          case measure => simp [intOf]; omega
        have hy' : (y == 1) = true := by simpa using hy
        have HYN := Lib.hid hy; clear hy
        have hxl := HS.out.len
        have hr1 := HS.out.row k hlt
        have hr2 := HS.out.row t ht
        obtain ⟨bT, oT, b2, o2, c2, b3, o3, c3, rfl, p1, p2, p3, p4, p5, p6, q1, q2, q3, q4, q5, q6, s1, s2, s3, s4, pset⟩ := ISSx.place2 O5.out (by omega) (a := k) (i := m) (d := t) (j := r) (by omega) (by omega) (by omega) (by omega)
        obtain ⟨⟨ys, g1⟩, g2, gset⟩ := pset (p : Int)
        have GS := Lib.hid gset; clear gset pset
        have hrow2 : (nthL xss k).length ≤ 6 := by omega
        have hti : (t : Int) < N.ends.length := by omega
        have hmx : (m : Int) < (nthL xss k).length := by omega
        have hrx : (r : Int) < (nthL xss t).length := by omega
        have gf : (W5.setCell ⟨b2, o2 + m, none⟩ (.int .i64 p)).frozen? ⟨b3, o3 + r, none⟩ = false := by rw [World.frozen?_setCell]; exact s4
        have kbxe_0 : W5.cell? ⟨wr.heap.size, 0, none⟩ = some (.int .i64 t) := bxe5.out.cell 0 (by simp)
        have kbxe_1 : W5.cell? ⟨wr.heap.size, 1, none⟩ = some (.int .i64 r) := bxe5.out.cell 1 (by simp)
        have ke0 : (W5.setCell ⟨b2, o2 + m, none⟩ (.int .i64 p)).cell? ⟨wr.heap.size, 0, none⟩ = some (.int .i64 t) := by rw [World.cell?_setCell_other _ _ _ _ (by intro e; injection e with e _ _; omega)]; exact kbxe_0
        have ke1 : (W5.setCell ⟨b2, o2 + m, none⟩ (.int .i64 p)).cell? ⟨wr.heap.size, 1, none⟩ = some (.int .i64 r) := by rw [World.cell?_setCell_other _ _ _ _ (by intro e; injection e with e _ _; omega)]; exact kbxe_1
        go_wp2_with fail
        go_region
        go_wp2_with fail
        go_roundw
        case rel =>
          refine ⟨m + 1, _, by omega, by go_num, by rw [HON.out, if_pos HYN.out]; rfl, GS, Lib.hid (by rw [HYY.out, if_pos HYN.out]), Lib.hid ((HS.out.setAt hlt _ _).setAt ht _ _), Lib.hid ?_⟩
          exact (((HF5.out.grown (grown_set W5 ⟨b2, o2 + m, none⟩ (.int .i64 p)) fun g hg => .inl (by cases hg; exact ⟨p3, p4⟩)).grown (grown_set _ ⟨b3, o3 + r, none⟩ (.int .i64 p)) fun g hg => .inl (by cases hg; exact ⟨p5, p6⟩))).still (grown_drew _)
        case measure => simp [intOf]; omega

end Go.Proofs.Ytapfighdnfmdcaa
