/-
  Several texts in one: Car3, CarR. No condition on any program.
-/
import Derived.Test.YtcmmklcampmkjaaBcP
import Derived.Test.YtcmmklcampmkjaaBcT

/- Contracts: deLess, deBall (reference). -/
namespace Go.Proofs.Ytcmmklcampmkjaa
open Go.ChangeShapes Go.WideShapes Go.ChangeAt Go.RowKit
set_option linter.unusedVariables false

/-- a list without some elements -/
def lessC (l b : List Int) : List Int := l.filter fun x => !decide (x ∈ b)
theorem lessC_len (l b : List Int) : (lessC l b).length ≤ l.length := List.length_filter_le _ _
theorem lessC_in {l b : List Int} {k : Nat} (hk : k < l.length) (h : nth l k ∈ b) : lessC (l.take (k + 1)) b = lessC (l.take k) b := by
  unfold lessC
  rw [List.take_succ_eq_append_getElem hk, List.filter_append, ← nth_eq hk, List.filter_cons_of_neg (by simp [h])]
  simp
theorem lessC_out {l b : List Int} {k : Nat} (hk : k < l.length) (h : ¬ nth l k ∈ b) : lessC (l.take (k + 1)) b = lessC (l.take k) b ++ [nth l k] := by
  unfold lessC
  rw [List.take_succ_eq_append_getElem hk, List.filter_append, ← nth_eq hk, List.filter_cons_of_pos (by simp [h])]
  simp

set_option maxHeartbeats 2000000 in
set_option maxRecDepth 100000 in
theorem deLessC_any (v1 : Value) (L : List Int) (lo1 hi1 : Nat) (v2 : Value) (B : List Int) (lo2 hi2 : Nat) (w : World) (h1 : IntS w lo1 hi1 v1 L) (hh1 : hi1 ≤ w.heap.size) (h2 : IntS w lo2 hi2 v2 B) (hh2 : hi2 ≤ w.heap.size) (hn : L.length ≤ 1048576) :
    Calls Try.prog 64 #[v1, v2] w fun e w' => ∃ r, e = .returned (r) ∧ IntS w' w.heap.size w'.heap.size r (lessC L B) ∧ Below w.heap.size w w' := by
  have F1 := Lib.hid h1
  obtain ⟨A1, c1, rfl, hc1, hd1⟩ := h1.dims
  clear h1
  have F2 := Lib.hid h2
  obtain ⟨A2, c2, rfl, hc2, hd2⟩ := h2.dims
  clear h2
  go_enter Try.func64, Try.ntmps64
  go_wp2_with fail
  go_loopw [10, 5] (fun kv ov wr => ∃ (k : Nat) (zs : List Int), k ≤ L.length ∧ kv = .int .i64 k ∧ Hid (zs = lessC (L.take k) B) ∧ Hid (OwnI wr w.heap.size 3 ov zs) ∧ Hid (Turned w.heap.size w.heap.size w wr)) (fun kv ov _ => L.length - (intOf kv).toNat)
  case atStart => exact ⟨0, [], Nat.zero_le _, rfl, Lib.hid rfl, Lib.hid (OwnI.nil _ _ _), Lib.hid (Turned.refl w.heap.size w.heap.size w)⟩
  case round =>
    obtain ⟨k, zs, hk, rfl, HZ, HO, HF1⟩ := hrel
    have hs1 := HF1.out.size
    have hzl : zs.length ≤ L.length := by rw [HZ.out]; exact Nat.le_trans (lessC_len _ _) (by rw [List.length_take]; omega)
    by_cases hkn : k < L.length
    case neg =>
      obtain rfl : k = L.length := by omega
      have HR := Lib.hid HO.out.ints
      rw [HZ.out, List.take_length] at HR
      obtain ⟨Ar, cr, rfl, hcr, hdr⟩ := HR.out.dims
      go_wp2_with fail
      go_ret
      exact ⟨_, rfl, HR.out, (HF1.out.below_of (Below.refl _ _) (by omega) (by omega))⟩
    have hki : (k : Int) < L.length := by omega
    have HLT := Lib.hid HO.out.lt
    obtain ⟨be, oe, rfl, _, hbe', xe, _⟩ := (IntS.turned F1.out HF1.out (by omega) (by omega)).opened hkn
    obtain ⟨x, HX⟩ : ∃ x, Hid (nth L k = x) := ⟨_, Lib.hid rfl⟩
    rw [HX.out] at xe
    go_wp2_with fail
    refine (l1Has_any _ B x _ _ _ (IntS.turned F2.out HF1.out (by omega) (by omega))).mono ?_
    rintro e w' ⟨rfl, rfl⟩
    by_cases hm : x ∈ B
    case pos =>
      have HNX := Lib.hid (show lessC (L.take (k + 1)) B = zs by rw [lessC_in hkn (by rw [HX.out]; exact hm), HZ.out])
      go_wp2_with fail
      go_roundw
      case rel => exact ⟨k + 1, zs, by omega, by go_num, Lib.hid HNX.out.symm, HO, HF1⟩
      case measure => simp [intOf]; omega
    have HNX := Lib.hid (show lessC (L.take (k + 1)) B = zs ++ [x] by rw [lessC_out hkn (by rw [HX.out]; exact hm), HZ.out, HX.out])
    go_wp2_with (at_builtin; refine append_int (s := .tmp 18) Try.underlying23 Try.info3 (by decide) wr rfl _ rfl HO.out x _ rfl (by simp [Act.eval, go_sem]) (by omega) (by omega) ?_; intro v' w' ho' hg' hat')
    go_roundw
    case rel => exact ⟨k + 1, zs ++ [x], by omega, by go_num, Lib.hid HNX.out.symm, Lib.hid ho', Lib.hid (HF1.out.grown hg' fun g e => .inr (HLT.out g e).1)⟩
    case measure => simp [intOf]; omega

set_option maxHeartbeats 4000000 in
set_option maxRecDepth 100000 in
theorem deBall_any (v1 : Value) (N : NetD) (lo1 hi1 : Nat) (v2 : Value) (Z : List Int) (lo2 hi2 : Nat) (c : Nat) (r : Int) (w : World) (h1 : Net w lo1 hi1 v1 N) (hh1 : hi1 ≤ w.heap.size) (h2 : IntS w lo2 hi2 v2 Z) (hh2 : hi2 ≤ w.heap.size) (ac : List Bool) (hg : N.good = true) (hc : c < N.ends.length) (hac : nthB ac c = true) (hZ : Z = actL ac N.ends.length) :
    Calls Try.prog 63 #[v1, v2, .int .i64 (c : Nat), .int .i64 r] w fun e w' => ∃ q, e = .returned (q) ∧ IntS w' w.heap.size w'.heap.size q (ballL (dA N ac c) r N.ends.length) ∧ Below w.heap.size w w' := by
  obtain ⟨n1, n40⟩ := good_n hg
  have HG := Lib.hid hg; clear hg
  obtain ⟨p, hp, ep⟩ := (pick_mem (actL_pick N ac)).1 (mem_actL.2 ⟨c, hc, hac, rfl⟩)
  have HBA := Lib.hid (ball_alone (ac := ac) HG.out hc hac hp ep r)
  have HQG := Lib.hid (keep_good (ac := ac) HG.out hc hac)
  have HPK := Lib.hid (actL_pick N ac)
  have hzn := actL_len ac N.ends.length
  have HON := Lib.hid (fun (a b : Nat) ha hb e => sorted_once (actL_sorted ac N.ends.length) (a := a) (b := b) ha hb e)
  have HEP := Lib.hid ep; clear ep
  rw [← hZ] at hp HBA HQG HPK hzn HON HEP
  have HQN := Lib.hid (part_n N Z (kpB N Z))
  clear hZ
  have F1 := Lib.hid h1
  obtain ⟨A1, c1, A1', c1', A1'', c1'', rfl, hc1, hd1, _⟩ := h1.parts
  obtain ⟨b1, o1, _, _, rfl, _⟩ := Net.rowAt F1.out (u := 0) (by omega)
  clear h1
  have F2 := Lib.hid h2
  obtain ⟨A2, c2, rfl, hc2, hd2⟩ := h2.dims
  clear h2
  obtain ⟨WA, HWA⟩ : ∃ W, Hid (W = (w.alloc (.cells #[.slice (some ⟨b1, o1, none⟩) N.ends.length c1, .slice A1' N.ids.length c1', .slice A1'' N.inputs.length c1''] 34))) := ⟨_, Lib.hid rfl⟩
  have hbA : Below w.heap.size w WA := by rw [HWA.out]; exact ((Below.refl _ _).alloc (Nat.le_refl _) _)
  have hsA : w.heap.size + 1 ≤ WA.heap.size := by rw [HWA.out]; simp; try omega
  have bx1 : BoxN WA (w.heap.size) #[.slice (some ⟨b1, o1, none⟩) N.ends.length c1, .slice A1' N.ids.length c1', .slice A1'' N.inputs.length c1''] 34 := by rw [HWA.out]; exact (BoxN.new' _ _ _ (by simp))
  have G1 := Lib.hid (Net.below F1.out hbA hh1); clear F1
  have G2 := Lib.hid (IntS.below F2.out hbA hh2); clear F2
  go_enter Try.func63, Try.ntmps63
  go_upto_region 1 with (fail)
  rw [← HWA.out]; clear HWA
  go_wp2_with fail
  go_loopw [17, 10] (fun kv av wr => ∃ (k a : Nat), k ≤ Z.length ∧ kv = .int .i64 k ∧ av = .int .i64 a ∧ Hid (∀ j, j < k → nth Z j = (c : Int) → a = j) ∧ Hid (Turned WA.heap.size WA.heap.size WA wr)) (fun kv av _ => Z.length - (intOf kv).toNat)
  case atStart => exact ⟨0, 0, Nat.zero_le _, rfl, rfl, Lib.hid (fun j hj => absurd hj (by omega)), Lib.hid (Turned.refl WA.heap.size WA.heap.size WA)⟩
  case round =>
    obtain ⟨k, a, hk, rfl, rfl, HA, HF1⟩ := hrel
    have hs1 := HF1.out.size
    by_cases hkn : k < Z.length
    case pos =>
      have hki : (k : Int) < Z.length := by omega
      obtain ⟨be, oe, rfl, _, hbe', xe, _⟩ := (IntS.turned G2.out HF1.out (by omega) (by omega)).opened hkn
      obtain ⟨x, HX⟩ : ∃ x, Hid (nth Z k = x) := ⟨_, Lib.hid rfl⟩
      rw [HX.out] at xe
      by_cases hxc : x = (c : Int)
      case pos =>
        subst hxc
        go_wp2_with fail
        go_roundw
        case rel => exact ⟨k + 1, k, by omega, by go_num, rfl, Lib.hid (fun j hj e => HON.out _ _ hkn (by omega) (by rw [e, HX.out])), HF1⟩
        case measure => simp [intOf]; omega
      go_wp2_with fail
      go_roundw
      case rel => exact ⟨k + 1, a, by omega, by go_num, rfl, Lib.hid (fun j hj e => if ej : j = k then absurd (by rw [← HX.out, ← ej]; exact e) hxc else HA.out j (by omega) e), HF1⟩
      case measure => simp [intOf]; omega
    obtain rfl : k = Z.length := by omega
    obtain rfl := HA.out p hp HEP.out
    have kbx1_0 : wr.cell? ⟨w.heap.size, 0, none⟩ = some (.slice (some ⟨b1, o1, none⟩) N.ends.length c1) := (HF1.out.boxN bx1 (by omega)).cell 0 (by simp)
    have kbx1_1 : wr.cell? ⟨w.heap.size, 1, none⟩ = some (.slice A1' N.ids.length c1') := (HF1.out.boxN bx1 (by omega)).cell 1 (by simp)
    have kbx1_2 : wr.cell? ⟨w.heap.size, 2, none⟩ = some (.slice A1'' N.inputs.length c1'') := (HF1.out.boxN bx1 (by omega)).cell 2 (by simp)
    obtain ⟨Q, HQ⟩ : ∃ Q, Hid (partN N Z (kpB N Z) = Q) := ⟨_, Lib.hid rfl⟩
    rw [HQ.out] at HBA HQG HQN
    go_wp2_with fail
    clear kbx1_0 kbx1_1 kbx1_2
    refine (neKeep_any _ N lo1 hi1 _ Z lo2 hi2 _ (Net.turned G1.out HF1.out (by omega) (by omega)) (by omega) (IntS.turned G2.out HF1.out (by omega) (by omega)) (by omega) HG.out HPK.out (by omega)).mono ?_
    rw [HQ.out]
    rintro e W2 ⟨rp, rfl, hrp, hb2⟩
    have hg2 := grown_below hb2; clear hb2
    have hs2 := hg2.size
    have HF2 := Lib.hid (HF1.out.still hg2); clear HF1
    obtain ⟨A5, c5, A6, c6, A7, c7, rfl, hc5, hd5, _⟩ := hrp.parts
    have M2 := Lib.hid hrp; clear hrp
    go_wp2_with fail
    refine (meBall_any _ Q _ _ a r _ M2.out (by omega) HQG.out (by rw [HQN.out]; exact hp)).mono ?_
    obtain ⟨Y, HY⟩ : ∃ Y, Hid (ball Q a r = Y) := ⟨_, Lib.hid rfl⟩
    have HYN := Lib.hid (show ∀ x ∈ Y, ∃ t : Nat, x = t ∧ t < Z.length from fun x hx => by
      rw [← HY.out] at hx
      obtain ⟨t, ht, _, e⟩ := mem_ball.1 hx
      exact ⟨t, e, by rw [← HQN.out]; exact ht⟩)
    have hyl : Y.length ≤ 40 := by
      rw [← HY.out]
      refine Nat.le_trans (ballL_len _ _ _) ?_
      rw [HQN.out]; omega
    rw [HY.out] at HBA
    rw [HY.out]
    rintro e W3 ⟨ry, rfl, hry, hb3⟩
    have hg3 := grown_below hb3; clear hb3
    have hs3 := hg3.size
    have HF3 := Lib.hid (HF2.out.still hg3); clear HF2
    have M3 := Lib.hid (NetF.still M2.out hg3 (by omega)); clear M2
    obtain ⟨Ay, cy, rfl, hcy, hdy⟩ := hry.dims
    have Y3 := Lib.hid hry; clear hry
    have N_3 := Lib.hid (Net.turned G1.out HF3.out (by omega) (by omega)); clear G1
    have Z_3 := Lib.hid (IntS.turned G2.out HF3.out (by omega) (by omega)); clear G2
    have bx1_3 := HF3.out.boxN bx1 (by omega); clear bx1
    have hbA3 : Below w.heap.size w W3 := (HF3.out.below_of hbA (by omega) (by omega)); clear hbA HF3
    go_wp2_with fail
    go_loopw [34, 9] (fun jv ov wr => ∃ (j : Nat) (zs : List Int), j ≤ Y.length ∧ jv = .int .i64 j ∧ Hid (zs = (Y.take j).map fun k => nth Z k.toNat) ∧ Hid (OwnI wr W3.heap.size 3 ov zs) ∧ Hid (Turned W3.heap.size W3.heap.size W3 wr)) (fun jv ov _ => Y.length - (intOf jv).toNat)
    case atStart => exact ⟨0, [], Nat.zero_le _, rfl, Lib.hid rfl, Lib.hid (OwnI.nil _ _ _), Lib.hid (Turned.refl W3.heap.size W3.heap.size W3)⟩
    case round =>
      obtain ⟨j, zs, hj, rfl, HZS, HO, HF4⟩ := hrel
      have hs4 := HF4.out.size
      have hzl : zs.length ≤ 40 := by rw [HZS.out, List.length_map, List.length_take]; omega
      by_cases hjn : j < Y.length
      case neg =>
        obtain rfl : j = Y.length := by omega
        have HR := Lib.hid HO.out.ints
        rw [HZS.out, List.take_length, HBA.out] at HR
        obtain ⟨Ar, cr, rfl, hcr, hdr⟩ := HR.out.dims
        go_wp2_with fail
        go_ret
        exact ⟨_, rfl, IntS.mono HR.out (by omega) (Nat.le_refl _), (HF4.out.below_of hbA3 (by omega) (by omega))⟩
      have hji : (j : Int) < Y.length := by omega
      have HLT := Lib.hid HO.out.lt
      obtain ⟨u, eu, hu⟩ := HYN.out _ (nth_mem hjn)
      have HEU := Lib.hid eu
      obtain ⟨be, oe, rfl, _, hbe', xe, _⟩ := (IntS.turned Y3.out HF4.out (by omega) (by omega)).opened hjn
      obtain ⟨bf, of, rfl, _, hbf', xf, _⟩ := (IntS.turned Z_3.out HF4.out (by omega) (by omega)).opened hu
      rw [eu] at xe
      clear eu
      obtain ⟨x, HX⟩ : ∃ x, Hid (nth Z u = x) := ⟨_, Lib.hid rfl⟩
      rw [HX.out] at xf
      have HNX := Lib.hid (show (Y.take (j + 1)).map (fun k => nth Z k.toNat) = zs ++ [x] by rw [List.take_succ_eq_append_getElem hjn, List.map_append, ← HZS.out, ← nth_eq hjn, HEU.out, ← HX.out]; rfl)
      have hui : (u : Int) < Z.length := by omega
      go_wp2_with (at_builtin; refine append_int (s := .tmp 38) Try.underlying23 Try.info3 (by decide) wr rfl _ rfl HO.out x _ rfl (by simp [Act.eval, go_sem]) (by omega) (by omega) ?_; intro v' w' ho' hg' hat')
      go_roundw
      case rel => exact ⟨j + 1, zs ++ [x], by omega, by go_num, Lib.hid HNX.out.symm, Lib.hid ho', Lib.hid (HF4.out.grown hg' fun g e => .inr (HLT.out g e).1)⟩
      case measure => simp [intOf]; omega

end Go.Proofs.Ytcmmklcampmkjaa

/- Plain: the lists that the reference keeps while carving. No condition on any program. -/
namespace Go.Proofs.Ytcmmklcampmkjaa
open Go.ChangeShapes Go.WideShapes Go.ChangeAt Go.RowKit
set_option linter.unusedVariables false

/-- the nodes without a cluster -/
def openL (cl : List Int) (n : Nat) : List Int := ((List.range n).filter fun v => decide (nth cl v < 0)).map fun (v : Nat) => (v : Int)
/-- the clusters as the reference keeps them -/
def baseC (cl : List Int) (n : Nat) : List Int := (List.range n).map fun v => if nth cl v < 0 then 0 else nth cl v
/-- with the first j nodes of a list turned to K -/
def baseAt (cl own : List Int) (K : Int) (n j : Nat) : List Int := (List.range n).map fun (v : Nat) => if (v : Int) ∈ own.take j then K else if nth cl v < 0 then 0 else nth cl v
theorem openL_len (cl : List Int) (n : Nat) : (openL cl n).length = bareC cl n := by unfold openL bareC; rw [List.length_map]
theorem bareC_le (cl : List Int) (n : Nat) : bareC cl n ≤ n := by
  unfold bareC; exact Nat.le_trans (List.length_filter_le _ _) (by simp)
theorem openL_start (n : Nat) : openL (List.replicate n (-1)) n = upTo n := by
  unfold openL upTo
  rw [List.filter_eq_self.2 fun v hv => by rw [nth_replicate _ _ (List.mem_range.1 hv)]; rfl]
theorem baseC_len (cl : List Int) (n : Nat) : (baseC cl n).length = n := by simp [baseC]
theorem baseAt_len (cl own : List Int) (K : Int) (n j : Nat) : (baseAt cl own K n j).length = n := by simp [baseAt]
theorem baseC_start (n : Nat) : baseC (List.replicate n (-1)) n = List.replicate n 0 := by
  apply ext_nth (by rw [baseC_len]; simp)
  intro i hi
  rw [baseC_len] at hi
  unfold baseC
  rw [nth_mapR hi, nth_replicate _ _ hi, nth_replicate _ _ hi, if_pos (by omega)]
theorem baseC_end {cl : List Int} {n : Nat} (hl : cl.length = n) (h : bareC cl n = 0) : baseC cl n = cl := by
  apply ext_nth (by rw [baseC_len, hl])
  intro i hi
  rw [baseC_len] at hi
  unfold baseC
  rw [nth_mapR hi, if_neg (bareC_zero.1 h i hi)]
theorem baseAt_zero (cl own : List Int) (K : Int) (n : Nat) : baseAt cl own K n 0 = baseC cl n := range_same fun v hv => by rw [List.take_zero, if_neg (by simp)]
theorem baseAt_step {cl own : List Int} {K : Int} {n j u : Nat} (hj : j < own.length) (hu : nth own j = (u : Int)) : (baseAt cl own K n j).set u K = baseAt cl own K n (j + 1) := by
  refine range_set fun v hv => ?_
  have h := take_mem hj hu v
  rw [Bool.eq_iff_iff] at h
  simp only [Bool.or_eq_true, decide_eq_true_eq] at h
  by_cases e : v = u
  · rw [if_pos e, if_pos (h.2 (.inr e))]
  · rw [if_neg e]
    by_cases hm : (v : Int) ∈ own.take j
    · rw [if_pos hm, if_pos (h.2 (.inl hm))]
    · rw [if_neg hm, if_neg (fun x => (h.1 x).elim hm e)]
section
variable {N : NetD} {s : CarD} {k c R : Nat} {D : List Int}
theorem baseAt_end {K : Int} (hK : 0 ≤ K) {cl : List Int} {n : Nat} {r : Int} : baseAt cl (ballL D r n) K n (ballL D r n).length = baseC ((List.range n).map fun v => if inB (nth D v) 0 r then K else nth cl v) n := by
  refine range_same fun v hv => ?_
  rw [List.take_length, nth_mapR hv]
  have hm : ((v : Int) ∈ ballL D r n) ↔ inB (nth D v) 0 r = true := by
    rw [mem_ballL]
    exact ⟨fun ⟨w, _, h, e⟩ => by rw [show v = w by omega]; exact h, fun h => ⟨v, hv, h, rfl⟩⟩
  by_cases h : inB (nth D v) 0 r = true
  · rw [if_pos (hm.2 h), if_pos h, if_neg (by omega)]
  · rw [if_neg (fun x => h (hm.1 x)), if_neg h]
theorem less_open {K : Int} (hK : 0 ≤ K) {cl : List Int} {n : Nat} {r : Int} : lessC (openL cl n) (ballL D r n) = openL ((List.range n).map fun v => if inB (nth D v) 0 r then K else nth cl v) n := by
  unfold lessC openL
  rw [List.filter_map, List.filter_filter]
  congr 1
  refine List.filter_congr fun v hv => ?_
  rw [List.mem_range] at hv
  rw [nth_mapR hv, Bool.eq_iff_iff]
  simp only [Function.comp, Bool.and_eq_true, Bool.not_eq_true', decide_eq_false_iff_not, decide_eq_true_eq]
  have hm : ((v : Int) ∈ ballL D r n) ↔ inB (nth D v) 0 r = true := by
    rw [mem_ballL]
    exact ⟨fun ⟨w, _, h, e⟩ => by rw [show v = w by omega]; exact h, fun h => ⟨v, hv, h, rfl⟩⟩
  rw [hm]
  by_cases h : inB (nth D v) 0 r = true
  · rw [if_pos h]
    exact ⟨fun x => absurd h x.1, fun x => by omega⟩
  · rw [if_neg h]
    exact ⟨fun x => x.2, fun x => ⟨h, x⟩⟩
theorem less_act {ac : List Bool} {n : Nat} {r : Int} : lessC (actL ac n) (ballL D r n) = actL ((List.range n).map fun v => nthB ac v && !inB (nth D v) 0 r) n := by
  unfold lessC actL
  rw [List.filter_map, List.filter_filter]
  congr 1
  refine List.filter_congr fun v hv => ?_
  rw [List.mem_range] at hv
  rw [nthB_mapR hv, Bool.eq_iff_iff]
  simp only [Function.comp, Bool.and_eq_true, Bool.not_eq_true', decide_eq_false_iff_not]
  have hm : ((v : Int) ∈ ballL D r n) ↔ inB (nth D v) 0 r = true := by
    rw [mem_ballL]
    exact ⟨fun ⟨w, _, h, e⟩ => by rw [show v = w by omega]; exact h, fun h => ⟨v, hv, h, rfl⟩⟩
  rw [hm]
  simp only [Bool.not_eq_true]
  exact ⟨fun x => ⟨x.2, x.1⟩, fun x => ⟨x.2, x.1⟩⟩
theorem mxD_atC {N : NetD} {ac : List Bool} (hg : N.good = true) {c : Nat} (hc : c < N.ends.length) : (∀ v, v < N.ends.length → nth (dA N ac c) v ≤ ((40 : Nat) : Int)) ∧ True := ⟨fun v hv => by
  have := (dA_low (ac := ac) hg hc hv).2
  have := (good_n hg).2
  omega, trivial⟩
theorem act_open (cl : List Int) (n : Nat) : actL (opens cl n) n = openL cl n := by
  unfold actL openL
  congr 1
  refine List.filter_congr fun v hv => ?_
  rw [nthB_opens (List.mem_range.1 hv)]
end

end Go.Proofs.Ytcmmklcampmkjaa
