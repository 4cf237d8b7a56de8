/-
  Contracts: greedy colours of nodes in an order, near and at distances (program and reference).
-/
import Derived.Test.YtakcjdlliejldaaGreatPerm
import Derived.Test.YtakcjdlliejldaaGreatPeelP
namespace Go.Proofs.YtakcjdlliejldaaGreat
open Go.ChangeShapes Go.WideShapes Go.ChangeAt Go.RowKit
set_option linter.unusedVariables false

def gcStep (N : NetD) (out : List Int) (v : Int) : List Int := out.set v.toNat (lf (nears N v.toNat out))
def negs (n : Nat) : List Int := List.replicate n (-1)
theorem negs_length (n : Nat) : (negs n).length = n := by simp [negs]
def gcAll (N : NetD) (zs : List Int) : List Int := zs.foldl (gcStep N) (negs N.ends.length)
def gcOut (N : NetD) (zs : List Int) : List Int := if orderB N zs = true then gcAll N zs else []
theorem foldl_takeI {β : Type} (f : β → Int → β) (l : List Int) (x : β) {k : Nat} (hk : k < l.length) : (l.take (k + 1)).foldl f x = f ((l.take k).foldl f x) (nth l k) := by
  rw [List.take_succ_eq_append_getElem hk, List.foldl_append, nth_eq hk]; rfl
theorem set_foldl_len {f : List Int → Int → List Int} (hf : ∀ o v, (f o v).length = o.length) (zs : List Int) (x : List Int) : (zs.foldl f x).length = x.length := by
  induction zs generalizing x with
  | nil => rfl
  | cons z zs ih => rw [List.foldl_cons, ih, hf]
theorem gcAll_len (N : NetD) (zs : List Int) : (gcAll N zs).length = N.ends.length := by
  unfold gcAll; rw [set_foldl_len (fun o v => by simp [gcStep]), negs_length]
theorem gcOut_len (N : NetD) (zs : List Int) : (gcOut N zs).length ≤ N.sz := by
  unfold gcOut NetD.sz szSS; split
  · rw [gcAll_len]; omega
  · exact Nat.zero_le _
theorem orderB_parts {N : NetD} {zs : List Int} (h : orderB N zs = true) : N.good = true ∧ permB zs N.ends.length = true := by
  unfold orderB at h; rwa [Bool.and_eq_true] at h
def thruL (l at_ : List Int) : List Int := at_.map fun x => nth l x.toNat
def lessL (l less : List Int) : List Int := l.filter fun x => !decide (x ∈ less)
theorem thruL_length (l at_ : List Int) : (thruL l at_).length = at_.length := by simp [thruL]
theorem lessL_le (l less : List Int) : (lessL l less).length ≤ l.length := List.length_filter_le _ _
/-- the neighbours but the node itself -/
def seen (N : NetD) (v : Nat) : List Int := (nbs N v).filter fun x => !decide (x = (v : Int))
theorem seen_len (N : NetD) (v : Nat) : (seen N v).length ≤ (nthL N.ends v).length := by rw [← nbs_length]; exact List.length_filter_le _ _
theorem lf_seen {N : NetD} {v : Nat} {out : List Int} (hv : nth out v = -1) : lf (thruL out (seen N v)) = lf (nears N v out) := by
  apply lf_congr
  intro x hx
  unfold thruL seen nears
  simp only [List.mem_map, List.mem_filter, Bool.not_eq_true', decide_eq_false_iff_not]
  constructor
  · rintro ⟨w, ⟨h1, _⟩, e⟩; exact ⟨w, h1, e⟩
  · rintro ⟨w, h1, e⟩
    refine ⟨w, ⟨h1, fun h => ?_⟩, e⟩
    rw [h, Int.toNat_natCast, hv] at e
    omega
/-- what the reference's list is, and that nodes to come have no colour yet -/
theorem gc_fresh {f : List Int → Int → List Int} (hl : ∀ o v, (f o v).length = o.length) (hf : ∀ o v (j : Nat), (j : Int) ≠ v → 0 ≤ v → nth (f o v) j = nth o j) {zs : List Int} {n : Nat} (hp : permB zs n = true) : ∀ k, k ≤ zs.length → ∀ t : Nat, t < n → (t : Int) ∉ zs.take k → nth ((zs.take k).foldl f (negs n)) t = -1
  | 0, _, t, ht, _ => by show nth (negs n) t = -1; exact nth_replicate _ _ ht
  | k + 1, hk, t, ht, hm => by
    rw [foldl_takeI _ _ _ (by omega)]
    rw [List.take_succ_eq_append_getElem (by omega)] at hm
    simp only [List.mem_append, List.mem_singleton, not_or] at hm
    obtain ⟨s, es, hs, _⟩ := perm_at hp (k := k) (by omega)
    rw [hf _ _ t (by rw [nth_eq (by omega)]; exact hm.2) (by rw [es]; omega)]
    exact gc_fresh hl hf hp k (by omega) t ht hm.1
theorem gcStep_other (N : NetD) (o : List Int) (v : Int) (j : Nat) (h : (j : Int) ≠ v) (h0 : 0 ≤ v) : nth (gcStep N o v) j = nth o j := by
  unfold gcStep
  by_cases hl : v.toNat < o.length
  · rw [nth_set _ _ _ _ hl, if_neg (by omega)]
  · rw [List.set_eq_of_length_le (by omega)]
def usedOf (ds out : List Int) (k : Int) (m : Nat) : List Int := ((List.range m).filter fun w => inB (nth ds w) 1 k).map fun w => nth out w
theorem used_yes {ds out : List Int} {k : Int} {m : Nat} (h : inB (nth ds m) 1 k = true) : usedOf ds out k (m + 1) = usedOf ds out k m ++ [nth out m] := by simp [usedOf, List.range_succ, h]
theorem used_no {ds out : List Int} {k : Int} {m : Nat} (h : inB (nth ds m) 1 k = false) : usedOf ds out k (m + 1) = usedOf ds out k m := by simp [usedOf, List.range_succ, h]
def gdStep (N : NetD) (k : Int) (out : List Int) (v : Int) : List Int := out.set v.toNat (lf (usedOf (dist N v.toNat) out k N.ends.length))
def gdAll (N : NetD) (zs : List Int) (k : Int) : List Int := zs.foldl (gdStep N k) (negs N.ends.length)
def gdOk (N : NetD) (zs : List Int) (k : Int) : Bool := orderB N zs && inB k 1 40
def gdOut (N : NetD) (zs : List Int) (k : Int) : List Int := if gdOk N zs k = true then gdAll N zs k else []
theorem gdOut_len (N : NetD) (zs : List Int) (k : Int) : (gdOut N zs k).length ≤ N.sz := by
  unfold gdOut NetD.sz szSS; split
  · unfold gdAll; rw [set_foldl_len (fun o v => by simp [gdStep]), negs_length]; omega
  · exact Nat.zero_le _

set_option maxHeartbeats 4000000 in
set_option maxRecDepth 100000 in
theorem coThrough_any (v1 : Value) (l : List Int) (lo1 hi1 : Nat) (v2 : Value) (at_ : List Int) (lo2 hi2 : Nat) (w : World) (h1 : IntS w lo1 hi1 v1 l) (hh1 : hi1 ≤ w.heap.size) (h2 : IntS w lo2 hi2 v2 at_) (hh2 : hi2 ≤ w.heap.size) (hz : at_.length ≤ 1048576) (hi : ∀ k, k < at_.length → ∃ t : Nat, nth at_ k = t ∧ t < l.length) :
    Calls Tryz.prog 38 #[v1, v2] w fun e w' => ∃ r, e = .returned (r) ∧ IntS w' w.heap.size w'.heap.size r (thruL l at_) ∧ Below w.heap.size w w' := by
  have HI := Lib.hid hi; clear hi
  have F1 := Lib.hid h1
  obtain ⟨A1, c1, rfl, hc1, hd1⟩ := h1.dims
  clear h1
  have F2 := Lib.hid h2
  obtain ⟨A2, c2, rfl, hc2, hd2⟩ := h2.dims
  clear h2
  go_enter Tryz.func38, Tryz.ntmps38
  go_wp2_with fail
  go_loopw [10, 5] (fun i ov wr => ∃ (m : Nat) (zs : List Int), m ≤ at_.length ∧ i = .int .i64 m ∧ Hid (OwnI wr w.heap.size 3 ov zs) ∧ Hid (zs = (at_.take m).map fun x => nth l x.toNat) ∧ zs.length ≤ m ∧ Hid (Turned w.heap.size w.heap.size w wr)) (fun i ov _ => at_.length - (intOf i).toNat)
  case atStart => exact ⟨0, [], Nat.zero_le _, rfl, Lib.hid (OwnI.nil _ _ _), Lib.hid rfl, Nat.zero_le _, Lib.hid (Turned.refl w.heap.size w.heap.size w)⟩
  case round =>
    obtain ⟨m, zs, hm, rfl, HO, HD, hl, HF1⟩ := hrel
    have hs1 := HF1.out.size
    by_cases hml : m < at_.length
    case neg =>
      obtain rfl : m = at_.length := by omega
      go_wp2_with fail
      go_ret
      refine ⟨_, rfl, ?_, (HF1.out.below_of (Below.refl _ _) (by omega) (by omega))⟩
      have e : thruL l at_ = zs := by rw [HD.out, List.take_length]; rfl
      rw [e]
      exact HO.out.ints
    obtain ⟨t, et, htl⟩ := HI.out m hml
    have ET := Lib.hid et; clear et
    obtain ⟨be, oe, rfl, _, hbe', xe, _⟩ := (IntS.turned F2.out HF1.out (by omega) (by omega)).opened hml
    obtain ⟨bg, og, rfl, _, hbg', xg, _⟩ := (IntS.turned F1.out HF1.out (by omega) (by omega)).opened htl
    rw [ET.out] at xe
    obtain ⟨y, HY⟩ : ∃ y, Hid (nth l t = y) := ⟨_, Lib.hid rfl⟩
    rw [HY.out] at xg
    have hti : (t : Int) < l.length := by omega
    have hlv := HO.out.lt
    go_wp2_with (at_builtin; refine append_int (s := .tmp 14) Tryz.underlying23 Tryz.info3 (by decide) wr rfl _ rfl HO.out y _ rfl (by simp [Act.eval, go_sem]) (by omega) (by omega) ?_; intro v' w' ho' hg' hat')
    go_roundw
    case rel =>
      refine ⟨m + 1, _, by omega, by go_num, Lib.hid ho', Lib.hid ?_, by simp; omega, Lib.hid (HF1.out.grown hg' fun g hg => .inr (hlv g hg).1)⟩
      rw [List.take_succ_eq_append_getElem hml, List.map_append, ← HD.out, ← nth_eq hml, ET.out]
      simp [HY.out]
    case measure => simp [intOf]; omega

set_option maxHeartbeats 4000000 in
set_option maxRecDepth 100000 in
theorem deLess_any (v1 : Value) (l : List Int) (lo1 hi1 : Nat) (v2 : Value) (less : List Int) (lo2 hi2 : Nat) (w : World) (h1 : IntS w lo1 hi1 v1 l) (hh1 : hi1 ≤ w.heap.size) (h2 : IntS w lo2 hi2 v2 less) (hh2 : hi2 ≤ w.heap.size) (hz : l.length ≤ 1048576) :
    Calls Tryz.prog 64 #[v1, v2] w fun e w' => ∃ r, e = .returned (r) ∧ IntS w' w.heap.size w'.heap.size r (lessL l less) ∧ Below w.heap.size w w' := by
  have F1 := Lib.hid h1
  obtain ⟨A1, c1, rfl, hc1, hd1⟩ := h1.dims
  clear h1
  have F2 := Lib.hid h2
  obtain ⟨A2, c2, rfl, hc2, hd2⟩ := h2.dims
  clear h2
  go_enter Tryz.func64, Tryz.ntmps64
  go_wp2_with fail
  go_loopw [10, 5] (fun i ov wr => ∃ (m : Nat) (zs : List Int), m ≤ l.length ∧ i = .int .i64 m ∧ Hid (OwnI wr w.heap.size 3 ov zs) ∧ Hid (zs = (l.take m).filter fun x => !decide (x ∈ less)) ∧ zs.length ≤ m ∧ Hid (Turned w.heap.size w.heap.size w wr)) (fun i ov _ => l.length - (intOf i).toNat)
  case atStart => exact ⟨0, [], Nat.zero_le _, rfl, Lib.hid (OwnI.nil _ _ _), Lib.hid rfl, Nat.zero_le _, Lib.hid (Turned.refl w.heap.size w.heap.size w)⟩
  case round =>
    obtain ⟨m, zs, hm, rfl, HO, HD, hl, HF1⟩ := hrel
    have hs1 := HF1.out.size
    by_cases hml : m < l.length
    case neg =>
      obtain rfl : m = l.length := by omega
      go_wp2_with fail
      go_ret
      refine ⟨_, rfl, ?_, (HF1.out.below_of (Below.refl _ _) (by omega) (by omega))⟩
      have e : lessL l less = zs := by rw [HD.out, List.take_length]; rfl
      rw [e]
      exact HO.out.ints
    obtain ⟨be, oe, rfl, _, hbe', xe, _⟩ := (IntS.turned F1.out HF1.out (by omega) (by omega)).opened hml
    have HT := Lib.hid (show (l.take (m + 1)).filter (fun x => !decide (x ∈ less)) = zs ++ if decide (nth l m ∈ less) = true then [] else [nth l m] by rw [List.take_succ_eq_append_getElem hml, List.filter_append, ← HD.out, ← nth_eq hml]; by_cases h : nth l m ∈ less <;> simp [h])
    obtain ⟨x, HX⟩ : ∃ x, Hid (nth l m = x) := ⟨_, Lib.hid rfl⟩
    rw [HX.out] at xe HT
    have hlv := HO.out.lt
    cases hm2 : decide (x ∈ less) with
    | true =>
      have HM := Lib.hid hm2; clear hm2
      go_wp2_with (go_at_call 41; refine (l1Has_any _ less _ _ _ _ (IntS.turned F2.out HF1.out (by omega) (by omega))).mono ?_; rintro e w' ⟨rfl, rfl⟩; rw [HM.out])
      go_roundw
      case rel => exact ⟨m + 1, zs, by omega, by go_num, HO, Lib.hid (by rw [HT.out, HM.out]; simp), by omega, HF1⟩
      case measure => simp [intOf]; omega
    | false =>
      have HM := Lib.hid hm2; clear hm2
      go_wp2_with (first | (go_at_call 41; refine (l1Has_any _ less _ _ _ _ (IntS.turned F2.out HF1.out (by omega) (by omega))).mono ?_; rintro e w' ⟨rfl, rfl⟩; rw [HM.out]) | (at_builtin; refine append_int (s := .tmp 18) Tryz.underlying23 Tryz.info3 (by decide) wr rfl _ rfl HO.out x _ rfl (by simp [Act.eval, go_sem]) (by omega) (by omega) ?_; intro v' w' ho' hg' hat'))
      go_roundw
      case rel => exact ⟨m + 1, _, by omega, by go_num, Lib.hid ho', Lib.hid (by rw [HT.out, HM.out]; simp), by simp; omega, Lib.hid (HF1.out.grown hg' fun g hg => .inr (hlv g hg).1)⟩
      case measure => simp [intOf]; omega

set_option maxHeartbeats 4000000 in
set_option maxRecDepth 100000 in
theorem deSeen_any (v1 : Value) (N : NetD) (lo1 hi1 : Nat) (v : Nat) (w : World) (h1 : Net w lo1 hi1 v1 N) (hh1 : hi1 ≤ w.heap.size) (hg : N.good = true) (hv : v < N.ends.length) :
    Calls Tryz.prog 39 #[v1, .int .i64 (v : Nat)] w fun e w' => ∃ r, e = .returned (r) ∧ IntS w' w.heap.size w'.heap.size r (seen N v) ∧ Below w.heap.size w w' := by
  obtain ⟨n1, n40⟩ := good_n hg
  have HG := Lib.hid hg; clear hg
  have hd6 := good_deg HG.out hv
  have F1 := Lib.hid h1
  obtain ⟨A1, c1, A1', c1', A1'', c1'', rfl, hc1, hd1, _⟩ := h1.parts
  obtain ⟨b1, o1, _, _, rfl, _⟩ := Net.rowAt F1.out (u := 0) (by omega)
  clear h1
  obtain ⟨WA, HWA⟩ : ∃ W, Hid (W = (w.alloc (.cells #[.slice (some ⟨b1, o1, none⟩) N.ends.length c1, .slice A1' N.ids.length c1', .slice A1'' N.inputs.length c1''] 34))) := ⟨_, Lib.hid rfl⟩
  have hbA : Below w.heap.size w WA := by rw [HWA.out]; exact ((Below.refl _ _).alloc (Nat.le_refl _) _)
  have hsA : w.heap.size + 1 ≤ WA.heap.size := by rw [HWA.out]; simp; try omega
  have bx1 : BoxN WA (w.heap.size) #[.slice (some ⟨b1, o1, none⟩) N.ends.length c1, .slice A1' N.ids.length c1', .slice A1'' N.inputs.length c1''] 34 := by rw [HWA.out]; exact (BoxN.new' _ _ _ (by simp))
  have G1 := Lib.hid (Net.below F1.out hbA hh1); clear F1
  go_enter Tryz.func39, Tryz.ntmps39
  go_upto_region 1 with (fail)
  rw [← HWA.out]; clear HWA
  have kbx1_0 : WA.cell? ⟨w.heap.size, 0, none⟩ = some (.slice (some ⟨b1, o1, none⟩) N.ends.length c1) := bx1.cell 0 (by simp)
  have kbx1_1 : WA.cell? ⟨w.heap.size, 1, none⟩ = some (.slice A1' N.ids.length c1') := bx1.cell 1 (by simp)
  have kbx1_2 : WA.cell? ⟨w.heap.size, 2, none⟩ = some (.slice A1'' N.inputs.length c1'') := bx1.cell 2 (by simp)
  go_wp2_with fail
  clear kbx1_0 kbx1_1 kbx1_2
  refine (neNear_any _ N v lo1 hi1 _ G1.out (by omega) hv (by omega)).mono ?_
  rintro e W1 ⟨r, rfl, hr, hb1⟩
  have hg1 := grown_below hb1; clear hb1
  have hs1 := hg1.size
  have HF1 := Lib.hid ((Turned.refl WA.heap.size WA.heap.size WA).still hg1)
  have R1 := Lib.hid hr; clear hr
  obtain ⟨Ar, cr, rfl, hcr, hdr⟩ := R1.out.dims
  go_wp2_with fail
  refine nameK ?_
  intro W2 HW2
  have hg2 : W1.grownBy W2 none := by rw [HW2.out]; exact grown_alloc _ _
  have hs2 := hg2.size
  have HF2 := Lib.hid (HF1.out.still hg2); clear HF1
  have R2 := Lib.hid (IntS.still R1.out hg2 (by omega)); clear R1
  have HS := Lib.hid (show IntS W2 W1.heap.size (W1.heap.size + 1) (.slice (some ⟨W1.heap.size, 0, none⟩) 1 1) [(v : Int)] by rw [HW2.out]; exact IntS.newN W1 [(v : Int)] _ rfl (by simp))
  have hzz : W1.heap.size + 1 ≤ W2.heap.size := by rw [HW2.out]; simp
  clear HW2
  refine (deLess_any _ (nbs N v) _ _ _ [(v : Int)] _ _ _ R2.out (by omega) HS.out (by omega) (by rw [nbs_length]; omega)).mono ?_
  rintro e W3 ⟨r2, rfl, hr2, hb3⟩
  have hg3 := grown_below hb3; clear hb3
  have hs3 := hg3.size
  have HF3 := Lib.hid (HF2.out.still hg3); clear HF2
  have R3 := Lib.hid (IntS.still R2.out hg3 (by omega)); clear R2
  have Q3 := Lib.hid hr2; clear hr2
  obtain ⟨Aq, cq, rfl, hcq, hdq⟩ := Q3.out.dims
  go_wp2_with fail
  go_ret
  refine ⟨_, rfl, ?_, (HF3.out.below_of hbA (by omega) (by omega))⟩
  have e : seen N v = lessL (nbs N v) [(v : Int)] := by unfold seen lessL; congr 1; funext x; simp
  rw [e]
  exact IntS.mono Q3.out (by omega) (Nat.le_refl _)

set_option maxHeartbeats 4000000 in
set_option maxRecDepth 100000 in
theorem greedyColouring_any (v1 : Value) (N : NetD) (lo1 hi1 : Nat) (v2 : Value) (zs : List Int) (lo2 hi2 : Nat) (w : World) (h1 : Net w lo1 hi1 v1 N) (hh1 : hi1 ≤ w.heap.size) (h2 : IntS w lo2 hi2 v2 zs) (hh2 : hi2 ≤ w.heap.size) (hg : N.good = true) (hp : permB zs N.ends.length = true) :
    Calls Tryz.prog 31 #[v1, v2] w fun e w' => ∃ r, e = .returned (r) ∧ IntS w' w.heap.size w'.heap.size r (gcAll N zs) ∧ Below w.heap.size w w' := by
  obtain ⟨n1, n40⟩ := good_n hg
  have HG := Lib.hid hg; clear hg
  have HP := Lib.hid hp; clear hp
  have hzl : zs.length ≤ N.ends.length := by have := perm_len HP.out; omega
  have F1 := Lib.hid h1
  obtain ⟨A1, c1, A1', c1', A1'', c1'', rfl, hc1, hd1, _⟩ := h1.parts
  obtain ⟨b1, o1, _, _, rfl, _⟩ := Net.rowAt F1.out (u := 0) (by omega)
  clear h1
  have F2 := Lib.hid h2
  obtain ⟨A2, c2, rfl, hc2, hd2⟩ := h2.dims
  clear h2
  obtain ⟨WA, HWA⟩ : ∃ W, Hid (W = (w.alloc (.cells #[.slice (some ⟨b1, o1, none⟩) N.ends.length c1, .slice A1' N.ids.length c1', .slice A1'' N.inputs.length c1''] 34))) := ⟨_, Lib.hid rfl⟩
  have hbA : Below w.heap.size w WA := by rw [HWA.out]; exact ((Below.refl _ _).alloc (Nat.le_refl _) _)
  have hsA : w.heap.size + 1 ≤ WA.heap.size := by rw [HWA.out]; simp; try omega
  have bx1 : BoxN WA (w.heap.size) #[.slice (some ⟨b1, o1, none⟩) N.ends.length c1, .slice A1' N.ids.length c1', .slice A1'' N.inputs.length c1''] 34 := by rw [HWA.out]; exact (BoxN.new' _ _ _ (by simp))
  have G1 := Lib.hid (Net.below F1.out hbA hh1); clear F1
  have G2 := Lib.hid (IntS.below F2.out hbA hh2); clear F2
  go_enter Tryz.func31, Tryz.ntmps31
  go_upto_region 1 with (fail)
  rw [← HWA.out]; clear HWA
  have kbx1_0 : WA.cell? ⟨w.heap.size, 0, none⟩ = some (.slice (some ⟨b1, o1, none⟩) N.ends.length c1) := bx1.cell 0 (by simp)
  have kbx1_1 : WA.cell? ⟨w.heap.size, 1, none⟩ = some (.slice A1' N.ids.length c1') := bx1.cell 1 (by simp)
  have kbx1_2 : WA.cell? ⟨w.heap.size, 2, none⟩ = some (.slice A1'' N.inputs.length c1'') := bx1.cell 2 (by simp)
  go_wp2_with fail
  clear kbx1_0 kbx1_1 kbx1_2
  refine (noMatching_any _ N lo1 hi1 _ G1.out (by omega) (by omega)).mono ?_
  rintro e W1 ⟨ro, rfl, hro, hb1⟩
  have hg1 := grown_below hb1; clear hb1
  have hs1 := hg1.size
  have HF1 := Lib.hid ((Turned.refl WA.heap.size WA.heap.size WA).still hg1)
  have O1 := Lib.hid hro; clear hro
  obtain ⟨Ao, co, rfl, hco, hdo⟩ := O1.out.dims
  obtain ⟨bo, oo, rfl, lbo, hbo, _, _⟩ := IntS.opened O1.out (j := 0) (by simp; omega)
  rw [List.length_replicate] at hco ⊢
  have N_1 := Lib.hid (Net.turned G1.out HF1.out (by omega) (by omega)); clear G1
  have zs_1 := Lib.hid (IntS.turned G2.out HF1.out (by omega) (by omega)); clear G2
  have bx1_1 := HF1.out.boxN bx1 (by omega); clear bx1
  have hbA1 := (HF1.out.below_of hbA (by omega) (by omega)); clear hbA HF1
  rw [List.length_replicate] at O1
  have HOM : Hid (IntS W1 WA.heap.size W1.heap.size (.slice (some ⟨bo, oo, none⟩) N.ends.length co) (negs N.ends.length)) := O1; clear O1
  go_wp2_with fail
  go_loopw [12] (fun i wr => ∃ (k : Nat) (out : List Int), k ≤ zs.length ∧ i = .int .i64 k ∧ Hid (IntS wr WA.heap.size W1.heap.size (.slice (some ⟨bo, oo, none⟩) N.ends.length co) out) ∧ Hid (out = (zs.take k).foldl (gcStep N) (negs N.ends.length)) ∧ Hid (out.length = N.ends.length) ∧ Hid (Turned WA.heap.size W1.heap.size W1 wr)) (fun i _ => zs.length - (intOf i).toNat)
  case atStart => exact ⟨0, negs N.ends.length, Nat.zero_le _, rfl, HOM, Lib.hid rfl, Lib.hid (negs_length _), Lib.hid (Turned.refl WA.heap.size W1.heap.size W1)⟩
  case round =>
    obtain ⟨k, out, hk, rfl, HO, HX, HL, HF2⟩ := hrel
    have hs2 := HF2.out.size
    by_cases hlt : k < zs.length
    case neg =>
      obtain rfl : k = zs.length := by omega
      go_wp2_with fail
      go_ret
      refine ⟨_, rfl, ?_, (HF2.out.below_of hbA1 (by omega) (by omega))⟩
      have e : gcAll N zs = out := by rw [HX.out, List.take_length]; rfl
      rw [e]
      exact HO.out.mono (by omega) (by omega)
    obtain ⟨t, et, htl, hnm⟩ := perm_at HP.out hlt
    obtain ⟨b5, o5, rfl, _, _, x5, _⟩ := IntS.opened (IntS.turned zs_1.out HF2.out (by omega) (by omega)) hlt
    rw [et] at x5 hnm
    have HXX := Lib.hid (show (zs.take (k + 1)).foldl (gcStep N) (negs N.ends.length) = out.set t (lf (nears N t out)) by rw [foldl_takeI _ _ _ hlt, ← HX.out, et]; rfl)
    have HFR := Lib.hid (show nth out t = -1 by rw [HX.out]; exact gc_fresh (fun o v => by simp [gcStep]) (gcStep_other N) HP.out k hk t htl hnm)
    have hd6 := good_deg HG.out htl
    clear et hnm
    have kbx1_0 : wr.cell? ⟨w.heap.size, 0, none⟩ = some (.slice (some ⟨b1, o1, none⟩) N.ends.length c1) := (HF2.out.boxN bx1_1 (by omega)).cell 0 (by simp)
    have kbx1_1 : wr.cell? ⟨w.heap.size, 1, none⟩ = some (.slice A1' N.ids.length c1') := (HF2.out.boxN bx1_1 (by omega)).cell 1 (by simp)
    have kbx1_2 : wr.cell? ⟨w.heap.size, 2, none⟩ = some (.slice A1'' N.inputs.length c1'') := (HF2.out.boxN bx1_1 (by omega)).cell 2 (by simp)
    go_wp2_with fail
    clear kbx1_0 kbx1_1 kbx1_2 x5
    refine (near_any _ N lo1 hi1 t _ out _ _ _ (Net.turned N_1.out HF2.out (by omega) (by omega)) (by omega) HO.out (by omega) HG.out htl HL.out).mono ?_
    rintro e W3 ⟨r, rfl, hr, hb3⟩
    have hg3 := grown_below hb3; clear hb3
    have hs3 := hg3.size
    have HF3 := Lib.hid (HF2.out.still hg3); clear HF2
    have O3 := Lib.hid (IntS.still HO.out hg3 (by omega)); clear HO
    have R3 := Lib.hid hr; clear hr
    obtain ⟨Ar, cr, rfl, hcr, hdr⟩ := R3.out.dims
    have hlfl := lf_le (nears N t out)
    rw [nears_length] at hlfl
    have HLF := Lib.hid (rfl : lf (nears N t out) = lf (nears N t out))
    obtain ⟨y1, y2⟩ := O3.out.at_ (j := t) (by rw [HL.out]; exact htl)
    rw [HFR.out] at y1
    have HS := Lib.hid (O3.out.set (j := t) (by rw [HL.out]; exact htl) (lf (nears N t out)))
    obtain ⟨c, HC⟩ : ∃ c : Nat, Hid (lf (nears N t out) = c) := ⟨_, Lib.hid rfl⟩
    rw [HC.out] at HS hlfl HXX
    have hti : (t : Int) < N.ends.length := by omega
    have HFN := Lib.hid (HF3.out.grown (grown_set W3 ⟨bo, oo + t, none⟩ (.int .i64 c)) fun g hg => .inl (by cases hg; exact ⟨by show _ ≤ bo; omega, by show bo < _; omega⟩))
    go_wp2_with (go_at_call 57; refine (leastFree_any _ (nears N t out) _ _ _ R3.out (by omega) (by rw [nears_length]; omega)).mono ?_; rintro e w' ⟨rfl, rfl⟩; rw [HC.out])
    go_roundw
    case rel => exact ⟨k + 1, _, by omega, by go_num, HS, Lib.hid HXX.out.symm, Lib.hid (by rw [List.length_set]; exact HL.out), HFN⟩
    case measure => simp [intOf]; omega

theorem seen_node {N : NetD} (hg : N.good = true) {v j : Nat} (hv : v < N.ends.length) (hj : j < (seen N v).length) : ∃ t : Nat, nth (seen N v) j = t ∧ t < N.ends.length := by
  have hm := nth_mem hj
  unfold seen at hm
  rw [List.mem_filter] at hm
  obtain ⟨i, hi, e⟩ := List.mem_iff_getElem.1 hm.1
  rw [nbs_length] at hi
  rw [← nth_eq, nth_nbs N v hi] at e
  obtain ⟨t, r, et, ht, _⟩ := good_end hg hv hi
  rw [et] at e
  exact ⟨t, e.symm, ht⟩

end Go.Proofs.YtakcjdlliejldaaGreat
