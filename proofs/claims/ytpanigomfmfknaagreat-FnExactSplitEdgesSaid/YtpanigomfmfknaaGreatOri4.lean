/-
  Contracts: numbers for all ports made anew; orientations by keys and by identifiers.
-/
import Derived.Test.YtpanigomfmfknaaGreatOri2
import Derived.Test.YtpanigomfmfknaaGreatSSet
import Derived.RegionTactic
namespace Go.Proofs.YtpanigomfmfknaaGreat
open Go.ChangeShapes Go.WideShapes Go.ChangeAt Go.RowKit
set_option linter.unusedVariables false

def zeroRow (N : NetD) (v : Nat) : List Int := List.replicate (nthL N.ends v).length 0
def zeroUp (N : NetD) (k : Nat) : List (List Int) := (List.range N.ends.length).map fun v => if v < k then zeroRow N v else []
def zeroP (N : NetD) : List (List Int) := (List.range N.ends.length).map (zeroRow N)
theorem zeroP_length (N : NetD) : (zeroP N).length = N.ends.length := by simp [zeroP]
theorem zeroUp_length (N : NetD) (k : Nat) : (zeroUp N k).length = N.ends.length := by simp [zeroUp]
theorem nthL_zeroP {N : NetD} {v : Nat} (hv : v < N.ends.length) : nthL (zeroP N) v = zeroRow N v := by simp [nthL, zeroP, hv]
theorem nthL_zeroUp {N : NetD} {v : Nat} (k : Nat) (hv : v < N.ends.length) : nthL (zeroUp N k) v = if v < k then zeroRow N v else [] := by simp [nthL, zeroUp, hv]
theorem zeroUp_zero (N : NetD) : zeroUp N 0 = List.replicate N.ends.length [] := by simp [zeroUp, List.map_const']
theorem zeroUp_all (N : NetD) : zeroUp N N.ends.length = zeroP N := by
  apply ext_nthL (by rw [zeroUp_length, zeroP_length])
  intro i hi
  rw [zeroUp_length] at hi
  rw [nthL_zeroUp _ hi, nthL_zeroP hi, if_pos hi]
theorem zeroUp_succ {N : NetD} {k : Nat} (hk : k < N.ends.length) : (zeroUp N k).set k (zeroRow N k) = zeroUp N (k + 1) := by
  apply ext_nthL (by rw [List.length_set, zeroUp_length, zeroUp_length])
  intro i hi
  rw [List.length_set, zeroUp_length] at hi
  rw [nthL_set (by rw [zeroUp_length]; exact hk), nthL_zeroUp _ hi, nthL_zeroUp _ hi]
  by_cases e : i = k
  · rw [if_pos e, if_pos (by omega), e]
  · rw [if_neg e]
    by_cases h : i < k
    · rw [if_pos h, if_pos (by omega)]
    · rw [if_neg h, if_neg (by omega)]
/-- a number for each port -/
structure Shape (N : NetD) (xss : List (List Int)) : Prop where
  len : xss.length = N.ends.length
  row : ∀ a, a < N.ends.length → (nthL xss a).length = (nthL N.ends a).length
theorem Shape.zero (N : NetD) : Shape N (zeroP N) := ⟨zeroP_length N, fun a ha => by rw [nthL_zeroP ha]; simp [zeroRow]⟩
theorem Shape.setAt {N : NetD} {xss : List (List Int)} (h : Shape N xss) {a : Nat} (ha : a < N.ends.length) (i : Nat) (z : Int) : Shape N (setAt xss a i z) :=
  ⟨by rw [setAt_length]; exact h.len, fun b hb => by rw [setAt_row _ (by rw [h.len]; exact ha)]; exact h.row b hb⟩
theorem Shape.cnt {N : NetD} {xss : List (List Int)} (h : Shape N xss) : cntSS xss = cntSS N.ends := by
  unfold cntSS
  rw [h.len]
  have : ∀ k, k ≤ N.ends.length → sumL xss k = sumL N.ends k := fun k => by
    induction k with
    | zero => intro _; rfl
    | succ k ih => intro hk; rw [sumL_succ _ _ (by rw [h.len]; omega), sumL_succ _ _ (by omega), ih (by omega), h.row k (by omega)]
  exact this _ (Nat.le_refl _)
def orientStep (sf : Nat → Nat → Bool) (xss : List (List Int)) (q : Quad) : List (List Int) :=
  if (decide (q.v ≠ q.w) && sf q.v.toNat q.w.toNat) = true then setAt xss q.w.toNat q.j.toNat 1 else setAt xss q.v.toNat q.i.toNat 1
def orientAll (N : NetD) (sf : Nat → Nat → Bool) : List (List Int) := (edges N).foldl (orientStep sf) (zeroP N)
theorem orientStep_nat (sf : Nat → Nat → Bool) (xss : List (List Int)) (a b c d : Nat) : orientStep sf xss ⟨a, b, c, d⟩ = if a ≠ c ∧ sf a c = true then setAt xss c d 1 else setAt xss a b 1 := by
  unfold orientStep
  simp only [Int.toNat_natCast]
  by_cases h1 : a = c <;> by_cases h2 : sf a c = true <;> simp [h1, h2] <;> omega
theorem foldl_takeQ {β : Type} (f : β → Quad → β) (l : List Quad) (x : β) {k : Nat} (hk : k < l.length) : (l.take (k + 1)).foldl f x = f ((l.take k).foldl f x) (nthQ l k) := by
  rw [List.take_succ_eq_append_getElem hk, List.foldl_append, nthQ_eq hk]; rfl
theorem orientAll_shape {N : NetD} (hg : N.good = true) (sf : Nat → Nat → Bool) : Shape N (orientAll N sf) := by
  have : ∀ k, k ≤ (edges N).length → Shape N (((edges N).take k).foldl (orientStep sf) (zeroP N)) := fun k => by
    induction k with
    | zero => intro _; exact Shape.zero N
    | succ k ih =>
      intro hk
      rw [foldl_takeQ _ _ _ (by omega)]
      obtain ⟨a, b, c, d, e, h1, h2, h3, h4, _⟩ := edge_nat hg (nthQ_mem (l := edges N) (k := k) (by omega))
      rw [e, orientStep_nat]
      split
      · exact (ih (by omega)).setAt h3 _ _
      · exact (ih (by omega)).setAt h1 _ _
  have := this _ (Nat.le_refl _)
  rwa [List.take_length] at this
theorem keyStep {keys : List Int} (xss : List (List Int)) (a b c d : Nat) : orientStep (fun v w => decide (nth keys w < nth keys v)) xss ⟨a, b, c, d⟩ = if nth keys a ≤ nth keys c then setAt xss a b 1 else setAt xss c d 1 := by
  rw [orientStep_nat]
  by_cases h : nth keys a ≤ nth keys c
  · rw [if_pos h, if_neg (by simp; omega)]
  · rw [if_neg h, if_pos ⟨by rintro rfl; omega, by simp; omega⟩]
def byIdsOk (N : NetD) : Bool := N.stubless && decide (N.ids.length ≠ 0)
def byIds (N : NetD) : List (List Int) := if byIdsOk N = true then orientAll N (fun v w => decide (nth N.ids w < nth N.ids v)) else []
theorem byIds_cnt (N : NetD) : cntSS (byIds N) ≤ N.cnt := by
  unfold byIds byIdsOk
  split
  · rename_i h
    rw [Bool.and_eq_true] at h
    rw [(orientAll_shape (stubless_good h.1) _).cnt]
    unfold NetD.cnt; omega
  · show 0 ≤ _; omega
theorem ids_len {N : NetD} (h : byIdsOk N = true) : N.ids.length = N.ends.length := by
  unfold byIdsOk at h
  rw [Bool.and_eq_true] at h
  have hg := stubless_good h.1
  unfold NetD.good NetD.headOk idsGood at hg
  simp only [Bool.and_eq_true] at hg
  have := hg.1.2.1.2
  simp at this h
  rcases this with e | e
  · exact absurd e h.2
  · omega

set_option maxHeartbeats 4000000 in
set_option maxRecDepth 100000 in
theorem byPorts_any (v1 : Value) (N : NetD) (lo1 hi1 : Nat) (w : World) (h1 : Net w lo1 hi1 v1 N) (hh1 : hi1 ≤ w.heap.size) (hg : N.good = true) :
    Calls Tryz.prog 24 #[v1] w fun e w' => ∃ r, e = .returned (r) ∧ IntSSx w' w.heap.size w'.heap.size r (zeroP N) ∧ Below w.heap.size w w' := by
  obtain ⟨n1, n40⟩ := good_n hg
  have HG := Lib.hid hg; clear hg
  have hmk := fun W => run_make_row' (P := Tryz.prog) 27 23 (.slice none 0 0) 24 Tryz.underlying27 Tryz.infoRow rfl .i64 .i64 N.ends.length (by omega) (by omega) W
  have F1 := Lib.hid h1
  obtain ⟨A1, c1, A1', c1', A1'', c1'', rfl, hc1, hd1, _⟩ := h1.parts
  obtain ⟨b1, o1, _, _, rfl, _⟩ := Net.rowAt F1.out (u := 0) (by omega)
  clear h1
  obtain ⟨WA, HWA⟩ : ∃ W, Hid (W = (w.alloc (.cells #[.slice (some ⟨b1, o1, none⟩) N.ends.length c1, .slice A1' N.ids.length c1', .slice A1'' N.inputs.length c1''] 32))) := ⟨_, Lib.hid rfl⟩
  have hbA : Below w.heap.size w WA := by rw [HWA.out]; exact ((Below.refl _ _).alloc (Nat.le_refl _) _)
  have hsA : w.heap.size + 1 ≤ WA.heap.size := by rw [HWA.out]; simp; try omega
  have bx1 : BoxN WA (w.heap.size) #[.slice (some ⟨b1, o1, none⟩) N.ends.length c1, .slice A1' N.ids.length c1', .slice A1'' N.inputs.length c1''] 32 := by rw [HWA.out]; exact (BoxN.new' _ _ _ (by simp))
  have G1 := Lib.hid (Net.below F1.out hbA hh1); clear F1
  go_enter Tryz.func24, Tryz.ntmps24
  go_upto_region 1 with (fail)
  rw [← HWA.out]; clear HWA
  have kbx1_0 : WA.cell? ⟨w.heap.size, 0, none⟩ = some (.slice (some ⟨b1, o1, none⟩) N.ends.length c1) := bx1.cell 0 (by simp)
  have kbx1_1 : WA.cell? ⟨w.heap.size, 1, none⟩ = some (.slice A1' N.ids.length c1') := bx1.cell 1 (by simp)
  have kbx1_2 : WA.cell? ⟨w.heap.size, 2, none⟩ = some (.slice A1'' N.inputs.length c1'') := bx1.cell 2 (by simp)
  go_upto_region 2 with (fail)
  clear kbx1_0 kbx1_1 kbx1_2 hmk
  refine nameC ?_
  intro W1 HW1
  have hg1 : WA.grownBy W1 none := by rw [HW1.out]; exact grown_alloc _ _
  have hs1 := hg1.size
  have HF1 := Lib.hid ((Turned.refl WA.heap.size WA.heap.size WA).still hg1)
  have HO := Lib.hid (show IntSSx W1 WA.heap.size (WA.heap.size + 1) (.slice (some ⟨WA.heap.size, 0, none⟩) N.ends.length N.ends.length) (zeroUp N 0) by rw [zeroUp_zero, HW1.out]; exact ISSx.made (World.rowIs_made WA (.slice none 0 0) N.ends.length 23) (by unfold maxLen; omega))
  have hz1 : WA.heap.size + 1 ≤ W1.heap.size := by rw [HW1.out]; simp
  clear HW1
  have kbx1_0 : W1.cell? ⟨w.heap.size, 0, none⟩ = some (.slice (some ⟨b1, o1, none⟩) N.ends.length c1) := (HF1.out.boxN bx1 (by omega)).cell 0 (by simp)
  have kbx1_1 : W1.cell? ⟨w.heap.size, 1, none⟩ = some (.slice A1' N.ids.length c1') := (HF1.out.boxN bx1 (by omega)).cell 1 (by simp)
  have kbx1_2 : W1.cell? ⟨w.heap.size, 2, none⟩ = some (.slice A1'' N.inputs.length c1'') := (HF1.out.boxN bx1 (by omega)).cell 2 (by simp)
  go_wp2_with fail
  clear kbx1_0 kbx1_1 kbx1_2
  go_loopw [13] (fun i wr => ∃ (k top : Nat), k ≤ N.ends.length ∧ i = .int .i64 k ∧ Hid (IntSSx wr WA.heap.size top (.slice (some ⟨WA.heap.size, 0, none⟩) N.ends.length N.ends.length) (zeroUp N k)) ∧ WA.heap.size ≤ top ∧ top ≤ wr.heap.size ∧ Hid (Turned WA.heap.size WA.heap.size WA wr)) (fun i _ => N.ends.length - (intOf i).toNat)
  case atStart => exact ⟨0, _, Nat.zero_le _, rfl, HO, by omega, hz1, HF1⟩
  case round =>
    clear HF1
    obtain ⟨k, top, hk, rfl, HO, ht1, ht2, HF2⟩ := hrel
    have hs2 := HF2.out.size
    by_cases hlt : k < N.ends.length
    case neg =>
      obtain rfl : k = N.ends.length := by omega
      go_wp2_with fail
      go_ret
      refine ⟨_, rfl, ?_, (HF2.out.below_of hbA (by omega) (by omega))⟩
      rw [← zeroUp_all]
      exact ISSx.mono HO.out (by omega) ht2
    obtain ⟨Ar, cr, hbr, qr, hcr, hdr, hRr⟩ := Net.rowIn G1.out hlt
    replace qr := (HF2.out.cell (by omega) (by omega)).trans qr
    have Rr := Lib.hid hRr; clear hRr
    have hd6 := good_deg HG.out hlt
    have hmk2 := fun W => run_make_row' (P := Tryz.prog) 23 3 (.int .i64 0) 8 Tryz.underlying23 Tryz.info3 rfl .i64 .i64 (nthL N.ends k).length (by omega) (by omega) W
    obtain ⟨W2, HW2⟩ : ∃ W, Hid (W = wr.alloc (.cells (madeCells #[.int .i64 0] (nthL N.ends k).length) 3)) := ⟨_, Lib.hid rfl⟩
    have hg2 : wr.grownBy W2 none := by rw [HW2.out]; exact grown_alloc _ _
    have hz2 : wr.heap.size + 1 ≤ W2.heap.size := by rw [HW2.out]; simp
    have hrow : IntS W2 wr.heap.size (wr.heap.size + 1) (.slice (some ⟨wr.heap.size, 0, none⟩) (nthL N.ends k).length (nthL N.ends k).length) (zeroRow N k) := by
      rw [HW2.out]
      refine IntS.of_row (t := 3) ((World.rowIs_made wr (.int .i64 0) (nthL N.ends k).length 3).congr fun j hj => ?_) (by simp [zeroRow]) (by unfold maxLen; omega)
      rw [show nth (zeroRow N k) j = 0 from nth_replicate _ _ hj]
    obtain ⟨_, _, ⟨x, hx⟩, hfx, hset⟩ := ISSx.setRow (ISSx.mono (ISSx.still HO.out hg2 ht2) (Nat.le_refl _) ht2) (by omega) hz2 (a := k) (by rw [zeroUp_length]; exact hlt) hrow
    rw [Nat.zero_add] at hx hfx hset
    rw [zeroUp_succ hlt] at hset
    have hgs : W2.grownBy (W2.setCell ⟨WA.heap.size, k, none⟩ (.slice (some ⟨wr.heap.size, 0, none⟩) (nthL N.ends k).length (nthL N.ends k).length)) (some WA.heap.size) := grown_set _ _ _
    have HFN := Lib.hid ((HF2.out.still hg2).grown hgs fun g hg => .inr (by injection hg; omega))
    have HSET := Lib.hid hset
    clear hset hgs hrow
    rw [HW2.out] at hx hfx
    have hzz : wr.heap.size + 1 ≤ (W2.setCell ⟨WA.heap.size, k, none⟩ (.slice (some ⟨wr.heap.size, 0, none⟩) (nthL N.ends k).length (nthL N.ends k).length)).heap.size := by rw [size_setCell]; exact hz2
    rw [HW2.out, World.setCell_alloc_past _ _ _ _ (by omega)] at HSET HFN hzz
    go_wp2_with fail
    go_roundw
    case rel => exact ⟨k + 1, _, by omega, by go_num, HSET, by omega, hzz, HFN⟩
    case measure => simp [intOf]; omega

set_option maxHeartbeats 4000000 in
set_option maxRecDepth 100000 in
theorem orZero_any (v1 : Value) (N : NetD) (lo1 hi1 : Nat) (w : World) (h1 : Net w lo1 hi1 v1 N) (hh1 : hi1 ≤ w.heap.size) (hg : N.good = true) :
    Calls Tryz.prog 19 #[v1] w fun e w' => ∃ r, e = .returned (r) ∧ IntSSx w' w.heap.size w'.heap.size r (zeroP N) ∧ Below w.heap.size w w' := by
  obtain ⟨n1, n40⟩ := good_n hg
  have HG := Lib.hid hg; clear hg
  have F1 := Lib.hid h1
  obtain ⟨A1, c1, A1', c1', A1'', c1'', rfl, hc1, hd1, _⟩ := h1.parts
  obtain ⟨b1, o1, _, _, rfl, _⟩ := Net.rowAt F1.out (u := 0) (by omega)
  clear h1
  obtain ⟨WA, HWA⟩ : ∃ W, Hid (W = (w.alloc (.cells #[.slice (some ⟨b1, o1, none⟩) N.ends.length c1, .slice A1' N.ids.length c1', .slice A1'' N.inputs.length c1''] 32))) := ⟨_, Lib.hid rfl⟩
  have hbA : Below w.heap.size w WA := by rw [HWA.out]; exact ((Below.refl _ _).alloc (Nat.le_refl _) _)
  have hsA : w.heap.size + 1 ≤ WA.heap.size := by rw [HWA.out]; simp; try omega
  have bx1 : BoxN WA (w.heap.size) #[.slice (some ⟨b1, o1, none⟩) N.ends.length c1, .slice A1' N.ids.length c1', .slice A1'' N.inputs.length c1''] 32 := by rw [HWA.out]; exact (BoxN.new' _ _ _ (by simp))
  have G1 := Lib.hid (Net.below F1.out hbA hh1); clear F1
  go_enter Tryz.func19, Tryz.ntmps19
  go_upto_region 1 with (fail)
  rw [← HWA.out]; clear HWA
  have kbx1_0 : WA.cell? ⟨w.heap.size, 0, none⟩ = some (.slice (some ⟨b1, o1, none⟩) N.ends.length c1) := bx1.cell 0 (by simp)
  have kbx1_1 : WA.cell? ⟨w.heap.size, 1, none⟩ = some (.slice A1' N.ids.length c1') := bx1.cell 1 (by simp)
  have kbx1_2 : WA.cell? ⟨w.heap.size, 2, none⟩ = some (.slice A1'' N.inputs.length c1'') := bx1.cell 2 (by simp)
  go_wp2_with fail
  clear kbx1_0 kbx1_1 kbx1_2
  go_loopw [9, 3] (fun i ov wr => ∃ (k top : Nat) (xss : List (List Int)), k ≤ N.ends.length ∧ i = .int .i64 k ∧ Hid (OwnSS wr WA.heap.size top 23 ov xss) ∧ Hid (xss = (zeroP N).take k) ∧ xss.length ≤ k ∧ Hid (Turned WA.heap.size WA.heap.size WA wr)) (fun i ov _ => N.ends.length - (intOf i).toNat)
  case atStart => exact ⟨0, WA.heap.size, [], Nat.zero_le _, rfl, Lib.hid (OwnSS.nil _ _ _ _ (Nat.le_refl _) (Nat.le_refl _)), Lib.hid (by simp), Nat.zero_le _, Lib.hid (Turned.refl WA.heap.size WA.heap.size WA)⟩
  case round =>
    obtain ⟨k, top, xss, hk, rfl, HO, HD, hl, HF1⟩ := hrel
    have hs1 := HF1.out.size
    by_cases hlt : k < N.ends.length
    case neg =>
      obtain rfl : k = N.ends.length := by omega
      go_wp2_with fail
      go_ret
      refine ⟨_, rfl, ?_, (HF1.out.below_of hbA (by omega) (by omega))⟩
      have e : zeroP N = xss := by rw [HD.out, ← zeroP_length N, List.take_length]
      rw [e]
      exact ISSx.mono HO.out.ssx (by omega) (Nat.le_refl _)
    obtain ⟨Ar, cr, hbr, qr, hcr, hdr, hRr⟩ := Net.rowIn G1.out hlt
    replace qr := (HF1.out.cell (by omega) (by omega)).trans qr
    have Rr := Lib.hid hRr; clear hRr
    have hd6 := good_deg HG.out hlt
    have hmk2 := fun W => run_make_row' (P := Tryz.prog) 23 3 (.int .i64 0) 8 Tryz.underlying23 Tryz.info3 rfl .i64 .i64 (nthL N.ends k).length (by omega) (by omega) W
    obtain ⟨W2, HW2⟩ : ∃ W, Hid (W = wr.alloc (.cells (madeCells #[.int .i64 0] (nthL N.ends k).length) 3)) := ⟨_, Lib.hid rfl⟩
    have hg2 : wr.grownBy W2 none := by rw [HW2.out]; exact grown_alloc _ _
    have hz2 : wr.heap.size + 1 ≤ W2.heap.size := by rw [HW2.out]; simp
    have hrow : IntS W2 wr.heap.size (wr.heap.size + 1) (.slice (some ⟨wr.heap.size, 0, none⟩) (nthL N.ends k).length (nthL N.ends k).length) (zeroRow N k) := by
      rw [HW2.out]
      refine IntS.of_row (t := 3) ((World.rowIs_made wr (.int .i64 0) (nthL N.ends k).length 3).congr fun j hj => ?_) (by simp [zeroRow]) (by unfold maxLen; omega)
      rw [show nth (zeroRow N k) j = 0 from nth_replicate _ _ hj]
    have hlv := HO.out.lt
    have htop : top ≤ wr.heap.size := by obtain ⟨_, _, _, _, _, _, h, _⟩ := HO.out; exact h
    have HROW := Lib.hid hrow; clear hrow
    have HO2 := Lib.hid (HO.out.still hg2)
    rw [HW2.out] at HROW HO2
    go_wp2_with (at_builtin; refine append_ss (s := .tmp 13) Tryz.underlying27 Tryz.infoRow (by decide) (wr.alloc (.cells (madeCells #[.int .i64 0] (nthL N.ends k).length) 3)) rfl _ rfl HO2.out (lo := wr.heap.size) (hi := wr.heap.size + 1) HROW.out htop (by simp) (by omega) (fun g hg => .inl (hlv g hg).2) _ rfl (by simp [Act.eval, go_sem]) (by omega) ?_; intro v' w' ho' hg' hat')
    go_roundw
    case rel =>
      refine ⟨k + 1, _, _, by omega, by go_num, Lib.hid ho', Lib.hid ?_, by simp; omega, Lib.hid ((HF1.out.still (grown_alloc _ _)).grown hg' fun g hg => .inr (hlv g hg).1)⟩
      rw [List.take_succ_eq_append_getElem (by rw [zeroP_length]; exact hlt), ← nthL_eq, nthL_zeroP hlt, ← HD.out]
    case measure => simp [intOf]; omega

theorem Net.idsS {w : World} {lo hi : Nat} {v1 v2 v3 : Value} {N : NetD} (h : Net w lo hi (.agg #[v1, v2, v3]) N) : IntS w lo hi v2 N.ids := by
  obtain ⟨ve, vi, vn, e, _, h2, _⟩ := h
  simp only [Value.agg.injEq, Array.mk.injEq, List.cons.injEq, and_true] at e
  obtain ⟨_, rfl, _⟩ := e
  exact h2
theorem Net.inputsS {w : World} {lo hi : Nat} {v1 v2 v3 : Value} {N : NetD} (h : Net w lo hi (.agg #[v1, v2, v3]) N) : IntS w lo hi v3 N.inputs := by
  obtain ⟨ve, vi, vn, e, _, _, h3⟩ := h
  simp only [Value.agg.injEq, Array.mk.injEq, List.cons.injEq, and_true] at e
  obtain ⟨_, _, rfl⟩ := e
  exact h3
end Go.Proofs.YtpanigomfmfknaaGreat
