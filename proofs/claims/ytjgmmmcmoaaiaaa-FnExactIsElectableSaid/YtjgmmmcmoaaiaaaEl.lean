/-
  Contract: the classes of views one step deeper (program).
-/
import Derived.Test.YtjgmmmcmoaaiaaaElM
import Derived.Test.YtjgmmmcmoaaiaaaConn
import Derived.Test.YtjgmmmcmoaaiaaaBasics
import Derived.Test.YtjgmmmcmoaaiaaaBoolS
import Derived.WalkSpells
namespace Go.Proofs.Ytjgmmmcmoaaiaaa
open Go.ChangeShapes Go.WideShapes Go.ChangeAt Go.RowKit
set_option linter.unusedVariables false

theorem Net.inp {w : World} {lo hi : Nat} {a b v : Value} {N : NetD} (h : Net w lo hi (.agg #[a, b, v]) N) : IntS w lo hi v N.inputs := by
  obtain ⟨ve, vi, vn, e, _, _, h3⟩ := h
  simp only [Value.agg.injEq, Array.mk.injEq, List.cons.injEq, and_true] at e
  obtain ⟨_, _, rfl⟩ := e
  exact h3
theorem good_inp {N : NetD} (h : N.good = true) : N.inputs.length = N.ends.length ∧ ∀ x ∈ N.inputs, 0 ≤ x ∧ x ≤ 9 := by
  unfold NetD.good NetD.headOk insGood at h
  simp only [Bool.and_eq_true, decide_eq_true_eq, List.all_eq_true] at h
  refine ⟨by have := h.1.2.2.1; omega, fun x hx => ?_⟩
  have := inB_le (h.1.2.2.2 x hx)
  omega
theorem nth_i64 {c : List Int} (h : ∀ x ∈ c, I64 x) (j : Nat) : I64 (nth c j) := by
  by_cases hj : j < c.length
  · exact h _ (nth_mem hj)
  · have : nth c j = 0 := by unfold nth; rw [List.getD_eq_getElem?_getD, List.getElem?_eq_none (by omega)]; rfl
    rw [this]; unfold I64; omega
/-- a key under way: m ports are in -/
def vpart (N : NetD) (c : List Int) (v m : Nat) : List Int :=
  (List.range 14).map fun j => if j = 0 then ((nthL N.ends v).length : Int) else if j = 1 then nth N.inputs v
    else if (j - 2) / 2 < m ∧ 0 < c.length then (if j % 2 = 0 then (nthE (nthL N.ends v) ((j - 2) / 2)).2 else nth c (nthE (nthL N.ends v) ((j - 2) / 2)).1.toNat) else 0
theorem vpart_length (N : NetD) (c : List Int) (v m : Nat) : (vpart N c v m).length = 14 := by simp [vpart]
theorem nth_vpart {N : NetD} {c : List Int} {v m j : Nat} (h : j < 14) : nth (vpart N c v m) j = if j = 0 then ((nthL N.ends v).length : Int) else if j = 1 then nth N.inputs v
    else if (j - 2) / 2 < m ∧ 0 < c.length then (if j % 2 = 0 then (nthE (nthL N.ends v) ((j - 2) / 2)).2 else nth c (nthE (nthL N.ends v) ((j - 2) / 2)).1.toNat) else 0 := by
  rw [nth_eq (by rw [vpart_length]; exact h)]; simp [vpart]
theorem vpart_end (N : NetD) (c : List Int) (v : Nat) : vpart N c v (nthL N.ends v).length = vkey N c v := rfl
theorem vpart_zero (N : NetD) (c : List Int) (v : Nat) : vpart N c v 0 = [((nthL N.ends v).length : Int), nth N.inputs v, 0, 0, 0, 0, 0, 0, 0, 0, 0, 0, 0, 0] := by
  refine ext_nth (by rw [vpart_length]; rfl) fun j hj => ?_
  rw [vpart_length] at hj
  rw [nth_vpart hj]
  rcases j with _ | _ | j
  · rfl
  · rfl
  · rw [if_neg (by omega), if_neg (by omega), if_neg (by omega)]
    have : j < 12 := by omega
    obtain rfl | rfl | rfl | rfl | rfl | rfl | rfl | rfl | rfl | rfl | rfl | rfl : j = 0 ∨ j = 1 ∨ j = 2 ∨ j = 3 ∨ j = 4 ∨ j = 5 ∨ j = 6 ∨ j = 7 ∨ j = 8 ∨ j = 9 ∨ j = 10 ∨ j = 11 := by omega
    all_goals rfl
theorem vpart_skip {N : NetD} {c : List Int} {v : Nat} (h : c.length = 0) (m m' : Nat) : vpart N c v m = vpart N c v m' := by
  refine ext_nth (by rw [vpart_length, vpart_length]) fun j hj => ?_
  rw [vpart_length] at hj
  rw [nth_vpart hj, nth_vpart hj, if_neg (c := (j - 2) / 2 < m ∧ 0 < c.length) (by omega), if_neg (c := (j - 2) / 2 < m' ∧ 0 < c.length) (by omega)]
theorem vpart_step {N : NetD} {c : List Int} {v m : Nat} (h : 0 < c.length) (hm : m < 6) : ((vpart N c v m).set (2 + 2 * m) (nthE (nthL N.ends v) m).2).set (3 + 2 * m) (nth c (nthE (nthL N.ends v) m).1.toNat) = vpart N c v (m + 1) := by
  refine ext_nth (by rw [List.length_set, List.length_set, vpart_length, vpart_length]) fun j hj => ?_
  rw [List.length_set, List.length_set, vpart_length] at hj
  rw [nth_set _ _ _ _ (by rw [List.length_set, vpart_length]; omega), nth_set _ _ _ _ (by rw [vpart_length]; omega), nth_vpart hj, nth_vpart hj]
  by_cases e1 : j = 3 + 2 * m
  · rw [if_pos e1, if_neg (by omega), if_neg (by omega), if_pos ⟨by omega, h⟩, if_neg (by omega), show (j - 2) / 2 = m by omega]
  · rw [if_neg e1]
    by_cases e2 : j = 2 + 2 * m
    · rw [if_pos e2, if_neg (by omega), if_neg (by omega), if_pos ⟨by omega, h⟩, if_pos (by omega), show (j - 2) / 2 = m by omega]
    · rw [if_neg e2]
      by_cases e3 : j = 0
      · rw [if_pos e3, if_pos e3]
      · rw [if_neg e3, if_neg e3]
        by_cases e4 : j = 1
        · rw [if_pos e4, if_pos e4]
        · rw [if_neg e4, if_neg e4]
          by_cases e5 : (j - 2) / 2 < m ∧ 0 < c.length
          · rw [if_pos e5, if_pos (c := (j - 2) / 2 < m + 1 ∧ 0 < c.length) ⟨by omega, h⟩]
          · rw [if_neg e5, if_neg (by omega)]
theorem vkey_i64 {N : NetD} (hg : N.good = true) {c : List Int} (hc : ∀ x ∈ c, I64 x) (v : Nat) : ∀ z ∈ vkey N c v, I64 z := by
  intro z hz
  obtain ⟨j, hj, e⟩ := List.mem_iff_getElem.1 hz
  rw [vkey_length] at hj
  rw [← e, ← nth_eq (by rw [vkey_length]; exact hj), nth_vkey hj]
  have h0 : I64 (0 : Int) := by unfold I64; omega
  have h6 : (nthL N.ends v).length ≤ 6 := by
    by_cases hv : v < N.ends.length
    · exact good_deg hg hv
    · unfold nthL; rw [List.getD_eq_getElem?_getD, List.getElem?_eq_none (by omega)]; exact Nat.zero_le _
  by_cases e0 : j = 0
  · rw [if_pos e0]; unfold I64; omega
  rw [if_neg e0]
  by_cases e1 : j = 1
  · rw [if_pos e1]
    refine nth_i64 (fun x hx => ?_) v
    have := (good_inp hg).2 x hx
    unfold I64; omega
  rw [if_neg e1]
  by_cases e2 : (j - 2) / 2 < (nthL N.ends v).length ∧ 0 < c.length
  · rw [if_pos e2]
    by_cases e3 : j % 2 = 0
    · rw [if_pos e3]
      have hv : v < N.ends.length := by
        by_cases hv : v < N.ends.length
        · exact hv
        · exfalso
          have := e2.1
          unfold nthL at this; rw [List.getD_eq_getElem?_getD, List.getElem?_eq_none (by omega)] at this
          simp at this
      obtain ⟨t, r, et, ht, hr, _⟩ := good_end hg hv e2.1
      have := good_deg hg ht
      rw [et]; show I64 (r : Int); unfold I64; omega
    · rw [if_neg e3]; exact nth_i64 hc _
  · rw [if_neg e2]; exact h0
theorem arr14 {zs : List Int} (h : zs.length = 14) : arr zs = #[.int .i64 (nth zs 0), .int .i64 (nth zs 1), .int .i64 (nth zs 2), .int .i64 (nth zs 3), .int .i64 (nth zs 4), .int .i64 (nth zs 5), .int .i64 (nth zs 6), .int .i64 (nth zs 7), .int .i64 (nth zs 8), .int .i64 (nth zs 9), .int .i64 (nth zs 10), .int .i64 (nth zs 11), .int .i64 (nth zs 12), .int .i64 (nth zs 13)] := by
  match zs, h with
  | [a0, a1, a2, a3, a4, a5, a6, a7, a8, a9, a10, a11, a12, a13], _ => rfl
theorem BoxN.arrAt {w : World} {g : Nat} {zs : List Int} {t : TypeId} (h : BoxN w g (arr zs) t) {j : Nat} (hj : j < zs.length) : w.cell? ⟨g, j, none⟩ = some (.int .i64 (nth zs j)) := by
  rw [h.cell j (by rw [arr_size]; exact hj)]
  have := arr_at hj
  rw [Array.getElem?_eq_getElem (by rw [arr_size]; exact hj)] at this
  exact this
theorem BoxN.arrSet {w : World} {g : Nat} {zs : List Int} {t : TypeId} (h : BoxN w g (arr zs) t) (j : Nat) (x : Int) : BoxN (w.setCell ⟨g, j, none⟩ (.int .i64 x)) g (arr (zs.set j x)) t := by
  have := h.set j (.int .i64 x)
  rwa [arr_set] at this

set_option maxHeartbeats 4000000 in
set_option maxRecDepth 100000 in
theorem viewClasses0_any (v1 : Value) (N : NetD) (lo1 hi1 : Nat) (cv : Value) (w : World) (h1 : Net w lo1 hi1 v1 N) (hh1 : hi1 ≤ w.heap.size) (hg : N.good = true) (hcv : cv = .slice none 0 0) :
    Calls Try.prog 38 #[v1, cv] w fun e w' => ∃ r, e = .returned (r) ∧ IntS w' w.heap.size w'.heap.size r (vstep N []) ∧ Below w.heap.size w w' := by
  subst hcv
  have HCI := Lib.hid (show ∀ x ∈ ([] : List Int), I64 x from fun x hx => by cases hx)
  obtain ⟨n1, n40⟩ := good_n hg
  have HG := Lib.hid hg; clear hg
  have HKL := Lib.hid (show ∀ v, (vkey N [] v).length = 14 from fun v => vkey_length N [] v)
  have HKI := Lib.hid (vkey_i64 HG.out HCI.out)
  have HIL := Lib.hid (good_inp HG.out).1
  have hmk := fun W => run_make_row' (P := Try.prog) 23 3 (.int .i64 0) 8 Try.underlying23 Try.info3 rfl .i64 .i64 N.ends.length (by omega) (by omega) W
  have hmm := @run_makeMap Try.prog
  have hnn := fun w A l c n' c' => run_neq_slice_nil_any (P := Try.prog) w 23 3 A l c n' c' Try.underlying23
  have F1 := Lib.hid h1
  obtain ⟨A1, c1, A1', c1', A1'', c1'', rfl, hc1, hd1, _⟩ := h1.parts
  obtain ⟨b1, o1, _, _, rfl, _⟩ := Net.rowAt F1.out (u := 0) (by omega)
  clear h1
  obtain ⟨WA, HWA⟩ : ∃ W, Hid (W = (w.alloc (.cells #[.slice (some ⟨b1, o1, none⟩) N.ends.length c1, .slice A1' N.ids.length c1', .slice A1'' N.inputs.length c1''] 31))) := ⟨_, Lib.hid rfl⟩
  have hbA : Below w.heap.size w WA := by rw [HWA.out]; exact ((Below.refl _ _).alloc (Nat.le_refl _) _)
  have hsA : w.heap.size + 1 ≤ WA.heap.size := by rw [HWA.out]; simp; try omega
  have bx1 : BoxN WA (w.heap.size) #[.slice (some ⟨b1, o1, none⟩) N.ends.length c1, .slice A1' N.ids.length c1', .slice A1'' N.inputs.length c1''] 31 := by rw [HWA.out]; exact (BoxN.new' _ _ _ (by simp))
  have G1 := Lib.hid (Net.below F1.out hbA hh1); clear F1
  go_enter Try.func38, Try.ntmps38
  go_upto_region 1 with (fail)
  rw [← HWA.out]; clear HWA
  have HINP := Lib.hid (Net.inp G1.out)
  obtain ⟨bi, oi, rfl, _, hbi, _, _⟩ := IntS.opened HINP.out (j := 0) (by rw [HIL.out]; omega)
  obtain ⟨key, HKEY⟩ : ∃ key, Hid (vkey N [] = key) := ⟨_, Lib.hid rfl⟩
  rw [HKEY.out] at HKL HKI
  have kbx1_0 : WA.cell? ⟨w.heap.size, 0, none⟩ = some (.slice (some ⟨b1, o1, none⟩) N.ends.length c1) := bx1.cell 0 (by simp)
  have kbx1_1 : WA.cell? ⟨w.heap.size, 1, none⟩ = some (.slice A1' N.ids.length c1') := bx1.cell 1 (by simp)
  have kbx1_2 : WA.cell? ⟨w.heap.size, 2, none⟩ = some (.slice (some ⟨bi, oi, none⟩) N.inputs.length c1'') := bx1.cell 2 (by simp)
  go_upto_region 2 with (fail)
  refine nameC ?_
  intro W1 HW1
  have hg1 : WA.grownBy W1 none := by rw [HW1.out]; exact grown_alloc _ _
  have hs1 := hg1.size
  have HF1 := Lib.hid ((Turned.refl WA.heap.size WA.heap.size WA).still hg1)
  have HM := Lib.hid (show MpV key 0 W1 WA.heap.size by rw [HW1.out]; exact MpV.new key WA)
  have hzm : W1.heap.size = WA.heap.size + 1 := by rw [HW1.out]; simp
  clear HW1 kbx1_0 kbx1_1 kbx1_2
  have kbx1_0 : W1.cell? ⟨w.heap.size, 0, none⟩ = some (.slice (some ⟨b1, o1, none⟩) N.ends.length c1) := (HF1.out.boxN bx1 (by omega)).cell 0 (by simp)
  have kbx1_1 : W1.cell? ⟨w.heap.size, 1, none⟩ = some (.slice A1' N.ids.length c1') := (HF1.out.boxN bx1 (by omega)).cell 1 (by simp)
  have kbx1_2 : W1.cell? ⟨w.heap.size, 2, none⟩ = some (.slice (some ⟨bi, oi, none⟩) N.inputs.length c1'') := (HF1.out.boxN bx1 (by omega)).cell 2 (by simp)
  go_upto_region 3 with (fail)
  refine nameC ?_
  intro W2 HW2
  have hg2 : W1.grownBy W2 none := by rw [HW2.out]; exact grown_alloc _ _
  have hs2 := hg2.size
  have HF2 := Lib.hid (HF1.out.still hg2); clear HF1
  have M2 := Lib.hid (MpV.still HM.out hg2); clear HM
  have HO := Lib.hid (show IntS W2 (WA.heap.size + 1) (WA.heap.size + 2) (.slice (some ⟨WA.heap.size + 1, 0, none⟩) N.ends.length N.ends.length) (List.replicate N.ends.length 0) by rw [HW2.out]; exact made_ints _ _ _ hzm (by omega))
  have hz : WA.heap.size + 2 ≤ W2.heap.size := by rw [HW2.out]; simp; omega
  clear HW2 hmk hmm hzm kbx1_0 kbx1_1 kbx1_2
  have kbx1_0 : W2.cell? ⟨w.heap.size, 0, none⟩ = some (.slice (some ⟨b1, o1, none⟩) N.ends.length c1) := (HF2.out.boxN bx1 (by omega)).cell 0 (by simp)
  have kbx1_1 : W2.cell? ⟨w.heap.size, 1, none⟩ = some (.slice A1' N.ids.length c1') := (HF2.out.boxN bx1 (by omega)).cell 1 (by simp)
  have kbx1_2 : W2.cell? ⟨w.heap.size, 2, none⟩ = some (.slice (some ⟨bi, oi, none⟩) N.inputs.length c1'') := (HF2.out.boxN bx1 (by omega)).cell 2 (by simp)
  go_wp2_with fail
  clear kbx1_0 kbx1_1 kbx1_2
  go_loopw [22] (fun i wr => ∃ (k : Nat) (zs : List Int), k ≤ N.ends.length ∧ i = .int .i64 k ∧ Hid (MpV key k wr WA.heap.size) ∧ Hid (IntS wr (WA.heap.size + 1) (WA.heap.size + 2) (.slice (some ⟨WA.heap.size + 1, 0, none⟩) N.ends.length N.ends.length) zs) ∧ Hid (zs.length = N.ends.length) ∧ Hid (∀ j, j < N.ends.length → nth zs j = if j < k then (fun j => (cls key j : Int)) j else 0) ∧ WA.heap.size + 2 ≤ wr.heap.size ∧ Hid (Turned WA.heap.size WA.heap.size WA wr)) (fun i _ => N.ends.length - (intOf i).toNat)
  case atStart => exact ⟨0, List.replicate N.ends.length 0, Nat.zero_le _, rfl, M2, HO, Lib.hid (by simp), Lib.hid fun j hj => by rw [nth_replicate _ _ hj]; simp, hz, HF2⟩
  case round =>
    clear HF2
    obtain ⟨k, zs, hk, rfl, HM, HO, HL, HZ, hz, HF3⟩ := hrel
    have hs3 := HF3.out.size
    by_cases hlt : k < N.ends.length
    case neg =>
      obtain rfl : k = N.ends.length := by omega
      go_wp2_with fail
      go_ret
      refine ⟨_, rfl, ?_, (HF3.out.below_of hbA (by omega) (by omega))⟩
      have e : vstep N [] = zs := ext_nth (by rw [vstep_length, HL.out]) fun j hj => by
        rw [vstep_length] at hj
        rw [HZ.out j hj, if_pos hj]
        unfold vstep
        rw [nth_clsL hj, HKEY.out]
      rw [e]
      exact IntS.mono HO.out (by omega) (by omega)
    obtain ⟨wq, rfl⟩ : ∃ wq : World, wq = wr := ⟨_, rfl⟩
    obtain ⟨Ar, cr, hbr, qr, hcr, hdr, hRr⟩ := Net.rowIn G1.out hlt
    replace qr := (HF3.out.cell (by omega) (by omega)).trans qr
    have Rr := Lib.hid hRr; clear hRr
    have xi := ((IntS.turned HINP.out HF3.out (by omega) (by omega)).at_ (by rw [HIL.out]; exact hlt)).1
    have hd6 := good_deg HG.out hlt
    have hki : (k : Int) < N.ends.length := by omega
    have hkn : (k : Int) < N.inputs.length := by rw [HIL.out]; omega
    obtain ⟨inp, HIN⟩ : ∃ y, Hid (nth N.inputs k = y) := ⟨_, Lib.hid rfl⟩
    rw [HIN.out] at xi
    have HV0 := Lib.hid (vpart_zero N [] k)
    have kbx1_0 : wq.cell? ⟨w.heap.size, 0, none⟩ = some (.slice (some ⟨b1, o1, none⟩) N.ends.length c1) := (HF3.out.boxN bx1 (by omega)).cell 0 (by simp)
    have kbx1_1 : wq.cell? ⟨w.heap.size, 1, none⟩ = some (.slice A1' N.ids.length c1') := (HF3.out.boxN bx1 (by omega)).cell 1 (by simp)
    have kbx1_2 : wq.cell? ⟨w.heap.size, 2, none⟩ = some (.slice (some ⟨bi, oi, none⟩) N.inputs.length c1'') := (HF3.out.boxN bx1 (by omega)).cell 2 (by simp)
    go_upto_region 7 with (fail)
    refine nameC ?_
    intro W4 HW4
    have hg4 : wq.grownBy W4 none := by rw [HW4.out]; exact grown_alloc _ _
    have hs4 := hg4.size
    have HF4 := Lib.hid (HF3.out.still hg4); clear HF3
    have M4 := Lib.hid (MpV.still HM.out hg4); clear HM
    have O4 := Lib.hid (IntS.still HO.out hg4 (by omega)); clear HO
    have HK := Lib.hid (show BoxN W4 wq.heap.size (arr (vpart N [] k 0)) 68 by rw [HW4.out, HV0.out, HIN.out]; exact BoxN.new _ _ _)
    have hzk : wq.heap.size + 1 ≤ W4.heap.size := by rw [HW4.out]; simp
    clear HW4 kbx1_0 kbx1_1 kbx1_2 xi HV0
    go_wp2_with fail
    go_loopw [37] (fun iv wr => ∃ (m : Nat), m ≤ (nthL N.ends k).length ∧ iv = .int .i64 m ∧ Hid (BoxN wr wq.heap.size (arr (vpart N [] k m)) 68) ∧ Hid (MpV key k wr WA.heap.size) ∧ Hid (IntS wr (WA.heap.size + 1) (WA.heap.size + 2) (.slice (some ⟨WA.heap.size + 1, 0, none⟩) N.ends.length N.ends.length) zs) ∧ W4.heap.size ≤ wr.heap.size ∧ Hid (Turned WA.heap.size WA.heap.size WA wr)) (fun iv _ => (nthL N.ends k).length - (intOf iv).toNat)
    case atStart => exact ⟨0, Nat.zero_le _, rfl, HK, M4, O4, Nat.le_refl _, HF4⟩
    case round =>
      clear HF4
      obtain ⟨m, hm, rfl, HK, HM, HO, hz2, HF5⟩ := hrel
      have hs5 := HF5.out.size
      by_cases hml : m < (nthL N.ends k).length
      case pos =>
        obtain ⟨br, or, rfl, _, hbr', er, er'⟩ := (EndS.turned Rr.out HF5.out (by omega) (by omega)).opened hml
        obtain ⟨t, r, etr, ht, hr, eur⟩ := good_end HG.out hlt hml
        rw [etr] at er er'
        dsimp only at er er'
        have ETr := Lib.hid etr
        have EUr := Lib.hid eur
        clear etr eur
        obtain ⟨wp, rfl⟩ : ∃ wp : World, wp = wr := ⟨_, rfl⟩
        go_upto_region 10 with (fail)
        refine nameC ?_
        intro W6 HW6
        have hg6 : wp.grownBy W6 none := by rw [HW6.out]; exact grown_alloc _ _
        have hs6 := hg6.size
        have HF6 := Lib.hid (HF5.out.still hg6); clear HF5
        have M6 := Lib.hid (MpV.still HM.out hg6); clear HM
        have O6 := Lib.hid (IntS.still HO.out hg6 (by omega)); clear HO
        have K6 := Lib.hid (BoxN.still HK.out hg6); clear HK
        have bxe6 := Lib.hid (show BoxN W6 wp.heap.size #[.int .i64 t, .int .i64 r] 53 by rw [HW6.out]; exact BoxN.new _ _ _)
        clear HW6
        clear er er'
        go_wp2_with fail
        go_roundw
        case rel =>
          have e := vpart_skip (N := N) (c := []) (v := k) rfl (m + 1) m
          exact ⟨m + 1, by omega, by go_num, by rw [e]; exact K6, M6, O6, by omega, HF6⟩
        case measure => simp [intOf]; omega
      obtain rfl : m = (nthL N.ends k).length := by omega
      rw [vpart_end, HKEY.out] at HK
      have hk14 := HKL.out k
      obtain ⟨wl, rfl⟩ : ∃ wl : World, wl = wr := ⟨_, rfl⟩
      have ha14 := arr14 hk14
      obtain ⟨cv0, hlook, hcv0⟩ := HM.out.look HKL.out HKI.out
      have HCV := Lib.hid hcv0; clear hcv0
      rw [ha14] at hlook
      have kk0 : wl.cell? ⟨wq.heap.size, 0, none⟩ = some (.int .i64 (nth (key k) 0)) := BoxN.arrAt HK.out (by omega)
      have kk1 : wl.cell? ⟨wq.heap.size, 1, none⟩ = some (.int .i64 (nth (key k) 1)) := BoxN.arrAt HK.out (by omega)
      have kk2 : wl.cell? ⟨wq.heap.size, 2, none⟩ = some (.int .i64 (nth (key k) 2)) := BoxN.arrAt HK.out (by omega)
      have kk3 : wl.cell? ⟨wq.heap.size, 3, none⟩ = some (.int .i64 (nth (key k) 3)) := BoxN.arrAt HK.out (by omega)
      have kk4 : wl.cell? ⟨wq.heap.size, 4, none⟩ = some (.int .i64 (nth (key k) 4)) := BoxN.arrAt HK.out (by omega)
      have kk5 : wl.cell? ⟨wq.heap.size, 5, none⟩ = some (.int .i64 (nth (key k) 5)) := BoxN.arrAt HK.out (by omega)
      have kk6 : wl.cell? ⟨wq.heap.size, 6, none⟩ = some (.int .i64 (nth (key k) 6)) := BoxN.arrAt HK.out (by omega)
      have kk7 : wl.cell? ⟨wq.heap.size, 7, none⟩ = some (.int .i64 (nth (key k) 7)) := BoxN.arrAt HK.out (by omega)
      have kk8 : wl.cell? ⟨wq.heap.size, 8, none⟩ = some (.int .i64 (nth (key k) 8)) := BoxN.arrAt HK.out (by omega)
      have kk9 : wl.cell? ⟨wq.heap.size, 9, none⟩ = some (.int .i64 (nth (key k) 9)) := BoxN.arrAt HK.out (by omega)
      have kk10 : wl.cell? ⟨wq.heap.size, 10, none⟩ = some (.int .i64 (nth (key k) 10)) := BoxN.arrAt HK.out (by omega)
      have kk11 : wl.cell? ⟨wq.heap.size, 11, none⟩ = some (.int .i64 (nth (key k) 11)) := BoxN.arrAt HK.out (by omega)
      have kk12 : wl.cell? ⟨wq.heap.size, 12, none⟩ = some (.int .i64 (nth (key k) 12)) := BoxN.arrAt HK.out (by omega)
      have kk13 : wl.cell? ⟨wq.heap.size, 13, none⟩ = some (.int .i64 (nth (key k) 13)) := BoxN.arrAt HK.out (by omega)
      cases hold : old key k with
      | true =>
        rw [hold] at hlook
        have HCE := Lib.hid (HCV.out hold)
        have HOLD := Lib.hid hold; clear hold
        have x1 := (IntS.at0 HO.out (j := k) (by rw [HL.out]; exact hlt)).1
        have x2 := (IntS.at0 HO.out (j := k) (by rw [HL.out]; exact hlt)).2
        have HSO := Lib.hid (IntS.set0 HO.out (j := k) (by rw [HL.out]; exact hlt) (cls key k))
        obtain ⟨y0, HY0⟩ : ∃ y, Hid (nth zs k = y) := ⟨_, Lib.hid rfl⟩
        rw [HY0.out] at x1
        rw [HCE.out] at hlook
        have HMK := Lib.hid (HM.out.skip HOLD.out)
        go_wp2_with fail
        go_roundw
        case rel => exact ⟨k + 1, _, by omega, by go_num, Lib.hid (HMK.out.far (grown_set _ ⟨WA.heap.size + 1, k, none⟩ _) (fun g e => by simp at e; omega)), HSO, Lib.hid (by rw [List.length_set]; exact HL.out), Lib.hid (set_fold HL.out hlt HZ.out), by rw [size_setCell]; omega, Lib.hid (HF5.out.grown (grown_set _ ⟨WA.heap.size + 1, k, none⟩ _) fun g hg => .inr (by simp at hg; omega))⟩
        case measure => simp [intOf]; omega
      | false =>
        rw [hold] at hlook
        have HOLD := Lib.hid hold; clear hold
        have HCN := Lib.hid (cls_new HOLD.out)
        have hlen := HM.out.len 3
        obtain ⟨w2, hU, hg2, hM2⟩ := HM.out.put (by omega) HKL.out HKI.out HOLD.out
        rw [ha14] at hU
        have HM2 := Lib.hid hM2; clear hM2
        obtain ⟨mk, HMK⟩ : ∃ x, Hid (many key k = x) := ⟨_, Lib.hid rfl⟩
        rw [HMK.out] at hlen hU HCN
        go_upto_region 17 with fail
        clear hlook hlen hU kk0 kk1 kk2 kk3 kk4 kk5 kk6 kk7 kk8 kk9 kk10 kk11 kk12 kk13
        have hs6 := hg2.size
        have HF6 := Lib.hid (HF5.out.grown hg2 (fun g e => by cases e; omega)); clear HF5
        have O6 := Lib.hid (IntS.far HO.out hg2 (by omega) (fun g e => by cases e; omega)); clear HO
        clear HM HK
        have x1 := (IntS.at0 O6.out (j := k) (by rw [HL.out]; exact hlt)).1
        have x2 := (IntS.at0 O6.out (j := k) (by rw [HL.out]; exact hlt)).2
        have HSO := Lib.hid (IntS.set0 O6.out (j := k) (by rw [HL.out]; exact hlt) (mk))
        obtain ⟨y0, HY0⟩ : ∃ y, Hid (nth zs k = y) := ⟨_, Lib.hid rfl⟩
        rw [HY0.out] at x1
        go_wp2_with fail
        go_roundw
        case rel => exact ⟨k + 1, _, by omega, by go_num, Lib.hid (HM2.out.far (grown_set _ ⟨WA.heap.size + 1, k, none⟩ _) (fun g e => by simp at e; omega)), HSO, Lib.hid (by rw [List.length_set]; exact HL.out), Lib.hid (by have := set_fold HL.out hlt HZ.out; (try dsimp only at this); rw [HCN.out] at this; exact this), by rw [size_setCell]; omega, Lib.hid (HF6.out.grown (grown_set _ ⟨WA.heap.size + 1, k, none⟩ _) fun g hg => .inr (by simp at hg; omega))⟩
        case measure => simp [intOf]; omega

set_option maxHeartbeats 4000000 in
set_option maxRecDepth 100000 in
theorem viewClasses_any (v1 : Value) (N : NetD) (lo1 hi1 : Nat) (v2 : Value) (c : List Int) (lo2 hi2 : Nat) (w : World) (h1 : Net w lo1 hi1 v1 N) (hh1 : hi1 ≤ w.heap.size) (h2 : IntS w lo2 hi2 v2 c) (hh2 : hi2 ≤ w.heap.size) (hg : N.good = true) (hcl : c.length = N.ends.length) (hci : ∀ x ∈ c, I64 x) :
    Calls Try.prog 38 #[v1, v2] w fun e w' => ∃ r, e = .returned (r) ∧ IntS w' w.heap.size w'.heap.size r (vstep N c) ∧ Below w.heap.size w w' := by
  have HCL := Lib.hid hcl; clear hcl
  have HCI := Lib.hid hci; clear hci
  obtain ⟨n1, n40⟩ := good_n hg
  have HG := Lib.hid hg; clear hg
  have HKL := Lib.hid (show ∀ v, (vkey N c v).length = 14 from fun v => vkey_length N c v)
  have HKI := Lib.hid (vkey_i64 HG.out HCI.out)
  have HIL := Lib.hid (good_inp HG.out).1
  have hmk := fun W => run_make_row' (P := Try.prog) 23 3 (.int .i64 0) 8 Try.underlying23 Try.info3 rfl .i64 .i64 N.ends.length (by omega) (by omega) W
  have hmm := @run_makeMap Try.prog
  have hnn := fun w A l c n' c' => run_neq_slice_nil_any (P := Try.prog) w 23 3 A l c n' c' Try.underlying23
  have F1 := Lib.hid h1
  obtain ⟨A1, c1, A1', c1', A1'', c1'', rfl, hc1, hd1, _⟩ := h1.parts
  obtain ⟨b1, o1, _, _, rfl, _⟩ := Net.rowAt F1.out (u := 0) (by omega)
  clear h1
  have F2 := Lib.hid h2
  obtain ⟨A2, c2, rfl, hc2, hd2⟩ := h2.dims
  clear h2
  obtain ⟨WA, HWA⟩ : ∃ W, Hid (W = (w.alloc (.cells #[.slice (some ⟨b1, o1, none⟩) N.ends.length c1, .slice A1' N.ids.length c1', .slice A1'' N.inputs.length c1''] 31))) := ⟨_, Lib.hid rfl⟩
  have hbA : Below w.heap.size w WA := by rw [HWA.out]; exact ((Below.refl _ _).alloc (Nat.le_refl _) _)
  have hsA : w.heap.size + 1 ≤ WA.heap.size := by rw [HWA.out]; simp; try omega
  have bx1 : BoxN WA (w.heap.size) #[.slice (some ⟨b1, o1, none⟩) N.ends.length c1, .slice A1' N.ids.length c1', .slice A1'' N.inputs.length c1''] 31 := by rw [HWA.out]; exact (BoxN.new' _ _ _ (by simp))
  have G1 := Lib.hid (Net.below F1.out hbA hh1); clear F1
  have G2 := Lib.hid (IntS.below F2.out hbA hh2); clear F2
  go_enter Try.func38, Try.ntmps38
  go_upto_region 1 with (fail)
  rw [← HWA.out]; clear HWA
  have HINP := Lib.hid (Net.inp G1.out)
  obtain ⟨bi, oi, rfl, _, hbi, _, _⟩ := IntS.opened HINP.out (j := 0) (by rw [HIL.out]; omega)
  obtain ⟨bc, oc, rfl, _, hbc, _, _⟩ := IntS.opened G2.out (j := 0) (by rw [HCL.out]; omega)
  obtain ⟨key, HKEY⟩ : ∃ key, Hid (vkey N c = key) := ⟨_, Lib.hid rfl⟩
  rw [HKEY.out] at HKL HKI
  have kbx1_0 : WA.cell? ⟨w.heap.size, 0, none⟩ = some (.slice (some ⟨b1, o1, none⟩) N.ends.length c1) := bx1.cell 0 (by simp)
  have kbx1_1 : WA.cell? ⟨w.heap.size, 1, none⟩ = some (.slice A1' N.ids.length c1') := bx1.cell 1 (by simp)
  have kbx1_2 : WA.cell? ⟨w.heap.size, 2, none⟩ = some (.slice (some ⟨bi, oi, none⟩) N.inputs.length c1'') := bx1.cell 2 (by simp)
  go_upto_region 2 with (fail)
  refine nameC ?_
  intro W1 HW1
  have hg1 : WA.grownBy W1 none := by rw [HW1.out]; exact grown_alloc _ _
  have hs1 := hg1.size
  have HF1 := Lib.hid ((Turned.refl WA.heap.size WA.heap.size WA).still hg1)
  have HM := Lib.hid (show MpV key 0 W1 WA.heap.size by rw [HW1.out]; exact MpV.new key WA)
  have hzm : W1.heap.size = WA.heap.size + 1 := by rw [HW1.out]; simp
  clear HW1 kbx1_0 kbx1_1 kbx1_2
  have kbx1_0 : W1.cell? ⟨w.heap.size, 0, none⟩ = some (.slice (some ⟨b1, o1, none⟩) N.ends.length c1) := (HF1.out.boxN bx1 (by omega)).cell 0 (by simp)
  have kbx1_1 : W1.cell? ⟨w.heap.size, 1, none⟩ = some (.slice A1' N.ids.length c1') := (HF1.out.boxN bx1 (by omega)).cell 1 (by simp)
  have kbx1_2 : W1.cell? ⟨w.heap.size, 2, none⟩ = some (.slice (some ⟨bi, oi, none⟩) N.inputs.length c1'') := (HF1.out.boxN bx1 (by omega)).cell 2 (by simp)
  go_upto_region 3 with (fail)
  refine nameC ?_
  intro W2 HW2
  have hg2 : W1.grownBy W2 none := by rw [HW2.out]; exact grown_alloc _ _
  have hs2 := hg2.size
  have HF2 := Lib.hid (HF1.out.still hg2); clear HF1
  have M2 := Lib.hid (MpV.still HM.out hg2); clear HM
  have HO := Lib.hid (show IntS W2 (WA.heap.size + 1) (WA.heap.size + 2) (.slice (some ⟨WA.heap.size + 1, 0, none⟩) N.ends.length N.ends.length) (List.replicate N.ends.length 0) by rw [HW2.out]; exact made_ints _ _ _ hzm (by omega))
  have hz : WA.heap.size + 2 ≤ W2.heap.size := by rw [HW2.out]; simp; omega
  clear HW2 hmk hmm hzm kbx1_0 kbx1_1 kbx1_2
  have kbx1_0 : W2.cell? ⟨w.heap.size, 0, none⟩ = some (.slice (some ⟨b1, o1, none⟩) N.ends.length c1) := (HF2.out.boxN bx1 (by omega)).cell 0 (by simp)
  have kbx1_1 : W2.cell? ⟨w.heap.size, 1, none⟩ = some (.slice A1' N.ids.length c1') := (HF2.out.boxN bx1 (by omega)).cell 1 (by simp)
  have kbx1_2 : W2.cell? ⟨w.heap.size, 2, none⟩ = some (.slice (some ⟨bi, oi, none⟩) N.inputs.length c1'') := (HF2.out.boxN bx1 (by omega)).cell 2 (by simp)
  go_wp2_with fail
  clear kbx1_0 kbx1_1 kbx1_2
  go_loopw [22] (fun i wr => ∃ (k : Nat) (zs : List Int), k ≤ N.ends.length ∧ i = .int .i64 k ∧ Hid (MpV key k wr WA.heap.size) ∧ Hid (IntS wr (WA.heap.size + 1) (WA.heap.size + 2) (.slice (some ⟨WA.heap.size + 1, 0, none⟩) N.ends.length N.ends.length) zs) ∧ Hid (zs.length = N.ends.length) ∧ Hid (∀ j, j < N.ends.length → nth zs j = if j < k then (fun j => (cls key j : Int)) j else 0) ∧ WA.heap.size + 2 ≤ wr.heap.size ∧ Hid (Turned WA.heap.size WA.heap.size WA wr)) (fun i _ => N.ends.length - (intOf i).toNat)
  case atStart => exact ⟨0, List.replicate N.ends.length 0, Nat.zero_le _, rfl, M2, HO, Lib.hid (by simp), Lib.hid fun j hj => by rw [nth_replicate _ _ hj]; simp, hz, HF2⟩
  case round =>
    clear HF2
    obtain ⟨k, zs, hk, rfl, HM, HO, HL, HZ, hz, HF3⟩ := hrel
    have hs3 := HF3.out.size
    by_cases hlt : k < N.ends.length
    case neg =>
      obtain rfl : k = N.ends.length := by omega
      go_wp2_with fail
      go_ret
      refine ⟨_, rfl, ?_, (HF3.out.below_of hbA (by omega) (by omega))⟩
      have e : vstep N c = zs := ext_nth (by rw [vstep_length, HL.out]) fun j hj => by
        rw [vstep_length] at hj
        rw [HZ.out j hj, if_pos hj]
        unfold vstep
        rw [nth_clsL hj, HKEY.out]
      rw [e]
      exact IntS.mono HO.out (by omega) (by omega)
    obtain ⟨wq, rfl⟩ : ∃ wq : World, wq = wr := ⟨_, rfl⟩
    obtain ⟨Ar, cr, hbr, qr, hcr, hdr, hRr⟩ := Net.rowIn G1.out hlt
    replace qr := (HF3.out.cell (by omega) (by omega)).trans qr
    have Rr := Lib.hid hRr; clear hRr
    have xi := ((IntS.turned HINP.out HF3.out (by omega) (by omega)).at_ (by rw [HIL.out]; exact hlt)).1
    have hd6 := good_deg HG.out hlt
    have hki : (k : Int) < N.ends.length := by omega
    have hkn : (k : Int) < N.inputs.length := by rw [HIL.out]; omega
    obtain ⟨inp, HIN⟩ : ∃ y, Hid (nth N.inputs k = y) := ⟨_, Lib.hid rfl⟩
    rw [HIN.out] at xi
    have HV0 := Lib.hid (vpart_zero N c k)
    have kbx1_0 : wq.cell? ⟨w.heap.size, 0, none⟩ = some (.slice (some ⟨b1, o1, none⟩) N.ends.length c1) := (HF3.out.boxN bx1 (by omega)).cell 0 (by simp)
    have kbx1_1 : wq.cell? ⟨w.heap.size, 1, none⟩ = some (.slice A1' N.ids.length c1') := (HF3.out.boxN bx1 (by omega)).cell 1 (by simp)
    have kbx1_2 : wq.cell? ⟨w.heap.size, 2, none⟩ = some (.slice (some ⟨bi, oi, none⟩) N.inputs.length c1'') := (HF3.out.boxN bx1 (by omega)).cell 2 (by simp)
    go_upto_region 7 with (fail)
    refine nameC ?_
    intro W4 HW4
    have hg4 : wq.grownBy W4 none := by rw [HW4.out]; exact grown_alloc _ _
    have hs4 := hg4.size
    have HF4 := Lib.hid (HF3.out.still hg4); clear HF3
    have M4 := Lib.hid (MpV.still HM.out hg4); clear HM
    have O4 := Lib.hid (IntS.still HO.out hg4 (by omega)); clear HO
    have HK := Lib.hid (show BoxN W4 wq.heap.size (arr (vpart N c k 0)) 68 by rw [HW4.out, HV0.out, HIN.out]; exact BoxN.new _ _ _)
    have hzk : wq.heap.size + 1 ≤ W4.heap.size := by rw [HW4.out]; simp
    clear HW4 kbx1_0 kbx1_1 kbx1_2 xi HV0
    go_wp2_with fail
    go_loopw [37] (fun iv wr => ∃ (m : Nat), m ≤ (nthL N.ends k).length ∧ iv = .int .i64 m ∧ Hid (BoxN wr wq.heap.size (arr (vpart N c k m)) 68) ∧ Hid (MpV key k wr WA.heap.size) ∧ Hid (IntS wr (WA.heap.size + 1) (WA.heap.size + 2) (.slice (some ⟨WA.heap.size + 1, 0, none⟩) N.ends.length N.ends.length) zs) ∧ W4.heap.size ≤ wr.heap.size ∧ Hid (Turned WA.heap.size WA.heap.size WA wr)) (fun iv _ => (nthL N.ends k).length - (intOf iv).toNat)
    case atStart => exact ⟨0, Nat.zero_le _, rfl, HK, M4, O4, Nat.le_refl _, HF4⟩
    case round =>
      clear HF4
      obtain ⟨m, hm, rfl, HK, HM, HO, hz2, HF5⟩ := hrel
      have hs5 := HF5.out.size
      by_cases hml : m < (nthL N.ends k).length
      case pos =>
        obtain ⟨br, or, rfl, _, hbr', er, er'⟩ := (EndS.turned Rr.out HF5.out (by omega) (by omega)).opened hml
        obtain ⟨t, r, etr, ht, hr, eur⟩ := good_end HG.out hlt hml
        rw [etr] at er er'
        dsimp only at er er'
        have ETr := Lib.hid etr
        have EUr := Lib.hid eur
        clear etr eur
        obtain ⟨wp, rfl⟩ : ∃ wp : World, wp = wr := ⟨_, rfl⟩
        go_upto_region 10 with (fail)
        refine nameC ?_
        intro W6 HW6
        have hg6 : wp.grownBy W6 none := by rw [HW6.out]; exact grown_alloc _ _
        have hs6 := hg6.size
        have HF6 := Lib.hid (HF5.out.still hg6); clear HF5
        have M6 := Lib.hid (MpV.still HM.out hg6); clear HM
        have O6 := Lib.hid (IntS.still HO.out hg6 (by omega)); clear HO
        have K6 := Lib.hid (BoxN.still HK.out hg6); clear HK
        have bxe6 := Lib.hid (show BoxN W6 wp.heap.size #[.int .i64 t, .int .i64 r] 53 by rw [HW6.out]; exact BoxN.new _ _ _)
        clear HW6
        clear er er'
        have HSTEP := Lib.hid (vpart_step (N := N) (c := c) (v := k) (m := m) (by rw [HCL.out]; omega) (by omega))
        obtain ⟨p2, HP2⟩ : ∃ p, Hid (2 + 2 * m = p) := ⟨_, Lib.hid rfl⟩
        obtain ⟨p3, HP3⟩ : ∃ p, Hid (3 + 2 * m = p) := ⟨_, Lib.hid rfl⟩
        have hp2 : p2 < 14 := by rw [← HP2.out]; omega
        have hp3 : p3 < 14 := by rw [← HP3.out]; omega
        have hp2i : (p2 : Int) < 14 := by omega
        have hp3i : (p3 : Int) < 14 := by omega
        have hw1 : IntKind.i64.wrap (2 * (m : Int)) = 2 * (m : Int) := IntWalk.i64_in _ (by omega)
        have hw2 : IntKind.i64.wrap (2 + 2 * (m : Int)) = (p2 : Int) := by rw [IntWalk.i64_in _ (by omega), ← HP2.out]; omega
        have hw3 : IntKind.i64.wrap (3 + 2 * (m : Int)) = (p3 : Int) := by rw [IntWalk.i64_in _ (by omega), ← HP3.out]; omega
        have htl : t < c.length := by rw [HCL.out]; exact ht
        have hti : (t : Int) < c.length := by omega
        obtain ⟨y, HY⟩ : ∃ y, Hid (nth c t = y) := ⟨_, Lib.hid rfl⟩
        rw [HP2.out, HP3.out, ETr.out] at HSTEP
        obtain ⟨ks, HKS⟩ : ∃ ks, Hid (vpart N c k m = ks) := ⟨_, Lib.hid rfl⟩
        have hkl : ks.length = 14 := by rw [← HKS.out]; exact vpart_length _ _ _ _
        rw [HKS.out] at K6 HSTEP
        go_wp2_with fail
        refine wp_region_U (fun w' => w'.cell? ⟨wp.heap.size, 0, none⟩ = some (.int .i64 t) ∧ w'.cell? ⟨wp.heap.size, 1, none⟩ = some (.int .i64 r) ∧ w'.cell? ⟨bc, oc + t, none⟩ = some (.int .i64 y)) [15, 16] (by kernel_rfl) ?_
        refine nameU ?_
        intro W7 HW7
        have hg7 : W6.grownBy W7 none := by rw [HW7.out]; exact grown_drew _
        clear HW7
        have hs7 := hg7.size
        have HF7 := Lib.hid (HF6.out.still hg7); clear HF6
        have M7 := Lib.hid (MpV.still M6.out hg7); clear M6
        have O7 := Lib.hid (IntS.still O6.out hg7 (by omega)); clear O6
        have K7 := Lib.hid (BoxN.still K6.out hg7); clear K6
        have bxe7 := Lib.hid (BoxN.still bxe6.out hg7); clear bxe6
        have hS8 : W7.cell? ⟨wp.heap.size, 0, none⟩ = some (.int .i64 t) ∧ W7.cell? ⟨wp.heap.size, 1, none⟩ = some (.int .i64 r) ∧ W7.cell? ⟨bc, oc + t, none⟩ = some (.int .i64 y) := ⟨bxe7.out.cell 0 (by simp), bxe7.out.cell 1 (by simp), (by have := (IntS.at_ (IntS.turned G2.out HF7.out (by omega) (by omega)) (j := t) htl).1; rw [HY.out] at this; exact this)⟩
        refine anyU_take (i := 0) (v := .int .i64 m) rfl (by kernel_rfl) (by kernel_rfl) (by kernel_rfl) (fun _ _ _ h => h) ⟨by rfl, fun w' hS' => (by obtain ⟨s1, s2, s3⟩ := hS'; go_simp)⟩ hS8 ?_
        simp only [List.getElem_toArray, List.getElem_cons_zero, Act.put, List.setIfInBounds_toArray, List.set_cons_zero, List.set_cons_succ]
        refine anyU_take (i := 1) (v := .int .i64 (2 * (m : Int))) rfl (by kernel_rfl) (by kernel_rfl) (by kernel_rfl) (fun _ _ _ h => h) ⟨by rfl, fun w' hS' => (by obtain ⟨s1, s2, s3⟩ := hS'; simp [go_sem, hw1])⟩ hS8 ?_
        simp only [List.getElem_toArray, List.getElem_cons_succ, List.getElem_cons_zero, Act.put, List.setIfInBounds_toArray, List.set_cons_zero, List.set_cons_succ]
        refine anyU_take (i := 2) (v := .int .i64 p2) rfl (by kernel_rfl) (by kernel_rfl) (by kernel_rfl) (fun _ _ _ h => h) ⟨by rfl, fun w' hS' => (by obtain ⟨s1, s2, s3⟩ := hS'; simp [go_sem, hw2])⟩ hS8 ?_
        simp only [List.getElem_toArray, List.getElem_cons_succ, List.getElem_cons_zero, Act.put, List.setIfInBounds_toArray, List.set_cons_zero, List.set_cons_succ]
        refine anyU_take (i := 3) (v := .int .i64 m) rfl (by kernel_rfl) (by kernel_rfl) (by kernel_rfl) (fun _ _ _ h => h) ⟨by rfl, fun w' hS' => (by obtain ⟨s1, s2, s3⟩ := hS'; go_simp)⟩ hS8 ?_
        simp only [List.getElem_toArray, List.getElem_cons_succ, List.getElem_cons_zero, Act.put, List.setIfInBounds_toArray, List.set_cons_zero, List.set_cons_succ]
        refine anyU_take (i := 4) (v := .int .i64 (2 * (m : Int))) rfl (by kernel_rfl) (by kernel_rfl) (by kernel_rfl) (fun _ _ _ h => h) ⟨by rfl, fun w' hS' => (by obtain ⟨s1, s2, s3⟩ := hS'; simp [go_sem, hw1])⟩ hS8 ?_
        simp only [List.getElem_toArray, List.getElem_cons_succ, List.getElem_cons_zero, Act.put, List.setIfInBounds_toArray, List.set_cons_zero, List.set_cons_succ]
        refine anyU_take (i := 5) (v := .int .i64 p3) rfl (by kernel_rfl) (by kernel_rfl) (by kernel_rfl) (fun _ _ _ h => h) ⟨by rfl, fun w' hS' => (by obtain ⟨s1, s2, s3⟩ := hS'; simp [go_sem, hw3])⟩ hS8 ?_
        simp only [List.getElem_toArray, List.getElem_cons_succ, List.getElem_cons_zero, Act.put, List.setIfInBounds_toArray, List.set_cons_zero, List.set_cons_succ]
        refine anyU_take (i := 6) (v := .pointer (some ⟨wp.heap.size, 1, none⟩)) rfl (by kernel_rfl) (by kernel_rfl) (by kernel_rfl) (fun _ _ _ h => h) ⟨by rfl, fun w' hS' => (by obtain ⟨s1, s2, s3⟩ := hS'; go_simp)⟩ hS8 ?_
        simp only [List.getElem_toArray, List.getElem_cons_succ, List.getElem_cons_zero, Act.put, List.setIfInBounds_toArray, List.set_cons_zero, List.set_cons_succ]
        refine anyU_take (i := 7) (v := .int .i64 r) rfl (by kernel_rfl) (by kernel_rfl) (by kernel_rfl) (fun _ _ _ h => h) ⟨by rfl, fun w' hS' => (by obtain ⟨s1, s2, s3⟩ := hS'; go_simp)⟩ hS8 ?_
        simp only [List.getElem_toArray, List.getElem_cons_succ, List.getElem_cons_zero, Act.put, List.setIfInBounds_toArray, List.set_cons_zero, List.set_cons_succ]
        refine anyU_take (i := 8) (v := .slice (some ⟨bc, oc, none⟩) c.length c2) rfl (by kernel_rfl) (by kernel_rfl) (by kernel_rfl) (fun _ _ _ h => h) ⟨by rfl, fun w' hS' => (by obtain ⟨s1, s2, s3⟩ := hS'; go_simp)⟩ hS8 ?_
        simp only [List.getElem_toArray, List.getElem_cons_succ, List.getElem_cons_zero, Act.put, List.setIfInBounds_toArray, List.set_cons_zero, List.set_cons_succ]
        refine anyU_take (i := 9) (v := .pointer (some ⟨wp.heap.size, 0, none⟩)) rfl (by kernel_rfl) (by kernel_rfl) (by kernel_rfl) (fun _ _ _ h => h) ⟨by rfl, fun w' hS' => (by obtain ⟨s1, s2, s3⟩ := hS'; go_simp)⟩ hS8 ?_
        simp only [List.getElem_toArray, List.getElem_cons_succ, List.getElem_cons_zero, Act.put, List.setIfInBounds_toArray, List.set_cons_zero, List.set_cons_succ]
        refine anyU_take (i := 10) (v := .int .i64 t) rfl (by kernel_rfl) (by kernel_rfl) (by kernel_rfl) (fun _ _ _ h => h) ⟨by rfl, fun w' hS' => (by obtain ⟨s1, s2, s3⟩ := hS'; go_simp)⟩ hS8 ?_
        simp only [List.getElem_toArray, List.getElem_cons_succ, List.getElem_cons_zero, Act.put, List.setIfInBounds_toArray, List.set_cons_zero, List.set_cons_succ]
        refine anyU_take (i := 11) (v := .pointer (some ⟨bc, oc + t, none⟩)) rfl (by kernel_rfl) (by kernel_rfl) (by kernel_rfl) (fun _ _ _ h => h) ⟨by rfl, fun w' hS' => (by obtain ⟨s1, s2, s3⟩ := hS'; simp [go_sem, hti])⟩ hS8 ?_
        simp only [List.getElem_toArray, List.getElem_cons_succ, List.getElem_cons_zero, Act.put, List.setIfInBounds_toArray, List.set_cons_zero, List.set_cons_succ]
        refine anyU_take (i := 12) (v := .int .i64 y) rfl (by kernel_rfl) (by kernel_rfl) (by kernel_rfl) (fun _ _ _ h => h) ⟨by rfl, fun w' hS' => (by obtain ⟨s1, s2, s3⟩ := hS'; go_simp)⟩ hS8 ?_
        simp only [List.getElem_toArray, List.getElem_cons_succ, List.getElem_cons_zero, Act.put, List.setIfInBounds_toArray, List.set_cons_zero, List.set_cons_succ]
        refine anyU_take (i := 13) (v := .pointer (some ⟨wq.heap.size, p2, none⟩)) rfl (by kernel_rfl) (by kernel_rfl) (by kernel_rfl) (fun _ _ _ h => h) ⟨by rfl, fun w' hS' => (by obtain ⟨s1, s2, s3⟩ := hS'; simp [go_sem, hp2i])⟩ hS8 ?_
        simp only [List.getElem_toArray, List.getElem_cons_succ, List.getElem_cons_zero, Act.put, List.setIfInBounds_toArray, List.set_cons_zero, List.set_cons_succ]
        have x3d : W7.cell? ⟨wq.heap.size, p2, none⟩ = some (.int .i64 (nth ks p2)) := BoxN.arrAt K7.out (by omega)
        have x3e : W7.frozen? ⟨wq.heap.size, p2, none⟩ = false := BoxN.frozen K7.out p2
        have hbk : bc ≠ wq.heap.size := by omega
        have HKX := Lib.hid (BoxN.arrSet K7.out p2 (r : Int))
        refine anyU_ready (rs := [14]) (by kernel_rfl) (by simp) ?_
        refine ReadyU.cons (i := 14) rfl (fun K hK => ?_) ReadyU.nil
        simp only [List.getElem_toArray, List.getElem_cons_succ, List.getElem_cons_zero]
        refine ite_is (by rfl) ?_
        simp [go_sem, x3d, x3e]
        refine hK.out _ _ ⟨fun _ => ⟨(by rw [World.cell?_setCell_far _ _ _ _ (by show wq.heap.size ≠ wp.heap.size; omega)]; exact hS8.1), (by rw [World.cell?_setCell_far _ _ _ _ (by show wq.heap.size ≠ wp.heap.size; omega)]; exact hS8.2.1), (by rw [World.cell?_setCell_far _ _ _ _ (by show wq.heap.size ≠ bc; omega)]; exact hS8.2.2)⟩, ?_⟩
        clear hK K
        try simp only [List.getElem_toArray, List.getElem_cons_succ, List.getElem_cons_zero, Act.put, List.setIfInBounds_toArray, List.set_cons_zero, List.set_cons_succ]
        refine nameU ?_
        intro W9 HW9
        have hg9 : W7.grownBy W9 (some wq.heap.size) := by rw [HW9.out]; exact grown_set _ _ _
        have hs9 := hg9.size
        have HF9 := Lib.hid (HF7.out.grown hg9 (fun g hg => by cases hg; omega)); clear HF7
        have M9 := Lib.hid (MpV.far M7.out hg9 (fun g hg => by cases hg; omega)); clear M7
        have O9 := Lib.hid (IntS.far O7.out hg9 (by omega) (fun g hg => by cases hg; omega)); clear O7
        have bxe9 := Lib.hid (BoxN.far bxe7.out hg9 (fun g hg => by cases hg; omega)); clear bxe7
        clear hS8
        have hS10 : W9.cell? ⟨wp.heap.size, 0, none⟩ = some (.int .i64 t) ∧ W9.cell? ⟨wp.heap.size, 1, none⟩ = some (.int .i64 r) ∧ W9.cell? ⟨bc, oc + t, none⟩ = some (.int .i64 y) := ⟨bxe9.out.cell 0 (by simp), bxe9.out.cell 1 (by simp), (by have := (IntS.at_ (IntS.turned G2.out HF9.out (by omega) (by omega)) (j := t) htl).1; rw [HY.out] at this; exact this)⟩
        rw [← HW9.out] at HKX
        clear HW9 x3d x3e K7
        refine anyU_ready (rs := [15]) (by kernel_rfl) (by simp) ?_
        refine ReadyU.cons (i := 15) rfl (fun K hK => ?_) ReadyU.nil
        simp only [List.getElem_toArray, List.getElem_cons_succ, List.getElem_cons_zero]
        refine ite_is (by rfl) ?_
        simp [go_sem, hp3i]
        refine hK.out _ _ ⟨fun h => absurd h (by decide), ?_⟩
        clear hK K
        try simp only [List.getElem_toArray, List.getElem_cons_succ, List.getElem_cons_zero, Act.put, List.setIfInBounds_toArray, List.set_cons_zero, List.set_cons_succ]
        have x3d : W9.cell? ⟨wq.heap.size, p3, none⟩ = some (.int .i64 (nth (ks.set p2 (r : Int)) p3)) := BoxN.arrAt HKX.out (by rw [List.length_set]; omega)
        have x3e : W9.frozen? ⟨wq.heap.size, p3, none⟩ = false := BoxN.frozen HKX.out p3
        have HKX2 := Lib.hid (BoxN.arrSet HKX.out p3 y)
        refine anyU_ready (rs := [16]) (by kernel_rfl) (by simp) ?_
        refine ReadyU.cons (i := 16) rfl (fun K hK => ?_) ReadyU.nil
        simp only [List.getElem_toArray, List.getElem_cons_succ, List.getElem_cons_zero]
        refine ite_is (by rfl) ?_
        simp [go_sem, x3d, x3e]
        refine hK.out _ _ ⟨fun h => absurd h (by decide), ?_⟩
        clear hK K
        try simp only [List.getElem_toArray, List.getElem_cons_succ, List.getElem_cons_zero, Act.put, List.setIfInBounds_toArray, List.set_cons_zero, List.set_cons_succ]
        refine nameU ?_
        intro W11 HW11
        have hg11 : W9.grownBy W11 (some wq.heap.size) := by rw [HW11.out]; exact grown_set _ _ _
        have hs11 := hg11.size
        have HF11 := Lib.hid (HF9.out.grown hg11 (fun g hg => by cases hg; omega)); clear HF9
        have M11 := Lib.hid (MpV.far M9.out hg11 (fun g hg => by cases hg; omega)); clear M9
        have O11 := Lib.hid (IntS.far O9.out hg11 (by omega) (fun g hg => by cases hg; omega)); clear O9
        have bxe11 := Lib.hid (BoxN.far bxe9.out hg11 (fun g hg => by cases hg; omega)); clear bxe9
        have HKN : Hid (BoxN W11 wq.heap.size (arr (vpart N c k (m + 1))) 68) := by rw [HW11.out]; have e := HSTEP.out; (try dsimp only at e); rw [Int.toNat_natCast, HY.out] at e; rw [← e]; exact HKX2
        clear HW11 x3d x3e HKX2 HKX
        clear hS10
        refine anyU_done (by kernel_rfl) ?_ _
        go_wp2_with fail
        go_roundw
        case rel => exact ⟨m + 1, by omega, by go_num, HKN, M11, O11, by omega, HF11⟩
        case measure => simp [intOf]; omega
      obtain rfl : m = (nthL N.ends k).length := by omega
      rw [vpart_end, HKEY.out] at HK
      have hk14 := HKL.out k
      obtain ⟨wl, rfl⟩ : ∃ wl : World, wl = wr := ⟨_, rfl⟩
      have ha14 := arr14 hk14
      obtain ⟨cv0, hlook, hcv0⟩ := HM.out.look HKL.out HKI.out
      have HCV := Lib.hid hcv0; clear hcv0
      rw [ha14] at hlook
      have kk0 : wl.cell? ⟨wq.heap.size, 0, none⟩ = some (.int .i64 (nth (key k) 0)) := BoxN.arrAt HK.out (by omega)
      have kk1 : wl.cell? ⟨wq.heap.size, 1, none⟩ = some (.int .i64 (nth (key k) 1)) := BoxN.arrAt HK.out (by omega)
      have kk2 : wl.cell? ⟨wq.heap.size, 2, none⟩ = some (.int .i64 (nth (key k) 2)) := BoxN.arrAt HK.out (by omega)
      have kk3 : wl.cell? ⟨wq.heap.size, 3, none⟩ = some (.int .i64 (nth (key k) 3)) := BoxN.arrAt HK.out (by omega)
      have kk4 : wl.cell? ⟨wq.heap.size, 4, none⟩ = some (.int .i64 (nth (key k) 4)) := BoxN.arrAt HK.out (by omega)
      have kk5 : wl.cell? ⟨wq.heap.size, 5, none⟩ = some (.int .i64 (nth (key k) 5)) := BoxN.arrAt HK.out (by omega)
      have kk6 : wl.cell? ⟨wq.heap.size, 6, none⟩ = some (.int .i64 (nth (key k) 6)) := BoxN.arrAt HK.out (by omega)
      have kk7 : wl.cell? ⟨wq.heap.size, 7, none⟩ = some (.int .i64 (nth (key k) 7)) := BoxN.arrAt HK.out (by omega)
      have kk8 : wl.cell? ⟨wq.heap.size, 8, none⟩ = some (.int .i64 (nth (key k) 8)) := BoxN.arrAt HK.out (by omega)
      have kk9 : wl.cell? ⟨wq.heap.size, 9, none⟩ = some (.int .i64 (nth (key k) 9)) := BoxN.arrAt HK.out (by omega)
      have kk10 : wl.cell? ⟨wq.heap.size, 10, none⟩ = some (.int .i64 (nth (key k) 10)) := BoxN.arrAt HK.out (by omega)
      have kk11 : wl.cell? ⟨wq.heap.size, 11, none⟩ = some (.int .i64 (nth (key k) 11)) := BoxN.arrAt HK.out (by omega)
      have kk12 : wl.cell? ⟨wq.heap.size, 12, none⟩ = some (.int .i64 (nth (key k) 12)) := BoxN.arrAt HK.out (by omega)
      have kk13 : wl.cell? ⟨wq.heap.size, 13, none⟩ = some (.int .i64 (nth (key k) 13)) := BoxN.arrAt HK.out (by omega)
      cases hold : old key k with
      | true =>
        rw [hold] at hlook
        have HCE := Lib.hid (HCV.out hold)
        have HOLD := Lib.hid hold; clear hold
        have x1 := (IntS.at0 HO.out (j := k) (by rw [HL.out]; exact hlt)).1
        have x2 := (IntS.at0 HO.out (j := k) (by rw [HL.out]; exact hlt)).2
        have HSO := Lib.hid (IntS.set0 HO.out (j := k) (by rw [HL.out]; exact hlt) (cls key k))
        obtain ⟨y0, HY0⟩ : ∃ y, Hid (nth zs k = y) := ⟨_, Lib.hid rfl⟩
        rw [HY0.out] at x1
        rw [HCE.out] at hlook
        have HMK := Lib.hid (HM.out.skip HOLD.out)
        go_wp2_with fail
        go_roundw
        case rel => exact ⟨k + 1, _, by omega, by go_num, Lib.hid (HMK.out.far (grown_set _ ⟨WA.heap.size + 1, k, none⟩ _) (fun g e => by simp at e; omega)), HSO, Lib.hid (by rw [List.length_set]; exact HL.out), Lib.hid (set_fold HL.out hlt HZ.out), by rw [size_setCell]; omega, Lib.hid (HF5.out.grown (grown_set _ ⟨WA.heap.size + 1, k, none⟩ _) fun g hg => .inr (by simp at hg; omega))⟩
        case measure => simp [intOf]; omega
      | false =>
        rw [hold] at hlook
        have HOLD := Lib.hid hold; clear hold
        have HCN := Lib.hid (cls_new HOLD.out)
        have hlen := HM.out.len 3
        obtain ⟨w2, hU, hg2, hM2⟩ := HM.out.put (by omega) HKL.out HKI.out HOLD.out
        rw [ha14] at hU
        have HM2 := Lib.hid hM2; clear hM2
        obtain ⟨mk, HMK⟩ : ∃ x, Hid (many key k = x) := ⟨_, Lib.hid rfl⟩
        rw [HMK.out] at hlen hU HCN
        go_upto_region 17 with fail
        clear hlook hlen hU kk0 kk1 kk2 kk3 kk4 kk5 kk6 kk7 kk8 kk9 kk10 kk11 kk12 kk13
        have hs11 := hg2.size
        have HF11 := Lib.hid (HF5.out.grown hg2 (fun g e => by cases e; omega)); clear HF5
        have O11 := Lib.hid (IntS.far HO.out hg2 (by omega) (fun g e => by cases e; omega)); clear HO
        clear HM HK
        have x1 := (IntS.at0 O11.out (j := k) (by rw [HL.out]; exact hlt)).1
        have x2 := (IntS.at0 O11.out (j := k) (by rw [HL.out]; exact hlt)).2
        have HSO := Lib.hid (IntS.set0 O11.out (j := k) (by rw [HL.out]; exact hlt) (mk))
        obtain ⟨y0, HY0⟩ : ∃ y, Hid (nth zs k = y) := ⟨_, Lib.hid rfl⟩
        rw [HY0.out] at x1
        go_wp2_with fail
        go_roundw
        case rel => exact ⟨k + 1, _, by omega, by go_num, Lib.hid (HM2.out.far (grown_set _ ⟨WA.heap.size + 1, k, none⟩ _) (fun g e => by simp at e; omega)), HSO, Lib.hid (by rw [List.length_set]; exact HL.out), Lib.hid (by have := set_fold HL.out hlt HZ.out; (try dsimp only at this); rw [HCN.out] at this; exact this), by rw [size_setCell]; omega, Lib.hid (HF11.out.grown (grown_set _ ⟨WA.heap.size + 1, k, none⟩ _) fun g hg => .inr (by simp at hg; omega))⟩
        case measure => simp [intOf]; omega

end Go.Proofs.Ytjgmmmcmoaaiaaa
