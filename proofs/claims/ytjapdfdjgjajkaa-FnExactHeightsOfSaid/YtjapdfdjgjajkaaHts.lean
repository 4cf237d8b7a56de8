/-
  Heights along an orientation: plain part, and the reference's contract.
-/
import Derived.Test.YtjapdfdjgjajkaaOrd3
import Derived.Test.YtjapdfdjgjajkaaBack
import Derived.Test.YtjapdfdjgjajkaaBasics
import Derived.Test.YtjapdfdjgjajkaaPerm
namespace Go.Proofs.Ytjapdfdjgjajkaa
open Go.ChangeShapes Go.WideShapes Go.ChangeAt Go.RowKit
set_option linter.unusedVariables false

theorem l1Most_any (a b : Int) (w : World) : Calls Try.prog 39 #[.int .i64 a, .int .i64 b] w fun e w' => e = .returned (.int .i64 (if b < a then a else b)) ∧ w = w' := by
  by_cases h : b < a
  · go_enter Try.func39, Try.ntmps39
    go_wp2
    go_ret
    exact ⟨rfl, rfl⟩
  · go_enter Try.func39, Try.ntmps39
    go_wp2
    go_ret
    exact ⟨rfl, rfl⟩

theorem ite_is {c : Prop} [Decidable c] {x y : Prop} (h : c) (k : x) : if c then x else y := by rw [if_pos h]; exact k
theorem ord_parts {N : NetD} {o : List (List Int)} (h : ordOk N o = true) : N.good = true ∧ portsB N o = true ∧ ordOut N o = ordAll N o ∧ (ordOut N o).length = N.ends.length ∧ ∀ x ∈ ordOut N o, 0 ≤ x ∧ x < N.ends.length := by
  have e : ordOut N o = ordAll N o := by unfold ordOut; rw [if_pos h]
  have h2 := h
  unfold ordOk at h2
  rw [Bool.and_eq_true] at h2
  have h3 := oriOk_parts h2.1
  refine ⟨h3.2.1, h3.2.2.1, e, by rw [e]; simpa using h2.2, fun x hx => ?_⟩
  rw [e] at hx
  exact (ordAll_top N o).1.inv.node x hx
def endN (N : NetD) (v i : Nat) : Nat := (nthE (nthL N.ends v) i).1.toNat
def hset (N : NetD) (o : List (List Int)) (v i : Nat) (out : List Int) : List Int :=
  if nth (nthL o v) i = 1 then out.set v (max (nth out v) (nth out (endN N v i) + 1)) else out
def hrow (N : NetD) (o : List (List Int)) (v : Nat) : Nat → List Int → List Int
  | 0, out => out
  | i + 1, out => hset N o v i (hrow N o v i out)
def hnode (N : NetD) (o : List (List Int)) (v : Nat) (out : List Int) : List Int := hrow N o v (nthL N.ends v).length out
def hAll (N : NetD) (o : List (List Int)) (zs : List Int) (pre : List (Ix zs.length)) : List Int := pre.foldl (fun out x => hnode N o (nth zs x.1).toNat out) (List.replicate N.ends.length 0)
theorem hAll_snoc (N : NetD) (o : List (List Int)) (zs : List Int) (pre : List (Ix zs.length)) (x : Ix zs.length) : hAll N o zs (pre ++ [x]) = hnode N o (nth zs x.1).toNat (hAll N o zs pre) := by unfold hAll; rw [List.foldl_append]; rfl
/-- n numbers from 0 to b -/
def HB (n b : Nat) (out : List Int) : Prop := out.length = n ∧ ∀ x ∈ out, 0 ≤ x ∧ x ≤ b
theorem HB.at_ {n b : Nat} {out : List Int} (h : HB n b out) {j : Nat} (hj : j < n) : 0 ≤ nth out j ∧ nth out j ≤ b := h.2 _ (nth_mem (by rw [h.1]; exact hj))
theorem HB.set {n b : Nat} {out : List Int} (h : HB n b out) {N : NetD} {o : List (List Int)} {v i : Nat} (hv : v < n) (ht : endN N v i < n) : HB n (b + 1) (hset N o v i out) := by
  have h1 := h.at_ hv
  have h2 := h.at_ ht
  unfold hset
  split
  · refine ⟨by rw [List.length_set]; exact h.1, fun x hx => ?_⟩
    rcases List.mem_or_eq_of_mem_set hx with hx | rfl
    · have := h.2 x hx; omega
    · omega
  · exact ⟨h.1, fun x hx => by have := h.2 x hx; omega⟩
theorem HB.row {n b : Nat} {N : NetD} {o : List (List Int)} {v : Nat} (hv : v < n) (ht : ∀ i, i < (nthL N.ends v).length → endN N v i < n) {out : List Int} (h : HB n b out) : ∀ i, i ≤ (nthL N.ends v).length → HB n (b + i) (hrow N o v i out)
  | 0, _ => h
  | i + 1, hi => (HB.row hv ht h i (by omega)).set hv (ht i (by omega))
theorem HB.mono {n b b' : Nat} {out : List Int} (h : HB n b out) (hb : b ≤ b') : HB n b' out := ⟨h.1, fun x hx => by have := h.2 x hx; omega⟩
theorem good_endN {N : NetD} (hg : N.good = true) {v i : Nat} (hv : v < N.ends.length) (hi : i < (nthL N.ends v).length) : endN N v i < N.ends.length := by
  obtain ⟨t, r, e, ht, _⟩ := good_end hg hv hi
  unfold endN; rw [e, Int.toNat_natCast]; exact ht
theorem HB.node {N : NetD} (hg : N.good = true) {o : List (List Int)} {v b : Nat} (hv : v < N.ends.length) {out : List Int} (h : HB N.ends.length b out) : HB N.ends.length (b + 6) (hnode N o v out) :=
  (HB.row hv (fun i hi => good_endN hg hv hi) h _ (Nat.le_refl _)).mono (by have := good_deg hg hv; omega)
theorem HB.all {N : NetD} (hg : N.good = true) (o : List (List Int)) {zs : List Int} (hz : ∀ x ∈ zs, 0 ≤ x ∧ x < N.ends.length) : ∀ pre : List (Ix zs.length), HB N.ends.length (6 * pre.length) (hAll N o zs pre) := by
  suffices h : ∀ (pre : List (Ix zs.length)) (b : Nat) (out : List Int), HB N.ends.length b out → HB N.ends.length (b + 6 * pre.length) (pre.foldl (fun out x => hnode N o (nth zs x.1).toNat out) out) by
    intro pre
    have := h pre 0 (List.replicate N.ends.length 0) ⟨by simp, fun x hx => by rw [List.eq_of_mem_replicate hx]; omega⟩
    rwa [Nat.zero_add] at this
  intro pre
  induction pre with
  | nil => intro b out h; exact h
  | cons x pre ih =>
    intro b out h
    have hx := hz _ (nth_mem x.2)
    exact (ih (b + 6) _ (h.node hg (by omega))).mono (by simp; omega)
def htOut (N : NetD) (o : List (List Int)) : List Int := if ordOk N o = true then hAll N o (ordOut N o) (downs (ordOut N o).length (ordOut N o).length) else []
theorem htNo {N : NetD} {o : List (List Int)} (h : ordOk N o = false) : htOut N o = [] := by unfold htOut; rw [h]; rfl
theorem htYes {N : NetD} {o : List (List Int)} (h : ordOk N o = true) : htOut N o = hAll N o (ordOut N o) (downs (ordOut N o).length (ordOut N o).length) := by unfold htOut; rw [if_pos h]
theorem htOut_len (N : NetD) (o : List (List Int)) : (htOut N o).length ≤ N.sz := by
  unfold NetD.sz szSS
  cases h : ordOk N o with
  | false => rw [htNo h]; exact Nat.zero_le _
  | true =>
    obtain ⟨hg, _, _, _, hz⟩ := ord_parts h
    rw [htYes h, (HB.all hg o hz _).1]; omega
theorem hset_no {N : NetD} {o : List (List Int)} {v i : Nat} {out : List Int} (h : nth (nthL o v) i ≠ 1) : hset N o v i out = out := by unfold hset; rw [if_neg h]
theorem hset_yes {N : NetD} {o : List (List Int)} {v i t : Nat} {out : List Int} (h : nth (nthL o v) i = 1) (ht : endN N v i = t) : hset N o v i out = out.set v (max (nth out v) (nth out t + 1)) := by unfold hset; rw [if_pos h, ht]

set_option maxHeartbeats 2000000 in
set_option maxRecDepth 100000 in
theorem HeightsOf_spec (v1 : Value) (N : NetD) (lo1 hi1 : Nat) (v2 : Value) (o : List (List Int)) (lo2 hi2 : Nat) (w : World) (h1 : Net w lo1 hi1 v1 N) (hh1 : hi1 ≤ w.heap.size) (h2 : IntSS w lo2 hi2 v2 o) (hh2 : hi2 ≤ w.heap.size) (hz1 : N.sz ≤ 1048576) (hz2 : szSS o ≤ 1048576) (ok1 : N.Ok) (ok2 : ∀ l ∈ o, ∀ z ∈ l, I64 z) :
    Calls Try.prog 19 #[v1, v2] w fun e w' => ∃ r, e = .returned (.tuple #[r, .bool (ordOk N o)]) ∧ IntS w' w.heap.size w'.heap.size r (htOut N o) ∧ Below w.heap.size w w' := by
  have OK1 := Lib.hid ok1; have OK2 := Lib.hid ok2; clear ok1 ok2
  have F1 := Lib.hid h1
  obtain ⟨A1, c1, A1', c1', A1'', c1'', rfl, hc1, hd1, _⟩ := h1.parts
  clear h1
  have F2 := Lib.hid h2
  obtain ⟨A2, c2, rfl, hc2, hd2⟩ := h2.dims
  clear h2
  obtain ⟨WA, HWA⟩ : ∃ W, Hid (W = (w.alloc (.cells #[.slice A1 N.ends.length c1, .slice A1' N.ids.length c1', .slice A1'' N.inputs.length c1''] 32))) := ⟨_, Lib.hid rfl⟩
  have hbA : Below w.heap.size w WA := by rw [HWA.out]; exact ((Below.refl _ _).alloc (Nat.le_refl _) _)
  have hsA : w.heap.size + 1 ≤ WA.heap.size := by rw [HWA.out]; simp; try omega
  have bx1 : BoxN WA (w.heap.size) #[.slice A1 N.ends.length c1, .slice A1' N.ids.length c1', .slice A1'' N.inputs.length c1''] 32 := by rw [HWA.out]; exact (BoxN.new' _ _ _ (by simp))
  have G1 := Lib.hid (Net.below F1.out hbA hh1); clear F1
  have G2 := Lib.hid (ISS.below F2.out hbA hh2); clear F2
  go_enter Try.func19, Try.ntmps19
  go_upto_region 1 with (fail)
  rw [← HWA.out]; clear HWA
  have kbx1_0 : WA.cell? ⟨w.heap.size, 0, none⟩ = some (.slice A1 N.ends.length c1) := bx1.cell 0 (by simp)
  have kbx1_1 : WA.cell? ⟨w.heap.size, 1, none⟩ = some (.slice A1' N.ids.length c1') := bx1.cell 1 (by simp)
  have kbx1_2 : WA.cell? ⟨w.heap.size, 2, none⟩ = some (.slice A1'' N.inputs.length c1'') := bx1.cell 2 (by simp)
  go_wp2_with fail
  clear kbx1_0 kbx1_1 kbx1_2
  refine (OrderOfOrientation_spec _ N lo1 hi1 _ o lo2 hi2 _ G1.out (by omega) G2.out (by omega) hz1 hz2 OK1.out OK2.out).mono ?_
  rintro e W1 ⟨r, rfl, hr, hb1⟩
  have hg1 := grown_below hb1; clear hb1
  have hs1 := hg1.size
  have HF1 := Lib.hid ((Turned.refl WA.heap.size WA.heap.size WA).still hg1)
  have R1 := Lib.hid hr; clear hr
  cases hok : ordOk N o with
  | false =>
    have HNO := Lib.hid hok; clear hok
    go_wp2_with fail
    go_ret2
    exact ⟨_, ret_vb HNO.out.symm, by rw [htNo HNO.out]; exact IntS.nil _ _ _, (HF1.out.below_of hbA (by omega) (by omega))⟩
  | true =>
    have HOK := Lib.hid hok; clear hok
    obtain ⟨hg, hpb, heq, hol, hon⟩ := ord_parts HOK.out
    obtain ⟨n1, n40⟩ := good_n hg
    have HG := Lib.hid hg; have HPB := Lib.hid hpb; have HON := Lib.hid hon
    clear hg hpb heq hon
    obtain ⟨zs, HZS⟩ : ∃ l, Hid (ordOut N o = l) := ⟨_, Lib.hid rfl⟩
    rw [HZS.out] at hol HON R1
    have HOL := Lib.hid hol; clear hol
    obtain ⟨Az, cz, rfl, hcz, hdz⟩ := R1.out.dims
    have hoeq : o.length = N.ends.length := ports_len HPB.out
    have HOE := Lib.hid hoeq; clear hoeq
    obtain ⟨ln, HLN⟩ : ∃ m, Hid (zs.length = m) := ⟨_, Lib.hid rfl⟩
    have hlnn : ln = N.ends.length := by rw [← HLN.out]; exact HOL.out
    have HLNN := Lib.hid hlnn; clear hlnn
    have hln40 : ln ≤ 40 := by rw [HLNN.out]; exact n40
    rw [HLN.out] at hcz
    rw [HLN.out]
    have HR0 := Lib.hid (show IntS W1 WA.heap.size W1.heap.size (.slice Az ln cz) zs by have := R1.out; rw [HLN.out] at this; exact this)
    clear R1
    obtain ⟨bN, oN, _, _, rfl, _⟩ := Net.rowAt G1.out (u := 0) (by omega)
    have hmk := fun W => run_make_row' (P := Try.prog) 23 3 (.int .i64 0) 8 Try.underlying23 Try.info3 rfl .i64 .i64 N.ends.length (by omega) (by omega) W
    have hlw : IntKind.i64.wrap ((ln : Int) - 1) = (ln : Int) - 1 := IntWalk.i64_in _ (by omega)
    have kbx1_0 : W1.cell? ⟨w.heap.size, 0, none⟩ = some (.slice (some ⟨bN, oN, none⟩) N.ends.length c1) := (HF1.out.boxN bx1 (by omega)).cell 0 (by simp)
    have kbx1_1 : W1.cell? ⟨w.heap.size, 1, none⟩ = some (.slice A1' N.ids.length c1') := (HF1.out.boxN bx1 (by omega)).cell 1 (by simp)
    have kbx1_2 : W1.cell? ⟨w.heap.size, 2, none⟩ = some (.slice A1'' N.inputs.length c1'') := (HF1.out.boxN bx1 (by omega)).cell 2 (by simp)
    go_upto_region 5 with (fail)
    refine nameC ?_
    intro W2 HW2
    have hg2 : W1.grownBy W2 none := by rw [HW2.out]; exact grown_alloc _ _
    have hs2 := hg2.size
    have HF2 := Lib.hid (HF1.out.still hg2); clear HF1
    have R2 := Lib.hid (IntS.still HR0.out hg2 (by omega)); clear HR0
    have HO := Lib.hid (show IntS W2 W1.heap.size (W1.heap.size + 1) (.slice (some ⟨W1.heap.size, 0, none⟩) N.ends.length N.ends.length) (List.replicate N.ends.length 0) by rw [HW2.out]; exact made_ints _ _ _ rfl (by omega))
    have hz : W1.heap.size + 1 ≤ W2.heap.size := by rw [HW2.out]; simp
    clear HW2 hmk kbx1_0 kbx1_1 kbx1_2
    go_wp2_with fail
    clear hlw
    have N_2 := Lib.hid (Net.turned G1.out HF2.out (by omega) (by omega)); clear G1
    have o_2 := Lib.hid (ISS.turned G2.out HF2.out (by omega) (by omega)); clear G2
    have bx1_2 := HF2.out.boxN bx1 (by omega); clear bx1
    have hbA2 := (HF2.out.below_of hbA (by omega) (by omega)); clear hbA HF2
    go_loopw [9] (fun kv wr => ∃ (j : Nat) (zz : List Int), j ≤ ln ∧ kv = .int .i64 ((ln : Int) - 1 - j) ∧ Hid (IntS wr W1.heap.size (W1.heap.size + 1) (.slice (some ⟨W1.heap.size, 0, none⟩) N.ends.length N.ends.length) zz) ∧ Hid (zz = hAll N o zs (downs zs.length j)) ∧ Hid (Turned W1.heap.size (W1.heap.size + 1) W2 wr)) (fun kv _ => (intOf kv + 1).toNat)
    case atStart => exact ⟨0, List.replicate N.ends.length 0, Nat.zero_le _, by simp, HO, Lib.hid rfl, Lib.hid (Turned.refl W1.heap.size (W1.heap.size + 1) W2)⟩
    case round =>
      obtain ⟨j, zz, hj, rfl, HO, HZ, HF3⟩ := hrel
      have hs3 := HF3.out.size
      by_cases hlt : j < ln
      case neg =>
        have HJ := Lib.hid (show j = zs.length by rw [HLN.out]; omega)
        have hneg : ¬ (j : Int) ≤ (ln : Int) - 1 := by omega
        have hnegd : decide ((j : Int) ≤ (ln : Int) - 1) = false := decide_eq_false hneg
        go_wp2_with fail
        go_ret2
        refine ⟨_, ret_vb HOK.out.symm, ?_, (HF3.out.below_of hbA2 (by omega) (by omega))⟩
        have e : htOut N o = zz := by rw [htYes HOK.out, HZ.out, HJ.out, HZS.out]
        rw [e]
        exact IntS.mono HO.out (by omega) (by omega)
      obtain ⟨k, HK⟩ : ∃ i : Nat, Hid (ln - 1 - j = i) := ⟨_, Lib.hid rfl⟩
      have hkk : (ln : Int) - 1 - (j : Int) = (k : Int) := by have := HK.out; omega
      rw [hkk]
      have hkl : k < ln := by have := HK.out; omega
      have hki : (k : Int) < ln := by omega
      have hkw : IntKind.i64.wrap ((k : Int) - 1) = (k : Int) - 1 := IntWalk.i64_in _ (by omega)
      have hkn := HON.out _ (nth_mem (zs := zs) (i := k) (by rw [HLN.out]; exact hkl))
      obtain ⟨v, HV⟩ : ∃ v : Nat, Hid (nth zs k = v) := ⟨(nth zs k).toNat, Lib.hid (by omega)⟩
      rw [HV.out] at hkn
      have hv : v < N.ends.length := by omega
      have HHB := Lib.hid (HB.all HG.out o HON.out (downs zs.length j))
      rw [← HZ.out, downs_length (by rw [HLN.out]; omega)] at HHB
      have HNX := Lib.hid (show hAll N o zs (downs zs.length (j + 1)) = hnode N o v zz by
        rw [downs_succ (by rw [HLN.out]; exact hlt), hAll_snoc, ← HZ.out]
        have e : zs.length - 1 - j = k := by rw [HLN.out]; exact HK.out
        simp only [e, HV.out, Int.toNat_natCast])
      clear hkk hkn
      obtain ⟨wq, rfl⟩ : ∃ wq : World, wq = wr := ⟨_, rfl⟩
      obtain ⟨Ar, cr, hbr, qr, hcr, hdr, hRr⟩ := Net.rowIn N_2.out hv
      replace qr := (HF3.out.cell (by omega) (by omega)).trans qr
      have Rr := Lib.hid hRr; clear hRr
      obtain ⟨bz, oz, rfl, _, hbz', xz, _⟩ := (IntS.turned R2.out HF3.out (by omega) (by omega)).opened (by rw [HLN.out]; exact hkl)
      rw [HV.out] at xz
      have hvi : (v : Int) < N.ends.length := by omega
      have hd6 := good_deg HG.out hv
      have kbx1_0 : wq.cell? ⟨w.heap.size, 0, none⟩ = some (.slice (some ⟨bN, oN, none⟩) N.ends.length c1) := (HF3.out.boxN bx1_2 (by omega)).cell 0 (by simp)
      have kbx1_1 : wq.cell? ⟨w.heap.size, 1, none⟩ = some (.slice A1' N.ids.length c1') := (HF3.out.boxN bx1_2 (by omega)).cell 1 (by simp)
      have kbx1_2 : wq.cell? ⟨w.heap.size, 2, none⟩ = some (.slice A1'' N.inputs.length c1'') := (HF3.out.boxN bx1_2 (by omega)).cell 2 (by simp)
      go_wp2_with fail
      clear kbx1_0 kbx1_1 kbx1_2 xz
      go_loopw [42] (fun iv wr => ∃ (i : Nat) (zy : List Int), i ≤ (nthL N.ends v).length ∧ iv = .int .i64 i ∧ Hid (IntS wr W1.heap.size (W1.heap.size + 1) (.slice (some ⟨W1.heap.size, 0, none⟩) N.ends.length N.ends.length) zy) ∧ Hid (zy = hrow N o v i zz) ∧ Hid (Turned W1.heap.size (W1.heap.size + 1) W2 wr)) (fun iv _ => (nthL N.ends v).length - (intOf iv).toNat)
      case atStart => exact ⟨0, zz, Nat.zero_le _, rfl, HO, Lib.hid rfl, HF3⟩
      case round =>
        clear HF3
        obtain ⟨i, zy, hi, rfl, HO, HY, HF4⟩ := hrel
        have hs4 := HF4.out.size
        by_cases hil : i < (nthL N.ends v).length
        case neg =>
          obtain rfl : i = (nthL N.ends v).length := by omega
          go_wp2_with fail
          go_roundw
          case rel => exact ⟨j + 1, zy, by omega, by (have := HK.out; first | (congr 1; done) | (congr 1; omega)), HO, Lib.hid (by rw [HY.out, HNX.out]; rfl), HF4⟩
          case measure => (have := HK.out; simp [intOf] <;> omega)
        have HHY := Lib.hid (HB.row (o := o) hv (fun i hi => good_endN HG.out hv hi) HHB.out i hi)
        rw [← HY.out] at HHY
        have HRX := Lib.hid (show hrow N o v (i + 1) zz = hset N o v i zy by rw [hrow, HY.out])
        obtain ⟨wp, rfl⟩ : ∃ wp : World, wp = wr := ⟨_, rfl⟩
        obtain ⟨br, or, rfl, _, hbr', er, er'⟩ := (EndS.turned Rr.out HF4.out (by omega) (by omega)).opened hil
        obtain ⟨t, r, etr, ht, hr, eur⟩ := good_end HG.out hv hil
        rw [etr] at er er'
        dsimp only at er er'
        have ETr := Lib.hid etr
        have EUr := Lib.hid eur
        clear etr eur
        go_upto_region 12 with (fail)
        refine nameC ?_
        intro W5 HW5
        have hg5 : wp.grownBy W5 none := by rw [HW5.out]; exact grown_alloc _ _
        have hs5 := hg5.size
        have HF5 := Lib.hid (HF4.out.still hg5); clear HF4
        have O5 := Lib.hid (IntS.still HO.out hg5 (by omega)); clear HO
        have bxe5 := Lib.hid (show BoxN W5 wp.heap.size #[.int .i64 t, .int .i64 r] 60 by rw [HW5.out]; exact BoxN.new _ _ _)
        clear HW5
        clear er er'
        have hro := ports_row HPB.out hv
        have HRO := Lib.hid hro; clear hro
        obtain ⟨bq, oq, uq, rfl, _, hbq, zq, huq⟩ := SS.opened o_2.out (by rw [HOE.out]; exact hv)
        replace zq := (HF5.out.cell (by omega) (by omega)).trans zq
        obtain ⟨Aq, cq, rfl, hcq, hdq⟩ := huq.dims
        have Uq := Lib.hid huq; clear huq
        obtain ⟨by2, oy2, rfl, _, hby2', xy2, _⟩ := (IntS.turned Uq.out HF5.out (by omega) (by omega)).opened (by rw [HRO.out]; exact hil)
        obtain ⟨yo, HYO⟩ : ∃ y, Hid (nth (nthL o v) i = y) := ⟨_, Lib.hid rfl⟩
        rw [HYO.out] at xy2
        have hio : (i : Int) < (nthL o v).length := by rw [HRO.out]; omega
        have hvo : (v : Int) < o.length := by rw [HOE.out]; exact hvi
        have hii : (i : Int) < (nthL N.ends v).length := by omega
        have HET := Lib.hid (show endN N v i = t by unfold endN; rw [ETr.out]; simp)
        by_cases hy1 : yo = 1
        case neg =>
          have hye : (yo == 1) = false := by simpa using hy1
          have HN1 := Lib.hid hy1; clear hy1
          go_wp2_with fail
          go_roundw
          case rel => exact ⟨i + 1, zy, by omega, by go_num, O5, Lib.hid (by rw [HRX.out, hset_no (by rw [HYO.out]; exact HN1.out)]), HF5⟩
          case measure => simp [intOf]; omega
        have hye : (yo == 1) = true := by simp [hy1]
        have HRX2 := Lib.hid (show hrow N o v (i + 1) zz = zy.set v (max (nth zy v) (nth zy t + 1)) by rw [HRX.out, hset_yes (by rw [HYO.out]; exact hy1) HET.out])
        clear hy1
        have hyv := HHY.out.at_ hv
        have hyt := HHY.out.at_ ht
        have hyl := HHY.out.1
        have hti : (t : Int) < N.ends.length := by omega
        obtain ⟨yv, HYV⟩ : ∃ y, Hid (nth zy v = y) := ⟨_, Lib.hid rfl⟩
        obtain ⟨yt, HYT⟩ : ∃ y, Hid (nth zy t = y) := ⟨_, Lib.hid rfl⟩
        rw [HYV.out] at hyv
        rw [HYT.out] at hyt
        rw [HYV.out, HYT.out] at HRX2
        have hb40 : 6 * j + i ≤ 1000 := by omega
        have hyw : IntKind.i64.wrap (yt + 1) = yt + 1 := IntWalk.i64_in _ (by omega)
        obtain ⟨mx, HMX⟩ : ∃ y, Hid (max yv (yt + 1) = y) := ⟨_, Lib.hid rfl⟩
        have HMX2 := Lib.hid (show (if yt + 1 < yv then yv else yt + 1) = mx by rw [← HMX.out]; split <;> omega)
        rw [HMX.out] at HRX2
        clear hyv hyt
        go_wp2_with fail
        clear xy2
        refine wp_region_U (fun w' => w'.cell? ⟨wp.heap.size, 0, none⟩ = some (.int .i64 t) ∧ w'.cell? ⟨W1.heap.size, v, none⟩ = some (.int .i64 yv) ∧ w'.cell? ⟨W1.heap.size, t, none⟩ = some (.int .i64 yt)) [13, 14] (by kernel_rfl) ?_
        refine nameU ?_
        intro W6 HW6
        have hg6 : W5.grownBy W6 none := by rw [HW6.out]; exact grown_drew _
        clear HW6
        have hs6 := hg6.size
        have HF6 := Lib.hid (HF5.out.still hg6); clear HF5
        have O6 := Lib.hid (IntS.still O5.out hg6 (by omega)); clear O5
        have bxe6 := Lib.hid (BoxN.still bxe5.out hg6); clear bxe5
        have hS7 : W6.cell? ⟨wp.heap.size, 0, none⟩ = some (.int .i64 t) ∧ W6.cell? ⟨W1.heap.size, v, none⟩ = some (.int .i64 yv) ∧ W6.cell? ⟨W1.heap.size, t, none⟩ = some (.int .i64 yt) := ⟨bxe6.out.cell 0 (by simp), (by have := (IntS.at0 O6.out (j := v) (by rw [hyl]; exact hv)).1; rw [HYV.out] at this; exact this), (by have := (IntS.at0 O6.out (j := t) (by rw [hyl]; exact ht)).1; rw [HYT.out] at this; exact this)⟩
        refine anyU_take (i := 0) (v := .slice (some ⟨W1.heap.size, 0, none⟩) N.ends.length N.ends.length) rfl (by kernel_rfl) (by kernel_rfl) (by kernel_rfl) (fun _ _ _ h => h) ⟨by rfl, fun w' hS' => (by obtain ⟨s1, s2, s3⟩ := hS'; go_simp)⟩ hS7 ?_
        simp only [List.getElem_toArray, List.getElem_cons_zero, Act.put, List.setIfInBounds_toArray, List.set_cons_zero, List.set_cons_succ]
        refine anyU_take (i := 1) (v := .int .i64 v) rfl (by kernel_rfl) (by kernel_rfl) (by kernel_rfl) (fun _ _ _ h => h) ⟨by rfl, fun w' hS' => (by obtain ⟨s1, s2, s3⟩ := hS'; go_simp)⟩ hS7 ?_
        simp only [List.getElem_toArray, List.getElem_cons_succ, List.getElem_cons_zero, Act.put, List.setIfInBounds_toArray, List.set_cons_zero, List.set_cons_succ]
        refine anyU_take (i := 2) (v := .slice (some ⟨W1.heap.size, 0, none⟩) N.ends.length N.ends.length) rfl (by kernel_rfl) (by kernel_rfl) (by kernel_rfl) (fun _ _ _ h => h) ⟨by rfl, fun w' hS' => (by obtain ⟨s1, s2, s3⟩ := hS'; go_simp)⟩ hS7 ?_
        simp only [List.getElem_toArray, List.getElem_cons_succ, List.getElem_cons_zero, Act.put, List.setIfInBounds_toArray, List.set_cons_zero, List.set_cons_succ]
        refine anyU_take (i := 3) (v := .int .i64 v) rfl (by kernel_rfl) (by kernel_rfl) (by kernel_rfl) (fun _ _ _ h => h) ⟨by rfl, fun w' hS' => (by obtain ⟨s1, s2, s3⟩ := hS'; go_simp)⟩ hS7 ?_
        simp only [List.getElem_toArray, List.getElem_cons_succ, List.getElem_cons_zero, Act.put, List.setIfInBounds_toArray, List.set_cons_zero, List.set_cons_succ]
        refine anyU_take (i := 4) (v := .pointer (some ⟨W1.heap.size, v, none⟩)) rfl (by kernel_rfl) (by kernel_rfl) (by kernel_rfl) (fun _ _ _ h => h) ⟨by rfl, fun w' hS' => (by obtain ⟨s1, s2, s3⟩ := hS'; simp [go_sem, hvi])⟩ hS7 ?_
        simp only [List.getElem_toArray, List.getElem_cons_succ, List.getElem_cons_zero, Act.put, List.setIfInBounds_toArray, List.set_cons_zero, List.set_cons_succ]
        refine anyU_take (i := 5) (v := .int .i64 yv) rfl (by kernel_rfl) (by kernel_rfl) (by kernel_rfl) (fun _ _ _ h => h) ⟨by rfl, fun w' hS' => (by obtain ⟨s1, s2, s3⟩ := hS'; go_simp)⟩ hS7 ?_
        simp only [List.getElem_toArray, List.getElem_cons_succ, List.getElem_cons_zero, Act.put, List.setIfInBounds_toArray, List.set_cons_zero, List.set_cons_succ]
        refine anyU_take (i := 6) (v := .slice (some ⟨W1.heap.size, 0, none⟩) N.ends.length N.ends.length) rfl (by kernel_rfl) (by kernel_rfl) (by kernel_rfl) (fun _ _ _ h => h) ⟨by rfl, fun w' hS' => (by obtain ⟨s1, s2, s3⟩ := hS'; go_simp)⟩ hS7 ?_
        simp only [List.getElem_toArray, List.getElem_cons_succ, List.getElem_cons_zero, Act.put, List.setIfInBounds_toArray, List.set_cons_zero, List.set_cons_succ]
        refine anyU_take (i := 7) (v := .pointer (some ⟨wp.heap.size, 0, none⟩)) rfl (by kernel_rfl) (by kernel_rfl) (by kernel_rfl) (fun _ _ _ h => h) ⟨by rfl, fun w' hS' => (by obtain ⟨s1, s2, s3⟩ := hS'; go_simp)⟩ hS7 ?_
        simp only [List.getElem_toArray, List.getElem_cons_succ, List.getElem_cons_zero, Act.put, List.setIfInBounds_toArray, List.set_cons_zero, List.set_cons_succ]
        refine anyU_take (i := 8) (v := .int .i64 t) rfl (by kernel_rfl) (by kernel_rfl) (by kernel_rfl) (fun _ _ _ h => h) ⟨by rfl, fun w' hS' => (by obtain ⟨s1, s2, s3⟩ := hS'; go_simp)⟩ hS7 ?_
        simp only [List.getElem_toArray, List.getElem_cons_succ, List.getElem_cons_zero, Act.put, List.setIfInBounds_toArray, List.set_cons_zero, List.set_cons_succ]
        refine anyU_take (i := 9) (v := .pointer (some ⟨W1.heap.size, t, none⟩)) rfl (by kernel_rfl) (by kernel_rfl) (by kernel_rfl) (fun _ _ _ h => h) ⟨by rfl, fun w' hS' => (by obtain ⟨s1, s2, s3⟩ := hS'; simp [go_sem, hti])⟩ hS7 ?_
        simp only [List.getElem_toArray, List.getElem_cons_succ, List.getElem_cons_zero, Act.put, List.setIfInBounds_toArray, List.set_cons_zero, List.set_cons_succ]
        refine anyU_take (i := 10) (v := .int .i64 yt) rfl (by kernel_rfl) (by kernel_rfl) (by kernel_rfl) (fun _ _ _ h => h) ⟨by rfl, fun w' hS' => (by obtain ⟨s1, s2, s3⟩ := hS'; go_simp)⟩ hS7 ?_
        simp only [List.getElem_toArray, List.getElem_cons_succ, List.getElem_cons_zero, Act.put, List.setIfInBounds_toArray, List.set_cons_zero, List.set_cons_succ]
        refine anyU_take (i := 11) (v := .int .i64 (yt + 1)) rfl (by kernel_rfl) (by kernel_rfl) (by kernel_rfl) (fun _ _ _ h => h) ⟨by rfl, fun w' hS' => (by obtain ⟨s1, s2, s3⟩ := hS'; simp [go_sem, hyw])⟩ hS7 ?_
        simp only [List.getElem_toArray, List.getElem_cons_succ, List.getElem_cons_zero, Act.put, List.setIfInBounds_toArray, List.set_cons_zero, List.set_cons_succ]
        refine anyU_ready (rs := [12]) (by kernel_rfl) (by simp) ?_
        refine ReadyU.cons (i := 12) rfl (fun K hK => ?_) ReadyU.nil
        simp only [List.getElem_toArray, List.getElem_cons_succ, List.getElem_cons_zero]
        refine ite_is (by rfl) ?_
        simp [go_sem]
        refine (l1Most_any yv (yt + 1) _).mono ?_
        rintro e w' ⟨rfl, rfl⟩
        rw [HMX2.out]
        refine hK.out _ _ ⟨fun _ => hS7, ?_⟩
        clear hK K
        try simp only [List.getElem_toArray, List.getElem_cons_succ, List.getElem_cons_zero, Act.put, List.setIfInBounds_toArray, List.set_cons_zero, List.set_cons_succ]
        refine anyU_ready (rs := [13]) (by kernel_rfl) (by simp) ?_
        refine ReadyU.cons (i := 13) rfl (fun K hK => ?_) ReadyU.nil
        simp only [List.getElem_toArray, List.getElem_cons_succ, List.getElem_cons_zero]
        refine ite_is (by rfl) ?_
        simp [go_sem, hvi]
        refine hK.out _ _ ⟨fun h => absurd h (by decide), ?_⟩
        clear hK K
        try simp only [List.getElem_toArray, List.getElem_cons_succ, List.getElem_cons_zero, Act.put, List.setIfInBounds_toArray, List.set_cons_zero, List.set_cons_succ]
        have x3d := (IntS.at0 O6.out (j := v) (by rw [hyl]; exact hv)).1
        have x3e := (IntS.at0 O6.out (j := v) (by rw [hyl]; exact hv)).2
        have HSX := Lib.hid (IntS.set0 O6.out (j := v) (by rw [hyl]; exact hv) mx)
        refine anyU_ready (rs := [14]) (by kernel_rfl) (by simp) ?_
        refine ReadyU.cons (i := 14) rfl (fun K hK => ?_) ReadyU.nil
        simp only [List.getElem_toArray, List.getElem_cons_succ, List.getElem_cons_zero]
        refine ite_is (by rfl) ?_
        simp [go_sem, x3d, x3e]
        refine hK.out _ _ ⟨fun h => absurd h (by decide), ?_⟩
        clear hK K
        try simp only [List.getElem_toArray, List.getElem_cons_succ, List.getElem_cons_zero, Act.put, List.setIfInBounds_toArray, List.set_cons_zero, List.set_cons_succ]
        refine nameU ?_
        intro W8 HW8
        have hg8 : W6.grownBy W8 (some W1.heap.size) := by rw [HW8.out]; exact grown_set _ _ _
        have hs8 := hg8.size
        have HF8 := Lib.hid (HF6.out.grown hg8 (fun g hg => by cases hg; omega)); clear HF6
        have bxe8 := Lib.hid (BoxN.far bxe6.out hg8 (fun g hg => by cases hg; omega)); clear bxe6
        have HON2 : Hid (IntS W8 W1.heap.size (W1.heap.size + 1) (.slice (some ⟨W1.heap.size, 0, none⟩) N.ends.length N.ends.length) (hrow N o v (i + 1) zz)) := by rw [HW8.out, HRX2.out]; exact HSX
        clear HW8 HSX x3d x3e O6
        clear hS7
        refine anyU_done (by kernel_rfl) ?_ _
        go_wp2_with fail
        go_roundw
        case rel => exact ⟨i + 1, _, by omega, by go_num, HON2, Lib.hid rfl, HF8⟩
        case measure => simp [intOf]; omega

end Go.Proofs.Ytjapdfdjgjajkaa
