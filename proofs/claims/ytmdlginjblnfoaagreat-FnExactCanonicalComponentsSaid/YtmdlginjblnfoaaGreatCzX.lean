/-
  Several texts in one: Cps, NetZ, Cpe. No condition on any program.
-/
import Derived.Test.YtmdlginjblnfoaaGreatCzM
import Derived.Test.YtmdlginjblnfoaaGreatCzT
import Derived.Test.YtmdlginjblnfoaaGreatCzS
import Derived.Test.YtmdlginjblnfoaaGreatCzW
import Derived.Test.YtmdlginjblnfoaaGreatCzC
import Derived.Test.YtmdlginjblnfoaaGreatCzO
import Derived.Test.YtmdlginjblnfoaaGreatCzG

/- Contract: CanonicalComponents (reference). -/
namespace Go.Proofs.YtmdlginjblnfoaaGreat
open Go.ChangeShapes Go.WideShapes Go.ChangeAt Go.RowKit
set_option linter.unusedVariables false

theorem cut_flat {l : List CmpD} {k : Nat} (h : k < l.length) : l.flatMap CmpD.walk = (l.take k).flatMap CmpD.walk ++ l[k].walk ++ (l.drop (k + 1)).flatMap CmpD.walk := by
  rw [← take_flat h, ← List.flatMap_append, List.take_append_drop]
/-- a component of the canonical network -/
theorem canon_comp {N : NetD} (hg : N.good = true) {k : Nat} (hk : k < (sortedC N).length) :
    PickOk (canonN N) (fromL (((sortedC N).take k).flatMap CmpD.walk).length (sortedC N)[k].walk.length) ∧
    partN (canonN N) (fromL (((sortedC N).take k).flatMap CmpD.walk).length (sortedC N)[k].walk.length) (kpB (canonN N) (fromL (((sortedC N).take k).flatMap CmpD.walk).length (sortedC N)[k].walk.length)) = partN N (sortedC N)[k].walk kpT ∧
    (((sortedC N).take k).flatMap CmpD.walk).length + (sortedC N)[k].walk.length ≤ N.ends.length := by
  obtain ⟨hp, hl, hall⟩ := flat_pick hg
  have hcut : flatN N = _ := cut_flat hk
  have hpart := canonN_part hg
  rw [hcut] at hp hl hall hpart
  obtain ⟨u, hu, hw⟩ := sorted_walk hg (List.getElem_mem hk)
  have hb : PickOk N (sortedC N)[k].walk := by rw [hw]; exact walk_pick (good_nodes hg) hu
  have hs : Shut N (sortedC N)[k].walk := by rw [hw]; exact walk_shut (good_nodes hg) hu
  have h0 : 0 < (sortedC N)[k].walk.length := by rw [hw]; exact List.length_pos_of_mem (walk_pos (good_nodes hg) hu)
  have hlen : (((sortedC N).take k).flatMap CmpD.walk).length + (sortedC N)[k].walk.length ≤ N.ends.length := by
    rw [← hl]; simp only [List.length_append]; omega
  refine ⟨⟨fun j hj => ?_, fun x y hx hy e => ?_⟩, ?_, hlen⟩
  · rw [fromL_len] at hj
    exact ⟨_, nth_fromL hj, by rw [hpart, part_n, hl]; omega⟩
  · rw [fromL_len] at hx hy
    rw [nth_fromL hx, nth_fromL hy] at e
    omega
  · rw [hpart]
    exact part_part hg hp hl hall hb hs h0
theorem NetF.far {w w' : World} {lo hi : Nat} {v : Value} {N : NetD} {row : Option Nat} (h : Net w lo hi v N) (hg : w.grownBy w' row) (hB : hi ≤ w.heap.size) (hr : ∀ g, row = some g → g < lo ∨ hi ≤ g) : Net w' lo hi v N := by
  obtain ⟨a, b, c, rfl, h1, h2, h3⟩ := h
  exact ⟨a, b, c, rfl, SS.keep (fun h => EndS.far h hg hB hr) h1 fun k k1 k2 => hg.block k (by omega) (fun e => by have := hr k e.symm; omega), h2.far hg hB hr, h3.far hg hB hr⟩
theorem NetF.still {w w' : World} {lo hi : Nat} {v : Value} {N : NetD} (h : Net w lo hi v N) (hg : w.grownBy w' none) (hB : hi ≤ w.heap.size) : Net w' lo hi v N := NetF.far h hg hB (no_row _ _)
theorem turned_none {l : Nat} {w w' : World} (h : Turned l l w w') : w.grownBy w' none := ⟨h.os, h.tape, h.output, h.size, fun k hk _ => h.block k hk (by omega)⟩
theorem fromL_zero (a : Nat) : fromL a 0 = [] := rfl
theorem fromL_succ (a n : Nat) : fromL a (n + 1) = fromL a n ++ [((a + n : Nat) : Int)] := by simp [fromL, List.range_succ]

set_option maxHeartbeats 8000000 in
set_option maxRecDepth 100000 in
theorem CanonicalComponents_spec (v1 : Value) (N : NetD) (lo1 hi1 : Nat) (w : World) (h1 : Net w lo1 hi1 v1 N) (hh1 : hi1 ≤ w.heap.size) (hz1 : N.sz ≤ 1048576) (ok1 : N.Ok) :
    Calls Tryz.prog 5 #[v1] w fun e w' => ∃ r, e = .returned (.tuple #[r, .bool N.good]) ∧ NetSX w' w.heap.size w'.heap.size r (ccOut N) ∧ Below w.heap.size w w' := by
  clear ok1
  have F1 := Lib.hid h1
  obtain ⟨A1, c1, A1', c1', A1'', c1'', rfl, hc1, hd1, _⟩ := h1.parts
  clear h1
  obtain ⟨WA, HWA⟩ : ∃ W, Hid (W = (w.alloc (.cells #[.slice A1 N.ends.length c1, .slice A1' N.ids.length c1', .slice A1'' N.inputs.length c1''] 32))) := ⟨_, Lib.hid rfl⟩
  have hbA : Below w.heap.size w WA := by rw [HWA.out]; exact ((Below.refl _ _).alloc (Nat.le_refl _) _)
  have hsA : w.heap.size + 1 ≤ WA.heap.size := by rw [HWA.out]; simp; try omega
  have bx1 : BoxN WA (w.heap.size) #[.slice A1 N.ends.length c1, .slice A1' N.ids.length c1', .slice A1'' N.inputs.length c1''] 32 := by rw [HWA.out]; exact (BoxN.new' _ _ _ (by simp))
  have G1 := Lib.hid (Net.below F1.out hbA hh1); clear F1
  go_enter Tryz.func5, Tryz.ntmps5
  go_upto_region 1 with (fail)
  rw [← HWA.out]; clear HWA
  have kbx1_0 : WA.cell? ⟨w.heap.size, 0, none⟩ = some (.slice A1 N.ends.length c1) := bx1.cell 0 (by simp)
  have kbx1_1 : WA.cell? ⟨w.heap.size, 1, none⟩ = some (.slice A1' N.ids.length c1') := bx1.cell 1 (by simp)
  have kbx1_2 : WA.cell? ⟨w.heap.size, 2, none⟩ = some (.slice A1'' N.inputs.length c1'') := bx1.cell 2 (by simp)
  go_wp2_with fail
  clear kbx1_0 kbx1_1 kbx1_2
  refine (neGood_any _ N lo1 hi1 _ G1.out (by omega) hz1).mono ?_
  rintro e W1 ⟨rfl, hb1⟩
  have hg1 := grown_below hb1; clear hb1
  have hs1 := hg1.size
  have HF1 := Lib.hid ((Turned.refl WA.heap.size WA.heap.size WA).still hg1)
  by_cases hg : N.good = true
  case neg =>
    have hg' : N.good = false := by simpa using hg
    rw [hg']
    have HG := Lib.hid hg'; clear hg hg'
    go_wp2_with fail
    go_ret2
    exact ⟨_, ret_vb HG.out.symm, by rw [ccOut_no HG.out]; exact NetSX.nil _ _ _, (HF1.out.below_of hbA (by omega) (by omega))⟩
  rw [hg]
  have HG := Lib.hid hg; clear hg
  obtain ⟨n1, n40⟩ := good_n HG.out
  have HWK := Lib.hid (sortedC_wok HG.out)
  have kbx1_0 : W1.cell? ⟨w.heap.size, 0, none⟩ = some (.slice A1 N.ends.length c1) := (HF1.out.boxN bx1 (by omega)).cell 0 (by simp)
  have kbx1_1 : W1.cell? ⟨w.heap.size, 1, none⟩ = some (.slice A1' N.ids.length c1') := (HF1.out.boxN bx1 (by omega)).cell 1 (by simp)
  have kbx1_2 : W1.cell? ⟨w.heap.size, 2, none⟩ = some (.slice A1'' N.inputs.length c1'') := (HF1.out.boxN bx1 (by omega)).cell 2 (by simp)
  go_wp2_with fail
  clear kbx1_0 kbx1_1 kbx1_2
  refine (isCanon_any _ N lo1 hi1 _ (Net.turned G1.out HF1.out (by omega) (by omega)) (by omega) HG.out).mono ?_
  rintro e W2 ⟨rm, rfl, hrm, hb2⟩
  have hg2 := grown_below hb2; clear hb2
  have hs2 := hg2.size
  have HF2 := Lib.hid (HF1.out.still hg2); clear HF1
  obtain ⟨Q, HQ⟩ : ∃ Q, Hid (canonN N = Q) := ⟨_, Lib.hid rfl⟩
  have HQG := Lib.hid (show Q.good = true by rw [← HQ.out]; exact canonN_good HG.out)
  have HCC := Lib.hid (fun k (hk : k < (sortedC N).length) => canon_comp HG.out hk)
  rw [HQ.out] at hrm HCC
  obtain ⟨A5, c5, A6, c6, A7, c7, rfl, hc5, hd5, _⟩ := hrm.net.parts
  have HM := Lib.hid hrm.net; clear hrm
  go_upto_region 4 with (fail)
  refine nameC ?_
  intro W3 HW3
  have hg3 : W2.grownBy W3 none := by rw [HW3.out]; exact grown_alloc _ _
  have hs3 := hg3.size
  have HF3 := Lib.hid (HF2.out.still hg3); clear HF2
  have M3 := Lib.hid (NetF.still HM.out hg3 (by omega)); clear HM
  have WB3 := Lib.hid (show BoxN W3 W2.heap.size #[.slice A5 Q.ends.length c5, .slice A6 Q.ids.length c6, .slice A7 Q.inputs.length c7] 32 by rw [HW3.out]; exact BoxN.new _ _ _)
  clear HW3
  have N_3 := Lib.hid (Net.turned G1.out HF3.out (by omega) (by omega)); clear G1
  have bx1_3 := HF3.out.boxN bx1 (by omega); clear bx1
  have hbA3 : Below w.heap.size w W3 := (HF3.out.below_of hbA (by omega) (by omega)); clear hbA HF3
  have kbx1_0 : W3.cell? ⟨w.heap.size, 0, none⟩ = some (.slice A1 N.ends.length c1) := bx1_3.cell 0 (by simp)
  have kbx1_1 : W3.cell? ⟨w.heap.size, 1, none⟩ = some (.slice A1' N.ids.length c1') := bx1_3.cell 1 (by simp)
  have kbx1_2 : W3.cell? ⟨w.heap.size, 2, none⟩ = some (.slice A1'' N.inputs.length c1'') := bx1_3.cell 2 (by simp)
  go_wp2_with fail
  clear kbx1_0 kbx1_1 kbx1_2
  refine (isParts_any _ N lo1 hi1 _ N_3.out (by omega) HG.out).mono ?_
  rintro e W4 ⟨r0, xs, rfl, hxs, hX, hb4⟩
  have hg4 := grown_below hb4; clear hb4
  have hs4 := hg4.size
  have HF4 := Lib.hid ((Turned.refl W3.heap.size W3.heap.size W3).still hg4)
  have HX := Lib.hid hX; have HXS := Lib.hid hxs; clear hX
  have hxl : xs.length ≤ 40 := by
    have h := congrArg List.length hxs
    rw [List.length_map] at h
    have := HWK.out.2
    omega
  clear hxs
  obtain ⟨Ao, co, rfl, hco, hdo⟩ := HX.out.len
  have hlowX : W3.heap.size ≤ W4.heap.size := HX.out.low
  go_wp2_with fail
  go_loopw [18, 5, 6] (fun kv ov fv wr => ∃ (k tp f : Nat) (Ns : List NetD), k ≤ xs.length ∧ kv = .int .i64 k ∧ fv = .int .i64 f ∧ Hid (f = (((sortedC N).take k).flatMap CmpD.walk).length) ∧ Hid (Ns = (ccL N).take k) ∧ Hid (OwnNS wr W4.heap.size tp 32 ov Ns) ∧ Hid (CoS encS 3 wr W3.heap.size W4.heap.size 46 (.slice Ao xs.length co) xs) ∧ Hid (Turned W3.heap.size W3.heap.size W3 wr)) (fun kv ov fv _ => xs.length - (intOf kv).toNat)
  case atStart => exact ⟨0, W4.heap.size, 0, [], Nat.zero_le _, rfl, rfl, Lib.hid (by simp), Lib.hid (by simp), Lib.hid (OwnNS.nil (Nat.le_refl _) (Nat.le_refl _)), HX, HF4⟩
  case round =>
    clear HF4
    obtain ⟨k, tp, f, Ns, hk, rfl, rfl, HFR, HNS, HO, HX, HF5⟩ := hrel
    have hs5 := HF5.out.size
    obtain ⟨wq, rfl⟩ : ∃ wq : World, wq = wr := ⟨_, rfl⟩
    have hxh := HX.out.high
    have hsl : (sortedC N).length = xs.length := by rw [← HXS.out, List.length_map]
    by_cases hkn : k < xs.length
    case neg =>
      obtain rfl : k = xs.length := by omega
      have HR := Lib.hid (show Ns = ccL N by rw [HNS.out, ← hsl, ← ccL_length, List.take_length])
      obtain ⟨Av, cv, rfl, hcv, hdv⟩ := HO.out.len
      go_wp2_with fail
      go_ret2
      exact ⟨_, ret_vb HG.out.symm, by rw [ccOut_yes HG.out, ← HR.out]; exact NetSX.mono HO.out.netSX (by omega) (Nat.le_refl _), (HF5.out.below_of hbA3 (by omega) (by omega))⟩
    have HC0 := Lib.hid (HCC.out k (by omega))
    obtain ⟨b, c, eb, hc1, hc2, hb1, hb2, hcl⟩ := HX.out.cells (fun _ => rfl) (by omega) (by omega)
    injection eb with eb1 _ eb2
    subst eb1 eb2
    have hxm : xs[k] ∈ xs := List.getElem_mem hkn
    have hxc : xs[k].c ∈ sortedC N := by rw [← HXS.out]; exact List.mem_map.2 ⟨_, hxm, rfl⟩
    have hks : k < (sortedC N).length := by omega
    have hxe : (sortedC N)[k] = xs[k].c := by
      have : (sortedC N)[k]? = (xs.map CmpV.c)[k]? := by rw [HXS.out]
      rw [List.getElem?_eq_getElem hks, List.getElem?_eq_getElem (by simpa using hkn)] at this
      simpa using this
    have HWC := Lib.hid (HWK.out.1 _ hxc)
    have HSW := Lib.hid (sorted_walk HG.out hxc)
    have HTK := Lib.hid (show (ccL N).take (k + 1) = (ccL N).take k ++ [partN N xs[k].c.walk kpT] by rw [ccL_take hks, hxe])
    have HEQ := Lib.hid hxe
    obtain ⟨lo, hi, a1, a2, hE, a4⟩ := HX.out.el _ hxm
    have q0 := hcl k hkn 0 _ (by omega) rfl
    have q1 := hcl k hkn 1 _ (by omega) rfl
    have q2 := hcl k hkn 2 _ (by omega) rfl
    clear hcl hxm hxc hxe
    have hE2 := hE.walk
    have hE1 := hE.code
    clear hE
    obtain ⟨x, HXK⟩ : ∃ x, Hid (xs[k] = x) := ⟨_, Lib.hid rfl⟩
    rw [HXK.out] at q0 q1 q2  hE1 hE2 HWC HTK HSW HEQ
    obtain ⟨vc, vw, cc⟩ := x
    dsimp only at q0 q1 q2  hE1 hE2 HWC HTK HSW HEQ
    obtain ⟨Aq, cq, rfl, _, _⟩ := hE1.dims
    obtain ⟨Ar, cr, rfl, hw1, hw2⟩ := hE2.dims
    have HE2 := Lib.hid hE2; clear hE1 hE2
    have q0' := q0.1; have q1' := q1.1; have q2' := q2.1
    clear q0 q1 q2 
    have hki : (k : Int) < xs.length := by omega
    rw [Nat.add_zero] at q0'
    have hwl : cc.walk.length ≤ 40 := by have := HWC.out.1; omega
    have HZN := Lib.hid (show ∀ j, j < cc.walk.length → ∃ t : Nat, nth cc.walk j = t ∧ t < N.ends.length from fun j hj => HWC.out.2 _ (nth_mem hj))
    rw [HEQ.out, ← HFR.out] at HC0
    obtain ⟨hpk0, hpe0, hle0⟩ := HC0.out
    have HPK := Lib.hid hpk0; have HPE := Lib.hid hpe0; have HLE := Lib.hid hle0
    clear hpk0 hpe0 HC0
    have HFN := Lib.hid (show f + cc.walk.length = (((sortedC N).take (k + 1)).flatMap CmpD.walk).length by rw [take_flat (by omega), List.length_append, ← HFR.out, HEQ.out])
    obtain ⟨P, HP⟩ : ∃ P, Hid (partN N cc.walk kpT = P) := ⟨_, Lib.hid rfl⟩
    rw [HP.out] at HPE HTK
    have hot := HO.out.top
    have HLB := Lib.hid HO.out.ltB
    have hnl : Ns.length ≤ 40 := by rw [HNS.out, List.length_take]; omega
    have hf40 : f ≤ 40 := by omega
    clear hle0
    go_upto_region 9 with (fail)
    refine nameC ?_
    intro W6 HW6
    have hg6 : wq.grownBy W6 none := by rw [HW6.out]; exact grown_alloc _ _
    have hs6 := hg6.size
    have HF6 := Lib.hid (HF5.out.still hg6); clear HF5
    have O6 := Lib.hid (OwnNS.still HO.out hg6); clear HO
    have X6 := Lib.hid (CoS.still HX.out hg6); clear HX
    have E6 := Lib.hid (IntS.still HE2.out hg6 (by omega)); clear HE2
    have CB6 := Lib.hid (show BoxN W6 wq.heap.size #[.slice Aq cc.code.length cq, .slice Ar cc.walk.length cr, .int .i64 (cc.cnt : Nat)] 46 by rw [HW6.out]; exact BoxN.new _ _ _)
    clear HW6
    have kb1 := CB6.out.cell 1 (by simp)
    go_wp2_with fail
    clear kb1
    go_loopw [25, 9, 6] (fun jv lv fv wr => ∃ (j g : Nat) (zs : List Int), j ≤ cc.walk.length ∧ jv = .int .i64 j ∧ fv = .int .i64 g ∧ Hid (g = f + j) ∧ Hid (zs = fromL f j) ∧ Hid (OwnI wr W6.heap.size 3 lv zs) ∧ W6.heap.size ≤ wr.heap.size ∧ Hid (Turned W6.heap.size W6.heap.size W6 wr) ∧ Hid (Turned W3.heap.size W3.heap.size W3 wr)) (fun jv lv fv _ => cc.walk.length - (intOf jv).toNat)
    case atStart => exact ⟨0, f, [], Nat.zero_le _, rfl, rfl, Lib.hid rfl, Lib.hid (by rw [fromL_zero]), Lib.hid (OwnI.nil _ _ _), Nat.le_refl _, Lib.hid (Turned.refl _ _ _), HF6⟩
    case round =>
      clear HF6
      obtain ⟨j, g, zs, hj, rfl, rfl, HGJ, HZS, HL, hw3, HFZ, HF7⟩ := hrel
      have hs7 := HF7.out.size
      obtain ⟨wt, rfl⟩ : ∃ wt : World, wt = wr := ⟨_, rfl⟩
      have hzl : zs.length = j := by rw [HZS.out, fromL_len]
      have HZL := Lib.hid hzl; clear hzl
      have hgj : g ≤ 80 := by have := HGJ.out; omega
      by_cases hjn : j < cc.walk.length
      case pos =>
        have hjni : (j : Int) < cc.walk.length := by omega
        have hll := HL.out.lt
        have hzl9 : zs.length < 1099511627776 := by rw [HZL.out]; omega
        have HLL := Lib.hid hll; clear hll
        go_wp2_with (at_builtin; refine append_int (s := .tmp 27) Tryz.underlying23 Tryz.info3 (by decide) wt rfl _ rfl HL.out g _ rfl (by simp [Act.eval, go_sem]) (by omega) (by omega) ?_; intro v' w' ho' hg' hat')
        go_roundw
        case rel =>
          have hgs := hg'.size
          exact ⟨j + 1, g + 1, zs ++ [(g : Int)], by omega, by go_num, by go_num, Lib.hid (by have := HGJ.out; omega), Lib.hid (by rw [fromL_succ, HZS.out, HGJ.out]), Lib.hid ho', by omega, Lib.hid (HFZ.out.grown hg' fun g e => .inr (by have := HLL.out g e; omega)), Lib.hid (HF7.out.grown hg' fun g e => .inr (by have := HLL.out g e; omega))⟩
        case measure => simp [intOf]; omega
      obtain rfl : j = cc.walk.length := by omega
      have hgf := HGJ.out
      subst hgf
      have HGS := Lib.hid (turned_none HFZ.out)
      have HO := Lib.hid (OwnNS.still O6.out HGS.out)
      have HX := Lib.hid (CoS.still X6.out HGS.out)
      have HZI := Lib.hid HL.out.ints
      rw [HZS.out] at HZI
      obtain ⟨Al, cl, rfl, hcl9, hdl9⟩ := HZI.out.dims
      have hfl : (fromL f cc.walk.length).length ≤ 40 := by rw [fromL_len]; omega
      clear HL O6 X6
      have kw0 : wt.cell? ⟨W2.heap.size, 0, none⟩ = some (.slice A5 Q.ends.length c5) := (HF7.out.boxN WB3.out (by omega)).cell 0 (by simp)
      have kw1 : wt.cell? ⟨W2.heap.size, 1, none⟩ = some (.slice A6 Q.ids.length c6) := (HF7.out.boxN WB3.out (by omega)).cell 1 (by simp)
      have kw2 : wt.cell? ⟨W2.heap.size, 2, none⟩ = some (.slice A7 Q.inputs.length c7) := (HF7.out.boxN WB3.out (by omega)).cell 2 (by simp)
      go_wp2_with fail
      clear kw0 kw1 kw2
      refine (neKeepB_any _ Q _ _ _ (fromL f cc.walk.length) _ _ _ (Net.turned M3.out HF7.out (by omega) (by omega)) (by omega) HZI.out (by omega) HQG.out HPK.out hfl).mono ?_
      rw [HPE.out]
      rintro e W8 ⟨rp, rfl, hrp, hb8⟩
      have hg8 := grown_below hb8; clear hb8
      have hs8 := hg8.size
      have HF8 := Lib.hid (HF7.out.still hg8); clear HF7
      have O8 := Lib.hid (OwnNS.still HO.out hg8); clear HO
      have X8 := Lib.hid (CoS.still HX.out hg8); clear HX
      have Z8 := Lib.hid (IntS.still HZI.out hg8 (by omega)); clear HZI
      obtain ⟨B5, c5', B6, c6', B7, c7', rfl, hc5', hd5', _⟩ := hrp.net.parts
      have HB := Lib.hid hrp; clear hrp
      go_wp2_with (at_builtin; refine append_net (s := .tmp 34) Tryz.underlying27 infoNet rfl (by decide) W8 rfl _ rfl O8.out HB.out (by omega) (Nat.le_refl _) (by omega) (fun g hg => by have := (HLB.out g hg).2; omega) rfl rfl rfl _ (by simp [Act.eval, go_sem]) (by simp [Act.eval, go_sem]) (by omega) ?_; intro v' w' hns' hv' hg')
      go_roundw
      case rel => exact ⟨k + 1, W8.heap.size, f + cc.walk.length, Ns ++ [P], by omega, by go_num, by go_num, Lib.hid HFN.out, Lib.hid (by rw [HTK.out, HNS.out]), Lib.hid hns', Lib.hid (CoS.far X8.out hg' (fun g e => .inr (HLB.out g e).1)), Lib.hid (HF8.out.grown hg' fun g e => .inr (by have := (HLB.out g e).1; omega))⟩
      case measure => simp [intOf]; omega

end Go.Proofs.YtmdlginjblnfoaaGreat

/- What marks a network whose top row, rows, ids and inputs lie apart, in either order. -/
namespace Go.Proofs.YtmdlginjblnfoaaGreat
open Go.ChangeShapes Go.WideShapes Go.ChangeAt Go.RowKit
set_option linter.unusedVariables false

theorem EndSSz.turned {w w' : World} {g lo hi l2 h2 : Nat} {v : Value} {xss : List (List (Int × Int))} (h : EndSSz w g lo hi v xss) (hb : Turned l2 h2 w w') (hg : g < w.heap.size) (hB : hi ≤ w.heap.size) (hd : g < l2 ∨ h2 ≤ g) (hd2 : hi ≤ l2 ∨ h2 ≤ lo) : EndSSz w' g lo hi v xss := by
  obtain ⟨vs, h1, h2, h3⟩ := h
  refine ⟨vs, Sl.turned h1 hb (by omega) (by omega), fun i hi => ?_, h3⟩
  obtain ⟨e1, e2⟩ := h2 i hi
  exact ⟨e1.turned hb hB hd2, e2⟩
theorem sumL_le {α : Type} (xss : List (List α)) (b : Nat) (h : ∀ i, i < xss.length → (nthL xss i).length ≤ b) : ∀ k, k ≤ xss.length → sumL xss k ≤ k * b
  | 0, _ => by rw [sumL_zero]; omega
  | k + 1, hk => by
    have := sumL_le xss b h k (by omega)
    have h2 := h k (by omega)
    rw [sumL_succ xss k (by omega), Nat.succ_mul]
    omega
theorem good_cnt {N : NetD} (hg : N.good = true) : N.cnt ≤ 1000 ∧ N.sz ≤ 1000 := by
  obtain ⟨h1, h2⟩ := good_n hg
  have h3 := sumL_le N.ends 6 (fun i hi => good_deg hg hi) N.ends.length (Nat.le_refl _)
  have h4 := good_insl hg
  have h5 := good_idsl hg
  unfold NetD.cnt NetD.sz szSS cntSS
  omega
end Go.Proofs.YtmdlginjblnfoaaGreat

/- What the law of CanonicalComponents needs: the networks handed back are small. -/
namespace Go.Proofs.YtmdlginjblnfoaaGreat
open Go.ChangeShapes Go.WideShapes Go.ChangeAt Go.RowKit
set_option linter.unusedVariables false

theorem NetS.shape {w : World} {lo hi : Nat} {v : Value} {Ns : List NetD} (h : NetS w lo hi v Ns) : ∃ A c, v = .slice A Ns.length c := by
  obtain ⟨A, c, e, _⟩ := h.form
  exact ⟨A, c, e⟩
theorem sumN_le (Ns : List NetD) (b : Nat) (h : ∀ i, i < Ns.length → (nthN Ns i).cnt ≤ b) : ∀ k, k ≤ Ns.length → sumN Ns k ≤ k * b
  | 0, _ => by rw [sumN_zero]; exact Nat.zero_le _
  | k + 1, hk => by
    have := sumN_le Ns b h k (by omega)
    have h2 := h k (by omega)
    rw [sumN_succ Ns k (by omega), Nat.succ_mul]
    omega
theorem ccOut_sum (N : NetD) : sumN (ccOut N) (ccOut N).length ≤ 40000 := by
  cases hg : N.good with
  | false => rw [ccOut_no hg]; exact Nat.zero_le _
  | true =>
    rw [ccOut_yes hg]
    have hl := (sortedC_wok hg).2
    have hn := (good_n hg).2
    have := sumN_le (ccL N) 1000 (fun i hi => by
      rw [ccL_length] at hi
      rw [nthN_eq (by rw [ccL_length]; exact hi)]
      unfold ccL
      rw [List.getElem_map]
      obtain ⟨u, hu, hw⟩ := sorted_walk hg (List.getElem_mem hi)
      have h40 := ((sortedC_wok hg).1 _ (List.getElem_mem hi)).1
      rw [hw] at h40 ⊢
      exact (good_cnt (part_good hg (walk_pick (good_nodes hg) hu) (Shut.keep hg (walk_pick (good_nodes hg) hu) (walk_shut (good_nodes hg) hu)) (List.length_pos_of_mem (walk_pos (good_nodes hg) hu)) h40)).1) (ccL N).length (Nat.le_refl _)
    rw [ccL_length] at this ⊢
    have h2 : (sortedC N).length * 1000 ≤ 40 * 1000 := Nat.mul_le_mul (by omega) (Nat.le_refl _)
    omega
end Go.Proofs.YtmdlginjblnfoaaGreat
