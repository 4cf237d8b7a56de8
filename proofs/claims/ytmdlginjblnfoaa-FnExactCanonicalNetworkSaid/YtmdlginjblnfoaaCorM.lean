/-
  Several texts in one: NumP, CoO, Co, Drw, Ccmp, Csr, Cord, CordS, CoQ, CoR, CoT, CoX, CoU, Pts, CorJ. No condition on any program.
-/
import Derived.Test.YtmdlginjblnfoaaQuadP
import Derived.Test.YtmdlginjblnfoaaCoL
import Derived.Lib.SliceRun
import Derived.Test.YtmdlginjblnfoaaOwn
import Derived.Test.YtmdlginjblnfoaaSS
import Derived.Maps.AppendAt
import Derived.Maps.OwnOps
import Derived.Test.YtmdlginjblnfoaaCoM
import Derived.Test.YtmdlginjblnfoaaCmL
import Derived.Test.YtmdlginjblnfoaaFrame
import Derived.Test.YtmdlginjblnfoaaReg
import Derived.Test.YtmdlginjblnfoaaShelf
import Derived.Test.YtmdlginjblnfoaaShelfS
import Derived.Shelf.SlSortCmp.WholeK
import Derived.Shelf.SlSortCmp.NoneTotal
import Derived.Test.YtmdlginjblnfoaaCnA
import Derived.Test.YtmdlginjblnfoaaPut
import Derived.Test.YtmdlginjblnfoaaWkP
import Derived.Test.YtmdlginjblnfoaaPut2
import Derived.Test.YtmdlginjblnfoaaWk
import Derived.Test.YtmdlginjblnfoaaCde2
import Derived.Test.YtmdlginjblnfoaaTokE
import Derived.Test.YtmdlginjblnfoaaPerm
import Derived.Test.YtmdlginjblnfoaaIsNet

/- Plain: numbers from a on, written at the places that a list names. No condition on any program. -/
namespace Go.Proofs.Ytmdlginjblnfoaa
set_option linter.unusedVariables false

/-- numbers from a on, written at the places that a list names -/
def numL : List Int → Nat → List Int → List Int
  | o, _, [] => o
  | o, a, x :: l => numL (o.set x.toNat (a : Nat)) (a + 1) l
theorem numL_length : ∀ (l o : List Int) (a : Nat), (numL o a l).length = o.length
  | [], o, a => rfl
  | x :: l, o, a => by simp only [numL]; rw [numL_length l]; simp
theorem numL_snoc (x : Int) : ∀ (l o : List Int) (a : Nat), numL o a (l ++ [x]) = (numL o a l).set x.toNat ((a + l.length : Nat) : Int)
  | [], o, a => by simp [numL]
  | y :: l, o, a => by
    show numL (o.set y.toNat (a : Nat)) (a + 1) (l ++ [x]) = (numL (o.set y.toNat (a : Nat)) (a + 1) l).set _ _
    rw [numL_snoc x l, List.length_cons, show a + 1 + l.length = a + (l.length + 1) by omega]
theorem zip_numL : ∀ (l o : List Int) (a : Nat), (l.zipIdx a).foldl (fun o p => o.set p.1.toNat (p.2 : Int)) o = numL o a l
  | [], o, a => rfl
  | x :: l, o, a => by rw [List.zipIdx_cons, List.foldl_cons, zip_numL l]; rfl
theorem numL_i64 {n : Nat} (hn : n ≤ 1000000) : ∀ (l o : List Int) (a : Nat), a + l.length ≤ 1000000 → (∀ z ∈ o, I64 z) → ∀ z ∈ numL o a l, I64 z
  | [], o, a, _, h => h
  | x :: l, o, a, ha, h => numL_i64 hn l _ _ (by simp at ha; omega) fun z hz => by
    rcases List.mem_or_eq_of_mem_set hz with h1 | h1
    · exact h z h1
    · subst h1; simp at ha; unfold I64; omega
theorem numL_other : ∀ (l o : List Int) (a x : Nat), (∀ z ∈ l, z.toNat < o.length ∧ z.toNat ≠ x) → nth (numL o a l) x = nth o x
  | [], o, a, x, _ => rfl
  | y :: l, o, a, x, h => by
    have hy := h y (by simp)
    show nth (numL (o.set y.toNat (a : Nat)) (a + 1) l) x = _
    rw [numL_other l _ _ x (fun z hz => by rw [List.length_set]; exact h z (by simp [hz])), nth_set _ _ _ _ hy.1, if_neg (fun e => hy.2 e.symm)]
theorem numL_at : ∀ (l o : List Int) (a k : Nat), k < l.length → (∀ i j, i < l.length → j < l.length → (nth l i).toNat = (nth l j).toNat → i = j) → (∀ z ∈ l, z.toNat < o.length) → nth (numL o a l) (nth l k).toNat = ((a + k : Nat) : Int)
  | [], o, a, k, hk, _, _ => absurd hk (by simp)
  | y :: l, o, a, 0, _, h1, h2 => by
    show nth (numL (o.set y.toNat (a : Nat)) (a + 1) l) y.toNat = _
    rw [numL_other l _ _ _ (fun z hz => ?_), nth_set _ _ _ _ (h2 y (by simp)), if_pos rfl]; · rfl
    refine ⟨by rw [List.length_set]; exact h2 z (by simp [hz]), fun e => ?_⟩
    obtain ⟨i, hi, ei⟩ := List.mem_iff_getElem.1 hz
    have := h1 (i + 1) 0 (by simpa using hi) (by simp) (by rw [nth_cons_succ, nth_cons_zero, nth_eq hi, ei]; exact e)
    omega
  | y :: l, o, a, k + 1, hk, h1, h2 => by
    show nth (numL (o.set y.toNat (a : Nat)) (a + 1) l) (nth l k).toNat = _
    rw [numL_at l _ (a + 1) k (by simpa using hk) (fun i j hi hj e => by have := h1 (i + 1) (j + 1) (by simpa using hi) (by simpa using hj) e; omega) (fun z hz => by rw [List.length_set]; exact h2 z (by simp [hz]))]
    congr 1; omega
end Go.Proofs.Ytmdlginjblnfoaa

/- Components in order: the numbers that the nodes get, as they are written one by one. No condition on any program. -/
namespace Go.Proofs.Ytmdlginjblnfoaa
open Go.ChangeShapes Go.WideShapes Go.ChangeAt Go.RowKit
set_option linter.unusedVariables false

theorem ordTo_numL (l : List CmpD) (n : Nat) : ordTo l n = numL (List.replicate n 0) 0 (l.flatMap CmpD.walk) := zip_numL _ _ _
/-- a component's walk: nodes, and not too many -/
def WOk (N : NetD) (c : CmpD) : Prop := c.walk.length ≤ 40 ∧ ∀ x ∈ c.walk, ∃ t : Nat, x = t ∧ t < N.ends.length
theorem compTo_wok {N : NetD} (hg : N.good = true) {v : Nat} (hv : v < N.ends.length) : ∀ k, k ≤ (nodesOf N v).length → WOk N (compTo N v k)
  | 0, _ => ⟨by simp [compTo, cmp0], by simp [compTo, cmp0]⟩
  | k + 1, h => by
    have ih := compTo_wok hg hv k (by omega)
    obtain ⟨t, et, ht⟩ := nodes_mem hg hv (show k < (nodesOf N v).length by omega)
    have hok := walk_ok (good_nodes hg) ht
    have hlen := hok.len
    have hn := (good_n hg).2
    rw [compTo_succ N v (by omega), et]
    unfold cmpStep
    rw [Int.toNat_natCast]
    split
    · exact ⟨by show (walkN N t).length ≤ 40; omega, hok.node⟩
    · split
      · exact ih
      · exact ih
theorem stC_wok {N : NetD} (hg : N.good = true) : ∀ k, k ≤ N.ends.length → (∀ c ∈ (stC N k).1, WOk N c) ∧ (stC N k).1.length ≤ k
  | 0, _ => ⟨(fun c h => by cases h), Nat.le_refl _⟩
  | k + 1, h => by
    obtain ⟨h1, h2⟩ := stC_wok hg k (by omega)
    simp only [stC]
    split
    · exact ⟨h1, by omega⟩
    · refine ⟨fun c hc => ?_, by simp; omega⟩
      rw [List.mem_append, List.mem_singleton] at hc
      rcases hc with hc | rfl
      · exact h1 c hc
      · exact compTo_wok hg (by omega) _ (Nat.le_refl _)
theorem sortedC_wok {N : NetD} (hg : N.good = true) : (∀ c ∈ sortedC N, WOk N c) ∧ (sortedC N).length ≤ N.ends.length := by
  obtain ⟨h1, h2⟩ := stC_wok hg N.ends.length (Nat.le_refl _)
  have hp := (sortedC_spec N).2
  exact ⟨fun c hc => h1 c (hp.mem_iff.1 hc), by rw [hp.length_eq]; exact h2⟩
theorem flat_walk_len {N : NetD} : ∀ l : List CmpD, (∀ c ∈ l, WOk N c) → (l.flatMap CmpD.walk).length ≤ l.length * 40
  | [], _ => by simp
  | c :: l, h => by
    have h1 := (h c (by simp)).1
    have h2 := flat_walk_len l (fun d hd => h d (by simp [hd]))
    rw [List.flatMap_cons, List.length_append, List.length_cons]
    omega
theorem take_flat {l : List CmpD} {k : Nat} (h : k < l.length) : (l.take (k + 1)).flatMap CmpD.walk = (l.take k).flatMap CmpD.walk ++ l[k].walk := by
  rw [List.take_succ_eq_append_getElem h, List.flatMap_append]; simp
end Go.Proofs.Ytmdlginjblnfoaa

/- Contract: the components of a network in canonical order (program), out of a contract of slices.SortFunc at components. -/
namespace Go.Proofs.Ytmdlginjblnfoaa
open Go.ChangeShapes Go.WideShapes Go.ChangeAt Go.RowKit
set_option linter.unusedVariables false

set_option maxHeartbeats 8000000 in
set_option maxRecDepth 100000 in
theorem componentsOf_any (v1 : Value) (N : NetD) (lo1 hi1 : Nat) (w : World) (h1 : Net w lo1 hi1 v1 N) (hh1 : hi1 ≤ w.heap.size) (hg : N.good = true) (hsort : SortC Try.prog 61 62 66) :
    Calls Try.prog 40 #[v1] w fun e w' => ∃ r xs, e = .returned r ∧ xs.map CmpV.c = sortedC N ∧ CoS encI 4 w' w.heap.size w'.heap.size 66 r xs ∧ Below w.heap.size w w' := by
  obtain ⟨n1, n40⟩ := good_n hg
  have HG := Lib.hid hg; clear hg
  have HS := Lib.hid hsort; clear hsort
  have HNO := Lib.hid (good_nodes HG.out)
  have hnn := fun (W : World) (A : Option Addr) (l c : Nat) => Lib.run_eql_slice_nil (P := Try.prog) W 23 3 A l c 0 0 Try.underlying23
  have hmk := fun W => run_make_row' (P := Try.prog) 78 4 (.bool false) 1 Try.underlying78 Try.infoBool rfl .i64 .i64 N.ends.length (by omega) (by omega) W
  have F1 := Lib.hid h1
  obtain ⟨A1, c1, A1', c1', A1'', c1'', rfl, hc1, hd1, _⟩ := h1.parts
  obtain ⟨b1, o1, _, _, rfl, _⟩ := Net.rowAt F1.out (u := 0) (by omega)
  clear h1
  obtain ⟨WA, HWA⟩ : ∃ W, Hid (W = (w.alloc (.cells #[.slice (some ⟨b1, o1, none⟩) N.ends.length c1, .slice A1' N.ids.length c1', .slice A1'' N.inputs.length c1''] 31))) := ⟨_, Lib.hid rfl⟩
  have hbA : Below w.heap.size w WA := by rw [HWA.out]; exact ((Below.refl _ _).alloc (Nat.le_refl _) _)
  have hsA : w.heap.size + 1 ≤ WA.heap.size := by rw [HWA.out]; simp; try omega
  have bx1 : BoxN WA (w.heap.size) #[.slice (some ⟨b1, o1, none⟩) N.ends.length c1, .slice A1' N.ids.length c1', .slice A1'' N.inputs.length c1''] 31 := by rw [HWA.out]; exact (BoxN.new' _ _ _ (by simp))
  have G1 := Lib.hid (Net.below F1.out hbA hh1); clear F1
  go_enter Try.func40, Try.ntmps40
  go_upto_region 1 with (fail)
  rw [← HWA.out]; clear HWA
  have kbx1_0 : WA.cell? ⟨w.heap.size, 0, none⟩ = some (.slice (some ⟨b1, o1, none⟩) N.ends.length c1) := bx1.cell 0 (by simp)
  have kbx1_1 : WA.cell? ⟨w.heap.size, 1, none⟩ = some (.slice A1' N.ids.length c1') := bx1.cell 1 (by simp)
  have kbx1_2 : WA.cell? ⟨w.heap.size, 2, none⟩ = some (.slice A1'' N.inputs.length c1'') := bx1.cell 2 (by simp)
  go_upto_region 3 with (fail)
  clear kbx1_0 kbx1_1 kbx1_2
  refine nameC ?_
  intro W1 HW1
  have hg1 : WA.grownBy W1 none := by rw [HW1.out]; exact grown_alloc _ _
  have hs1 := hg1.size
  have HF1 := Lib.hid ((Turned.refl WA.heap.size WA.heap.size WA).still hg1)
  have HD := Lib.hid (show BoolS W1 WA.heap.size (WA.heap.size + 1) (.slice (some ⟨WA.heap.size, 0, none⟩) N.ends.length N.ends.length) (List.replicate N.ends.length false) by rw [HW1.out]; exact made_bools _ _ _ rfl (by omega))
  have hz : WA.heap.size + 1 ≤ W1.heap.size := by rw [HW1.out]; simp
  clear HW1 hmk
  have N_1 := Lib.hid (Net.turned G1.out HF1.out (by omega) (by omega)); clear G1
  have bx1_1 := HF1.out.boxN bx1 (by omega); clear bx1
  have hbA1 : Below w.heap.size w W1 := (HF1.out.below_of hbA (by omega) (by omega)); clear hbA HF1
  have kbx1_0 : W1.cell? ⟨w.heap.size, 0, none⟩ = some (.slice (some ⟨b1, o1, none⟩) N.ends.length c1) := bx1_1.cell 0 (by simp)
  have kbx1_1 : W1.cell? ⟨w.heap.size, 1, none⟩ = some (.slice A1' N.ids.length c1') := bx1_1.cell 1 (by simp)
  have kbx1_2 : W1.cell? ⟨w.heap.size, 2, none⟩ = some (.slice A1'' N.inputs.length c1'') := bx1_1.cell 2 (by simp)
  go_wp2_with fail
  clear kbx1_0 kbx1_1 kbx1_2
  go_loopw [21, 3] (fun kv ov wr => ∃ (k : Nat) (bs : List Bool) (xs : List CmpV) (top : Nat), k ≤ N.ends.length ∧ kv = .int .i64 k ∧ Hid (BoolS wr WA.heap.size (WA.heap.size + 1) (.slice (some ⟨WA.heap.size, 0, none⟩) N.ends.length N.ends.length) bs) ∧ Hid (bs.length = N.ends.length) ∧ Hid (∀ u : Nat, u < N.ends.length → nthB bs u = decide ((u : Int) ∈ (stC N k).2)) ∧ Hid (CoS encI 4 wr W1.heap.size top 66 ov xs) ∧ Hid (xs.map CmpV.c = (stC N k).1) ∧ Hid (∀ x ∈ xs, x.c.code.length ≤ 600) ∧ Hid (Turned WA.heap.size (WA.heap.size + 1) W1 wr)) (fun kv ov _ => N.ends.length - (intOf kv).toNat)
  case atStart => exact ⟨0, _, [], W1.heap.size, Nat.zero_le _, rfl, HD, Lib.hid (by simp), Lib.hid fun u hu => by rw [nthB_replicate _ _ hu]; simp [stC], Lib.hid (CoS.nil _ _ _ _ _ (Nat.le_refl _)), Lib.hid rfl, Lib.hid (fun x h => by cases h), Lib.hid (Turned.refl WA.heap.size (WA.heap.size + 1) W1)⟩
  case round =>
    obtain ⟨k, bs, xs, top, hk, rfl, HD, HDL, HDB, HX, HXC, HXL, HF2⟩ := hrel
    have hs2 := HF2.out.size
    obtain ⟨wq, rfl⟩ : ∃ wq : World, wq = wr := ⟨_, rfl⟩
    have hxh := HX.out.high
    have hxlo := HX.out.low
    have hxl : xs.length ≤ k := by have h := stC_node HG.out k hk; rw [← HXC.out, List.length_map] at h; exact h
    obtain ⟨Ao, co, rfl, hco, hdo⟩ := HX.out.len
    by_cases hkn : k < N.ends.length
    case neg =>
      obtain rfl : k = N.ends.length := by omega
      have HPW := Lib.hid (show (xs.map CmpV.c).Pairwise (fun a b => a.least < b.least) by rw [HXC.out]; exact (stC_least N _).2)
      have hlx := Lib.hid HX.out.lt
      go_wp2_with fail
      refine (HS.out _ _ _ _ xs HX.out HPW.out (by omega) HXL.out).mono ?_
      rintro e W9 ⟨rfl, ⟨ys, hys, hcy⟩, hg9⟩
      have hs9 := hg9.size
      have HY := Lib.hid hcy
      have HYC := Lib.hid (show ys.map CmpV.c = sortedC N by rw [hys, HXC.out]; rfl)
      have hyl : ys.length = xs.length := by
        have h1 := congrArg List.length hys
        rw [List.length_map] at h1
        have h2 : (insAll (xs.map CmpV.c)).length = xs.length := by
          have h3 := (insAll_spec (xs.map CmpV.c) [] List.Pairwise.nil (fun y hy => by cases hy) HPW.out).2.length_eq
          simpa [insAll] using h3
        omega
      have HF9 := Lib.hid (HF2.out.grown hg9 (fun g e => .inr (by have := hlx.out g e; omega)))
      clear hcy hg9
      go_wp2_with fail
      go_ret
      exact ⟨_, ys, rfl, HYC.out, HY.out.weak (by omega), (HF9.out.below_of hbA1 (by omega) (by omega))⟩
    have hki : (k : Int) < N.ends.length := by omega
    obtain ⟨d1, d2⟩ := HD.out.at0 (j := k) (by rw [HDL.out]; exact hkn)
    rw [HDB.out k hkn] at d1
    have HST := Lib.hid (show stC N (k + 1) = if (k : Int) ∈ (stC N k).2 then stC N k else ((stC N k).1 ++ [compD N k], (stC N k).2 ++ nodesOf N k) from rfl)
    by_cases hin : (k : Int) ∈ (stC N k).2
    case pos =>
      rw [decide_eq_true hin] at d1
      rw [if_pos hin] at HST
      go_wp2_with fail
      go_roundw
      case rel => exact ⟨k + 1, bs, xs, top, by omega, by go_num, HD, HDL, Lib.hid (by rw [HST.out]; exact HDB.out), HX, Lib.hid (by rw [HST.out]; exact HXC.out), HXL, HF2⟩
      case measure => simp [intOf]; omega
    rw [decide_eq_false hin] at d1
    rw [if_neg hin] at HST
    obtain ⟨seen, HSN⟩ : ∃ l, Hid ((stC N k).2 = l) := ⟨_, Lib.hid rfl⟩
    rw [HSN.out] at HDB HST
    clear hin
    have kbx1_0 : wq.cell? ⟨w.heap.size, 0, none⟩ = some (.slice (some ⟨b1, o1, none⟩) N.ends.length c1) := (HF2.out.boxN bx1_1 (by omega)).cell 0 (by simp)
    have kbx1_1 : wq.cell? ⟨w.heap.size, 1, none⟩ = some (.slice A1' N.ids.length c1') := (HF2.out.boxN bx1_1 (by omega)).cell 1 (by simp)
    have kbx1_2 : wq.cell? ⟨w.heap.size, 2, none⟩ = some (.slice A1'' N.inputs.length c1'') := (HF2.out.boxN bx1_1 (by omega)).cell 2 (by simp)
    go_wp2_with fail
    clear d1 d2 kbx1_0 kbx1_1 kbx1_2
    refine (codeFrom_any _ N lo1 hi1 k _ (Net.turned N_1.out HF2.out (by omega) (by omega)) (by omega) HG.out hkn).mono ?_
    rintro e W3 ⟨rc3, rw3, m3, rfl, hm3, hm3', hw3, hc3, hb3⟩
    have hg3 := grown_below hb3; clear hb3
    have hs3 := hg3.size
    have HF3 := Lib.hid (HF2.out.still hg3); clear HF2
    have D3 := Lib.hid (BoolS.still HD.out hg3 (by omega)); clear HD
    have X3 := Lib.hid (CoS.still HX.out hg3); clear HX
    have L3 := Lib.hid hw3; have C3 := Lib.hid hc3; clear hw3 hc3
    obtain ⟨Al, cl, rfl, hcl, hdl⟩ := L3.out.dims
    have hwl := (walk_ok HNO.out hkn).len
    go_wp2_with fail
    refine (sort_any _ (walkN N k) _ _ _ L3.out (by omega) (by omega)).mono ?_
    rintro e W4 ⟨rfl, hr4, hg4⟩
    have hrw : ∀ g, rowOf (walkN N k).length (.slice Al (walkN N k).length cl) = some g → wq.heap.size ≤ g ∧ g < m3 := fun g hg => by
      rcases Sl.row L3.out with e | ⟨b, e, l1, l2⟩
      · rw [e] at hg; cases hg
      · rw [e] at hg; injection hg; omega
    have hs4 := hg4.size
    have HF4 := Lib.hid (HF3.out.grown hg4 (fun g hg => by have := hrw g hg; omega)); clear HF3
    have D4 := Lib.hid (BoolS.far D3.out hg4 (by omega) (fun g hg => by have := hrw g hg; omega)); clear D3
    have X4 := Lib.hid (CoS.far X3.out hg4 (fun g hg => by have := hrw g hg; omega)); clear X3
    have HNL := Lib.hid (show IntS W4 wq.heap.size m3 (.slice Al (nodesOf N k).length cl) (nodesOf N k) by
      have h := hr4
      show IntS W4 wq.heap.size m3 (.slice Al (sortI (walkN N k)).length cl) (sortI (walkN N k))
      rw [sortI_length]; exact h)
    have hnl2 : (nodesOf N k).length = (walkN N k).length := by unfold nodesOf; rw [sortI_length]
    have hnl : (nodesOf N k).length ≤ N.ends.length := nodes_len HG.out hkn
    have hclN : (nodesOf N k).length ≤ cl := by rw [hnl2]; exact hcl
    rw [← hnl2]
    obtain ⟨ns, HNS⟩ : ∃ l, Hid (nodesOf N k = l) := ⟨_, Lib.hid rfl⟩
    rw [HNS.out] at HNL hnl hclN ⊢
    clear hr4 hrw hnl2 hcl
    go_upto_region 10 with (fail)
    refine nameC ?_
    intro W5 HW5
    have hg5 : W4.grownBy W5 none := by rw [HW5.out]; exact grown_alloc _ _
    have hs5 := hg5.size
    have HF5 := Lib.hid (HF4.out.still hg5); clear HF4
    have D5 := Lib.hid (BoolS.still D4.out hg5 (by omega)); clear D4
    have X5 := Lib.hid (CoS.still X4.out hg5); clear X4
    have NL5 := Lib.hid (IntS.still HNL.out hg5 (by omega)); clear HNL
    have CB5 := Lib.hid (show BoxN W5 W4.heap.size #[.slice none 0 0, .slice none 0 0, .int .i64 (k : Nat), .int .i64 0] 66 by rw [HW5.out]; exact BoxN.new _ _ _)
    clear HW5
    have hzc : W4.heap.size + 1 ≤ W5.heap.size := by have := CB5.out.lt; omega
    go_wp2_with fail
    go_loopw [40] (fun jv wr => ∃ (j : Nat) (ds : List Bool) (vc vw : Value) (lo hi : Nat), j ≤ ns.length ∧ jv = .int .i64 j ∧ Hid (BoolS wr WA.heap.size (WA.heap.size + 1) (.slice (some ⟨WA.heap.size, 0, none⟩) N.ends.length N.ends.length) ds) ∧ Hid (ds.length = N.ends.length) ∧ Hid (∀ u : Nat, u < N.ends.length → nthB ds u = decide ((u : Int) ∈ seen ++ ns.take j)) ∧ Hid (CoS encI 4 wr W1.heap.size top 66 (.slice Ao xs.length co) xs) ∧ Hid (IntS wr wq.heap.size m3 (.slice Al ns.length cl) ns) ∧ Hid (BoxN wr W4.heap.size #[vc, vw, .int .i64 (k : Nat), .int .i64 ((compTo N k j).cnt : Nat)] 66) ∧ Hid (ElOk wr lo hi ⟨vc, vw, compTo N k j⟩) ∧ Hid ((compTo N k j).cnt = 0 → vw = .slice none 0 0) ∧ W4.heap.size + 1 ≤ lo ∧ lo ≤ hi ∧ hi ≤ wr.heap.size ∧ Hid (Turned WA.heap.size (WA.heap.size + 1) W1 wr)) (fun jv _ => ns.length - (intOf jv).toNat)
    case atStart => exact ⟨0, bs, .slice none 0 0, .slice none 0 0, (W4.heap.size + 1), (W4.heap.size + 1), Nat.zero_le _, rfl, D5, HDL, Lib.hid fun u hu => by rw [HDB.out u hu]; simp, X5, NL5, CB5, Lib.hid ⟨IntS.nil _ _ _, IntS.nil _ _ _⟩, Lib.hid (fun _ => rfl), Nat.le_refl _, Nat.le_refl _, hzc, HF5⟩
    case round =>
      clear HF5
      obtain ⟨j, ds, vc, vw, lo, hi, hj, rfl, HD, HDL2, HDB2, HX, HN, HB, HE, HZ, hlo, hlh, hhi, HF6⟩ := hrel
      have hs6 := HF6.out.size
      obtain ⟨wt, rfl⟩ : ∃ wt : World, wt = wr := ⟨_, rfl⟩
      have hcw := compTo_walk HG.out hkn j (by rw [HNS.out]; exact hj)
      have HCW := Lib.hid hcw; clear hcw
      obtain ⟨c, HC⟩ : ∃ c, Hid (compTo N k j = c) := ⟨_, Lib.hid rfl⟩
      rw [HC.out] at HCW HB HE HZ
      have hc40 : c.cnt ≤ 41 := by rcases HCW.out with h | h <;> omega
      have hcd : IntS wt lo hi vc c.code := HE.out.code
      have hwd : IntS wt lo hi vw c.walk := HE.out.walk
      obtain ⟨Ac, cc, rfl, hcc, hdc⟩ := hcd.dims
      obtain ⟨Aw, cw, rfl, hcw, hdw⟩ := hwd.dims
      have HCD1 := Lib.hid hcd; have HWD1 := Lib.hid hwd
      clear hcd hwd
      by_cases hjn : j < ns.length
      case neg =>
        obtain rfl : j = ns.length := by omega
        have HCD := Lib.hid (show compD N k = c by unfold compD; rw [HNS.out, HC.out])
        have kb0 : wt.cell? ⟨W4.heap.size, 0, none⟩ = some (.slice Ac c.code.length cc) := HB.out.cell 0 (by simp)
        have kb1 : wt.cell? ⟨W4.heap.size, 1, none⟩ = some (.slice Aw c.walk.length cw) := HB.out.cell 1 (by simp)
        have kb2 : wt.cell? ⟨W4.heap.size, 2, none⟩ = some (.int .i64 (k : Nat)) := HB.out.cell 2 (by simp)
        have kb3 : wt.cell? ⟨W4.heap.size, 3, none⟩ = some (.int .i64 (c.cnt : Nat)) := HB.out.cell 3 (by simp)
        have hcl2 : c.least = k := by rw [← HC.out]; exact compTo_least N k _ (by rw [HNS.out]; exact Nat.le_refl _)
        have HCL := Lib.hid hcl2; clear hcl2
        have HXM := Lib.hid HX.out
        have hcode : c.code.length ≤ 600 := by
          rcases HCW.out with h | h
          · rw [h.2.1]; simp
          · exact h.2.2.2.1
        have hlx := Lib.hid HX.out.lt
        have HXO := Lib.hid HX.out.own
        have HEL := Lib.hid (show ElOk wt lo hi ⟨.slice Ac c.code.length cc, .slice Aw c.walk.length cw, c⟩ from ⟨HCD1.out, HWD1.out⟩)
        have hxl2 : xs.length < 1099511627000 := by omega
        rw [show (k : Nat) = c.least from HCL.out.symm] at kb2
        go_wp2_with (at_builtin; refine append_co (s := .tmp 78) Try.underlying63 infoCo rfl (by decide) wt rfl _ rfl HX.out ⟨.slice Ac c.code.length cc, .slice Aw c.walk.length cw, c⟩ HEL.out (by omega) (by omega) (by omega) rfl rfl _ (by simp [Act.eval, go_sem]) (by simp [Act.eval, go_sem]) hxl2 ?_; intro v' w' hcs' hg')
        go_roundw
        case rel =>
          refine ⟨k + 1, ds, xs ++ [⟨.slice Ac c.code.length cc, .slice Aw c.walk.length cw, c⟩], w'.heap.size, by omega, by go_num, Lib.hid (BoolS.far HD.out hg' (by omega) (fun g e => .inr (by have := hlx.out g e; omega))), HDL2, Lib.hid fun u hu => ?_, Lib.hid hcs', Lib.hid ?_, Lib.hid fun x hx => ?_, Lib.hid (HF6.out.grown hg' fun g e => .inr (by have := hlx.out g e; omega))⟩
          · rw [HDB2.out u hu, HST.out, List.take_length]
            rw [HNS.out]
          · rw [List.map_append, HXC.out, HST.out]
            show _ ++ [c] = _
            rw [HCD.out]
          · rw [List.mem_append, List.mem_singleton] at hx
            rcases hx with hx | rfl
            · exact HXL.out x hx
            · exact hcode
        case measure => simp [intOf]; omega
      obtain ⟨u, eu, hun⟩ := nodes_mem HG.out hkn (j := j) (by rw [HNS.out]; exact hjn)
      rw [HNS.out] at eu
      obtain ⟨bn, on, rfl, _, _, xn, _⟩ := IntS.opened HN.out hjn
      rw [eu] at xn
      have HTN := Lib.hid (show compTo N k (j + 1) = cmpStep N c (u : Int) by rw [compTo_succ N k (by rw [HNS.out]; exact hjn), HC.out, HNS.out, eu])
      have HTK := Lib.hid (show ns.take (j + 1) = ns.take j ++ [(u : Int)] by rw [List.take_succ_eq_append_getElem hjn, ← nth_eq hjn, eu])
      clear eu
      have hji : (j : Int) < ns.length := by omega
      have hui : (u : Int) < N.ends.length := by omega
      obtain ⟨d1, d2⟩ := HD.out.at0 (j := u) (by rw [HDL2.out]; exact hun)
      obtain ⟨dv, HDV⟩ : ∃ x, Hid (nthB ds u = x) := ⟨_, Lib.hid rfl⟩
      rw [HDV.out] at d1
      go_upto_region 14 with (fail)
      clear d1 d2 xn
      refine nameC ?_
      intro W7 HW7
      have hg7 : wt.grownBy W7 (some (WA.heap.size)) := by rw [HW7.out]; exact grown_set _ _ _
      have hs7 := hg7.size
      have HF7 := Lib.hid (HF6.out.grown hg7 (fun g e => by cases e; omega)); clear HF6
      have CB7 := Lib.hid (BoxN.far HB.out hg7 (fun g e => by cases e; omega)); clear HB
      have HD1 := Lib.hid (show BoolS W7 WA.heap.size (WA.heap.size + 1) (.slice (some ⟨WA.heap.size, 0, none⟩) N.ends.length N.ends.length) (ds.set u true) by rw [HW7.out]; exact HD.out.set0 (by rw [HDL2.out]; exact hun) true)
      have HX1 := Lib.hid (CoS.far HX.out hg7 (fun g e => .inl (by cases e; omega)))
      have HN1 := Lib.hid (IntS.far HN.out hg7 (by omega) (fun g e => .inl (by cases e; omega)))
      have HE1 := Lib.hid (ElOk.far HE.out hg7 (by omega) (fun g e => .inl (by cases e; omega)))
      have HDL3 := Lib.hid (show (ds.set u true).length = N.ends.length by rw [List.length_set]; exact HDL2.out)
      have HDB3 := Lib.hid (show ∀ x : Nat, x < N.ends.length → nthB (ds.set u true) x = decide ((x : Int) ∈ seen ++ ns.take (j + 1)) from fun x hx => by
        rw [nthB_set _ _ _ _ (by rw [HDL2.out]; exact hun), HTK.out]
        by_cases e : x = u
        · rw [if_pos e, e]; simp
        · rw [if_neg e, HDB2.out x hx, Bool.eq_iff_iff]
          simp only [decide_eq_true_eq, List.mem_append, List.mem_singleton]
          constructor
          · rintro (h | h)
            · exact .inl h
            · exact .inr (.inl h)
          · rintro (h | h | h)
            · exact .inl h
            · exact .inr h
            · omega)
      obtain ⟨ds2, HDS2⟩ : ∃ l, Hid (ds.set u true = l) := ⟨_, Lib.hid rfl⟩
      rw [HDS2.out] at HD1 HDL3 HDB3
      clear HW7 HD HX HN HE HDL2 HDB2 HDV HDS2
      have kbx1_0 : W7.cell? ⟨w.heap.size, 0, none⟩ = some (.slice (some ⟨b1, o1, none⟩) N.ends.length c1) := (HF7.out.boxN bx1_1 (by omega)).cell 0 (by simp)
      have kbx1_1 : W7.cell? ⟨w.heap.size, 1, none⟩ = some (.slice A1' N.ids.length c1') := (HF7.out.boxN bx1_1 (by omega)).cell 1 (by simp)
      have kbx1_2 : W7.cell? ⟨w.heap.size, 2, none⟩ = some (.slice A1'' N.inputs.length c1'') := (HF7.out.boxN bx1_1 (by omega)).cell 2 (by simp)
      go_wp2_with fail
      clear kbx1_0 kbx1_1 kbx1_2
      refine (codeFrom_any _ N lo1 hi1 u _ (Net.turned N_1.out HF7.out (by omega) (by omega)) (by omega) HG.out hun).mono ?_
      rintro e W8 ⟨rc8, rw8, m8, rfl, hm8, hm8', hw8, hc8, hb8⟩
      have hg8 := grown_below hb8; clear hb8
      have hs8 := hg8.size
      have HF8 := Lib.hid (HF7.out.still hg8); clear HF7
      have D8 := Lib.hid (BoolS.still HD1.out hg8 (by omega)); clear HD1
      have X8 := Lib.hid (CoS.still HX1.out hg8); clear HX1
      have NL8 := Lib.hid (IntS.still HN1.out hg8 (by omega)); clear HN1
      have CB8 := Lib.hid (BoxN.still CB7.out hg8); clear CB7
      have E8 := Lib.hid (ElOk.still HE1.out hg8 (by omega)); clear HE1
      have L8 := Lib.hid hw8; have C8 := Lib.hid hc8; clear hw8 hc8
      have hwok := walk_ok HNO.out hun
      have hwl2 := hwok.len
      have hdl2 : (codeN N (walkN N u)).length ≤ 600 := by have := codeTo_len HG.out hwok _ (Nat.le_refl _); show (codeTo N (walkN N u) (walkN N u).length).length ≤ 600; omega
      have HWP := Lib.hid (List.length_pos_of_mem (walk_pos HNO.out hun))
      obtain ⟨d, HDd⟩ : ∃ l, Hid (codeN N (walkN N u) = l) := ⟨_, Lib.hid rfl⟩
      obtain ⟨wl, HWL⟩ : ∃ l, Hid (walkN N u = l) := ⟨_, Lib.hid rfl⟩
      have HSTP := Lib.hid (show cmpStep N c (u : Int) = if c.cnt = 0 ∨ ltL d c.code = true then ⟨d, wl, c.least, 1⟩ else if d = c.code then ⟨c.code, c.walk, c.least, c.cnt + 1⟩ else c by unfold cmpStep; rw [Int.toNat_natCast, HDd.out, HWL.out])
      rw [HDd.out] at hdl2 C8
      rw [HWL.out] at hwl2 L8 HWP
      obtain ⟨Ad, cd, rfl, hcd, hdd⟩ := C8.out.dims
      obtain ⟨Ae, ce, rfl, hce, hde⟩ := L8.out.dims
      clear hwok HDd HWL
      by_cases h0 : c.cnt = 0
      case pos =>
        have hz := HZ.out h0
        injection hz with hz1 hz2 hz3
        subst hz1
        have HCOND := Lib.hid (show c.cnt = 0 ∨ ltL d c.code = true from .inl h0)
        obtain ⟨q, HCM⟩ : ∃ q, Hid (cmpL d c.code = q) := ⟨_, Lib.hid rfl⟩
        clear h0 hz2 hz3
        have kb0 : W8.cell? ⟨W4.heap.size, 0, none⟩ = some (.slice Ac c.code.length cc) := CB8.out.cell 0 (by simp)
        have kb1 : W8.cell? ⟨W4.heap.size, 1, none⟩ = some (.slice none c.walk.length cw) := CB8.out.cell 1 (by simp)
        have kb3 : W8.cell? ⟨W4.heap.size, 3, none⟩ = some (.int .i64 (c.cnt : Nat)) := CB8.out.cell 3 (by simp)
        have kf0 := CB8.out.frozen 0
        have kf1 := CB8.out.frozen 1
        have kf3 := CB8.out.frozen 3
        have HNEW := Lib.hid (show compTo N k (j + 1) = ⟨d, wl, c.least, 1⟩ by rw [HTN.out, HSTP.out, if_pos HCOND.out])
        go_wp2_with (go_at_call 60; refine (compareL_any _ d _ _ _ c.code _ _ _ C8.out (Nat.le_refl _) E8.out.code (by omega)).mono ?_; rintro e w' ⟨rfl, rfl⟩; rw [HCM.out])
        go_roundw
        case rel =>
          have hg9 : W8.grownBy (((W8.setCell ⟨W4.heap.size, 0, none⟩ (.slice Ad d.length cd)).setCell ⟨W4.heap.size, 1, none⟩ (.slice Ae wl.length ce)).setCell ⟨W4.heap.size, 3, none⟩ (.int .i64 1)) (some (W4.heap.size)) := grownBy_setCell (p := ⟨W4.heap.size, 3, none⟩) (grownBy_setCell (p := ⟨W4.heap.size, 1, none⟩) (grown_set W8 ⟨W4.heap.size, 0, none⟩ _) rfl _) rfl _
          have hs9 := hg9.size
          refine ⟨j + 1, ds2, .slice Ad d.length cd, .slice Ae wl.length ce, W7.heap.size, W8.heap.size, by omega, by go_num, Lib.hid (BoolS.far D8.out hg9 (by omega) (fun g e => .inr (by cases e; omega))), HDL3, HDB3, Lib.hid (CoS.far X8.out hg9 (fun g e => .inr (by cases e; omega))), Lib.hid (IntS.far NL8.out hg9 (by omega) (fun g e => .inr (by cases e; omega))), Lib.hid (?_), Lib.hid (?_), Lib.hid (fun e => absurd (show (1 : Nat) = 0 by rw [HNEW.out] at e; exact e) (by omega)), by omega, by omega, by omega, Lib.hid (HF8.out.grown hg9 (fun g e => .inr (by cases e; omega)))⟩
          · rw [HNEW.out]
            exact (((CB8.out.set 0 (.slice Ad d.length cd)).set 1 (.slice Ae wl.length ce)).set 3 (.int .i64 1))
          · rw [HNEW.out]
            exact ElOk.far (x := ⟨.slice Ad d.length cd, .slice Ae wl.length ce, ⟨d, wl, c.least, 1⟩⟩) ⟨IntS.mono C8.out (by omega) (by omega), IntS.mono L8.out (by omega) (by omega)⟩ hg9 (by omega) (fun g e => .inl (by cases e; omega))
        case measure => simp [intOf]; omega
      have hwpos : 0 < c.walk.length := by
        rcases HCW.out with h | h
        · exact absurd h.1 h0
        · exact h.2.1
      obtain ⟨bw, ow, rfl, _, _, _, _⟩ := IntS.opened HWD1.out hwpos
      by_cases hlt : ltL d c.code = true
      case pos =>
        have HCOND := Lib.hid (show c.cnt = 0 ∨ ltL d c.code = true from .inr hlt)
        have HCM := Lib.hid (cmpL_neg hlt)
        clear h0 hlt
        have kb0 : W8.cell? ⟨W4.heap.size, 0, none⟩ = some (.slice Ac c.code.length cc) := CB8.out.cell 0 (by simp)
        have kb1 : W8.cell? ⟨W4.heap.size, 1, none⟩ = some (.slice (some ⟨bw, ow, none⟩) c.walk.length cw) := CB8.out.cell 1 (by simp)
        have kb3 : W8.cell? ⟨W4.heap.size, 3, none⟩ = some (.int .i64 (c.cnt : Nat)) := CB8.out.cell 3 (by simp)
        have kf0 := CB8.out.frozen 0
        have kf1 := CB8.out.frozen 1
        have kf3 := CB8.out.frozen 3
        have HNEW := Lib.hid (show compTo N k (j + 1) = ⟨d, wl, c.least, 1⟩ by rw [HTN.out, HSTP.out, if_pos HCOND.out])
        go_wp2_with (go_at_call 60; refine (compareL_any _ d _ _ _ c.code _ _ _ C8.out (Nat.le_refl _) E8.out.code (by omega)).mono ?_; rintro e w' ⟨rfl, rfl⟩; rw [HCM.out])
        go_roundw
        case rel =>
          have hg9 : W8.grownBy (((W8.setCell ⟨W4.heap.size, 0, none⟩ (.slice Ad d.length cd)).setCell ⟨W4.heap.size, 1, none⟩ (.slice Ae wl.length ce)).setCell ⟨W4.heap.size, 3, none⟩ (.int .i64 1)) (some (W4.heap.size)) := grownBy_setCell (p := ⟨W4.heap.size, 3, none⟩) (grownBy_setCell (p := ⟨W4.heap.size, 1, none⟩) (grown_set W8 ⟨W4.heap.size, 0, none⟩ _) rfl _) rfl _
          have hs9 := hg9.size
          refine ⟨j + 1, ds2, .slice Ad d.length cd, .slice Ae wl.length ce, W7.heap.size, W8.heap.size, by omega, by go_num, Lib.hid (BoolS.far D8.out hg9 (by omega) (fun g e => .inr (by cases e; omega))), HDL3, HDB3, Lib.hid (CoS.far X8.out hg9 (fun g e => .inr (by cases e; omega))), Lib.hid (IntS.far NL8.out hg9 (by omega) (fun g e => .inr (by cases e; omega))), Lib.hid (?_), Lib.hid (?_), Lib.hid (fun e => absurd (show (1 : Nat) = 0 by rw [HNEW.out] at e; exact e) (by omega)), by omega, by omega, by omega, Lib.hid (HF8.out.grown hg9 (fun g e => .inr (by cases e; omega)))⟩
          · rw [HNEW.out]
            exact (((CB8.out.set 0 (.slice Ad d.length cd)).set 1 (.slice Ae wl.length ce)).set 3 (.int .i64 1))
          · rw [HNEW.out]
            exact ElOk.far (x := ⟨.slice Ad d.length cd, .slice Ae wl.length ce, ⟨d, wl, c.least, 1⟩⟩) ⟨IntS.mono C8.out (by omega) (by omega), IntS.mono L8.out (by omega) (by omega)⟩ hg9 (by omega) (fun g e => .inl (by cases e; omega))
        case measure => simp [intOf]; omega
      have HN0 := Lib.hid (show ¬ (c.cnt = 0 ∨ ltL d c.code = true) from fun h => h.elim h0 hlt)
      by_cases heq : d = c.code
      case pos =>
        have HCM := Lib.hid (show cmpL d c.code = 0 by rw [heq]; exact cmpL_zero _)
        have HNEW := Lib.hid (show compTo N k (j + 1) = ⟨c.code, c.walk, c.least, c.cnt + 1⟩ by rw [HTN.out, HSTP.out, if_neg HN0.out, if_pos heq])
        have HQ := Lib.hid heq; clear h0 hlt heq
        have kb0 : W8.cell? ⟨W4.heap.size, 0, none⟩ = some (.slice Ac c.code.length cc) := CB8.out.cell 0 (by simp)
        have kb1 : W8.cell? ⟨W4.heap.size, 1, none⟩ = some (.slice (some ⟨bw, ow, none⟩) c.walk.length cw) := CB8.out.cell 1 (by simp)
        have kb3 : W8.cell? ⟨W4.heap.size, 3, none⟩ = some (.int .i64 (c.cnt : Nat)) := CB8.out.cell 3 (by simp)
        have kf0 := CB8.out.frozen 0
        have kf1 := CB8.out.frozen 1
        have kf3 := CB8.out.frozen 3
        go_wp2_with (go_at_call 60; refine (compareL_any _ d _ _ _ c.code _ _ _ C8.out (Nat.le_refl _) E8.out.code (by omega)).mono ?_; rintro e w' ⟨rfl, rfl⟩; rw [HCM.out])
        go_roundw
        case rel =>
          have hg9 : W8.grownBy (W8.setCell ⟨W4.heap.size, 3, none⟩ (.int .i64 ((c.cnt : Int) + 1))) (some (W4.heap.size)) := grown_set _ _ _
          have hs9 := hg9.size
          refine ⟨j + 1, ds2, .slice Ac c.code.length cc, .slice (some ⟨bw, ow, none⟩) c.walk.length cw, lo, hi, by omega, by go_num, Lib.hid (BoolS.far D8.out hg9 (by omega) (fun g e => .inr (by cases e; omega))), HDL3, HDB3, Lib.hid (CoS.far X8.out hg9 (fun g e => .inr (by cases e; omega))), Lib.hid (IntS.far NL8.out hg9 (by omega) (fun g e => .inr (by cases e; omega))), Lib.hid (?_), Lib.hid (?_), Lib.hid (fun e => absurd (show c.cnt + 1 = 0 by rw [HNEW.out] at e; exact e) (by omega)), by omega, by omega, by omega, Lib.hid (HF8.out.grown hg9 (fun g e => .inr (by cases e; omega)))⟩
          · rw [HNEW.out]
            exact (CB8.out.set 3 (.int .i64 ((c.cnt : Int) + 1)))
          · rw [HNEW.out]
            exact ElOk.far (x := ⟨.slice Ac c.code.length cc, .slice (some ⟨bw, ow, none⟩) c.walk.length cw, ⟨c.code, c.walk, c.least, c.cnt + 1⟩⟩) ⟨E8.out.code, E8.out.walk⟩ hg9 (by omega) (fun g e => .inl (by cases e; omega))
        case measure => simp [intOf]; omega
      have HCM := Lib.hid (cmpL_pos hlt heq)
      have HNEW := Lib.hid (show compTo N k (j + 1) = c by rw [HTN.out, HSTP.out, if_neg HN0.out, if_neg heq])
      have H00 := Lib.hid h0; clear h0 hlt heq
      have kb0 : W8.cell? ⟨W4.heap.size, 0, none⟩ = some (.slice Ac c.code.length cc) := CB8.out.cell 0 (by simp)
      have kb1 : W8.cell? ⟨W4.heap.size, 1, none⟩ = some (.slice (some ⟨bw, ow, none⟩) c.walk.length cw) := CB8.out.cell 1 (by simp)
      have kb3 : W8.cell? ⟨W4.heap.size, 3, none⟩ = some (.int .i64 (c.cnt : Nat)) := CB8.out.cell 3 (by simp)
      have kf0 := CB8.out.frozen 0
      have kf1 := CB8.out.frozen 1
      have kf3 := CB8.out.frozen 3
      go_wp2_with (go_at_call 60; refine (compareL_any _ d _ _ _ c.code _ _ _ C8.out (Nat.le_refl _) E8.out.code (by omega)).mono ?_; rintro e w' ⟨rfl, rfl⟩; rw [HCM.out])
      go_roundw
      case rel =>
        refine ⟨j + 1, ds2, .slice Ac c.code.length cc, .slice (some ⟨bw, ow, none⟩) c.walk.length cw, lo, hi, by omega, by go_num, D8, HDL3, HDB3, X8, NL8, Lib.hid (?_), Lib.hid (?_), Lib.hid (fun e => absurd (show c.cnt = 0 by rw [HNEW.out] at e; exact e) H00.out), hlo, hlh, by omega, HF8⟩
        · rw [HNEW.out]; exact CB8.out
        · rw [HNEW.out]; exact E8.out
      case measure => simp [intOf]; omega

end Go.Proofs.Ytmdlginjblnfoaa

/- A run draws on: its world's count of draws does not fall; appends of two numbers with that said. No condition on any program. -/
namespace Go.Proofs.Ytmdlginjblnfoaa
open Go.RowKit
set_option linter.unusedVariables false

theorem viewStore_drawn {p : Program} {w w' : World} {a : Addr} {u : TypeId} {k : Addr} {v : Value} {b : Bool} {l : List Addr} (h : w.viewStore p a u k v b = .ok (w', l)) : w'.drawn = w.drawn := by
  unfold World.viewStore at h
  simp only [bind, Except.bind, pure, Except.pure] at h
  repeat' (split at h)
  all_goals (first | cases h | skip)
  all_goals rfl
theorem farStore_drawn {p : Program} {w w' : World} {a : Addr} {v : Value} {b : Bool} {l : List Addr} (h : w.farStore p a v b = .ok (w', l)) : w'.drawn = w.drawn := by
  unfold World.farStore at h
  split at h
  · split at h
    · rename_i r hr
      cases h
      exact viewStore_drawn hr
    · cases h
  · cases h
theorem ask_drawn {α : Type} (x : Ask α) : ∀ w : World, w.drawn ≤ (w.ask x).2.drawn := by
  induction x with
  | done a => intro w; exact Nat.le_refl _
  | ask what range k ih =>
    intro w
    unfold World.ask
    dsimp only
    split
    · exact ih _ w
    · exact Nat.le_trans (Nat.le_succ _) (ih _ { w with drawn := w.drawn + 1 })
theorem sys_drawn (w : World) (c : Sys) : w.drawn ≤ (w.sys c).2.drawn := by
  unfold World.sys
  have := ask_drawn (Kernel.perform c w.os) w
  split
  · exact Nat.le_refl _
  · rename_i h
    rw [h] at this
    exact this
theorem run_drawn {α : Type} (p : Program) (m : Sem α) : ∀ (w w' : World) (a : α), m.run p w = .ok a w' → w.drawn ≤ w'.drawn := by
  induction m with
  | pure a => intro w w' b h; simp [Sem.run] at h; rw [h.2]; exact Nat.le_refl _
  | load m a k ih =>
    intro w w' b h
    unfold Sem.run at h
    split at h
    · exact ih _ w w' b h
    · split at h
      · exact ih _ w w' b h
      · cases h
  | store m a v k ih =>
    intro w w' b h
    cases v <;> simp only [Sem.run] at h
    all_goals first | (cases h; done) | skip
    all_goals
      split at h
      · split at h
        · cases h
        · exact ih (w.setCell a _) w' b h
      · split at h
        · rename_i w1 l hf
          rw [← farStore_drawn hf]
          exact ih w1 w' b h
        · cases h
  | new o k ih => intro w w' b h; unfold Sem.run at h; exact ih _ { w with heap := w.heap.push o } w' b h
  | shape r k ih => intro w w' b h; unfold Sem.run at h; exact ih _ w w' b h
  | freeze a n k ih =>
    intro w w' b h; unfold Sem.run at h
    have := ih (w.freeze a n) w' b h
    have e : (w.freeze a n).drawn = w.drawn := by unfold World.freeze; split <;> rfl
    rwa [e] at this
  | frozen a k ih => intro w w' b h; unfold Sem.run at h; exact ih _ w w' b h
  | getObj r k ih =>
    intro w w' b h; unfold Sem.run at h
    split at h
    · cases h
    · exact ih _ w w' b h
    · cases h
  | setObj r o k ih =>
    intro w w' b h; unfold Sem.run at h
    split at h
    · cases h
    · exact ih { w with heap := w.heap.setIfInBounds r o } w' b h
    · cases h
  | choose q k ih =>
    intro w w' b h; unfold Sem.run at h
    split at h
    · exact ih _ w w' b h
    · exact Nat.le_trans (Nat.le_succ _) (ih _ { w with drawn := w.drawn + 1 } w' b h)
  | sys c k ih => intro w w' b h; unfold Sem.run at h; exact Nat.le_trans (sys_drawn w c) (ih _ _ w' b h)
  | program k ih => intro w w' b h; unfold Sem.run at h; exact ih _ w w' b h
  | mark m k ih => intro w w' b h; unfold Sem.run at h; exact ih w w' b h
  | halt x => intro w w' b h; simp [Sem.run] at h

/-- old blocks stay, and the draws do not fall -/
structure BD (B : Nat) (w w' : World) : Prop where
  below : Below B w w'
  drawn : w.drawn ≤ w'.drawn
theorem BD.refl (B : Nat) (w : World) : BD B w w := ⟨Below.refl _ _, Nat.le_refl _⟩
theorem BD.trans {B : Nat} {a b c : World} (h : BD B a b) (k : BD B b c) : BD B a c := ⟨h.below.trans k.below, Nat.le_trans h.drawn k.drawn⟩

/-- append onto a row of the call's own, the new elements' cells known; the draws do not fall -/
theorem append_rowD {P : Program} {ops : Array Oper} {rest : List Oper} {o : Oper} {a : Act} {Q : Exit → Act → World → Prop} {t e : TypeId} {z : Value} {sz bytes : Nat}
    (ht : P.underlying t = some (.slice e)) (hinfo : (P.info? e).map (fun i => (i.zero, i.size, i.bytes)) = some (some z, sz, bytes)) (hz1 : z.cells.size = sz) (hsz : 0 < sz) (hby : bytes ≤ 64)
    (w : World) (hgd : o.guard = none) {s : Operand} (x : Operand) (ho : o.op = .call { callee := .builtin .append, args := #[s, x], argTypes := #[t, t] })
    {base : Nat} {v : Value} {n : Nat} {xs : List Value} (hown : w.ownsRow base e sz v n xs) (hs : a.eval s = v) {ad : Addr} {m c : Nat} (news : List Value) (hx : a.eval x = .slice (some ad) m c)
    (hl : news.length = m * sz) (hnews : ∀ j u, news[j]? = some u → w.cell? (ad.add j) = some u) (h1 : ∀ u ∈ news, u.oneCell' = true)
    (hlen : n + m ≤ 1099511627776) (hbase : base ≤ w.heap.size)
    (h : ∀ v' w', w'.ownsRow base e sz v' (n + m) (xs ++ news) → w.grownBy w' v.ownBlock → (v'.ownBlock = v.ownBlock ∨ v'.ownBlock = some w.heap.size) → w.drawn ≤ w'.drawn → wpList P ops Q rest (a.put o.dst v') w') :
    wpList P ops Q (o :: rest) a w := by
  obtain ⟨i, hi, hzz⟩ := Option.map_eq_some_iff.1 hinfo
  simp only [Prod.mk.injEq] at hzz
  obtain ⟨hz, hsz2, hb⟩ := hzz
  refine wpList_plain hgd fun K hK => ?_
  obtain ⟨v', w', hr, a1, a2, _, a4⟩ := run_append_own_at (P := P) w base t o.type e i z sz bytes ht hi hz hsz2 hb hz1 hsz v n xs hown ad m c news hl hnews h1 (by unfold maxLen; omega) (by
    have : (n + m) * bytes ≤ 1099511627776 * 64 := Nat.mul_le_mul hlen hby
    omega) hbase
  unfold Oper.wp execOp
  simp only [ho, resolve, invoke, builtin, Sem.run_bind, Sem.run_pure, Result.andThen_ok, List.map_toArray, List.map_cons, List.map_nil, hs, hx, hr]
  exact hK _ _ (h v' w' a1 a2 a4 (run_drawn _ _ _ _ _ hr))
/-- append of two numbers, just laid in a block of their own -/
theorem append_twoD {P : Program} {ops : Array Oper} {rest : List Oper} {o : Oper} {a : Act} {Q : Exit → Act → World → Prop} {t e : TypeId} {bytes : Nat}
    (ht : P.underlying t = some (.slice e)) (hinfo : (P.info? e).map (fun i => (i.zero, i.size, i.bytes)) = some (some (.int .i64 0), 1, bytes)) (hby : bytes ≤ 64)
    (w : World) (hgd : o.guard = none) {s : Operand} (x : Operand) (ho : o.op = .call { callee := .builtin .append, args := #[s, x], argTypes := #[t, t] })
    {base : Nat} {v : Value} {zs : List Int} (hown : OwnI w base e v zs) (y z : Int) (te : TypeId) (hs : a.eval s = v) (hx : a.eval x = .slice (some ⟨w.heap.size, 0, none⟩) 2 2)
    (hlen : zs.length < 1099511627774) (hbase : base ≤ w.heap.size)
    (h : ∀ v' w', OwnI w' base e v' (zs ++ [y, z]) → w.grownBy w' v.ownBlock → (v'.ownBlock = v.ownBlock ∨ v'.ownBlock = some (w.heap.size + 1)) → w.drawn ≤ w'.drawn → wpList P ops Q rest (a.put o.dst v') w') :
    wpList P ops Q (o :: rest) a (w.alloc (.cells #[.int .i64 y, .int .i64 z] te)) := by
  refine append_rowD ht hinfo rfl (by omega) hby _ hgd x ho (World.ownsRow.alloc hown _) hs [.int .i64 y, .int .i64 z] hx rfl ?_ ?_ (by simp; omega) (by simp; omega) fun v' w' a1 a2 a3 a4 => h v' w' ?_ ?_ ?_ ?_
  · intro j u hj
    rw [show (⟨w.heap.size, 0, none⟩ : Addr).add j = ⟨w.heap.size, j, none⟩ by simp [Addr.add, eq_comm], World.cell?_alloc_at _ _ _ _ rfl]
    simpa using hj
  · intro u hu
    simp only [List.mem_cons, List.not_mem_nil, or_false] at hu
    rcases hu with rfl | rfl <;> rfl
  · unfold OwnI Own
    simpa using a1
  · exact ⟨a2.os, a2.tape, a2.output, Nat.le_trans (by simp) a2.size, fun k hk hne => (a2.block k (by simp; omega) hne).trans (Below.heap_alloc _ _ _ hk)⟩
  · simpa using a3
  · exact a4

end Go.Proofs.Ytmdlginjblnfoaa

/- Contract: the comparing function of componentsOf. -/
namespace Go.Proofs.Ytmdlginjblnfoaa
open Go.ChangeShapes Go.WideShapes Go.ChangeAt Go.RowKit
set_option linter.unusedVariables false

theorem BD.alloc {B : Nat} {w w' : World} (h : BD B w w') (hB : B ≤ w'.heap.size) (o : Obj) : BD B w (w'.alloc o) := ⟨h.below.alloc hB o, h.drawn⟩
theorem BD.drewN {B : Nat} {w w' : World} (h : BD B w w') (k : Nat) : BD B w (w'.drewN k) := ⟨h.below.trans ⟨rfl, rfl, rfl, Nat.le_refl _, fun _ _ => rfl⟩, Nat.le_trans h.drawn (Nat.le_add_right _ _)⟩
theorem BD.drew {B : Nat} {w w' : World} (h : BD B w w') : BD B w w'.drew := h.drewN 1
/-- the first of two that is not zero -/
def orI (a b : Int) : Int := if a = 0 then b else a
set_option maxHeartbeats 1000000 in
theorem cmpOr_any (g : Nat) (a b : Int) (w : World) (h1 : w.cell? ⟨g, 0, none⟩ = some (.int .i64 a)) (h2 : w.cell? ⟨g, 1, none⟩ = some (.int .i64 b)) :
    Calls Try.prog 63 #[.slice (some ⟨g, 0, none⟩) 2 2] w fun e w' => e = .returned (.int .i64 (orI a b)) ∧ w = w' := by
  by_cases ha : a = 0
  · have hr : orI a b = b := by unfold orI; rw [if_pos ha]
    have HR := Lib.hid hr; clear hr
    subst ha
    by_cases hb : b = 0
    · subst hb
      go_enter Try.func63, Try.ntmps63
      go_wp2_with fail
      refine wp_loop_rounds 3 ?_
      rw [rounds_succ]
      go_wp2_with fail
      try rw [rounds_succ]
      go_wp2_with fail
      try rw [rounds_succ]
      go_wp2_with fail
      go_ret
      exact ⟨ret_int HR.out.symm, rfl⟩
    · have hb2 : (b != 0) = true := by simpa using hb
      go_enter Try.func63, Try.ntmps63
      go_wp2_with fail
      refine wp_loop_rounds 3 ?_
      rw [rounds_succ]
      go_wp2_with fail
      try rw [rounds_succ]
      go_wp2_with fail
      go_ret
      exact ⟨ret_int HR.out.symm, rfl⟩
  · have hr : orI a b = a := by unfold orI; rw [if_neg ha]
    have HR := Lib.hid hr; clear hr
    have ha2 : (a != 0) = true := by simpa using ha
    go_enter Try.func63, Try.ntmps63
    go_wp2_with fail
    refine wp_loop_rounds 3 ?_
    rw [rounds_succ]
    go_wp2_with fail
    go_ret
    exact ⟨ret_int HR.out.symm, rfl⟩


/-- the order of components: by code, then by least node -/
def cmpCC (a b : CmpD) : Int := orI (cmpL a.code b.code) (cmpV (a.least : Nat) (b.least : Nat))

set_option maxHeartbeats 2000000 in
set_option maxRecDepth 100000 in
theorem ccCmp_any (x y : CmpV) (lo1 hi1 lo2 hi2 : Nat) (W : World) (h1 : ElOk W lo1 hi1 x) (hh1 : hi1 ≤ W.heap.size) (h2 : ElOk W lo2 hi2 y) (hh2 : hi2 ≤ W.heap.size) :
    Calls Try.prog 62 #[.agg (encI x).toArray, .agg (encI y).toArray] W fun e w' => e = .returned (.int .i64 (cmpCC x.c y.c)) ∧ BD W.heap.size W w' := by
  have HP0 : Hid (∀ W', Below W.heap.size W W' → Calls Try.prog 60 #[x.vc, y.vc] W' fun e w' => e = .returned (.int .i64 (cmpL x.c.code y.c.code)) ∧ W' = w') := Lib.hid (fun W' hb => compareL_any _ _ lo1 hi1 _ _ lo2 hi2 W' (IntS.below h1.code hb hh1) (Nat.le_trans hh1 hb.size) (IntS.below h2.code hb hh2) (Nat.le_trans hh2 hb.size))
  clear h1 h2
  obtain ⟨vx, wx, lx, nx, ex⟩ : ∃ (vx wx : Value) (lx nx : Nat), Hid (x.vc = vx ∧ x.vw = wx ∧ x.c.least = lx ∧ x.c.cnt = nx) := ⟨_, _, _, _, Lib.hid ⟨rfl, rfl, rfl, rfl⟩⟩
  obtain ⟨vy, wy, ly, ny, ey⟩ : ∃ (vx wx : Value) (lx nx : Nat), Hid (y.vc = vx ∧ y.vw = wx ∧ y.c.least = lx ∧ y.c.cnt = nx) := ⟨_, _, _, _, Lib.hid ⟨rfl, rfl, rfl, rfl⟩⟩
  have ax : (encI x).toArray = #[vx, wx, .int .i64 (lx : Nat), .int .i64 (nx : Nat)] := by unfold encI; rw [ex.out.1, ex.out.2.1, ex.out.2.2.1, ex.out.2.2.2]
  have ay : (encI y).toArray = #[vy, wy, .int .i64 (ly : Nat), .int .i64 (ny : Nat)] := by unfold encI; rw [ey.out.1, ey.out.2.1, ey.out.2.2.1, ey.out.2.2.2]
  rw [ax, ay]
  have hz : cmpCC x.c y.c = orI (cmpL x.c.code y.c.code) (cmpV (lx : Nat) (ly : Nat)) := by unfold cmpCC; rw [ex.out.2.2.1, ey.out.2.2.1]
  rw [ex.out.1, ey.out.1] at HP0
  have HQ0 : Hid (∀ W, Calls Try.prog 64 #[.int .i64 (lx : Nat), .int .i64 (ly : Nat)] W fun e w' => e = .returned (.int .i64 (cmpV (lx : Nat) (ly : Nat))) ∧ w' = W) := Lib.hid (fun W => by rw [← cmpV_eq]; exact Try.cmp_Compare_int (lx : Int) (ly : Int) W)
  obtain ⟨a, HA⟩ : ∃ c, Hid (cmpL x.c.code y.c.code = c) := ⟨_, Lib.hid rfl⟩
  obtain ⟨b, HB⟩ : ∃ c, Hid (cmpV (lx : Nat) (ly : Nat) = c) := ⟨_, Lib.hid rfl⟩
  rw [HA.out, HB.out] at hz
  have HP := HP0; rw [HA.out] at HP; clear HP0
  have HQ := HQ0; rw [HB.out] at HQ; clear HQ0
  have HO := Lib.hid (fun g W h1 h2 => cmpOr_any g a b W h1 h2)
  obtain ⟨r, HR⟩ : ∃ y, Hid (orI a b = y) := ⟨_, Lib.hid rfl⟩
  rw [HR.out] at HO hz
  rw [hz]
  clear hz ax ay ex ey HA HB HR hh1 hh2
  have HWA := Lib.hid (show BoxN ((W.alloc (.cells #[vx, wx, .int .i64 (lx : Nat), .int .i64 (nx : Nat)] 66)).alloc (.cells #[vy, wy, .int .i64 (ly : Nat), .int .i64 (ny : Nat)] 66)) W.heap.size #[vx, wx, .int .i64 (lx : Nat), .int .i64 (nx : Nat)] 66 from (BoxN.new W _ _).below ((Below.refl _ _).alloc (Nat.le_refl _) _) (by simp))
  have HWB := Lib.hid (show BoxN ((W.alloc (.cells #[vx, wx, .int .i64 (lx : Nat), .int .i64 (nx : Nat)] 66)).alloc (.cells #[vy, wy, .int .i64 (ly : Nat), .int .i64 (ny : Nat)] 66)) (W.heap.size + 1) #[vy, wy, .int .i64 (ly : Nat), .int .i64 (ny : Nat)] 66 from BoxN.new' _ _ _ (by simp))
  go_enter Try.func62, Try.ntmps62
  go_upto_region 1 with fail
  refine nameC ?_
  intro W0 HW0
  have HB0 : Hid (BD W.heap.size W W0) := Lib.hid (by rw [HW0.out]; exact ((BD.refl _ _).alloc (Nat.le_refl _) _).alloc (by simp) _)
  have HBX : Hid (BoxN W0 W.heap.size _ _) := Lib.hid (by rw [HW0.out]; exact HWA.out)
  have HBY : Hid (BoxN W0 (W.heap.size + 1) _ _) := Lib.hid (by rw [HW0.out]; exact HWB.out)
  clear HW0 HWA HWB
  have HLX := Lib.hid HBX.out.lt
  have HLY := Lib.hid HBY.out.lt
  refine wp_region_U (fun w' => w'.cell? ⟨W.heap.size, 0, none⟩ = some (vx) ∧ w'.cell? ⟨W.heap.size, 2, none⟩ = some (.int .i64 (lx : Nat)) ∧ w'.cell? ⟨W.heap.size + 1, 0, none⟩ = some (vy) ∧ w'.cell? ⟨W.heap.size + 1, 2, none⟩ = some (.int .i64 (ly : Nat))) [] (by kernel_rfl) ?_
  refine nameU ?_
  intro W1 HW1
  have hb1 : BD W.heap.size W W1 := by rw [HW1.out]; exact HB0.out.drew
  have hc1 : Below W0.heap.size W0 W1 := by rw [HW1.out]; exact (Below.refl _ _).drew
  clear HW1
  have hs1 := hc1.size
  have bx1 := HBX.out.below hc1 HLX.out
  have by1 := HBY.out.below hc1 HLY.out
  have hS1 := And.intro (bx1.cell 0 (by simp)) (And.intro (bx1.cell 2 (by simp)) (And.intro (by1.cell 0 (by simp)) (by1.cell 2 (by simp))))
  refine anyU_take (i := 0) (v := .pointer (some ⟨W.heap.size, 0, none⟩)) rfl (by kernel_rfl) (by kernel_rfl) (by kernel_rfl) (fun _ _ _ h => h) ⟨by rfl, fun w' hS' => (by obtain ⟨k1, k2, k3, k4⟩ := hS'; go_simp)⟩ hS1 ?_
  simp only [List.getElem_toArray, List.getElem_cons_zero, Act.put, List.setIfInBounds_toArray, List.set_cons_zero, List.set_cons_succ]
  refine anyU_take (i := 1) (v := vx) rfl (by kernel_rfl) (by kernel_rfl) (by kernel_rfl) (fun _ _ _ h => h) ⟨by rfl, fun w' hS' => (by obtain ⟨k1, k2, k3, k4⟩ := hS'; go_simp)⟩ hS1 ?_
  simp only [List.getElem_toArray, List.getElem_cons_succ, List.getElem_cons_zero, Act.put, List.setIfInBounds_toArray, List.set_cons_zero, List.set_cons_succ]
  refine anyU_take (i := 2) (v := .pointer (some ⟨W.heap.size + 1, 0, none⟩)) rfl (by kernel_rfl) (by kernel_rfl) (by kernel_rfl) (fun _ _ _ h => h) ⟨by rfl, fun w' hS' => (by obtain ⟨k1, k2, k3, k4⟩ := hS'; go_simp)⟩ hS1 ?_
  simp only [List.getElem_toArray, List.getElem_cons_succ, List.getElem_cons_zero, Act.put, List.setIfInBounds_toArray, List.set_cons_zero, List.set_cons_succ]
  refine anyU_take (i := 3) (v := vy) rfl (by kernel_rfl) (by kernel_rfl) (by kernel_rfl) (fun _ _ _ h => h) ⟨by rfl, fun w' hS' => (by obtain ⟨k1, k2, k3, k4⟩ := hS'; go_simp)⟩ hS1 ?_
  simp only [List.getElem_toArray, List.getElem_cons_succ, List.getElem_cons_zero, Act.put, List.setIfInBounds_toArray, List.set_cons_zero, List.set_cons_succ]
  refine anyU_take (i := 5) (v := .pointer (some ⟨W.heap.size, 2, none⟩)) rfl (by kernel_rfl) (by kernel_rfl) (by kernel_rfl) (fun _ _ _ h => h) ⟨by rfl, fun w' hS' => (by obtain ⟨k1, k2, k3, k4⟩ := hS'; go_simp)⟩ hS1 ?_
  simp only [List.getElem_toArray, List.getElem_cons_succ, List.getElem_cons_zero, Act.put, List.setIfInBounds_toArray, List.set_cons_zero, List.set_cons_succ]
  refine anyU_take (i := 6) (v := .int .i64 (lx : Nat)) rfl (by kernel_rfl) (by kernel_rfl) (by kernel_rfl) (fun _ _ _ h => h) ⟨by rfl, fun w' hS' => (by obtain ⟨k1, k2, k3, k4⟩ := hS'; go_simp)⟩ hS1 ?_
  simp only [List.getElem_toArray, List.getElem_cons_succ, List.getElem_cons_zero, Act.put, List.setIfInBounds_toArray, List.set_cons_zero, List.set_cons_succ]
  refine anyU_take (i := 7) (v := .pointer (some ⟨W.heap.size + 1, 2, none⟩)) rfl (by kernel_rfl) (by kernel_rfl) (by kernel_rfl) (fun _ _ _ h => h) ⟨by rfl, fun w' hS' => (by obtain ⟨k1, k2, k3, k4⟩ := hS'; go_simp)⟩ hS1 ?_
  simp only [List.getElem_toArray, List.getElem_cons_succ, List.getElem_cons_zero, Act.put, List.setIfInBounds_toArray, List.set_cons_zero, List.set_cons_succ]
  refine anyU_take (i := 8) (v := .int .i64 (ly : Nat)) rfl (by kernel_rfl) (by kernel_rfl) (by kernel_rfl) (fun _ _ _ h => h) ⟨by rfl, fun w' hS' => (by obtain ⟨k1, k2, k3, k4⟩ := hS'; go_simp)⟩ hS1 ?_
  simp only [List.getElem_toArray, List.getElem_cons_succ, List.getElem_cons_zero, Act.put, List.setIfInBounds_toArray, List.set_cons_zero, List.set_cons_succ]
  refine anyU_ready (rs := [4]) (by kernel_rfl) (by simp) ?_
  refine ReadyU.cons (i := 4) rfl (fun K hK => ?_) ReadyU.nil
  simp only [List.getElem_toArray, List.getElem_cons_succ, List.getElem_cons_zero]
  refine ite_is (by rfl) ?_
  simp [go_sem]
  refine (HP.out W1 hb1.below).mono ?_
  rintro e W2 ⟨rfl, rfl⟩
  refine hK.out _ _ ⟨fun _ => hS1, ?_⟩
  clear hK K
  try simp only [List.getElem_toArray, List.getElem_cons_succ, List.getElem_cons_zero, Act.put, List.setIfInBounds_toArray, List.set_cons_zero, List.set_cons_succ]
  refine anyU_ready (rs := [9]) (by kernel_rfl) (by simp) ?_
  refine ReadyU.cons (i := 9) rfl (fun K hK => ?_) ReadyU.nil
  simp only [List.getElem_toArray, List.getElem_cons_succ, List.getElem_cons_zero]
  refine ite_is (by rfl) ?_
  simp [go_sem]
  refine (HQ.out _).mono ?_
  rintro e W3 ⟨rfl, rfl⟩
  refine hK.out _ _ ⟨fun _ => hS1, ?_⟩
  clear hK K
  try simp only [List.getElem_toArray, List.getElem_cons_succ, List.getElem_cons_zero, Act.put, List.setIfInBounds_toArray, List.set_cons_zero, List.set_cons_succ]
  refine anyU_ready (rs := [10]) (by kernel_rfl) (by simp) ?_
  refine ReadyU.cons (i := 10) rfl (fun K hK => ?_) ReadyU.nil
  simp only [List.getElem_toArray, List.getElem_cons_succ, List.getElem_cons_zero]
  refine ite_is (by rfl) ?_
  simp [go_sem]
  have hb4 : Below W3.heap.size W3 (W3.alloc (.cells #[.int .i64 a, .int .i64 b] 3)) := (Below.refl _ _).alloc (Nat.le_refl _) _
  have bd4 : BD W.heap.size W (W3.alloc (.cells #[.int .i64 a, .int .i64 b] 3)) := hb1.alloc hb1.below.size _
  have bx4 := bx1.below hb4 bx1.lt
  have by4 := by1.below hb4 by1.lt
  have hS4 := And.intro (bx4.cell 0 (by simp)) (And.intro (bx4.cell 2 (by simp)) (And.intro (by4.cell 0 (by simp)) (by4.cell 2 (by simp))))
  refine hK.out _ _ ⟨fun _ => hS4, ?_⟩
  clear hK K
  try simp only [List.getElem_toArray, List.getElem_cons_succ, List.getElem_cons_zero, Act.put, List.setIfInBounds_toArray, List.set_cons_zero, List.set_cons_succ]
  refine nameU ?_
  intro W4 HW4
  rw [← HW4.out] at bd4 hS4
  have c0 : W4.cell? ⟨W3.heap.size, 0, none⟩ = some (.int .i64 a) := by rw [HW4.out]; exact (BoxN.new W3 #[.int .i64 a, .int .i64 b] _).cell 0 (by simp)
  have c1 : W4.cell? ⟨W3.heap.size, 1, none⟩ = some (.int .i64 b) := by rw [HW4.out]; exact (BoxN.new W3 #[.int .i64 a, .int .i64 b] _).cell 1 (by simp)
  clear HW4
  refine anyU_ready (rs := [11]) (by kernel_rfl) (by simp) ?_
  refine ReadyU.cons (i := 11) rfl (fun K hK => ?_) ReadyU.nil
  simp only [List.getElem_toArray, List.getElem_cons_succ, List.getElem_cons_zero]
  refine ite_is (by rfl) ?_
  simp [go_sem]
  refine (HO.out _ _ c0 c1).mono ?_
  rintro e W5 ⟨rfl, rfl⟩
  refine hK.out _ _ ⟨fun _ => hS4, ?_⟩
  clear hK K
  try simp only [List.getElem_toArray, List.getElem_cons_succ, List.getElem_cons_zero, Act.put, List.setIfInBounds_toArray, List.set_cons_zero, List.set_cons_succ]
  refine anyU_ready (rs := [12]) (by kernel_rfl) (by simp) ?_
  refine ReadyU.cons (i := 12) rfl (fun K hK => ?_) ReadyU.nil
  simp only [List.getElem_toArray, List.getElem_cons_succ, List.getElem_cons_zero]
  refine ite_is (by rfl) ?_
  simp [go_sem]
  refine hK.out _ _ ⟨fun _ => hS4, ?_⟩
  clear hK K
  try simp only [List.getElem_toArray, List.getElem_cons_succ, List.getElem_cons_zero, Act.put, List.setIfInBounds_toArray, List.set_cons_zero, List.set_cons_succ]
  refine anyU_done (by kernel_rfl) ?_ _
  go_wp2_with fail
  go_ret
  exact ⟨rfl, bd4⟩

end Go.Proofs.Ytmdlginjblnfoaa

/- Contract: slices.SortFunc sorts components by code and least node (out of the shelf's contract). -/
namespace Go.Proofs.Ytmdlginjblnfoaa
open Go.ChangeShapes Go.WideShapes Go.ChangeAt Go.RowKit
set_option linter.unusedVariables false

theorem BD.grow {w w' : World} (h : BD w.heap.size w w') : ∃ (q : Nat) (os : Array Obj), w' = Sort.grow (w.drewN q) os := by
  refine ⟨w'.drawn - w.drawn, w'.heap.extract w.heap.size w'.heap.size, ?_⟩
  have hd := h.drawn
  have hs := h.below.size
  have hheap : w'.heap = w.heap ++ w'.heap.extract w.heap.size w'.heap.size := by
    apply Array.ext_getElem?
    intro k
    rw [Array.getElem?_append]
    by_cases hk : k < w.heap.size
    · rw [if_pos hk]; exact h.below.block k hk
    · rw [if_neg hk, Array.getElem?_extract]
      have e : min w'.heap.size w'.heap.size - w.heap.size = w'.heap.size - w.heap.size := by omega
      split
      · rw [show w.heap.size + (k - w.heap.size) = k by omega]
      · rw [Array.getElem?_eq_none (by omega)]
  have h1 := h.below.os
  have h2 := h.below.tape
  have h3 := h.below.output
  obtain ⟨hp, tp, dr, os, out⟩ := w'
  simp only at h1 h2 h3 hheap hd
  unfold Sort.grow World.drewN
  simp only [World.mk.injEq]
  refine ⟨hheap, h2, ?_, h1, h3⟩
  show dr = w.drawn + (dr - w.drawn)
  omega
theorem sortHeap {α : Type} [Inhabited α] (enc : α → Value) (w : World) (blk off m : Nat) (dk : Array α) (os : Array Obj) {k : Nat} (hk : k < w.heap.size) (hb : k ≠ blk) : (sortWorld enc w blk off m dk os).heap[k]? = w.heap[k]? := by
  unfold sortWorld Sort.grow Sort.putRow Sort.mapBlock Sort.ahead
  simp only [Array.getElem?_append, Array.size_modify, hk, if_true, Array.getElem?_modify]
  rw [if_neg (fun e => hb e.symm)]
theorem sortSize {α : Type} [Inhabited α] (enc : α → Value) (w : World) (blk off m : Nat) (dk : Array α) (os : Array Obj) : w.heap.size ≤ (sortWorld enc w blk off m dk os).heap.size := by
  unfold sortWorld Sort.grow Sort.putRow Sort.mapBlock Sort.ahead
  simp
theorem sortGrown {α : Type} [Inhabited α] (enc : α → Value) (w : World) (blk off m : Nat) (dk : Array α) (os : Array Obj) : w.grownBy (sortWorld enc w blk off m dk os) (some blk) :=
  ⟨rfl, rfl, rfl, sortSize enc w blk off m dk os, fun k hk hne => sortHeap enc w blk off m dk os hk (fun e => hne (by rw [e]))⟩


theorem sortBlock {w : World} {blk : Nat} {cur : Array Value} {e : TypeId} {fz : Nat × Nat} (h : w.heap[blk]? = some (.cells cur e fz)) (m : Nat) (D : Array Value) (os : Array Obj) : (sortWorld id w blk 0 m D os).heap[blk]? = some (.cells (Sort.putCells id 0 D cur) e fz) := by
  have hk : blk < w.heap.size := (Array.getElem?_eq_some_iff.1 h).1
  unfold sortWorld Sort.grow Sort.putRow Sort.mapBlock Sort.ahead
  simp only [Array.getElem?_append, Array.size_modify, hk, if_true, Array.getElem?_modify]
  rw [h]
  rfl
theorem cmpL_lt (a b : List Int) : cmpL a b < 0 ↔ ltL a b = true := by
  unfold cmpL
  by_cases h : ltL a b = true
  · simp [h]
  · rw [if_neg h]
    constructor
    · intro h2; split at h2 <;> omega
    · intro h2; exact absurd h2 h
theorem cmpL_eq0 {a b : List Int} (h : cmpL a b = 0) : a = b := by
  unfold cmpL at h
  split at h
  · omega
  · split at h
    · assumption
    · omega
theorem cmpL_self (a : List Int) : cmpL a a = 0 := by unfold cmpL; rw [if_neg (by rw [ltL_irr]; simp), if_pos rfl]
theorem cmpCC_neg (a b : CmpD) : cmpCC a b < 0 ↔ ltC a b := by
  unfold cmpCC orI ltC
  by_cases h : cmpL a.code b.code = 0
  · have e := cmpL_eq0 h
    rw [if_pos h, e, ltL_irr]
    clear h
    unfold cmpV
    constructor
    · intro h2; right; refine ⟨rfl, ?_⟩; split at h2
      · omega
      · split at h2 <;> omega
    · rintro (h2 | ⟨_, h2⟩)
      · cases h2
      · rw [if_pos (by omega)]; omega
  · rw [if_neg h, cmpL_lt]
    constructor
    · exact .inl
    · rintro (h2 | ⟨e, _⟩)
      · exact h2
      · rw [e, cmpL_self] at h; exact absurd rfl h
theorem ltC_tri {a b : CmpD} (h1 : ¬ ltC a b) (h2 : ¬ ltC b a) : a.code = b.code ∧ a.least = b.least := by
  unfold ltC at h1 h2
  have e : a.code = b.code := ltL_tot (by cases h : ltL a.code b.code with
    | false => rfl
    | true => exact absurd (.inl h) h1) (by cases h : ltL b.code a.code with
    | false => rfl
    | true => exact absurd (.inl h) h2)
  refine ⟨e, ?_⟩
  have a1 : ¬ a.least < b.least := fun h => h1 (.inr ⟨e, h⟩)
  have a2 : ¬ b.least < a.least := fun h => h2 (.inr ⟨e.symm, h⟩)
  omega
theorem ltC_neg {x y z : CmpD} (h1 : ¬ ltC x y) (h2 : ¬ ltC y z) : ¬ ltC x z := fun h => by
  by_cases h3 : ltC y x
  · exact h2 (ltC_trans h3 h)
  · obtain ⟨e1, e2⟩ := ltC_tri h1 h3
    refine h2 ?_
    unfold ltC at h ⊢
    rw [← e1, ← e2]
    exact h
theorem ltOf_cc (X : Nat → CmpV) (i j : Nat) : ltOf (fun i j => cmpCC (X i).c (X j).c) i j = true ↔ ltC (X i).c (X j).c := by
  unfold ltOf
  rw [decide_eq_true_eq]
  exact cmpCC_neg _ _
theorem ltOf_cc' (X : Nat → CmpV) (i j : Nat) : ltOf (fun i j => cmpCC (X i).c (X j).c) i j = false ↔ ¬ ltC (X i).c (X j).c := by
  rw [← ltOf_cc, Bool.not_eq_true]
theorem swo_cc (X : Nat → CmpV) : Sort.SWO (ltOf (fun i j => cmpCC (X i).c (X j).c)) :=
  ⟨fun x => by rw [ltOf_cc']; exact ltC_irr _, fun x y z => by rw [ltOf_cc, ltOf_cc, ltOf_cc]; exact ltC_trans, fun x y z => by rw [ltOf_cc', ltOf_cc', ltOf_cc']; exact ltC_neg⟩
theorem entersC : ∀ args w, (callFunc 62 args).run Try.prog w = .ok (.enter 62 args) w := enters_of Try.func62 (by kernel_rfl) rfl
theorem encI_cell (x : CmpV) (i : Nat) (h : i < 4) : (encI x)[i]? = some (encI x)[i]! := by
  rw [List.getElem!_eq_getElem?_getD, List.getElem?_eq_getElem (show i < (encI x).length from h)]; rfl
theorem flat_cell {α : Type} [Inhabited α] (enc : α → List Value) (d : Array α) (t : Nat) (h : t < d.size * 4) : (Sort.flatK enc 4 d)[t]! = (enc d[t / 4]!)[t % 4]! := Sort.get_flatK enc 4 d t h

set_option maxHeartbeats 2000000 in
theorem sortC_any : SortC Try.prog 61 62 66 := fun w base top v xs hC hlt hlen hcode => by
  by_cases hn : xs = []
  · subst hn
    obtain ⟨A, c, rfl, _, _⟩ := hC.len
    refine (AnyF.slices_SortFunc_none (P := Try.prog) (ρ := Try.sortE_ren) Try.sortE A c (.func (.func 62) #[] #[]) w).mono ?_
    rintro e w' ⟨rfl, rfl⟩
    exact ⟨rfl, ⟨[], rfl, hC.mono hC.high (Nat.le_refl _)⟩, grown_any (World.grownBy.refl _ none)⟩
  have hpos : 0 < xs.length := List.length_pos_iff.2 hn
  obtain ⟨b, c, rfl, hc, hm, hb1, hb2, hcells⟩ := hC.cells (fun x => rfl) hpos (by omega)
  have hhigh := hC.high
  have hlow := hC.low
  let sel : Nat → Nat := fun i => if i < xs.length then i else 0
  have hsel : ∀ i, sel i < xs.length := fun i => by show (if _ then _ else _) < _; split <;> omega
  let X : Nat → CmpV := fun i => xs[sel i]'(hsel i)
  have hX : ∀ i (hi : i < xs.length), X i = xs[i] := fun i hi => by
    have e : sel i = i := if_pos hi
    show xs[sel i]'(hsel i) = xs[i]
    simp [e]
  have hXm : ∀ i, X i ∈ xs := fun i => List.getElem_mem (hsel i)
  let enc : Nat → List Value := fun i => encI (X i)
  have h1 : ∀ x, ∀ u ∈ enc x, u.oneCell' = true := fun x u hu => by
    obtain ⟨lo, hi, _, _, hE, _⟩ := hC.el _ (hXm x)
    obtain ⟨A1, c1, e1, _, _⟩ := hE.code.dims
    obtain ⟨A2, c2, e2, _, _⟩ := hE.walk.dims
    have hu' : u ∈ [(X x).vc, (X x).vw, .int .i64 ((X x).c.least : Nat), .int .i64 ((X x).c.cnt : Nat)] := hu
    rw [e1, e2] at hu'
    simp only [List.mem_cons, List.not_mem_nil, or_false] at hu'
    rcases hu' with rfl | rfl | rfl | rfl <;> rfl
  have hH : Sort.HoldsK enc 4 w b 0 (Array.range xs.length) := fun t ht => by
    rw [Sort.size_flatK, Array.size_range] at ht
    have hj : t / 4 < xs.length := by omega
    have hi : t % 4 < 4 := by omega
    have e1 : (Array.range xs.length)[t / 4]! = t / 4 := by rw [getElem!_pos _ _ (by simpa using hj)]; simp
    rw [flat_cell enc _ t (by simpa using ht), e1]
    have := hcells (t / 4) hj (t % 4) (encI xs[t / 4])[t % 4]! hi (encI_cell _ _ hi)
    rw [show 0 + t = t / 4 * 4 + t % 4 by omega]
    show _ = some (encI (X (t / 4)))[t % 4]! ∧ _
    rw [hX _ hj]
    exact this
  have hG : ∀ (m : Nat) (dk : Array Nat) (os : Array Obj), w.grownBy (sortWorldK enc 4 w b 0 m dk os) (some b) := fun m dk os => sortGrown id w b 0 m (Sort.flatK enc 4 dk) os
  have hcmp : CmpLays Try.prog 62 #[] enc 4 (fun i j => cmpCC (X i).c (X j).c) b 0 (Array.range xs.length).size w := fun m os dk hs x y => by
    obtain ⟨lx, hx, a1, a2, a3, a4⟩ := hC.el _ (hXm x)
    obtain ⟨ly, hy, b1, b2, b3, b4⟩ := hC.el _ (hXm y)
    have hg := hG m dk os
    have hsz := hg.size
    have ow : ∀ lo hi : Nat, (∀ g, (Value.slice (some ⟨b, 0, none⟩) xs.length c).ownBlock = some g → g < lo ∨ hi ≤ g) → ∀ g, some b = some g → g < lo ∨ hi ≤ g := fun lo hi h g e => h g e
    refine (ccCmp_any (X x) (X y) lx hx ly hy _ (a3.far hg (by omega) (ow _ _ a4)) (by omega) (b3.far hg (by omega) (ow _ _ b4)) (by omega)).mono ?_
    rintro e w' ⟨rfl, hbd⟩
    exact ⟨rfl, hbd.grow⟩
  have hS := AnyQ.slices_SortFunc (P := Try.prog) (ρ := Try.sortE_ren) Try.sortE 4 Try.isAgg66 Try.sizeOf66 enc (fun _ => rfl) h1 (fun i j => cmpCC (X i).c (X j).c) (swo_cc X) 62 #[] b 0 c (Array.range xs.length) w entersC hcmp hH (by omega) (by simp; omega)
  have ev : (Value.slice (some ⟨b, 0, none⟩) xs.length c) = .slice (some ⟨b, 0, none⟩) (Array.range xs.length).size c := by rw [Array.size_range]
  rw [ev]
  refine Calls.mono hS ?_
  rintro e w' ⟨rfl, d', n', os, hp, hsd, rfl⟩
  obtain ⟨hp1, hp2, hp3⟩ := hp
  rw [Array.size_range] at hp1
  have hdl : d'.toList.Perm (List.range xs.length) := by
    have e1 : d'.extract 0 (Array.range xs.length).size = d' := by rw [Array.size_range, ← hp1]; simp
    have e2 : (Array.range xs.length).extract 0 (Array.range xs.length).size = Array.range xs.length := by simp
    rw [e1, e2, Array.toList_range] at hp3
    exact hp3
  let L := d'.toList.map X
  have hLp : L.Perm xs := by
    have h := hdl.map X
    have e : (List.range xs.length).map X = xs := by
      apply List.ext_getElem
      · simp
      · intro i h1 h2; simp [hX i h2]
    rwa [e] at h
  have hLl : L.length = xs.length := hLp.length_eq
  have hget : ∀ j (hj : j < L.length), L[j] = X d'[j]! := fun j hj => by
    have hj' : j < d'.size := by rw [hp1, ← hLl]; exact hj
    rw [getElem!_pos d' j hj']
    show (d'.toList.map X)[j]'hj = _
    simp
  have hne : L.Pairwise (fun a b => a.c.least ≠ b.c.least) := by
    refine (hLp.pairwise_iff (fun {a b} h => Ne.symm h)).2 ?_
    rw [List.pairwise_map] at hlt
    exact hlt.imp fun h => by omega
  have hLs : (L.map CmpV.c).Pairwise ltC := by
    rw [List.pairwise_map]
    refine List.pairwise_iff_getElem.2 fun i j hi hj hij => ?_
    have h2 := List.pairwise_iff_getElem.1 hne i j hi hj hij
    have h3 := hsd i j (Nat.zero_le _) hij (by rw [Array.size_range, ← hLl]; exact hj)
    rw [ltOf_cc', ← hget i hi, ← hget j hj] at h3
    by_cases h4 : ltC L[i].c L[j].c
    · exact h4
    · exact absurd (ltC_tri h4 h3).2 h2
  have hun : L.map CmpV.c = insAll (xs.map CmpV.c) := by
    obtain ⟨q1, q2⟩ := insAll_spec (xs.map CmpV.c) [] List.Pairwise.nil (fun y hy => by cases hy) hlt
    rw [List.nil_append] at q2
    exact ((hLp.map CmpV.c).trans q2.symm).eq_of_pairwise (fun a b _ _ k1 k2 => absurd (ltC_trans k1 k2) (ltC_irr a)) hLs q1
  have hg := hG n' d' os
  have hsz := hg.size
  refine ⟨rfl, ⟨L, hun, ?_, by omega, Nat.le_refl _, fun g e => ?_, fun x hx => ?_⟩, hg⟩
  · have hr := hC.row
    obtain ⟨r1, r2⟩ := hr
    rcases r2 with ⟨r3, _⟩ | ⟨g, cap, cur, r3, r4, r5, r6, r7, r8, r9⟩
    · cases r3
    · injection r3 with r3 _ r3c
      injection r3 with r3
      injection r3 with r3 _ _
      subst r3 r3c
      refine ⟨flat_len (enc := encI) (k := 4) (fun _ => rfl) L, .inr ⟨b, c, _, by rw [Array.size_range, hLl], r4, sortBlock r5 n' (Sort.flatK enc 4 d') os, by omega, r7, by simp [Sort.putCells, r8], ?_⟩⟩
      apply List.ext_getElem?
      intro t
      by_cases ht : t < xs.length * 4
      · have hj : t / 4 < L.length := by omega
        have hi : t % 4 < 4 := by omega
        have hf := flat_get (enc := encI) (k := 4) (fun _ => rfl) L (t / 4) (t % 4) hj hi
        rw [show t / 4 * 4 + t % 4 = t by omega, encI_cell _ _ hi, hget _ hj] at hf
        rw [hf, List.getElem?_take_of_lt (by rw [hLl]; exact ht)]
        have hcur : t < cur.size := by rw [r8]; have := Nat.mul_le_mul_right 4 r6; omega
        have hfl := flat_cell enc d' t (by rw [hp1]; exact ht)
        have hsf : t < (Sort.flatK enc 4 d').size := by rw [Sort.size_flatK, hp1]; exact ht
        simp only [Sort.putCells, Array.getElem?_toList, Array.getElem?_mapIdx, Nat.zero_le, true_and, Nat.zero_add, hsf, if_true, Nat.sub_zero, id, hfl, Array.getElem?_eq_getElem hcur, Option.map_some]
        rfl
      · rw [List.getElem?_eq_none (by rw [List.length_take]; omega), List.getElem?_eq_none (by rw [flat_len (enc := encI) (k := 4) (fun _ => rfl), hLl]; omega)]
  · have := hC.own g e; omega
  · obtain ⟨lo, hi, a1, a2, a3, a4⟩ := hC.el x (hLp.subset hx)
    exact ⟨lo, hi, a1, by omega, a3.far hg (by omega) a4, a4⟩

end Go.Proofs.Ytmdlginjblnfoaa

/- Contract: canonicalOrder (program). -/
namespace Go.Proofs.Ytmdlginjblnfoaa
open Go.ChangeShapes Go.WideShapes Go.ChangeAt Go.RowKit
set_option linter.unusedVariables false

set_option maxHeartbeats 8000000 in
set_option maxRecDepth 100000 in
theorem canonicalOrder_impl (v1 : Value) (N : NetD) (lo1 hi1 : Nat) (w : World) (h1 : Net w lo1 hi1 v1 N) (hh1 : hi1 ≤ w.heap.size) (hg : N.good = true) :
    Calls Try.prog 24 #[v1] w fun e w' => ∃ r, e = .returned r ∧ IntS w' w.heap.size w'.heap.size r (canonL N) ∧ Below w.heap.size w w' := by
  obtain ⟨n1, n40⟩ := good_n hg
  have HG := Lib.hid hg; clear hg
  have HWK := Lib.hid (sortedC_wok HG.out)
  have hmk := fun W => run_make_row' (P := Try.prog) 23 3 (.int .i64 0) 8 Try.underlying23 Try.info3 rfl .i64 .i64 N.ends.length (by omega) (by omega) W
  have F1 := Lib.hid h1
  obtain ⟨A1, c1, A1', c1', A1'', c1'', rfl, hc1, hd1, _⟩ := h1.parts
  obtain ⟨b1, o1, _, _, rfl, _⟩ := Net.rowAt F1.out (u := 0) (by omega)
  clear h1
  obtain ⟨WA, HWA⟩ : ∃ W, Hid (W = (w.alloc (.cells #[.slice (some ⟨b1, o1, none⟩) N.ends.length c1, .slice A1' N.ids.length c1', .slice A1'' N.inputs.length c1''] 31))) := ⟨_, Lib.hid rfl⟩
  have hbA : Below w.heap.size w WA := by rw [HWA.out]; exact ((Below.refl _ _).alloc (Nat.le_refl _) _)
  have hsA : w.heap.size + 1 ≤ WA.heap.size := by rw [HWA.out]; simp; try omega
  have bx1 : BoxN WA (w.heap.size) #[.slice (some ⟨b1, o1, none⟩) N.ends.length c1, .slice A1' N.ids.length c1', .slice A1'' N.inputs.length c1''] 31 := by rw [HWA.out]; exact (BoxN.new' _ _ _ (by simp))
  have G1 := Lib.hid (Net.below F1.out hbA hh1); clear F1
  go_enter Try.func24, Try.ntmps24
  go_upto_region 1 with (fail)
  rw [← HWA.out]; clear HWA
  have kbx1_0 : WA.cell? ⟨w.heap.size, 0, none⟩ = some (.slice (some ⟨b1, o1, none⟩) N.ends.length c1) := bx1.cell 0 (by simp)
  have kbx1_1 : WA.cell? ⟨w.heap.size, 1, none⟩ = some (.slice A1' N.ids.length c1') := bx1.cell 1 (by simp)
  have kbx1_2 : WA.cell? ⟨w.heap.size, 2, none⟩ = some (.slice A1'' N.inputs.length c1'') := bx1.cell 2 (by simp)
  go_upto_region 2 with (fail)
  clear kbx1_0 kbx1_1 kbx1_2
  refine nameC ?_
  intro W1 HW1
  have hg1 : WA.grownBy W1 none := by rw [HW1.out]; exact grown_alloc _ _
  have hs1 := hg1.size
  have HF1 := Lib.hid ((Turned.refl WA.heap.size WA.heap.size WA).still hg1)
  have HO := Lib.hid (show IntS W1 WA.heap.size (WA.heap.size + 1) (.slice (some ⟨WA.heap.size, 0, none⟩) N.ends.length N.ends.length) (List.replicate N.ends.length 0) by rw [HW1.out]; exact made_ints _ _ _ rfl (by omega))
  have hz : WA.heap.size + 1 ≤ W1.heap.size := by rw [HW1.out]; simp
  clear HW1 hmk
  have N_1 := Lib.hid (Net.turned G1.out HF1.out (by omega) (by omega)); clear G1
  have bx1_1 := HF1.out.boxN bx1 (by omega); clear bx1
  have hbA1 : Below w.heap.size w W1 := (HF1.out.below_of hbA (by omega) (by omega)); clear hbA HF1
  have kbx1_0 : W1.cell? ⟨w.heap.size, 0, none⟩ = some (.slice (some ⟨b1, o1, none⟩) N.ends.length c1) := bx1_1.cell 0 (by simp)
  have kbx1_1 : W1.cell? ⟨w.heap.size, 1, none⟩ = some (.slice A1' N.ids.length c1') := bx1_1.cell 1 (by simp)
  have kbx1_2 : W1.cell? ⟨w.heap.size, 2, none⟩ = some (.slice A1'' N.inputs.length c1'') := bx1_1.cell 2 (by simp)
  go_wp2_with fail
  clear kbx1_0 kbx1_1 kbx1_2
  refine (componentsOf_any _ N lo1 hi1 _ N_1.out (by omega) HG.out sortC_any).mono ?_
  rintro e W2 ⟨r0, xs, rfl, hxs, hX, hb2⟩
  have hg2 := grown_below hb2; clear hb2
  have hs2 := hg2.size
  have HF2 := Lib.hid ((Turned.refl WA.heap.size (WA.heap.size + 1) W1).still hg2)
  have O2 := Lib.hid (IntS.still HO.out hg2 (by omega)); clear HO
  have HX := Lib.hid hX; have HXS := Lib.hid hxs; clear hX
  have hxl : xs.length ≤ 40 := by
    have h := congrArg List.length hxs
    rw [List.length_map] at h
    have := HWK.out.2
    omega
  clear hxs
  obtain ⟨Ao, co, rfl, hco, hdo⟩ := HX.out.len
  have hlowX : W1.heap.size ≤ W2.heap.size := HX.out.low
  go_wp2_with fail
  go_loopw [16, 4] (fun kv av wr => ∃ (k ap : Nat) (pre : List Int), k ≤ xs.length ∧ kv = .int .i64 k ∧ av = .int .i64 ap ∧ Hid (ap = pre.length) ∧ Hid (pre = ((sortedC N).take k).flatMap CmpD.walk) ∧ Hid (IntS wr WA.heap.size (WA.heap.size + 1) (.slice (some ⟨WA.heap.size, 0, none⟩) N.ends.length N.ends.length) (numL (List.replicate N.ends.length 0) 0 pre)) ∧ Hid (CoS encI 4 wr W1.heap.size W2.heap.size 66 (.slice Ao xs.length co) xs) ∧ Hid (Turned WA.heap.size (WA.heap.size + 1) W1 wr)) (fun kv av _ => xs.length - (intOf kv).toNat)
  case atStart => exact ⟨0, 0, [], Nat.zero_le _, rfl, rfl, Lib.hid rfl, Lib.hid (by simp), O2, HX, HF2⟩
  case round =>
    clear HF2
    obtain ⟨k, ap, pre, hk, rfl, rfl, HAP, HP, HO, HX, HF3⟩ := hrel
    have hs3 := HF3.out.size
    obtain ⟨wq, rfl⟩ : ∃ wq : World, wq = wr := ⟨_, rfl⟩
    have hxh := HX.out.high
    have hsl : (sortedC N).length = xs.length := by rw [← HXS.out, List.length_map]
    by_cases hkn : k < xs.length
    case neg =>
      obtain rfl : k = xs.length := by omega
      have HR := Lib.hid (show numL (List.replicate N.ends.length 0) 0 pre = canonL N by unfold canonL; rw [ordTo_numL, HP.out, ← hsl, List.take_length])
      rw [HR.out] at HO
      go_wp2_with fail
      go_ret
      exact ⟨_, rfl, IntS.mono HO.out (by omega) (by omega), (HF3.out.below_of hbA1 (by omega) (by omega))⟩
    have hpl : pre.length ≤ 1600 := by
      have h1 := flat_walk_len (N := N) ((sortedC N).take k) (fun c hc => HWK.out.1 c (List.mem_of_mem_take hc))
      rw [← HP.out, List.length_take] at h1
      omega
    obtain ⟨b, c, eb, hc1, hc2, hb1, hb2, hcl⟩ := HX.out.cells (fun _ => rfl) (by omega) (by omega)
    injection eb with eb1 _ eb2
    subst eb1 eb2
    have hxm : xs[k] ∈ xs := List.getElem_mem hkn
    have hxc : xs[k].c ∈ sortedC N := by rw [← HXS.out]; exact List.mem_map.2 ⟨_, hxm, rfl⟩
    have HWC := Lib.hid (HWK.out.1 _ hxc)
    have HTK := Lib.hid (show ((sortedC N).take (k + 1)).flatMap CmpD.walk = pre ++ xs[k].c.walk by
      rw [take_flat (by omega), HP.out]
      congr 2
      have : (sortedC N)[k]? = (xs.map CmpV.c)[k]? := by rw [HXS.out]
      rw [List.getElem?_eq_getElem (by omega), List.getElem?_eq_getElem (by simpa using hkn)] at this
      simpa using this)
    obtain ⟨lo, hi, a1, a2, hE, a4⟩ := HX.out.el _ hxm
    have q0 := hcl k hkn 0 _ (by omega) rfl
    have q1 := hcl k hkn 1 _ (by omega) rfl
    have q2 := hcl k hkn 2 _ (by omega) rfl
    have q3 := hcl k hkn 3 _ (by omega) rfl; clear hcl hxm hxc
    have hE1 := hE.code
    have hE2 := hE.walk
    clear hE
    obtain ⟨x, HXK⟩ : ∃ x, Hid (xs[k] = x) := ⟨_, Lib.hid rfl⟩
    rw [HXK.out] at q0 q1 q2 q3 hE1 hE2 HWC HTK
    obtain ⟨vc, vw, cc⟩ := x
    dsimp only at q0 q1 q2 q3 hE1 hE2 HWC HTK
    obtain ⟨A1, c1, rfl, _, _⟩ := hE1.dims
    obtain ⟨A2, c2, rfl, hw1, hw2⟩ := hE2.dims
    have HE2 := Lib.hid hE2; clear hE1 hE2
    have q0' := q0.1; have q1' := q1.1; have q2' := q2.1; have q3' := q3.1
    clear q0 q1 q2 q3
    have hki : (k : Int) < xs.length := by omega
    rw [Nat.add_zero] at q0'
    go_upto_region 6 with (fail)
    refine nameC ?_
    intro W4 HW4
    have hg4 : wq.grownBy W4 none := by rw [HW4.out]; exact grown_alloc _ _
    have hs4 := hg4.size
    have HF4 := Lib.hid (HF3.out.still hg4); clear HF3
    have O4 := Lib.hid (IntS.still HO.out hg4 (by omega)); clear HO
    have X4 := Lib.hid (CoS.still HX.out hg4); clear HX
    have E4 := Lib.hid (IntS.still HE2.out hg4 (by omega)); clear HE2
    have CB4 := Lib.hid (show BoxN W4 wq.heap.size #[.slice A1 cc.code.length c1, .slice A2 cc.walk.length c2, .int .i64 (cc.least : Nat), .int .i64 (cc.cnt : Nat)] 66 by rw [HW4.out]; exact BoxN.new _ _ _)
    clear HW4
    have kb1 := CB4.out.cell 1 (by simp)
    go_wp2_with fail
    clear kb1
    go_loopw [23, 4] (fun jv av wr => ∃ (j a : Nat), j ≤ cc.walk.length ∧ jv = .int .i64 j ∧ av = .int .i64 a ∧ Hid (a = pre.length + j) ∧ Hid (IntS wr WA.heap.size (WA.heap.size + 1) (.slice (some ⟨WA.heap.size, 0, none⟩) N.ends.length N.ends.length) (numL (List.replicate N.ends.length 0) 0 (pre ++ cc.walk.take j))) ∧ Hid (CoS encI 4 wr W1.heap.size W2.heap.size 66 (.slice (some ⟨b, 0, none⟩) xs.length co) xs) ∧ Hid (IntS wr lo hi (.slice A2 cc.walk.length c2) cc.walk) ∧ Hid (Turned WA.heap.size (WA.heap.size + 1) W1 wr)) (fun jv av _ => cc.walk.length - (intOf jv).toNat)
    case atStart => exact ⟨0, ap, Nat.zero_le _, rfl, rfl, Lib.hid HAP.out, Lib.hid (by rw [List.take_zero, List.append_nil]; exact O4.out), X4, E4, HF4⟩
    case round =>
      clear HF4
      obtain ⟨j, a, hj, rfl, rfl, HA, HO, HX, HE, HF5⟩ := hrel
      have hs5 := HF5.out.size
      obtain ⟨wt, rfl⟩ : ∃ wt : World, wt = wr := ⟨_, rfl⟩
      have hxh2 := HX.out.high
      have ha := HA.out
      have hwl := HWC.out.1
      by_cases hjn : j < cc.walk.length
      case neg =>
        obtain rfl : j = cc.walk.length := by omega
        have HO2 := HO.out
        rw [List.take_length] at HO2
        go_wp2_with fail
        go_roundw
        case rel => exact ⟨k + 1, a, pre ++ cc.walk, by omega, by go_num, rfl, Lib.hid (by rw [List.length_append]; exact ha), Lib.hid HTK.out.symm, Lib.hid HO2, HX, HF5⟩
        case measure => simp [intOf]; omega
      obtain ⟨u, eu, hun⟩ := HWC.out.2 _ (nth_mem hjn)
      obtain ⟨bn, on, rfl, _, _, xn, _⟩ := IntS.opened HE.out hjn
      rw [eu] at xn
      have hul : u < (numL (List.replicate N.ends.length 0) 0 (pre ++ cc.walk.take j)).length := by rw [numL_length]; simpa using hun
      obtain ⟨d1, d2⟩ := IntS.at0 HO.out (j := u) hul
      have HNX := Lib.hid (show numL (List.replicate N.ends.length 0) 0 (pre ++ cc.walk.take (j + 1)) = (numL (List.replicate N.ends.length 0) 0 (pre ++ cc.walk.take j)).set u (a : Int) by
        rw [List.take_succ_eq_append_getElem hjn, ← nth_eq hjn, eu, ← List.append_assoc, numL_snoc, Int.toNat_natCast, List.length_append, List.length_take, Nat.min_eq_left hj, Nat.zero_add, ha])
      clear eu
      have hji : (j : Int) < cc.walk.length := by omega
      have hui : (u : Int) < N.ends.length := by omega
      obtain ⟨dv, HDV⟩ : ∃ x, Hid (nth (numL (List.replicate N.ends.length 0) 0 (pre ++ cc.walk.take j)) u = x) := ⟨_, Lib.hid rfl⟩
      rw [HDV.out] at d1
      have HS9 := Lib.hid (HO.out.set0 hul (a : Int))
      have ha2 : a ≤ 1640 := by omega
      clear hul ha
      go_wp2_with fail
      go_roundw
      case rel =>
        have hg9 : wt.grownBy (wt.setCell ⟨WA.heap.size, u, none⟩ (.int .i64 (a : Nat))) (some (WA.heap.size)) := grown_set _ _ _
        exact ⟨j + 1, a + 1, by omega, by go_num, by go_num, Lib.hid (by have := HA.out; omega), Lib.hid (by rw [HNX.out]; exact HS9.out), Lib.hid (CoS.far HX.out hg9 (fun g e => .inl (by cases e; omega))), Lib.hid (IntS.far HE.out hg9 (by omega) (fun g e => .inl (by cases e; omega))), Lib.hid (HF5.out.grown hg9 (fun g e => .inl (by cases e; omega)))⟩
      case measure => simp [intOf]; omega

end Go.Proofs.Ytmdlginjblnfoaa

/- Contract: isOrder (reference), out of a contract of isParts. -/
namespace Go.Proofs.Ytmdlginjblnfoaa
open Go.ChangeShapes Go.WideShapes Go.ChangeAt Go.RowKit
set_option linter.unusedVariables false

/-- what is wanted of isParts -/
def PartsC (P : Program) (f : Nat) (e : TypeId) : Prop :=
  ∀ (v : Value) (N : NetD) (lo hi : Nat) (w : World), Net w lo hi v N → hi ≤ w.heap.size → N.good = true → Calls P f #[v] w fun e' w' => ∃ r xs, e' = .returned r ∧ xs.map CmpV.c = sortedC N ∧ CoS encS 3 w' w.heap.size w'.heap.size e r xs ∧ Below w.heap.size w w'

set_option maxHeartbeats 8000000 in
set_option maxRecDepth 100000 in
theorem isOrder_spec (v1 : Value) (N : NetD) (lo1 hi1 : Nat) (w : World) (h1 : Net w lo1 hi1 v1 N) (hh1 : hi1 ≤ w.heap.size) (hg : N.good = true) (hparts : PartsC Try.prog 34 60) :
    Calls Try.prog 20 #[v1] w fun e w' => ∃ r, e = .returned r ∧ IntS w' w.heap.size w'.heap.size r (canonL N) ∧ Below w.heap.size w w' := by
  obtain ⟨n1, n40⟩ := good_n hg
  have HG := Lib.hid hg; clear hg
  have HPC := Lib.hid hparts; clear hparts
  have HWK := Lib.hid (sortedC_wok HG.out)
  have hmk := fun W => run_make_row' (P := Try.prog) 23 3 (.int .i64 0) 8 Try.underlying23 Try.info3 rfl .i64 .i64 N.ends.length (by omega) (by omega) W
  have F1 := Lib.hid h1
  obtain ⟨A1, c1, A1', c1', A1'', c1'', rfl, hc1, hd1, _⟩ := h1.parts
  obtain ⟨b1, o1, _, _, rfl, _⟩ := Net.rowAt F1.out (u := 0) (by omega)
  clear h1
  obtain ⟨WA, HWA⟩ : ∃ W, Hid (W = (w.alloc (.cells #[.slice (some ⟨b1, o1, none⟩) N.ends.length c1, .slice A1' N.ids.length c1', .slice A1'' N.inputs.length c1''] 31))) := ⟨_, Lib.hid rfl⟩
  have hbA : Below w.heap.size w WA := by rw [HWA.out]; exact ((Below.refl _ _).alloc (Nat.le_refl _) _)
  have hsA : w.heap.size + 1 ≤ WA.heap.size := by rw [HWA.out]; simp; try omega
  have bx1 : BoxN WA (w.heap.size) #[.slice (some ⟨b1, o1, none⟩) N.ends.length c1, .slice A1' N.ids.length c1', .slice A1'' N.inputs.length c1''] 31 := by rw [HWA.out]; exact (BoxN.new' _ _ _ (by simp))
  have G1 := Lib.hid (Net.below F1.out hbA hh1); clear F1
  go_enter Try.func20, Try.ntmps20
  go_upto_region 1 with (fail)
  rw [← HWA.out]; clear HWA
  have kbx1_0 : WA.cell? ⟨w.heap.size, 0, none⟩ = some (.slice (some ⟨b1, o1, none⟩) N.ends.length c1) := bx1.cell 0 (by simp)
  have kbx1_1 : WA.cell? ⟨w.heap.size, 1, none⟩ = some (.slice A1' N.ids.length c1') := bx1.cell 1 (by simp)
  have kbx1_2 : WA.cell? ⟨w.heap.size, 2, none⟩ = some (.slice A1'' N.inputs.length c1'') := bx1.cell 2 (by simp)
  go_upto_region 2 with (fail)
  clear kbx1_0 kbx1_1 kbx1_2
  refine nameC ?_
  intro W1 HW1
  have hg1 : WA.grownBy W1 none := by rw [HW1.out]; exact grown_alloc _ _
  have hs1 := hg1.size
  have HF1 := Lib.hid ((Turned.refl WA.heap.size WA.heap.size WA).still hg1)
  have HO := Lib.hid (show IntS W1 WA.heap.size (WA.heap.size + 1) (.slice (some ⟨WA.heap.size, 0, none⟩) N.ends.length N.ends.length) (List.replicate N.ends.length 0) by rw [HW1.out]; exact made_ints _ _ _ rfl (by omega))
  have hz : WA.heap.size + 1 ≤ W1.heap.size := by rw [HW1.out]; simp
  clear HW1 hmk
  have N_1 := Lib.hid (Net.turned G1.out HF1.out (by omega) (by omega)); clear G1
  have bx1_1 := HF1.out.boxN bx1 (by omega); clear bx1
  have hbA1 : Below w.heap.size w W1 := (HF1.out.below_of hbA (by omega) (by omega)); clear hbA HF1
  have kbx1_0 : W1.cell? ⟨w.heap.size, 0, none⟩ = some (.slice (some ⟨b1, o1, none⟩) N.ends.length c1) := bx1_1.cell 0 (by simp)
  have kbx1_1 : W1.cell? ⟨w.heap.size, 1, none⟩ = some (.slice A1' N.ids.length c1') := bx1_1.cell 1 (by simp)
  have kbx1_2 : W1.cell? ⟨w.heap.size, 2, none⟩ = some (.slice A1'' N.inputs.length c1'') := bx1_1.cell 2 (by simp)
  go_wp2_with fail
  clear kbx1_0 kbx1_1 kbx1_2
  refine (HPC.out _ N lo1 hi1 _ N_1.out (by omega) HG.out).mono ?_
  rintro e W2 ⟨r0, xs, rfl, hxs, hX, hb2⟩
  have hg2 := grown_below hb2; clear hb2
  have hs2 := hg2.size
  have HF2 := Lib.hid ((Turned.refl WA.heap.size (WA.heap.size + 1) W1).still hg2)
  have O2 := Lib.hid (IntS.still HO.out hg2 (by omega)); clear HO
  have HX := Lib.hid hX; have HXS := Lib.hid hxs; clear hX
  have hxl : xs.length ≤ 40 := by
    have h := congrArg List.length hxs
    rw [List.length_map] at h
    have := HWK.out.2
    omega
  clear hxs
  obtain ⟨Ao, co, rfl, hco, hdo⟩ := HX.out.len
  have hlowX : W1.heap.size ≤ W2.heap.size := HX.out.low
  go_wp2_with fail
  go_loopw [16, 4] (fun kv av wr => ∃ (k ap : Nat) (pre : List Int), k ≤ xs.length ∧ kv = .int .i64 k ∧ av = .int .i64 ap ∧ Hid (ap = pre.length) ∧ Hid (pre = ((sortedC N).take k).flatMap CmpD.walk) ∧ Hid (IntS wr WA.heap.size (WA.heap.size + 1) (.slice (some ⟨WA.heap.size, 0, none⟩) N.ends.length N.ends.length) (numL (List.replicate N.ends.length 0) 0 pre)) ∧ Hid (CoS encS 3 wr W1.heap.size W2.heap.size 60 (.slice Ao xs.length co) xs) ∧ Hid (Turned WA.heap.size (WA.heap.size + 1) W1 wr)) (fun kv av _ => xs.length - (intOf kv).toNat)
  case atStart => exact ⟨0, 0, [], Nat.zero_le _, rfl, rfl, Lib.hid rfl, Lib.hid (by simp), O2, HX, HF2⟩
  case round =>
    clear HF2
    obtain ⟨k, ap, pre, hk, rfl, rfl, HAP, HP, HO, HX, HF3⟩ := hrel
    have hs3 := HF3.out.size
    obtain ⟨wq, rfl⟩ : ∃ wq : World, wq = wr := ⟨_, rfl⟩
    have hxh := HX.out.high
    have hsl : (sortedC N).length = xs.length := by rw [← HXS.out, List.length_map]
    by_cases hkn : k < xs.length
    case neg =>
      obtain rfl : k = xs.length := by omega
      have HR := Lib.hid (show numL (List.replicate N.ends.length 0) 0 pre = canonL N by unfold canonL; rw [ordTo_numL, HP.out, ← hsl, List.take_length])
      rw [HR.out] at HO
      go_wp2_with fail
      go_ret
      exact ⟨_, rfl, IntS.mono HO.out (by omega) (by omega), (HF3.out.below_of hbA1 (by omega) (by omega))⟩
    have hpl : pre.length ≤ 1600 := by
      have h1 := flat_walk_len (N := N) ((sortedC N).take k) (fun c hc => HWK.out.1 c (List.mem_of_mem_take hc))
      rw [← HP.out, List.length_take] at h1
      omega
    obtain ⟨b, c, eb, hc1, hc2, hb1, hb2, hcl⟩ := HX.out.cells (fun _ => rfl) (by omega) (by omega)
    injection eb with eb1 _ eb2
    subst eb1 eb2
    have hxm : xs[k] ∈ xs := List.getElem_mem hkn
    have hxc : xs[k].c ∈ sortedC N := by rw [← HXS.out]; exact List.mem_map.2 ⟨_, hxm, rfl⟩
    have HWC := Lib.hid (HWK.out.1 _ hxc)
    have HTK := Lib.hid (show ((sortedC N).take (k + 1)).flatMap CmpD.walk = pre ++ xs[k].c.walk by
      rw [take_flat (by omega), HP.out]
      congr 2
      have : (sortedC N)[k]? = (xs.map CmpV.c)[k]? := by rw [HXS.out]
      rw [List.getElem?_eq_getElem (by omega), List.getElem?_eq_getElem (by simpa using hkn)] at this
      simpa using this)
    obtain ⟨lo, hi, a1, a2, hE, a4⟩ := HX.out.el _ hxm
    have q0 := hcl k hkn 0 _ (by omega) rfl
    have q1 := hcl k hkn 1 _ (by omega) rfl
    have q2 := hcl k hkn 2 _ (by omega) rfl
    clear hcl hxm hxc
    have hE1 := hE.code
    have hE2 := hE.walk
    clear hE
    obtain ⟨x, HXK⟩ : ∃ x, Hid (xs[k] = x) := ⟨_, Lib.hid rfl⟩
    rw [HXK.out] at q0 q1 q2  hE1 hE2 HWC HTK
    obtain ⟨vc, vw, cc⟩ := x
    dsimp only at q0 q1 q2  hE1 hE2 HWC HTK
    obtain ⟨A1, c1, rfl, _, _⟩ := hE1.dims
    obtain ⟨A2, c2, rfl, hw1, hw2⟩ := hE2.dims
    have HE2 := Lib.hid hE2; clear hE1 hE2
    have q0' := q0.1; have q1' := q1.1; have q2' := q2.1
    clear q0 q1 q2 
    have hki : (k : Int) < xs.length := by omega
    rw [Nat.add_zero] at q0'
    go_upto_region 6 with (fail)
    refine nameC ?_
    intro W4 HW4
    have hg4 : wq.grownBy W4 none := by rw [HW4.out]; exact grown_alloc _ _
    have hs4 := hg4.size
    have HF4 := Lib.hid (HF3.out.still hg4); clear HF3
    have O4 := Lib.hid (IntS.still HO.out hg4 (by omega)); clear HO
    have X4 := Lib.hid (CoS.still HX.out hg4); clear HX
    have E4 := Lib.hid (IntS.still HE2.out hg4 (by omega)); clear HE2
    have CB4 := Lib.hid (show BoxN W4 wq.heap.size #[.slice A1 cc.code.length c1, .slice A2 cc.walk.length c2, .int .i64 (cc.cnt : Nat)] 60 by rw [HW4.out]; exact BoxN.new _ _ _)
    clear HW4
    have kb1 := CB4.out.cell 1 (by simp)
    go_wp2_with fail
    clear kb1
    go_loopw [23, 4] (fun jv av wr => ∃ (j a : Nat), j ≤ cc.walk.length ∧ jv = .int .i64 j ∧ av = .int .i64 a ∧ Hid (a = pre.length + j) ∧ Hid (IntS wr WA.heap.size (WA.heap.size + 1) (.slice (some ⟨WA.heap.size, 0, none⟩) N.ends.length N.ends.length) (numL (List.replicate N.ends.length 0) 0 (pre ++ cc.walk.take j))) ∧ Hid (CoS encS 3 wr W1.heap.size W2.heap.size 60 (.slice (some ⟨b, 0, none⟩) xs.length co) xs) ∧ Hid (IntS wr lo hi (.slice A2 cc.walk.length c2) cc.walk) ∧ Hid (Turned WA.heap.size (WA.heap.size + 1) W1 wr)) (fun jv av _ => cc.walk.length - (intOf jv).toNat)
    case atStart => exact ⟨0, ap, Nat.zero_le _, rfl, rfl, Lib.hid HAP.out, Lib.hid (by rw [List.take_zero, List.append_nil]; exact O4.out), X4, E4, HF4⟩
    case round =>
      clear HF4
      obtain ⟨j, a, hj, rfl, rfl, HA, HO, HX, HE, HF5⟩ := hrel
      have hs5 := HF5.out.size
      obtain ⟨wt, rfl⟩ : ∃ wt : World, wt = wr := ⟨_, rfl⟩
      have hxh2 := HX.out.high
      have ha := HA.out
      have hwl := HWC.out.1
      by_cases hjn : j < cc.walk.length
      case neg =>
        obtain rfl : j = cc.walk.length := by omega
        have HO2 := HO.out
        rw [List.take_length] at HO2
        go_wp2_with fail
        go_roundw
        case rel => exact ⟨k + 1, a, pre ++ cc.walk, by omega, by go_num, rfl, Lib.hid (by rw [List.length_append]; exact ha), Lib.hid HTK.out.symm, Lib.hid HO2, HX, HF5⟩
        case measure => simp [intOf]; omega
      obtain ⟨u, eu, hun⟩ := HWC.out.2 _ (nth_mem hjn)
      obtain ⟨bn, on, rfl, _, _, xn, _⟩ := IntS.opened HE.out hjn
      rw [eu] at xn
      have hul : u < (numL (List.replicate N.ends.length 0) 0 (pre ++ cc.walk.take j)).length := by rw [numL_length]; simpa using hun
      obtain ⟨d1, d2⟩ := IntS.at0 HO.out (j := u) hul
      have HNX := Lib.hid (show numL (List.replicate N.ends.length 0) 0 (pre ++ cc.walk.take (j + 1)) = (numL (List.replicate N.ends.length 0) 0 (pre ++ cc.walk.take j)).set u (a : Int) by
        rw [List.take_succ_eq_append_getElem hjn, ← nth_eq hjn, eu, ← List.append_assoc, numL_snoc, Int.toNat_natCast, List.length_append, List.length_take, Nat.min_eq_left hj, Nat.zero_add, ha])
      clear eu
      have hji : (j : Int) < cc.walk.length := by omega
      have hui : (u : Int) < N.ends.length := by omega
      obtain ⟨dv, HDV⟩ : ∃ x, Hid (nth (numL (List.replicate N.ends.length 0) 0 (pre ++ cc.walk.take j)) u = x) := ⟨_, Lib.hid rfl⟩
      rw [HDV.out] at d1
      have HS9 := Lib.hid (HO.out.set0 hul (a : Int))
      have ha2 : a ≤ 1640 := by omega
      clear hul ha
      go_wp2_with fail
      go_roundw
      case rel =>
        have hg9 : wt.grownBy (wt.setCell ⟨WA.heap.size, u, none⟩ (.int .i64 (a : Nat))) (some (WA.heap.size)) := grown_set _ _ _
        exact ⟨j + 1, a + 1, by omega, by go_num, by go_num, Lib.hid (by have := HA.out; omega), Lib.hid (by rw [HNX.out]; exact HS9.out), Lib.hid (CoS.far HX.out hg9 (fun g e => .inl (by cases e; omega))), Lib.hid (IntS.far HE.out hg9 (by omega) (fun g e => .inl (by cases e; omega))), Lib.hid (HF5.out.grown hg9 (fun g e => .inl (by cases e; omega)))⟩
      case measure => simp [intOf]; omega

end Go.Proofs.Ytmdlginjblnfoaa

/- Components in order, as the reference inserts them: the place of an insertion; the components of the first nodes, sorted. No condition on any program. -/
namespace Go.Proofs.Ytmdlginjblnfoaa
open Go.ChangeShapes Go.WideShapes Go.ChangeAt Go.RowKit
set_option linter.unusedVariables false

/-- the component x goes in at place a of l: it comes before none of those ahead of a, and before the one at a -/
structure InsAt (x : CmpD) (l : List CmpD) (a : Nat) : Prop where
  le : a ≤ l.length
  pre : ∀ j (h : j < l.length), j < a → ltL x.code l[j].code = false
  here : ∀ h : a < l.length, ltL x.code l[a].code = true
theorem insC_at {x : CmpD} : ∀ {l : List CmpD} {a : Nat}, InsAt x l a → insC x l = l.take a ++ [x] ++ l.drop a
  | [], a, h => by
    have : a = 0 := by have := h.le; simpa using this
    subst this; rfl
  | y :: l, 0, h => by
    have := h.here (by simp)
    simp only [List.getElem_cons_zero] at this
    simp [insC, this]
  | y :: l, a + 1, h => by
    have h0 := h.pre 0 (by simp) (by omega)
    simp only [List.getElem_cons_zero] at h0
    have ih := insC_at (x := x) (l := l) (a := a) ⟨by have := h.le; simpa using this, fun j hj hja => by have := h.pre (j + 1) (by simpa using hj) (by omega); simpa using this, fun hl => by have := h.here (by simpa using hl); simpa using this⟩
    simp only [insC, h0, Bool.false_eq_true, if_false, ih]
    simp
/-- the components of the nodes below k, sorted -/
def partsTo (N : NetD) (k : Nat) : List CmpD := insAll (stC N k).1
theorem partsTo_all (N : NetD) : partsTo N N.ends.length = sortedC N := rfl
theorem partsTo_in {N : NetD} {k : Nat} (h : (k : Int) ∈ (stC N k).2) : partsTo N (k + 1) = partsTo N k := by
  unfold partsTo; simp only [stC]; rw [if_pos h]
theorem partsTo_new {N : NetD} {k : Nat} (h : ¬ (k : Int) ∈ (stC N k).2) : partsTo N (k + 1) = insC (compD N k) (partsTo N k) := by
  unfold partsTo; simp only [stC]; rw [if_neg h]
  unfold insAll
  rw [List.foldl_append]; rfl
theorem partsTo_len {N : NetD} : ∀ k, (partsTo N k).length ≤ k
  | 0 => Nat.le_refl _
  | k + 1 => by
    have ih := partsTo_len (N := N) k
    by_cases h : (k : Int) ∈ (stC N k).2
    · rw [partsTo_in h]; omega
    · rw [partsTo_new h, (insC_perm _ _).length_eq]; simp; omega
end Go.Proofs.Ytmdlginjblnfoaa

/- Memory of lists of components: the first of them, several more. No condition on any program. -/
namespace Go.Proofs.Ytmdlginjblnfoaa
open Go.ChangeShapes Go.WideShapes Go.ChangeAt Go.RowKit
set_option linter.unusedVariables false
section
variable {enc : CmpV → List Value} {k : Nat} {w w' : World} {base top : Nat} {e : TypeId} {v : Value} {xs ys : List CmpV}
theorem flat_take (hk : ∀ x, (enc x).length = k) : ∀ (xs : List CmpV) (a : Nat), (xs.flatMap enc).take (a * k) = (xs.take a).flatMap enc
  | [], a => by simp
  | x :: xs, 0 => by simp
  | x :: xs, a + 1 => by
    rw [List.flatMap_cons, List.take_succ_cons, List.flatMap_cons, List.take_append, hk, Nat.succ_mul, List.take_of_length_le (by rw [hk]; omega), show a * k + k - k = a * k by omega, flat_take hk xs a]
/-- the first a of them, in the same block -/
theorem CoS.first {A : Option Addr} {n c : Nat} (h : CoS enc k w base top e (.slice A n c) xs) (hk : ∀ x, (enc x).length = k) {a : Nat} (ha : a ≤ xs.length) : CoS enc k w base top e (.slice A a c) (xs.take a) := by
  obtain ⟨h1, h2⟩ := h.row
  have hl : (xs.take a).length = a := by rw [List.length_take]; omega
  have hob : (Value.slice A a c).ownBlock = (Value.slice A n c).ownBlock := by cases A <;> rfl
  refine ⟨⟨flat_len hk _, ?_⟩, h.low, h.high, fun g hg => h.own g (by rw [← hob]; exact hg), fun x hx => ?_⟩
  · rcases h2 with ⟨e1, e2⟩ | ⟨g, cap, cur, e1, r1, r2, r3, r4, r5, r6⟩
    · injection e1 with e1 _ e3
      subst e1 e3
      have : a = 0 := by omega
      subst this
      exact .inl ⟨rfl, hl⟩
    · injection e1 with e1 _ e3
      subst e1 e3
      refine .inr ⟨g, c, cur, by rw [hl], r1, r2, by omega, r4, r5, ?_⟩
      rw [hl, ← flat_take hk, ← r6, List.take_take, Nat.min_eq_left (Nat.mul_le_mul_right k ha)]
  · obtain ⟨lo, hi, b1, b2, b3, b4⟩ := h.el x (List.mem_of_mem_take hx)
    exact ⟨lo, hi, b1, b2, b3, fun g hg => b4 g (by rw [← hob]; exact hg)⟩
/-- several more -/
theorem CoS.app (h : CoS enc k w base top e v xs) {v' : Value} (hg : w.grownBy w' v.ownBlock) (hr : w'.ownsRow base e k v' (xs.length + ys.length) (xs.flatMap enc ++ ys.flatMap enc)) (hv : v'.ownBlock = v.ownBlock ∨ ∃ g, v'.ownBlock = some g ∧ w.heap.size ≤ g)
    (hy : ∀ y ∈ ys, ∃ lo hi, base ≤ lo ∧ hi ≤ w.heap.size ∧ ElOk w lo hi y ∧ ∀ g, v.ownBlock = some g → g < lo ∨ hi ≤ g) : CoS enc k w' base w'.heap.size e v' (xs ++ ys) := by
  have hs := hg.size
  have hlow := h.low
  have hhigh := h.high
  have hap : ∀ lo hi : Nat, hi ≤ w.heap.size → (∀ g, v.ownBlock = some g → g < lo ∨ hi ≤ g) → ∀ g, v'.ownBlock = some g → g < lo ∨ hi ≤ g := fun lo hi h1 h2 g hg2 => by
    rcases hv with e1 | ⟨g', e1, hg'⟩
    · exact h2 g (by rw [← e1]; exact hg2)
    · rw [e1] at hg2; injection hg2 with hg2; omega
  refine ⟨?_, by omega, Nat.le_refl _, fun g hg2 => (World.ownsRow.lt hr g hg2).2, fun y hy2 => ?_⟩
  · rw [List.length_append, List.flatMap_append]; exact hr
  · rw [List.mem_append] at hy2
    rcases hy2 with hy2 | hy2
    · obtain ⟨lo', hi', a1, a2, a3, a4⟩ := h.el y hy2
      exact ⟨lo', hi', a1, by omega, a3.far hg (by omega) a4, hap lo' hi' (by omega) a4⟩
    · obtain ⟨lo', hi', a1, a2, a3, a4⟩ := hy y hy2
      exact ⟨lo', hi', a1, by omega, a3.far hg a2 a4, hap lo' hi' a2 a4⟩
end
end Go.Proofs.Ytmdlginjblnfoaa

/- append of several components onto a row of the call's own. No condition on any program. -/
namespace Go.Proofs.Ytmdlginjblnfoaa
open Go.ChangeShapes Go.WideShapes Go.ChangeAt Go.RowKit
set_option linter.unusedVariables false
theorem ElOk.oneS {w : World} {lo hi : Nat} {x : CmpV} (h : ElOk w lo hi x) : ∀ u ∈ encS x, u.oneCell' = true := fun u hu => by
  obtain ⟨A1, c1, e1, _, _⟩ := h.code.dims
  obtain ⟨A2, c2, e2, _, _⟩ := h.walk.dims
  have hu' : u ∈ [x.vc, x.vw, .int .i64 (x.c.cnt : Nat)] := hu
  rw [e1, e2] at hu'
  simp only [List.mem_cons, List.not_mem_nil, or_false] at hu'
  rcases hu' with rfl | rfl | rfl <;> rfl
theorem append_cs {P : Program} {ops : Array Oper} {rest : List Oper} {o : Oper} {a : Act} {Q : Exit → Act → World → Prop} {t e : TypeId} {z : Value} {bytes k : Nat} {enc : CmpV → List Value}
    (ht : P.underlying t = some (.slice e)) (hinfo : (P.info? e).map (fun i => (i.zero, i.size, i.bytes)) = some (some z, k, bytes)) (hz1 : z.cells.size = k) (hk0 : 0 < k) (hby : bytes ≤ 64) (hk : ∀ x, (enc x).length = k)
    (w : World) (hgd : o.guard = none) {s : Operand} (x : Operand) (ho : o.op = .call { callee := .builtin .append, args := #[s, x], argTypes := #[t, t] })
    {base top : Nat} {v : Value} {xs : List CmpV} (hown : CoS enc k w base top e v xs) (hs : a.eval s = v) {ad : Addr} {c : Nat} (ys : List CmpV) (hx : a.eval x = .slice (some ad) ys.length c)
    (hnews : ∀ j u, (ys.flatMap enc)[j]? = some u → w.cell? (ad.add j) = some u) (h1 : ∀ y ∈ ys, ∀ u ∈ enc y, u.oneCell' = true)
    (hy : ∀ y ∈ ys, ∃ lo hi, base ≤ lo ∧ hi ≤ w.heap.size ∧ ElOk w lo hi y ∧ ∀ g, v.ownBlock = some g → g < lo ∨ hi ≤ g) (hlen : xs.length + ys.length ≤ 1000000)
    (h : ∀ v' w', CoS enc k w' base w'.heap.size e v' (xs ++ ys) → w.grownBy w' v.ownBlock → wpList P ops Q rest (a.put o.dst v') w') :
    wpList P ops Q (o :: rest) a w := by
  have hlow := hown.low
  have hhigh := hown.high
  refine append_row (m := ys.length) ht hinfo hz1 hk0 hby w hgd x ho hown.row hs (ys.flatMap enc) hx (flat_len hk ys) hnews (fun u hu => ?_) (by omega) (by omega) fun v' w' a1 a2 a3 => ?_
  · obtain ⟨y, hy1, hy2⟩ := List.mem_flatMap.1 hu
    exact h1 y hy1 u hy2
  · exact h v' w' (hown.app a2 a1 (a3.imp id fun e => ⟨_, e, Nat.le_refl _⟩) hy) a2
end Go.Proofs.Ytmdlginjblnfoaa

/- A row of components and a row of numbers that grow in turn, both of the call's own. No condition on any program. -/
namespace Go.Proofs.Ytmdlginjblnfoaa
open Go.ChangeShapes Go.WideShapes Go.ChangeAt Go.RowKit
set_option linter.unusedVariables false

structure CoX (enc : CmpV → List Value) (k : Nat) (w : World) (base top : Nat) (e : TypeId) (v : Value) (xs : List CmpV) (u : Value) (zs : List Int) : Prop where
  row : w.ownsRow base e k v xs.length (xs.flatMap enc)
  low : base ≤ top
  high : top ≤ w.heap.size
  own : ∀ g, v.ownBlock = some g → g < top
  num : OwnI w base 3 u zs
  ne : ∀ g, u.ownBlock = some g → v.ownBlock ≠ some g
  el : ∀ x ∈ xs, ∃ lo hi, base ≤ lo ∧ hi ≤ top ∧ ElOk w lo hi x ∧ (∀ g, v.ownBlock = some g → g < lo ∨ hi ≤ g) ∧ ∀ g, u.ownBlock = some g → g < lo ∨ hi ≤ g
section
variable {enc : CmpV → List Value} {k : Nat} {w w' : World} {base top : Nat} {e : TypeId} {v u : Value} {xs ys : List CmpV} {zs : List Int}
theorem CoX.co (h : CoX enc k w base top e v xs u zs) : CoS enc k w base top e v xs :=
  ⟨h.row, h.low, h.high, h.own, fun x hx => let ⟨lo, hi, a1, a2, a3, a4, _⟩ := h.el x hx; ⟨lo, hi, a1, a2, a3, a4⟩⟩
theorem CoX.nil (enc : CmpV → List Value) (k : Nat) (w : World) (base : Nat) (e : TypeId) (h : base ≤ w.heap.size) : CoX enc k w base base e (.slice none 0 0) [] (.slice none 0 0) [] :=
  ⟨World.ownsRow_nil w base e k, Nat.le_refl _, h, (fun g h => by cases h), OwnI.nil _ _ _, (fun g h => by cases h), (fun x h => by cases h)⟩
theorem CoX.lt (h : CoX enc k w base top e v xs u zs) : ∀ g, v.ownBlock = some g → base ≤ g ∧ g < top := h.co.lt
theorem CoX.far {row : Option Nat} (h : CoX enc k w base top e v xs u zs) (hg : w.grownBy w' row) (hr : ∀ g, row = some g → (g < base ∨ top ≤ g) ∧ u.ownBlock ≠ some g) : CoX enc k w' base top e v xs u zs := by
  have hc := h.co.far hg (fun g e => (hr g e).1)
  refine ⟨hc.row, h.low, hc.high, h.own, h.num.kept hg ?_, h.ne, fun x hx => ?_⟩
  · cases hu : u.ownBlock with
    | none => exact .inl rfl
    | some g => right; intro e2; exact (hr g e2.symm).2 hu
  · obtain ⟨lo, hi, a1, a2, a3, a4, a5⟩ := h.el x hx
    exact ⟨lo, hi, a1, a2, a3.far hg (by have := h.high; omega) (fun g hg2 => by have := (hr g hg2).1; omega), a4, a5⟩
theorem CoX.still (h : CoX enc k w base top e v xs u zs) (hg : w.grownBy w' none) : CoX enc k w' base top e v xs u zs := h.far hg (fun g e => by cases e)
theorem CoX.mono (h : CoX enc k w base top e v xs u zs) {top' : Nat} (h1 : top ≤ top') (h2 : top' ≤ w.heap.size) : CoX enc k w base top' e v xs u zs :=
  ⟨h.row, Nat.le_trans h.low h1, h2, fun g hg => Nat.lt_of_lt_of_le (h.own g hg) h1, h.num, h.ne, fun x hx => let ⟨lo, hi, a1, a2, a3⟩ := h.el x hx; ⟨lo, hi, a1, Nat.le_trans a2 h1, a3⟩⟩
/-- the numbers have grown -/
theorem CoX.more (h : CoX enc k w base top e v xs u zs) {u' : Value} {zs' : List Int} (hg : w.grownBy w' u.ownBlock) (ho : OwnI w' base 3 u' zs') (hv : u'.ownBlock = u.ownBlock ∨ ∃ g, u'.ownBlock = some g ∧ w.heap.size ≤ g) : CoX enc k w' base top e v xs u' zs' := by
  have hs := hg.size
  have hhigh := h.high
  have hapv : v.ownBlock = none ∨ v.ownBlock ≠ u.ownBlock := by
    cases e1 : v.ownBlock with
    | none => exact .inl rfl
    | some g => right; intro e2; exact h.ne g e2.symm e1
  refine ⟨World.ownsRow.kept h.row hg hapv, h.low, by omega, h.own, ho, fun g hg2 hv2 => ?_, fun x hx => ?_⟩
  · rcases hv with e1 | ⟨g', e1, hg'⟩
    · exact h.ne g (by rw [← e1]; exact hg2) hv2
    · rw [e1] at hg2; injection hg2 with hg2; have := h.own g hv2; omega
  · obtain ⟨lo, hi, a1, a2, a3, a4, a5⟩ := h.el x hx
    refine ⟨lo, hi, a1, a2, a3.far hg (by omega) a5, a4, fun g hg2 => ?_⟩
    rcases hv with e1 | ⟨g', e1, hg'⟩
    · exact a5 g (by rw [← e1]; exact hg2)
    · rw [e1] at hg2; injection hg2 with hg2; omega
/-- the first a of them, in the same block -/
theorem CoX.first {A : Option Addr} {n c : Nat} (h : CoX enc k w base top e (.slice A n c) xs u zs) (hk : ∀ x, (enc x).length = k) {a : Nat} (ha : a ≤ xs.length) : CoX enc k w base top e (.slice A a c) (xs.take a) u zs := by
  have hc := h.co.first hk ha
  have hob : (Value.slice A a c).ownBlock = (Value.slice A n c).ownBlock := by cases A <;> rfl
  refine ⟨hc.row, hc.low, hc.high, hc.own, h.num, fun g hg => by rw [hob]; exact h.ne g hg, fun x hx => ?_⟩
  obtain ⟨lo, hi, a1, a2, a3, a4, a5⟩ := h.el x (List.mem_of_mem_take hx)
  exact ⟨lo, hi, a1, a2, a3, fun g hg => a4 g (by rw [← hob]; exact hg), a5⟩
/-- several more components -/
theorem CoX.app (h : CoX enc k w base top e v xs u zs) {v' : Value} (hg : w.grownBy w' v.ownBlock) (hr : w'.ownsRow base e k v' (xs.length + ys.length) (xs.flatMap enc ++ ys.flatMap enc)) (hv : v'.ownBlock = v.ownBlock ∨ ∃ g, v'.ownBlock = some g ∧ w.heap.size ≤ g)
    (hy : ∀ y ∈ ys, ∃ lo hi, base ≤ lo ∧ hi ≤ w.heap.size ∧ ElOk w lo hi y ∧ (∀ g, v.ownBlock = some g → g < lo ∨ hi ≤ g) ∧ ∀ g, u.ownBlock = some g → g < lo ∨ hi ≤ g) : CoX enc k w' base w'.heap.size e v' (xs ++ ys) u zs := by
  have hs := hg.size
  have hlow := h.low
  have hhigh := h.high
  have hc := h.co.app hg hr hv (fun y hy2 => let ⟨lo, hi, a1, a2, a3, a4, _⟩ := hy y hy2; ⟨lo, hi, a1, a2, a3, a4⟩)
  have hap : ∀ lo hi : Nat, hi ≤ w.heap.size → (∀ g, v.ownBlock = some g → g < lo ∨ hi ≤ g) → ∀ g, v'.ownBlock = some g → g < lo ∨ hi ≤ g := fun lo hi h1 h2 g hg2 => by
    rcases hv with e1 | ⟨g', e1, hg'⟩
    · exact h2 g (by rw [← e1]; exact hg2)
    · rw [e1] at hg2; injection hg2 with hg2; omega
  refine ⟨hc.row, hc.low, hc.high, hc.own, h.num.kept hg ?_, fun g hg2 hv2 => ?_, fun y hy2 => ?_⟩
  · cases hu : u.ownBlock with
    | none => exact .inl rfl
    | some g => right; intro e2; exact h.ne g hu e2.symm
  · rcases hv with e1 | ⟨g', e1, hg'⟩
    · exact h.ne g hg2 (by rw [← e1]; exact hv2)
    · rw [e1] at hv2; injection hv2 with hv2; have := (h.num.lt g hg2).2; omega
  · rw [List.mem_append] at hy2
    rcases hy2 with hy2 | hy2
    · obtain ⟨lo', hi', a1, a2, a3, a4, a5⟩ := h.el y hy2
      exact ⟨lo', hi', a1, by omega, a3.far hg (by omega) a4, hap lo' hi' (by omega) a4, a5⟩
    · obtain ⟨lo', hi', a1, a2, a3, a4, a5⟩ := hy y hy2
      exact ⟨lo', hi', a1, by omega, a3.far hg a2 a4, hap lo' hi' a2 a4, a5⟩
end
/-- append of several numbers, and where the row lies -/
theorem append_intsA {P : Program} {ops : Array Oper} {rest : List Oper} {o : Oper} {a : Act} {Q : Exit → Act → World → Prop} {t e : TypeId} {bytes : Nat}
    (ht : P.underlying t = some (.slice e)) (hinfo : (P.info? e).map (fun i => (i.zero, i.size, i.bytes)) = some (some (.int .i64 0), 1, bytes)) (hby : bytes ≤ 64)
    (w : World) (hgd : o.guard = none) {s : Operand} (x : Operand) (ho : o.op = .call { callee := .builtin .append, args := #[s, x], argTypes := #[t, t] })
    {base : Nat} {v : Value} {zs : List Int} (hown : OwnI w base e v zs) (hs : a.eval s = v) {g off m c : Nat} (ys : List Int) (hm : ys.length = m) (hx : a.eval x = .slice (some ⟨g, off, none⟩) m c)
    (hcell : ∀ j, j < m → w.cell? ⟨g, off + j, none⟩ = some (.int .i64 (nth ys j))) (hlen : zs.length + m ≤ 1099511627776) (hbase : base ≤ w.heap.size)
    (h : ∀ v' w', OwnI w' base e v' (zs ++ ys) → w.grownBy w' v.ownBlock → (v'.ownBlock = v.ownBlock ∨ ∃ g, v'.ownBlock = some g ∧ w.heap.size ≤ g) → wpList P ops Q rest (a.put o.dst v') w') :
    wpList P ops Q (o :: rest) a w := by
  refine append_row ht hinfo rfl (by omega) hby w hgd x ho hown hs (ys.map (Value.int .i64)) hx (by simp [hm]) ?_ ?_ (by simpa using hlen) hbase fun v' w' a1 a2 a3 => h v' w' ?_ a2 (a3.imp id fun e => ⟨_, e, Nat.le_refl _⟩)
  · intro j u hj
    have hjl : j < ys.length := by have := (List.getElem?_eq_some_iff.1 hj).1; simpa using this
    rw [List.getElem?_map, nth_get? hjl] at hj
    rw [show (⟨g, off, none⟩ : Addr).add j = ⟨g, off + j, none⟩ from Go.WideShapes.add_plain g off j, hcell j (by omega)]
    exact hj
  · intro u hu
    obtain ⟨z, _, rfl⟩ := List.mem_map.1 hu
    rfl
  · unfold OwnI Own
    rw [List.map_append]
    simpa [hm] using a1
theorem flat_drop {enc : CmpV → List Value} {k : Nat} (hk : ∀ x, (enc x).length = k) : ∀ (xs : List CmpV) (a : Nat), (xs.flatMap enc).drop (a * k) = (xs.drop a).flatMap enc
  | [], a => by simp
  | x :: xs, 0 => by simp
  | x :: xs, a + 1 => by
    rw [List.flatMap_cons, List.drop_succ_cons, Nat.succ_mul, List.drop_append, hk, List.drop_eq_nil_of_le (by rw [hk]; omega), show a * k + k - k = a * k by omega, flat_drop hk xs a, List.nil_append]
/-- the cells of the last ones -/
theorem CoS.news {enc : CmpV → List Value} {k : Nat} {w : World} {base top : Nat} {e : TypeId} {b n c : Nat} {xs : List CmpV} (h : CoS enc k w base top e (.slice (some ⟨b, 0, none⟩) n c) xs) (hk : ∀ x, (enc x).length = k) {a : Nat} :
    ∀ j u, ((xs.drop a).flatMap enc)[j]? = some u → w.cell? ⟨b, a * k + j, none⟩ = some u := fun j u hj => by
  obtain ⟨h1, h2⟩ := h.row
  rcases h2 with ⟨e1, _⟩ | ⟨g, cap, cur, e1, r1, r2, r3, r4, r5, r6⟩
  · cases e1
  · injection e1 with e1 _ _
    injection e1 with e1
    injection e1 with e1 _ _
    subst e1
    rw [← flat_drop hk, List.getElem?_drop] at hj
    have hlt : a * k + j < xs.length * k := by rw [← h1]; exact (List.getElem?_eq_some_iff.1 hj).1
    rw [← r6, List.getElem?_take_of_lt hlt] at hj
    rw [cell_of_row w b _ cur e (0, 0) r2]
    simpa using hj
theorem CoX.none_ {enc : CmpV → List Value} {k : Nat} {w : World} {base top : Nat} {e : TypeId} {n c : Nat} {xs : List CmpV} {u : Value} {zs : List Int} (h : CoX enc k w base top e (.slice none n c) xs u zs) : n = 0 ∧ c = 0 ∧ xs.length = 0 := by
  obtain ⟨h1, h2⟩ := h.row
  rcases h2 with ⟨e1, e2⟩ | ⟨g, cap, cur, e1, _⟩
  · injection e1 with _ e3 e4; exact ⟨e3, e4, e2⟩
  · cases e1
theorem CoX.some_ {enc : CmpV → List Value} {k : Nat} {w : World} {base top : Nat} {e : TypeId} {ad : Addr} {n c : Nat} {xs : List CmpV} {u : Value} {zs : List Int} (h : CoX enc k w base top e (.slice (some ad) n c) xs u zs) : ∃ b, ad = ⟨b, 0, none⟩ ∧ base ≤ b ∧ b < top := by
  obtain ⟨h1, h2⟩ := h.row
  rcases h2 with ⟨e1, e2⟩ | ⟨g, cap, cur, e1, r1, _⟩
  · cases e1
  · injection e1 with e1 _ _
    injection e1 with e1
    subst e1
    exact ⟨g, rfl, r1, h.own g rfl⟩
end Go.Proofs.Ytmdlginjblnfoaa

/- l1Put, node after node over a list without repeats: the list, sorted. No condition on any program. -/
namespace Go.Proofs.Ytmdlginjblnfoaa
open Go.ChangeShapes Go.WideShapes Go.ChangeAt Go.RowKit
set_option linter.unusedVariables false
theorem after_put (v : Int) : ∀ (S : List Int), S.Pairwise (· < ·) → v ∉ S → ∀ y ∈ S.dropWhile (fun y => decide (y < v)), v < y
  | [], _, _, y, hy => by simp at hy
  | z :: S, hs, hv, y, hy => by
    rw [List.pairwise_cons] at hs
    rw [List.dropWhile_cons] at hy
    by_cases h : z < v
    · rw [if_pos (by simpa using h)] at hy
      exact after_put v S hs.2 (fun h => hv (List.mem_cons_of_mem _ h)) y hy
    · rw [if_neg (by simpa using h)] at hy
      have hne : z ≠ v := fun e => hv (by simp [e])
      rcases List.mem_cons.1 hy with rfl | hy
      · omega
      · have := hs.1 y hy; omega
theorem before_put (v : Int) : ∀ (S : List Int), ∀ y ∈ S.takeWhile (fun y => decide (y < v)), y < v
  | [], y, hy => by simp at hy
  | z :: S, y, hy => by
    rw [List.takeWhile_cons] at hy
    by_cases h : z < v
    · rw [if_pos (by simpa using h)] at hy
      rcases List.mem_cons.1 hy with rfl | hy
      · exact h
      · exact before_put v S y hy
    · rw [if_neg (by simpa using h)] at hy; cases hy
theorem put_parts (S : List Int) (v : Int) : S.take (putK S v) = S.takeWhile (fun y => decide (y < v)) ∧ S.drop (putK S v) = S.dropWhile (fun y => decide (y < v)) := by
  have h := List.takeWhile_append_dropWhile (p := fun y => decide (y < v)) (l := S)
  unfold putK
  constructor
  · conv => lhs; arg 2; rw [← h]
    rw [List.take_left']; rfl
  · conv => lhs; arg 2; rw [← h]
    rw [List.drop_left']; rfl
theorem put_sort {U : List Int} {v : Int} (hn : U.Nodup) (hv : v ∉ U) : putL (sortI U) v = sortI (U ++ [v]) := by
  have hp := sortI_perm U
  have hvs : v ∉ sortI U := fun h => hv (hp.mem_iff.1 h)
  have hss : (sortI U).Pairwise (· < ·) := (List.Pairwise.and (sortI_sorted U) (hp.nodup_iff.2 hn)).imp fun h => by omega
  have hne : ¬ (putK (sortI U) v < (sortI U).length ∧ nth (sortI U) (putK (sortI U) v) = v) := fun h => hvs (by rw [← h.2]; exact nth_mem h.1)
  obtain ⟨e1, e2⟩ := put_parts (sortI U) v
  have heq : putL (sortI U) v = (sortI U).takeWhile (fun y => decide (y < v)) ++ [v] ++ (sortI U).dropWhile (fun y => decide (y < v)) := by unfold putL; rw [if_neg hne, e1, e2]
  rw [heq]
  have hbefore : ∀ y ∈ (sortI U).takeWhile (fun y => decide (y < v)), y < v := before_put v (sortI U)
  have hafter := after_put v (sortI U) hss hvs
  have hsplit := List.takeWhile_append_dropWhile (p := fun y => decide (y < v)) (l := sortI U)
  have hpw : ((sortI U).takeWhile (fun y => decide (y < v)) ++ (sortI U).dropWhile (fun y => decide (y < v))).Pairwise (· < ·) := by rw [hsplit]; exact hss
  rw [List.pairwise_append] at hpw
  apply List.Perm.eq_of_pairwise (le := (· ≤ ·)) (fun a b _ _ h1 h2 => by omega)
  · rw [List.pairwise_append, List.pairwise_append]
    refine ⟨⟨hpw.1.imp fun h => by omega, by simp, fun a ha b hb => ?_⟩, hpw.2.1.imp fun h => by omega, fun a ha b hb => ?_⟩
    · simp at hb; subst hb; have := hbefore a ha; omega
    · have h2 := hafter b hb
      rcases List.mem_append.1 ha with ha | ha
      · have := hbefore a ha; omega
      · simp at ha; subst ha; omega
  · exact sortI_sorted _
  · refine List.Perm.trans ?_ (sortI_perm (U ++ [v])).symm
    rw [List.append_assoc]
    refine List.Perm.trans (List.Perm.append_left _ List.perm_append_comm) ?_
    rw [← List.append_assoc, hsplit]
    exact hp.append_right _
theorem put_take {L : List Int} (hn : L.Nodup) {j : Nat} (hj : j < L.length) : putL (sortI (L.take j)) (nth L j) = sortI (L.take (j + 1)) := by
  have e : L.take (j + 1) = L.take j ++ [nth L j] := by rw [List.take_succ_eq_append_getElem hj, ← nth_eq hj]
  have h : (L.take (j + 1)).Nodup := hn.sublist (List.take_sublist _ _)
  rw [e] at h
  rw [e, put_sort (hn.sublist (List.take_sublist _ _))]
  intro hm
  rw [List.nodup_append] at h
  exact h.2.2 _ hm _ (by simp) rfl
end Go.Proofs.Ytmdlginjblnfoaa

/- Contract: isParts (reference). -/
namespace Go.Proofs.Ytmdlginjblnfoaa
open Go.ChangeShapes Go.WideShapes Go.ChangeAt Go.RowKit
set_option linter.unusedVariables false

theorem infoPt : (Try.prog.info? 60).map (fun i => (i.zero, i.size, i.bytes)) = some (some (.agg #[.slice none 0 0, .slice none 0 0, .int .i64 0]), 3, 56) := by kernel_rfl

set_option maxHeartbeats 8000000 in
set_option maxRecDepth 100000 in
theorem isParts_any (v1 : Value) (N : NetD) (lo1 hi1 : Nat) (w : World) (h1 : Net w lo1 hi1 v1 N) (hh1 : hi1 ≤ w.heap.size) (hg : N.good = true) :
    Calls Try.prog 34 #[v1] w fun e w' => ∃ r xs, e = .returned r ∧ xs.map CmpV.c = sortedC N ∧ CoS encS 3 w' w.heap.size w'.heap.size 60 r xs ∧ Below w.heap.size w w' := by
  obtain ⟨n1, n40⟩ := good_n hg
  have HG := Lib.hid hg; clear hg
  have HNO := Lib.hid (good_nodes HG.out)
  have F1 := Lib.hid h1
  obtain ⟨A1, c1, A1', c1', A1'', c1'', rfl, hc1, hd1, _⟩ := h1.parts
  obtain ⟨b1, o1, _, _, rfl, _⟩ := Net.rowAt F1.out (u := 0) (by omega)
  clear h1
  obtain ⟨WA, HWA⟩ : ∃ W, Hid (W = (w.alloc (.cells #[.slice (some ⟨b1, o1, none⟩) N.ends.length c1, .slice A1' N.ids.length c1', .slice A1'' N.inputs.length c1''] 31))) := ⟨_, Lib.hid rfl⟩
  have hbA : Below w.heap.size w WA := by rw [HWA.out]; exact ((Below.refl _ _).alloc (Nat.le_refl _) _)
  have hsA : w.heap.size + 1 ≤ WA.heap.size := by rw [HWA.out]; simp; try omega
  have bx1 : BoxN WA (w.heap.size) #[.slice (some ⟨b1, o1, none⟩) N.ends.length c1, .slice A1' N.ids.length c1', .slice A1'' N.inputs.length c1''] 31 := by rw [HWA.out]; exact (BoxN.new' _ _ _ (by simp))
  have G1 := Lib.hid (Net.below F1.out hbA hh1); clear F1
  go_enter Try.func34, Try.ntmps34
  go_upto_region 1 with (fail)
  rw [← HWA.out]; clear HWA
  have kbx1_0 : WA.cell? ⟨w.heap.size, 0, none⟩ = some (.slice (some ⟨b1, o1, none⟩) N.ends.length c1) := bx1.cell 0 (by simp)
  have kbx1_1 : WA.cell? ⟨w.heap.size, 1, none⟩ = some (.slice A1' N.ids.length c1') := bx1.cell 1 (by simp)
  have kbx1_2 : WA.cell? ⟨w.heap.size, 2, none⟩ = some (.slice A1'' N.inputs.length c1'') := bx1.cell 2 (by simp)
  go_wp2_with fail
  clear kbx1_0 kbx1_1 kbx1_2
  go_loopw [19, 4, 3] (fun kv sv ov wr => ∃ (k : Nat) (seen : List Int) (xs : List CmpV) (top : Nat), k ≤ N.ends.length ∧ kv = .int .i64 k ∧ Hid (∀ u : Nat, (u : Int) ∈ seen ↔ (u : Int) ∈ (stC N k).2) ∧ seen.length ≤ 40 * k ∧ Hid (CoX encS 3 wr WA.heap.size top 60 ov xs sv seen) ∧ Hid (xs.map CmpV.c = partsTo N k) ∧ Hid (Turned WA.heap.size WA.heap.size WA wr)) (fun kv sv ov _ => N.ends.length - (intOf kv).toNat)
  case atStart => exact ⟨0, [], [], WA.heap.size, Nat.zero_le _, rfl, Lib.hid (fun u => by simp [stC]), Nat.zero_le _, Lib.hid (CoX.nil _ _ _ _ _ (Nat.le_refl _)), Lib.hid rfl, Lib.hid (Turned.refl WA.heap.size WA.heap.size WA)⟩
  case round =>
    obtain ⟨k, seen, xs, top, hk, rfl, HSN, hsl, HX, HXC, HF1⟩ := hrel
    have hs1 := HF1.out.size
    obtain ⟨wq, rfl⟩ : ∃ wq : World, wq = wr := ⟨_, rfl⟩
    have hxh := HX.out.high
    have hxlo := HX.out.low
    have hpl := partsTo_len (N := N) k
    have hxl : xs.length ≤ k := by rw [← HXC.out, List.length_map] at hpl; exact hpl
    clear hpl
    obtain ⟨Ao, co, rfl, hco, hdo⟩ := HX.out.co.len
    obtain ⟨As, cs, rfl, hcs, hds⟩ := HX.out.num.ints.dims
    by_cases hkn : k < N.ends.length
    case neg =>
      obtain rfl : k = N.ends.length := by omega
      go_wp2_with fail
      go_ret
      exact ⟨_, xs, rfl, HXC.out, (HX.out.co.weak (by omega)).mono hxh (Nat.le_refl _), (HF1.out.below_of hbA (by omega) (by omega))⟩
    have hki : (k : Int) < N.ends.length := by omega
    by_cases hin : (k : Int) ∈ (stC N k).2
    case pos =>
      have hd : decide ((k : Int) ∈ seen) = true := decide_eq_true ((HSN.out k).2 hin)
      have HPT := Lib.hid (partsTo_in hin)
      have HST := Lib.hid (show (stC N (k + 1)).2 = (stC N k).2 by simp only [stC]; rw [if_pos hin])
      go_wp2_with (go_at_call 47; refine (l1Has_any _ seen (k : Nat) _ _ _ HX.out.num.ints).mono ?_; rintro e w' ⟨rfl, rfl⟩; rw [hd])
      go_roundw
      case rel => exact ⟨k + 1, seen, xs, top, by omega, by go_num, Lib.hid (by rw [HST.out]; exact HSN.out), by omega, HX, Lib.hid (by rw [HPT.out]; exact HXC.out), HF1⟩
      case measure => simp [intOf]; omega
    have hd : decide ((k : Int) ∈ seen) = false := decide_eq_false (fun h => hin ((HSN.out k).1 h))
    have HPT := Lib.hid (partsTo_new hin)
    have HST := Lib.hid (show (stC N (k + 1)).2 = (stC N k).2 ++ nodesOf N k by simp only [stC]; rw [if_neg hin])
    have HUL := Lib.hid (fun g e => (HX.out.num.lt g e).2)
    clear hin
    go_upto_region 8 with (go_at_call 47; refine (l1Has_any _ seen (k : Nat) _ _ _ HX.out.num.ints).mono ?_; rintro e w' ⟨rfl, rfl⟩; rw [hd])
    refine nameC ?_
    intro W2 HW2
    have hg2 : wq.grownBy W2 none := by rw [HW2.out]; exact grown_alloc _ _
    have hs2 := hg2.size
    have HF2 := Lib.hid (HF1.out.still hg2); clear HF1
    have X2 := Lib.hid (CoX.still HX.out hg2); clear HX
    have CB2 := Lib.hid (show BoxN W2 wq.heap.size #[.slice none 0 0, .slice none 0 0, .int .i64 0] 60 by rw [HW2.out]; exact BoxN.new _ _ _)
    clear HW2
    have kbx1_0 : W2.cell? ⟨w.heap.size, 0, none⟩ = some (.slice (some ⟨b1, o1, none⟩) N.ends.length c1) := (HF2.out.boxN bx1 (by omega)).cell 0 (by simp)
    have kbx1_1 : W2.cell? ⟨w.heap.size, 1, none⟩ = some (.slice A1' N.ids.length c1') := (HF2.out.boxN bx1 (by omega)).cell 1 (by simp)
    have kbx1_2 : W2.cell? ⟨w.heap.size, 2, none⟩ = some (.slice A1'' N.inputs.length c1'') := (HF2.out.boxN bx1 (by omega)).cell 2 (by simp)
    go_wp2_with fail
    clear kbx1_0 kbx1_1 kbx1_2
    have hgC : wq.heap.size < W2.heap.size := CB2.out.lt
    refine (isWalk_any _ N lo1 hi1 k _ (Net.turned G1.out HF2.out (by omega) (by omega)) (by omega) HG.out hkn).mono ?_
    rintro e W3 ⟨rw3, rfl, hw3, hb3⟩
    have hg3 := grown_below hb3; clear hb3
    have hs3 := hg3.size
    have HF3 := Lib.hid (HF2.out.still hg3); clear HF2
    have X3 := Lib.hid (CoX.still X2.out hg3); clear X2
    have CB3 := Lib.hid (BoxN.still CB2.out hg3); clear CB2
    have L3 := Lib.hid hw3; clear hw3
    obtain ⟨Al, cl, rfl, hcl, hdl⟩ := L3.out.dims
    have hwl := (walk_ok HNO.out hkn).len
    go_wp2_with fail
    go_loopw [30, 7] (fun jv rv wr => ∃ (j : Nat), j ≤ (walkN N k).length ∧ jv = .int .i64 j ∧ Hid (OwnI wr W3.heap.size 3 rv (sortI ((walkN N k).take j))) ∧ Hid (CoX encS 3 wr WA.heap.size top 60 (.slice Ao xs.length co) xs (.slice As seen.length cs) seen) ∧ Hid (IntS wr W2.heap.size W3.heap.size (.slice Al (walkN N k).length cl) (walkN N k)) ∧ Hid (BoxN wr wq.heap.size #[.slice none 0 0, .slice none 0 0, .int .i64 0] 60) ∧ W3.heap.size ≤ wr.heap.size ∧ Hid (Turned WA.heap.size WA.heap.size WA wr)) (fun jv rv _ => (walkN N k).length - (intOf jv).toNat)
    case atStart => exact ⟨0, Nat.zero_le _, rfl, Lib.hid (by rw [List.take_zero, show sortI [] = [] from by simp [sortI]]; exact OwnI.nil _ _ _), X3, L3, CB3, Nat.le_refl _, HF3⟩
    case round =>
      clear HF3
      obtain ⟨j, hj, rfl, HR, HX, HL, HB, hbz, HF4⟩ := hrel
      have hs4 := HF4.out.size
      obtain ⟨wt, rfl⟩ : ∃ wt : World, wt = wr := ⟨_, rfl⟩
      have hwl := (walk_ok HNO.out hkn).len
      have hrl : (sortI ((walkN N k).take j)).length ≤ 40 := by rw [sortI_length, List.length_take]; omega
      by_cases hjn : j < (walkN N k).length
      case pos =>
        have hji : (j : Int) < (walkN N k).length := by omega
        obtain ⟨bn, on, rfl, _, _, xn, _⟩ := IntS.opened HL.out hjn
        have HPJ := Lib.hid (put_take (walk_ok HNO.out hkn).nodup hjn)
        go_wp2_with fail
        refine (l1Put_any _ _ _ _ _ HR.out (by omega) (by omega)).mono ?_
        rintro e W5 ⟨r9, rfl, hr9, hb9⟩
        have hg9 := grown_below hb9; clear hb9
        rw [HPJ.out] at hr9
        have HR9 := Lib.hid hr9; clear hr9 xn
        have hs5 := hg9.size
        have HF5 := Lib.hid (HF4.out.still hg9); clear HF4
        have X5 := Lib.hid (CoX.still HX.out hg9); clear HX
        have L5 := Lib.hid (IntS.still HL.out hg9 (by omega)); clear HL
        have CB5 := Lib.hid (BoxN.still HB.out hg9); clear HB
        go_wp2_with fail
        go_roundw
        case rel => exact ⟨j + 1, by omega, by go_num, HR9, X5, L5, CB5, by omega, HF5⟩
        case measure => simp [intOf]; omega
      obtain rfl : j = (walkN N k).length := by omega
      rw [List.take_length] at HR hrl
      have HR2 := Lib.hid (show OwnI wt _ _ _ (nodesOf N k) from HR.out)
      have hnp : 0 < (nodesOf N k).length := by unfold nodesOf; rw [sortI_length]; exact List.length_pos_of_mem (walk_pos HNO.out hkn)
      have hnl : (nodesOf N k).length ≤ N.ends.length := nodes_len HG.out hkn
      obtain ⟨ns, HNS⟩ : ∃ l, Hid (nodesOf N k = l) := ⟨_, Lib.hid rfl⟩
      rw [HNS.out] at HR2 hnp hnl HST
      clear HR hrl
      obtain ⟨An, cn, rfl, hcn, hdn⟩ := HR2.out.ints.dims
      obtain ⟨gn, on, rfl, _, _, _, _⟩ := IntS.opened HR2.out.ints hnp
      have HNC := Lib.hid (show ∀ j, j < ns.length → wt.cell? ⟨gn, on + j, none⟩ = some (.int .i64 (nth ns j)) from fun j hj => (IntS.at_ HR2.out.ints hj).1)
      have HNI := Lib.hid (show IntS wt W3.heap.size wt.heap.size (.slice (some ⟨gn, on, none⟩) ns.length cn) ns from HR2.out.ints)
      clear HR2
      obtain ⟨sn, HS2⟩ : ∃ l, Hid (seen ++ ns = l) := ⟨_, Lib.hid rfl⟩
      go_wp2_with (at_builtin; refine append_intsA (s := .tmp 38) Try.underlying23 Try.info3 (by decide) wt rfl (.tmp 39) rfl HX.out.num rfl (g := gn) (off := on) ns rfl rfl HNC.out (by omega) (by omega) ?_; intro v5 w5 ho5 hg5 hat5; rw [HS2.out] at ho5)
      have hs5 := hg5.size
      have HUC := Lib.hid (show ∀ g, v5.ownBlock = some g → g ≠ wq.heap.size ∧ g < w5.heap.size from fun g e => by
        refine ⟨?_, (ho5.lt g e).2⟩
        rcases hat5 with e1 | ⟨g', e1, h1⟩
        · have := HUL.out g (by rw [← e1]; exact e); omega
        · rw [e1] at e; injection e with e; omega)
      have X5 := Lib.hid (CoX.more HX.out hg5 ho5 hat5)
      have N5 := Lib.hid (IntS.far HNI.out hg5 (Nat.le_refl _) (fun g e => .inl (by have := HUL.out g e; omega)))
      have B5 := Lib.hid (BoxN.far HB.out hg5 (fun g e => by have := HUL.out g e; omega))
      have hulo := Lib.hid (fun g e => (HX.out.num.lt g e).1)
      have HF5 := Lib.hid (HF4.out.grown hg5 (fun g e => .inr (by have := hulo.out g e; omega)))
      clear HNC HNI HX HB HL hg5 hat5 hulo HF4
      obtain ⟨A5, c5, rfl, hc5, hd5⟩ := ho5.ints.dims
      clear ho5
      go_loopw [43] (fun jv wr => ∃ (j : Nat) (vc vw : Value) (lo hi : Nat), j ≤ ns.length ∧ jv = .int .i64 j ∧ Hid (CoX encS 3 wr WA.heap.size top 60 (.slice Ao xs.length co) xs (.slice A5 sn.length c5) sn) ∧ Hid (IntS wr W3.heap.size wt.heap.size (.slice (some ⟨gn, on, none⟩) ns.length cn) ns) ∧ Hid (BoxN wr wq.heap.size #[vc, vw, .int .i64 ((compTo N k j).cnt : Nat)] 60) ∧ Hid (ElOk wr lo hi ⟨vc, vw, compTo N k j⟩) ∧ w5.heap.size ≤ lo ∧ lo ≤ hi ∧ hi ≤ wr.heap.size ∧ Hid (Turned WA.heap.size WA.heap.size WA wr)) (fun jv _ => ns.length - (intOf jv).toNat)
      case atStart => exact ⟨0, .slice none 0 0, .slice none 0 0, w5.heap.size, w5.heap.size, Nat.zero_le _, rfl, X5, N5, B5, Lib.hid ⟨IntS.nil _ _ _, IntS.nil _ _ _⟩, Nat.le_refl _, Nat.le_refl _, Nat.le_refl _, HF5⟩
      case round =>
        clear HF5
        obtain ⟨j, vc, vw, lo, hi, hj, rfl, HX, HN, HB, HE, hlo, hlh, hhi, HF61⟩ := hrel
        have hs61 := HF61.out.size
        obtain ⟨wu, rfl⟩ : ∃ wu : World, wu = wr := ⟨_, rfl⟩
        have hcw := compTo_walk HG.out hkn j (by rw [HNS.out]; exact hj)
        have HCW := Lib.hid hcw; clear hcw
        obtain ⟨c, HC⟩ : ∃ c, Hid (compTo N k j = c) := ⟨_, Lib.hid rfl⟩
        rw [HC.out] at HCW HB HE
        have hc40 : c.cnt ≤ 41 := by rcases HCW.out with h | h <;> omega
        have hxh3 := HX.out.high
        obtain ⟨Ac, cc, rfl, hcc, hdc⟩ := (show IntS wu lo hi vc c.code from HE.out.code).dims
        obtain ⟨Aw, cw, rfl, hcw, hdw⟩ := (show IntS wu lo hi vw c.walk from HE.out.walk).dims
        by_cases hjn : j < ns.length
        case pos =>
          obtain ⟨u, eu, hun⟩ := nodes_mem HG.out hkn (j := j) (by rw [HNS.out]; exact hjn)
          rw [HNS.out] at eu
          have xn := (IntS.at_ HN.out hjn).1
          rw [eu] at xn
          have HTN := Lib.hid (show compTo N k (j + 1) = cmpStep N c (u : Int) by rw [compTo_succ N k (by rw [HNS.out]; exact hjn), HC.out, HNS.out, eu])
          clear eu
          have hji : (j : Int) < ns.length := by omega
          have kbx1_0 : wu.cell? ⟨w.heap.size, 0, none⟩ = some (.slice (some ⟨b1, o1, none⟩) N.ends.length c1) := (HF61.out.boxN bx1 (by omega)).cell 0 (by simp)
          have kbx1_1 : wu.cell? ⟨w.heap.size, 1, none⟩ = some (.slice A1' N.ids.length c1') := (HF61.out.boxN bx1 (by omega)).cell 1 (by simp)
          have kbx1_2 : wu.cell? ⟨w.heap.size, 2, none⟩ = some (.slice A1'' N.inputs.length c1'') := (HF61.out.boxN bx1 (by omega)).cell 2 (by simp)
          go_wp2_with fail
          clear xn kbx1_0 kbx1_1 kbx1_2
          refine (isWalk_any _ N lo1 hi1 u _ (Net.turned G1.out HF61.out (by omega) (by omega)) (by omega) HG.out hun).mono ?_
          rintro e W62 ⟨rw62, rfl, hw62, hb62⟩
          have hg62 := grown_below hb62; clear hb62
          have hs62 := hg62.size
          have HF62 := Lib.hid (HF61.out.still hg62); clear HF61
          have X62 := Lib.hid (CoX.still HX.out hg62); clear HX
          have NL62 := Lib.hid (IntS.still HN.out hg62 (by omega)); clear HN
          have CB62 := Lib.hid (BoxN.still HB.out hg62); clear HB
          have E62 := Lib.hid (ElOk.still HE.out hg62 (by omega)); clear HE
          have L62 := Lib.hid hw62; clear hw62
          obtain ⟨Ae, ce, rfl, hce, hde⟩ := L62.out.dims
          have kbx1_0 : W62.cell? ⟨w.heap.size, 0, none⟩ = some (.slice (some ⟨b1, o1, none⟩) N.ends.length c1) := (HF62.out.boxN bx1 (by omega)).cell 0 (by simp)
          have kbx1_1 : W62.cell? ⟨w.heap.size, 1, none⟩ = some (.slice A1' N.ids.length c1') := (HF62.out.boxN bx1 (by omega)).cell 1 (by simp)
          have kbx1_2 : W62.cell? ⟨w.heap.size, 2, none⟩ = some (.slice A1'' N.inputs.length c1'') := (HF62.out.boxN bx1 (by omega)).cell 2 (by simp)
          go_wp2_with fail
          clear kbx1_0 kbx1_1 kbx1_2
          refine (isCode_any _ N lo1 hi1 _ (walkN N u) _ _ _ (Net.turned G1.out HF62.out (by omega) (by omega)) (by omega) L62.out (by omega) HG.out (walk_ok HNO.out hun)).mono ?_
          rintro e W63 ⟨rc63, rfl, hc63, hb63⟩
          have hg63 := grown_below hb63; clear hb63
          have hs63 := hg63.size
          have HF63 := Lib.hid (HF62.out.still hg63); clear HF62
          have X63 := Lib.hid (CoX.still X62.out hg63); clear X62
          have NL63 := Lib.hid (IntS.still NL62.out hg63 (by omega)); clear NL62
          have CB63 := Lib.hid (BoxN.still CB62.out hg63); clear CB62
          have E63 := Lib.hid (ElOk.still E62.out hg63 (by omega)); clear E62
          have L63 := Lib.hid (IntS.still L62.out hg63 (by omega)); clear L62
          have C63 := Lib.hid hc63; clear hc63
          obtain ⟨Ad, cd, rfl, hcd, hdd⟩ := C63.out.dims
          have hwok := walk_ok HNO.out hun
          have hwl2 := hwok.len
          have hdl2 : (codeN N (walkN N u)).length ≤ 600 := by have := codeTo_len HG.out hwok _ (Nat.le_refl _); show (codeTo N (walkN N u) (walkN N u).length).length ≤ 600; omega
          obtain ⟨d, HDd⟩ : ∃ l, Hid (codeN N (walkN N u) = l) := ⟨_, Lib.hid rfl⟩
          obtain ⟨wl, HWL⟩ : ∃ l, Hid (walkN N u = l) := ⟨_, Lib.hid rfl⟩
          have HSTP := Lib.hid (show cmpStep N c (u : Int) = if c.cnt = 0 ∨ ltL d c.code = true then ⟨d, wl, c.least, 1⟩ else if d = c.code then ⟨c.code, c.walk, c.least, c.cnt + 1⟩ else c by unfold cmpStep; rw [Int.toNat_natCast, HDd.out, HWL.out])
          rw [HDd.out] at hdl2 C63
          rw [HWL.out] at hwl2 L63
          rw [HDd.out, HWL.out]
          clear hwok HDd HWL
          by_cases h0 : c.cnt = 0
          case pos =>
            have HNEW := Lib.hid (show compTo N k (j + 1) = ⟨d, wl, c.least, 1⟩ by rw [HTN.out, HSTP.out, if_pos (.inl h0)])
            have HB0 := Lib.hid (show BoxN W63 wq.heap.size #[.slice Ac c.code.length cc, .slice Aw c.walk.length cw, .int .i64 0] 60 by have h := CB63.out; rw [h0] at h; exact h)
            clear h0 CB63
            have kb0 : W63.cell? ⟨wq.heap.size, 0, none⟩ = some (.slice Ac c.code.length cc) := HB0.out.cell 0 (by simp)
            have kb1 : W63.cell? ⟨wq.heap.size, 1, none⟩ = some (.slice Aw c.walk.length cw) := HB0.out.cell 1 (by simp)
            have kb2 : W63.cell? ⟨wq.heap.size, 2, none⟩ = some (.int .i64 0) := HB0.out.cell 2 (by simp)
            have kf0 := HB0.out.frozen 0
            have kf1 := HB0.out.frozen 1
            have kf2 := HB0.out.frozen 2
            go_wp2_with fail
            go_roundw
            case rel =>
              have hg9 : W63.grownBy (((W63.setCell ⟨wq.heap.size, 0, none⟩ (.slice Ad d.length cd)).setCell ⟨wq.heap.size, 1, none⟩ (.slice Ae wl.length ce)).setCell ⟨wq.heap.size, 2, none⟩ (.int .i64 1)) (some (wq.heap.size)) := grownBy_setCell (p := ⟨wq.heap.size, 2, none⟩) (grownBy_setCell (p := ⟨wq.heap.size, 1, none⟩) (grown_set W63 ⟨wq.heap.size, 0, none⟩ _) rfl _) rfl _
              have hs9 := hg9.size
              refine ⟨j + 1, .slice Ad d.length cd, .slice Ae wl.length ce, wu.heap.size, W63.heap.size, by omega, by go_num, Lib.hid (CoX.far X63.out hg9 (fun g e => by cases e; exact ⟨.inr (by omega), fun e2 => (HUC.out _ e2).1 rfl⟩)), Lib.hid (IntS.far NL63.out hg9 (by omega) (fun g e => .inl (by cases e; omega))), Lib.hid (?_), Lib.hid (?_), by omega, by omega, by omega, Lib.hid (HF63.out.grown hg9 (fun g e => .inr (by cases e; omega)))⟩
              · rw [HNEW.out]
                exact (((HB0.out.set 0 (.slice Ad d.length cd)).set 1 (.slice Ae wl.length ce)).set 2 (.int .i64 1))
              · rw [HNEW.out]
                exact ElOk.far (x := ⟨.slice Ad d.length cd, .slice Ae wl.length ce, ⟨d, wl, c.least, 1⟩⟩) ⟨IntS.mono C63.out (by omega) (by omega), IntS.mono L63.out (by omega) (by omega)⟩ hg9 (by omega) (fun g e => .inl (by cases e; omega))
            case measure => simp [intOf]; omega
          have hcA : (0 : Int) < ((c.cnt : Nat) : Int) := by omega
          have hcB : 0 < c.cnt := by omega
          have hcD : (((c.cnt : Nat) : Int) == 0) = false := by simpa using h0
          have hcE : ((c.cnt : Nat) : Int) ≠ 0 := by omega
          obtain ⟨q, HQ⟩ : ∃ q, Hid (decide (d = c.code) = q) := ⟨_, Lib.hid rfl⟩
          cases q
          case true =>
            have heq : d = c.code := of_decide_eq_true HQ.out
            have HNEW := Lib.hid (show compTo N k (j + 1) = ⟨c.code, c.walk, c.least, c.cnt + 1⟩ by rw [HTN.out, HSTP.out, if_neg (fun h => h.elim h0 (by rw [heq, ltL_irr]; decide)), if_pos heq])
            have H00 := Lib.hid h0; clear heq h0
            have kb0 : W63.cell? ⟨wq.heap.size, 0, none⟩ = some (.slice Ac c.code.length cc) := CB63.out.cell 0 (by simp)
            have kb1 : W63.cell? ⟨wq.heap.size, 1, none⟩ = some (.slice Aw c.walk.length cw) := CB63.out.cell 1 (by simp)
            have kb2 : W63.cell? ⟨wq.heap.size, 2, none⟩ = some (.int .i64 ((c.cnt : Nat) : Int)) := CB63.out.cell 2 (by simp)
            have kf0 := CB63.out.frozen 0
            have kf1 := CB63.out.frozen 1
            have kf2 := CB63.out.frozen 2
            go_upto_region 21 with (go_at_call 51; refine (l1Same_any _ _ d c.code _ _ _ _ _ C63.out E63.out.code (by omega) (by omega)).mono ?_; rintro e w7 ⟨rfl, hb7⟩; rw [HQ.out])
            clear kb0 kb1 kb2 kf0 kf1 kf2
            obtain ⟨W64, rfl⟩ : ∃ W : World, W = w7 := ⟨_, rfl⟩
            have hg64 := grown_below hb7; clear hb7
            have hs64 := hg64.size
            have HF64 := Lib.hid (HF63.out.still hg64); clear HF63
            have X64 := Lib.hid (CoX.still X63.out hg64); clear X63
            have NL64 := Lib.hid (IntS.still NL63.out hg64 (by omega)); clear NL63
            have CB64 := Lib.hid (BoxN.still CB63.out hg64); clear CB63
            have E64 := Lib.hid (ElOk.still E63.out hg64 (by omega)); clear E63
            have L64 := Lib.hid (IntS.still L63.out hg64 (by omega)); clear L63
            have C64 := Lib.hid (IntS.still C63.out hg64 (by omega)); clear C63
            have kb0 : W64.cell? ⟨wq.heap.size, 0, none⟩ = some (.slice Ac c.code.length cc) := CB64.out.cell 0 (by simp)
            have kb1 : W64.cell? ⟨wq.heap.size, 1, none⟩ = some (.slice Aw c.walk.length cw) := CB64.out.cell 1 (by simp)
            have kb2 : W64.cell? ⟨wq.heap.size, 2, none⟩ = some (.int .i64 ((c.cnt : Nat) : Int)) := CB64.out.cell 2 (by simp)
            have kf0 := CB64.out.frozen 0
            have kf1 := CB64.out.frozen 1
            have kf2 := CB64.out.frozen 2
            go_wp2_with fail
            go_roundw
            case rel =>
              have hg9 : W64.grownBy (W64.setCell ⟨wq.heap.size, 2, none⟩ (.int .i64 ((c.cnt : Int) + 1))) (some (wq.heap.size)) := grown_set _ _ _
              have hs9 := hg9.size
              refine ⟨j + 1, .slice Ac c.code.length cc, .slice Aw c.walk.length cw, lo, hi, by omega, by go_num, Lib.hid (CoX.far X64.out hg9 (fun g e => by cases e; exact ⟨.inr (by omega), fun e2 => (HUC.out _ e2).1 rfl⟩)), Lib.hid (IntS.far NL64.out hg9 (by omega) (fun g e => .inl (by cases e; omega))), Lib.hid (?_), Lib.hid (?_), by omega, by omega, by omega, Lib.hid (HF64.out.grown hg9 (fun g e => .inr (by cases e; omega)))⟩
              · rw [HNEW.out]
                exact (CB64.out.set 2 (.int .i64 ((c.cnt : Int) + 1)))
              · rw [HNEW.out]
                exact ElOk.far (x := ⟨.slice Ac c.code.length cc, .slice Aw c.walk.length cw, ⟨c.code, c.walk, c.least, c.cnt + 1⟩⟩) ⟨E64.out.code, E64.out.walk⟩ hg9 (by omega) (fun g e => .inl (by cases e; omega))
            case measure => simp [intOf]; omega
          case false =>
            have hne : ¬ d = c.code := of_decide_eq_false HQ.out
            have kb0 : W63.cell? ⟨wq.heap.size, 0, none⟩ = some (.slice Ac c.code.length cc) := CB63.out.cell 0 (by simp)
            have kb1 : W63.cell? ⟨wq.heap.size, 1, none⟩ = some (.slice Aw c.walk.length cw) := CB63.out.cell 1 (by simp)
            have kb2 : W63.cell? ⟨wq.heap.size, 2, none⟩ = some (.int .i64 ((c.cnt : Nat) : Int)) := CB63.out.cell 2 (by simp)
            have kf0 := CB63.out.frozen 0
            have kf1 := CB63.out.frozen 1
            have kf2 := CB63.out.frozen 2
            go_upto_region 22 with (go_at_call 51; refine (l1Same_any _ _ d c.code _ _ _ _ _ C63.out E63.out.code (by omega) (by omega)).mono ?_; rintro e w7 ⟨rfl, hb7⟩; rw [HQ.out])
            clear kb0 kb1 kb2 kf0 kf1 kf2
            obtain ⟨W65, rfl⟩ : ∃ W : World, W = w7 := ⟨_, rfl⟩
            have hg65 := grown_below hb7; clear hb7
            have hs65 := hg65.size
            have HF65 := Lib.hid (HF63.out.still hg65); clear HF63
            have X65 := Lib.hid (CoX.still X63.out hg65); clear X63
            have NL65 := Lib.hid (IntS.still NL63.out hg65 (by omega)); clear NL63
            have CB65 := Lib.hid (BoxN.still CB63.out hg65); clear CB63
            have E65 := Lib.hid (ElOk.still E63.out hg65 (by omega)); clear E63
            have L65 := Lib.hid (IntS.still L63.out hg65 (by omega)); clear L63
            have C65 := Lib.hid (IntS.still C63.out hg65 (by omega)); clear C63
            obtain ⟨q2, HQ2⟩ : ∃ q, Hid (ltL d c.code = q) := ⟨_, Lib.hid rfl⟩
            cases q2
            case true =>
              have HNEW := Lib.hid (show compTo N k (j + 1) = ⟨d, wl, c.least, 1⟩ by rw [HTN.out, HSTP.out, if_pos (.inr HQ2.out)])
              have H00 := Lib.hid h0; clear hne h0
              have kb0 : W65.cell? ⟨wq.heap.size, 0, none⟩ = some (.slice Ac c.code.length cc) := CB65.out.cell 0 (by simp)
              have kb1 : W65.cell? ⟨wq.heap.size, 1, none⟩ = some (.slice Aw c.walk.length cw) := CB65.out.cell 1 (by simp)
              have kb2 : W65.cell? ⟨wq.heap.size, 2, none⟩ = some (.int .i64 ((c.cnt : Nat) : Int)) := CB65.out.cell 2 (by simp)
              have kf0 := CB65.out.frozen 0
              have kf1 := CB65.out.frozen 1
              have kf2 := CB65.out.frozen 2
              go_upto_region 23 with (go_at_call 52; refine (isBefore_any _ d _ _ _ c.code _ _ _ C65.out (by omega) E65.out.code (by omega)).mono ?_; rintro e w8 ⟨rfl, hb8⟩; rw [HQ2.out])
              clear kb0 kb1 kb2 kf0 kf1 kf2
              obtain ⟨W66, rfl⟩ : ∃ W : World, W = w8 := ⟨_, rfl⟩
              have hg66 := grown_below hb8; clear hb8
              have hs66 := hg66.size
              have HF66 := Lib.hid (HF65.out.still hg66); clear HF65
              have X66 := Lib.hid (CoX.still X65.out hg66); clear X65
              have NL66 := Lib.hid (IntS.still NL65.out hg66 (by omega)); clear NL65
              have CB66 := Lib.hid (BoxN.still CB65.out hg66); clear CB65
              have E66 := Lib.hid (ElOk.still E65.out hg66 (by omega)); clear E65
              have L66 := Lib.hid (IntS.still L65.out hg66 (by omega)); clear L65
              have C66 := Lib.hid (IntS.still C65.out hg66 (by omega)); clear C65
              have kb0 : W66.cell? ⟨wq.heap.size, 0, none⟩ = some (.slice Ac c.code.length cc) := CB66.out.cell 0 (by simp)
              have kb1 : W66.cell? ⟨wq.heap.size, 1, none⟩ = some (.slice Aw c.walk.length cw) := CB66.out.cell 1 (by simp)
              have kb2 : W66.cell? ⟨wq.heap.size, 2, none⟩ = some (.int .i64 ((c.cnt : Nat) : Int)) := CB66.out.cell 2 (by simp)
              have kf0 := CB66.out.frozen 0
              have kf1 := CB66.out.frozen 1
              have kf2 := CB66.out.frozen 2
              go_wp2_with fail
              go_roundw
              case rel =>
                have hg9 : W66.grownBy (((W66.setCell ⟨wq.heap.size, 0, none⟩ (.slice Ad d.length cd)).setCell ⟨wq.heap.size, 1, none⟩ (.slice Ae wl.length ce)).setCell ⟨wq.heap.size, 2, none⟩ (.int .i64 1)) (some (wq.heap.size)) := grownBy_setCell (p := ⟨wq.heap.size, 2, none⟩) (grownBy_setCell (p := ⟨wq.heap.size, 1, none⟩) (grown_set W66 ⟨wq.heap.size, 0, none⟩ _) rfl _) rfl _
                have hs9 := hg9.size
                refine ⟨j + 1, .slice Ad d.length cd, .slice Ae wl.length ce, wu.heap.size, W63.heap.size, by omega, by go_num, Lib.hid (CoX.far X66.out hg9 (fun g e => by cases e; exact ⟨.inr (by omega), fun e2 => (HUC.out _ e2).1 rfl⟩)), Lib.hid (IntS.far NL66.out hg9 (by omega) (fun g e => .inl (by cases e; omega))), Lib.hid (?_), Lib.hid (?_), by omega, by omega, by omega, Lib.hid (HF66.out.grown hg9 (fun g e => .inr (by cases e; omega)))⟩
                · rw [HNEW.out]
                  exact (((CB66.out.set 0 (.slice Ad d.length cd)).set 1 (.slice Ae wl.length ce)).set 2 (.int .i64 1))
                · rw [HNEW.out]
                  exact ElOk.far (x := ⟨.slice Ad d.length cd, .slice Ae wl.length ce, ⟨d, wl, c.least, 1⟩⟩) ⟨IntS.mono C66.out (by omega) (by omega), IntS.mono L66.out (by omega) (by omega)⟩ hg9 (by omega) (fun g e => .inl (by cases e; omega))
              case measure => simp [intOf]; omega
            case false =>
              have HNEW := Lib.hid (show compTo N k (j + 1) = c by rw [HTN.out, HSTP.out, if_neg (fun h => h.elim h0 (by rw [HQ2.out]; decide)), if_neg hne])
              have H00 := Lib.hid h0; clear hne h0
              have kb0 : W65.cell? ⟨wq.heap.size, 0, none⟩ = some (.slice Ac c.code.length cc) := CB65.out.cell 0 (by simp)
              have kb1 : W65.cell? ⟨wq.heap.size, 1, none⟩ = some (.slice Aw c.walk.length cw) := CB65.out.cell 1 (by simp)
              have kb2 : W65.cell? ⟨wq.heap.size, 2, none⟩ = some (.int .i64 ((c.cnt : Nat) : Int)) := CB65.out.cell 2 (by simp)
              have kf0 := CB65.out.frozen 0
              have kf1 := CB65.out.frozen 1
              have kf2 := CB65.out.frozen 2
              go_wp2_with (go_at_call 52; refine (isBefore_any _ d _ _ _ c.code _ _ _ C65.out (by omega) E65.out.code (by omega)).mono ?_; rintro e w8 ⟨rfl, hb8⟩; rw [HQ2.out])
              clear kb0 kb1 kb2 kf0 kf1 kf2
              obtain ⟨W67, rfl⟩ : ∃ W : World, W = w8 := ⟨_, rfl⟩
              have hg67 := grown_below hb8; clear hb8
              have hs67 := hg67.size
              have HF67 := Lib.hid (HF65.out.still hg67); clear HF65
              have X67 := Lib.hid (CoX.still X65.out hg67); clear X65
              have NL67 := Lib.hid (IntS.still NL65.out hg67 (by omega)); clear NL65
              have CB67 := Lib.hid (BoxN.still CB65.out hg67); clear CB65
              have E67 := Lib.hid (ElOk.still E65.out hg67 (by omega)); clear E65
              have L67 := Lib.hid (IntS.still L65.out hg67 (by omega)); clear L65
              have C67 := Lib.hid (IntS.still C65.out hg67 (by omega)); clear C65
              go_roundw
              case rel =>
                refine ⟨j + 1, .slice Ac c.code.length cc, .slice Aw c.walk.length cw, lo, hi, by omega, by go_num, X67, NL67, Lib.hid (?_), Lib.hid (?_), hlo, hlh, by omega, HF67⟩
                · rw [HNEW.out]; exact CB67.out
                · rw [HNEW.out]; exact E67.out
              case measure => simp [intOf]; omega
        obtain rfl : j = ns.length := by omega
        have HCD := Lib.hid (show compD N k = c by unfold compD; rw [HNS.out, HC.out])
        have HSN2 := Lib.hid (show ∀ u : Nat, (u : Int) ∈ sn ↔ (u : Int) ∈ (stC N (k + 1)).2 from fun u => by rw [HST.out, ← HS2.out, List.mem_append, List.mem_append, HSN.out u])
        have hsl2 : sn.length ≤ 40 * (k + 1) := by rw [← HS2.out, List.length_append]; omega
        have hcode : c.code.length ≤ 600 := by
          rcases HCW.out with h | h
          · rw [h.2.1]; simp
          · exact h.2.2.2.1
        clear hjn HC HCW HSN HST HS2 HNS hsl
        go_wp2_with fail
        go_loopw [14] (fun av wr => ∃ (a : Nat), a ≤ xs.length ∧ av = .int .i64 a ∧ Hid (∀ j (h : j < xs.length), j < a → ltL c.code xs[j].c.code = false) ∧ Hid (CoX encS 3 wr WA.heap.size top 60 (.slice Ao xs.length co) xs (.slice A5 sn.length c5) sn) ∧ Hid (BoxN wr wq.heap.size #[.slice Ac c.code.length cc, .slice Aw c.walk.length cw, .int .i64 (c.cnt : Nat)] 60) ∧ Hid (ElOk wr lo hi ⟨.slice Ac c.code.length cc, .slice Aw c.walk.length cw, c⟩) ∧ hi ≤ wr.heap.size ∧ Hid (Turned WA.heap.size WA.heap.size WA wr)) (fun av _ => xs.length - (intOf av).toNat)
        case atStart => exact ⟨0, Nat.zero_le _, rfl, Lib.hid (fun j _ h => absurd h (by omega)), HX, HB, HE, hhi, HF61⟩
        case round =>
          clear HF61
          obtain ⟨a, ha, rfl, HLT, HX, HB, HE, hhi, HF68⟩ := hrel
          have hs68 := HF68.out.size
          obtain ⟨wv, rfl⟩ : ∃ wv : World, wv = wr := ⟨_, rfl⟩
          have hxh4 := HX.out.high
          have hgC2 : wq.heap.size < wv.heap.size := HB.out.lt
          by_cases hal : a < xs.length
          case neg =>
            have HIA := Lib.hid (show InsAt c (xs.map CmpV.c) a from ⟨by simpa using ha, fun j hj hja => by rw [List.getElem_map]; exact HLT.out j (by simpa using hj) hja, fun h => absurd h (by simpa using hal)⟩)
            have hnlt : ¬ (a : Int) < xs.length := by omega
            have hac : a ≤ xs.length := ha
            have e0 : ∀ p, (ext wv p).cell? ⟨wq.heap.size, 0, none⟩ = some (.slice Ac c.code.length cc) := ext_cell wv (a := ⟨wq.heap.size, 0, none⟩) hgC2 (HB.out.cell 0 (by simp))
            have e1 : ∀ p, (ext wv p).cell? ⟨wq.heap.size, 1, none⟩ = some (.slice Aw c.walk.length cw) := ext_cell wv (a := ⟨wq.heap.size, 1, none⟩) hgC2 (HB.out.cell 1 (by simp))
            have e2 : ∀ p, (ext wv p).cell? ⟨wq.heap.size, 2, none⟩ = some (.int .i64 (c.cnt : Nat)) := ext_cell wv (a := ⟨wq.heap.size, 2, none⟩) hgC2 (HB.out.cell 2 (by simp))
            go_wp2_with fail
            refine wp_region_ext (by kernel_rfl) (by kernel_rfl) ?_
            repeat (go_big_quiet_step (fail))
            refine wpQuiet_nil ?_
            rintro w1 ⟨p, rfl⟩
            clear e0 e1 e2
            obtain ⟨W69, HW69⟩ : ∃ W, Hid (W = ext wv p) := ⟨_, Lib.hid rfl⟩
            rw [← HW69.out]
            have hg69 : wv.grownBy W69 none := by rw [HW69.out]; exact grown_below (ext_below _ _)
            clear HW69
            have hs69 := hg69.size
            have HF69 := Lib.hid (HF68.out.still hg69); clear HF68
            have X69 := Lib.hid (CoX.still HX.out hg69); clear HX
            have CB69 := Lib.hid (BoxN.still HB.out hg69); clear HB
            have E69 := Lib.hid (ElOk.still HE.out hg69 (by omega)); clear HE
            have HGE := Lib.hid (show xs.length ≤ a by omega)
            clear hnlt hal
            cases Ao with
            | none =>
              have hx0 := HX.out.none_
              obtain ⟨_, hco0, hxl0⟩ := hx0
              have HINS := Lib.hid (show (xs.take a ++ [(⟨.slice Ac c.code.length cc, .slice Aw c.walk.length cw, c⟩ : CmpV)] ++ xs.drop a).map CmpV.c = partsTo N (k + 1) by
                have h := insC_at (x := c) (l := partsTo N k) (a := a) (by rw [← HXC.out]; exact HIA.out)
                rw [HPT.out, HCD.out, h, ← HXC.out]
                simp [List.map_take, List.map_drop])
              have hrl : (xs.drop a).length = xs.length - a := List.length_drop
              have htl : (xs.take a).length = a := by rw [List.length_take]; omega
              have HRL := Lib.hid hrl; have HTL := Lib.hid htl; clear hrl htl
              have HLX := Lib.hid X69.out.lt
              have HEB := Lib.hid (show ∀ y ∈ xs.drop a, ∃ lo hi, WA.heap.size ≤ lo ∧ hi ≤ top ∧ ElOk W69 lo hi y ∧ (∀ g, Value.ownBlock (.slice none xs.length co) = some g → g < lo ∨ hi ≤ g) ∧ ∀ g, Value.ownBlock (.slice A5 sn.length c5) = some g → g < lo ∨ hi ≤ g from fun y hy => X69.out.el y (List.mem_of_mem_drop hy))
              have HE1 := Lib.hid (owns_empty W69 W69.heap.size 60 3 rfl (Nat.le_refl _))
              have hax : (a : Int) ≤ xs.length := by omega
              have hay : (a : Int) ≤ co := by omega
              have haz : a ≤ co := by omega
              have hd0 : xs.drop a = [] := List.drop_eq_nil_of_le HGE.out
              have HON := Lib.hid (show ∀ u ∈ (xs.drop a).flatMap encS, u.oneCell' = true by rw [hd0]; simp)
              obtain ⟨iP, hiP, hzP⟩ := Option.map_eq_some_iff.1 infoPt
              have HIP := Lib.hid hiP; clear hzP hiP
              go_upto_region 29 with (at_builtin; refine wpList_append_own_none (w := W69.alloc (.cells #[] 60)) rfl (.tmp 96) (.tmp 99) 57 rfl W69.heap.size 60 iP 3 Try.underlying57 HIP.out _ _ _ rfl HE1.out rfl ?_)
              refine nameC ?_
              intro W70 HW70
              have hg71 : W69.grownBy W70 none := by rw [HW70.out]; exact grown_alloc _ _
              have R70 := Lib.hid (show W70.ownsRow W69.heap.size 60 3 (.slice (some ⟨W69.heap.size, 0, none⟩) 0 0) (xs.drop a).length ((xs.drop a).flatMap encS) by rw [hd0, HW70.out]; exact HE1.out)
              clear HW70 hd0
              have hs70 := hg71.size
              have HF70 := Lib.hid (HF69.out.still hg71); clear HF69
              have X70 := Lib.hid (CoX.still X69.out hg71); clear X69
              have CB70 := Lib.hid (BoxN.still CB69.out hg71); clear CB69
              have E70 := Lib.hid (ElOk.still E69.out hg71 (by omega)); clear E69
              have HEC := Lib.hid (show ∀ y ∈ xs.drop a, ∃ lo hi, WA.heap.size ≤ lo ∧ hi ≤ W70.heap.size ∧ ElOk W70 lo hi y ∧ (∀ g, Value.ownBlock (.slice none a co) = some g → g < lo ∨ hi ≤ g) ∧ ∀ g, Value.ownBlock (.slice A5 sn.length c5) = some g → g < lo ∨ hi ≤ g from fun y hy => by
                obtain ⟨lo', hi', a1, a2, a3, a4, a5⟩ := HEB.out y hy
                exact ⟨lo', hi', a1, by omega, a3.still hg71 (by omega), a4, a5⟩)
              have X1 := Lib.hid (CoX.first X70.out (fun _ => rfl) hac)
              clear HEB hg71 HE1
              refine wp_region_U (fun w' => w'.cell? ⟨wq.heap.size, 0, none⟩ = some (.slice Ac c.code.length cc) ∧ w'.cell? ⟨wq.heap.size, 1, none⟩ = some (.slice Aw c.walk.length cw) ∧ w'.cell? ⟨wq.heap.size, 2, none⟩ = some (.int .i64 (c.cnt : Nat))) [] (by kernel_rfl) ?_
              refine nameU ?_
              intro W71 HW71
              have hg71 : W70.grownBy W71 none := by rw [HW71.out]; exact grown_drew _
              clear HW71
              have hs71 := hg71.size
              have HF71 := Lib.hid (HF70.out.still hg71); clear HF70
              have X71 := Lib.hid (CoX.still X70.out hg71); clear X70
              have CB71 := Lib.hid (BoxN.still CB70.out hg71); clear CB70
              have E71 := Lib.hid (ElOk.still E70.out hg71 (by omega)); clear E70
              have hS72 : W71.cell? ⟨wq.heap.size, 0, none⟩ = some (.slice Ac c.code.length cc) ∧ W71.cell? ⟨wq.heap.size, 1, none⟩ = some (.slice Aw c.walk.length cw) ∧ W71.cell? ⟨wq.heap.size, 2, none⟩ = some (.int .i64 (c.cnt : Nat)) := ⟨CB71.out.cell 0 (by simp), CB71.out.cell 1 (by simp), CB71.out.cell 2 (by simp)⟩
              have HEC2 := Lib.hid (show ∀ y ∈ xs.drop a, ∃ lo hi, WA.heap.size ≤ lo ∧ hi ≤ W71.heap.size ∧ ElOk W71 lo hi y ∧ (∀ g, Value.ownBlock (.slice none a co) = some g → g < lo ∨ hi ≤ g) ∧ ∀ g, Value.ownBlock (.slice A5 sn.length c5) = some g → g < lo ∨ hi ≤ g from fun y hy => by
                obtain ⟨lo', hi', a1, a2, a3, a4, a5⟩ := HEC.out y hy
                exact ⟨lo', hi', a1, by omega, a3.still hg71 (by omega), a4, a5⟩)
              have R71 := Lib.hid (R70.out.kept hg71 (by cases hrv : Value.ownBlock (.slice (some ⟨W69.heap.size, 0, none⟩) 0 0) with
                | none => exact .inl rfl
                | some g => right; simp))
              have X11 := Lib.hid (CoX.still X1.out hg71)
              clear HEC R70 X1
              refine anyU_take (i := 0) (v := .slice none xs.length co) rfl (by kernel_rfl) (by kernel_rfl) (by kernel_rfl) (fun _ _ _ h => h) ⟨by rfl, fun w' hS' => (by obtain ⟨s1, s2, s3⟩ := hS'; go_simp)⟩ hS72 ?_
              simp only [List.getElem_toArray, List.getElem_cons_zero, Act.put, List.setIfInBounds_toArray, List.set_cons_zero, List.set_cons_succ]
              refine anyU_take (i := 1) (v := .int .i64 a) rfl (by kernel_rfl) (by kernel_rfl) (by kernel_rfl) (fun _ _ _ h => h) ⟨by rfl, fun w' hS' => (by obtain ⟨s1, s2, s3⟩ := hS'; go_simp)⟩ hS72 ?_
              simp only [List.getElem_toArray, List.getElem_cons_succ, List.getElem_cons_zero, Act.put, List.setIfInBounds_toArray, List.set_cons_zero, List.set_cons_succ]
              refine anyU_take (i := 2) (v := .slice none a co) rfl (by kernel_rfl) (by kernel_rfl) (by kernel_rfl) (fun _ _ _ h => h) ⟨by rfl, fun w' hS' => (by obtain ⟨s1, s2, s3⟩ := hS'; simp [go_sem, hay])⟩ hS72 ?_
              simp only [List.getElem_toArray, List.getElem_cons_succ, List.getElem_cons_zero, Act.put, List.setIfInBounds_toArray, List.set_cons_zero, List.set_cons_succ]
              refine anyU_take (i := 3) (v := .agg #[.slice Ac c.code.length cc, .slice Aw c.walk.length cw, .int .i64 (c.cnt : Nat)]) rfl (by kernel_rfl) (by kernel_rfl) (by kernel_rfl) (fun _ _ _ h => h) ⟨by rfl, fun w' hS' => (by obtain ⟨s1, s2, s3⟩ := hS'; go_simp)⟩ hS72 ?_
              simp only [List.getElem_toArray, List.getElem_cons_succ, List.getElem_cons_zero, Act.put, List.setIfInBounds_toArray, List.set_cons_zero, List.set_cons_succ]
              refine anyU_take (i := 6) (v := .slice (some ⟨W69.heap.size, 0, none⟩) 0 0) rfl (by kernel_rfl) (by kernel_rfl) (by kernel_rfl) (fun _ _ _ h => h) ⟨by rfl, fun w' hS' => (by obtain ⟨s1, s2, s3⟩ := hS'; go_simp)⟩ hS72 ?_
              simp only [List.getElem_toArray, List.getElem_cons_succ, List.getElem_cons_zero, Act.put, List.setIfInBounds_toArray, List.set_cons_zero, List.set_cons_succ]
              refine anyU_ready (rs := [4]) (by kernel_rfl) (by simp) ?_
              refine ReadyU.cons (i := 4) rfl (fun K hK => ?_) ReadyU.nil
              simp only [List.getElem_toArray, List.getElem_cons_succ, List.getElem_cons_zero]
              refine ite_is (by rfl) ?_
              simp [go_sem]
              refine hK.out _ _ ⟨fun _ => ⟨(CB71.out.still (grown_alloc _ _)).cell 0 (by simp), (CB71.out.still (grown_alloc _ _)).cell 1 (by simp), (CB71.out.still (grown_alloc _ _)).cell 2 (by simp)⟩, ?_⟩
              clear hK K
              try simp only [List.getElem_toArray, List.getElem_cons_succ, List.getElem_cons_zero, Act.put, List.setIfInBounds_toArray, List.set_cons_zero, List.set_cons_succ]
              refine nameU ?_
              intro W73 HW73
              have hg73 : W71.grownBy W73 none := by rw [HW73.out]; exact grown_alloc _ _
              have BV := Lib.hid (show BoxN W73 W71.heap.size #[.slice Ac c.code.length cc, .slice Aw c.walk.length cw, .int .i64 (c.cnt : Nat)] 60 by rw [HW73.out]; exact BoxN.new _ _ _)
              have hz73 : W71.heap.size < W73.heap.size := BV.out.lt
              clear HW73
              have hs73 := hg73.size
              have HF73 := Lib.hid (HF71.out.still hg73); clear HF71
              have X73 := Lib.hid (CoX.still X71.out hg73); clear X71
              have CB73 := Lib.hid (BoxN.still CB71.out hg73); clear CB71
              have E73 := Lib.hid (ElOk.still E71.out hg73 (by omega)); clear E71
              have HEC3 := Lib.hid (show ∀ y ∈ xs.drop a, ∃ lo hi, WA.heap.size ≤ lo ∧ hi ≤ W73.heap.size ∧ ElOk W73 lo hi y ∧ (∀ g, Value.ownBlock (.slice none a co) = some g → g < lo ∨ hi ≤ g) ∧ ∀ g, Value.ownBlock (.slice A5 sn.length c5) = some g → g < lo ∨ hi ≤ g from fun y hy => by
                obtain ⟨lo', hi', a1, a2, a3, a4, a5⟩ := HEC2.out y hy
                exact ⟨lo', hi', a1, by omega, a3.still hg73 (by omega), a4, a5⟩)
              have R72 := Lib.hid (R71.out.kept hg73 (by cases hrv : Value.ownBlock (.slice (some ⟨W69.heap.size, 0, none⟩) 0 0) with
                | none => exact .inl rfl
                | some g => right; simp))
              have X12 := Lib.hid (CoX.still X11.out hg73)
              clear HEC2 R71 X11
              have hS74 : W73.cell? ⟨wq.heap.size, 0, none⟩ = some (.slice Ac c.code.length cc) ∧ W73.cell? ⟨wq.heap.size, 1, none⟩ = some (.slice Aw c.walk.length cw) ∧ W73.cell? ⟨wq.heap.size, 2, none⟩ = some (.int .i64 (c.cnt : Nat)) := ⟨CB73.out.cell 0 (by simp), CB73.out.cell 1 (by simp), CB73.out.cell 2 (by simp)⟩
              clear hS72
              have hlx : ∀ g, Value.ownBlock (.slice none a co) = some g → WA.heap.size ≤ g ∧ g < top := fun g e => HLX.out g e
              have HLA := Lib.hid hlx; clear hlx
              have HYE := Lib.hid (show ∀ y ∈ [(⟨.slice Ac c.code.length cc, .slice Aw c.walk.length cw, c⟩ : CmpV)], ∃ lo hi, WA.heap.size ≤ lo ∧ hi ≤ W73.heap.size ∧ ElOk W73 lo hi y ∧ (∀ g, Value.ownBlock (.slice none a co) = some g → g < lo ∨ hi ≤ g) ∧ ∀ g, Value.ownBlock (.slice A5 sn.length c5) = some g → g < lo ∨ hi ≤ g from fun y hy => by
                rw [List.mem_singleton] at hy
                subst hy
                exact ⟨lo, hi, by omega, by omega, E73.out, fun g e => .inl (by have := HLA.out g e; omega), fun g e => .inl (by have := HUC.out g e; omega)⟩)
              refine anyU_ready (rs := [5]) (by kernel_rfl) (by simp) ?_
              refine ReadyU.cons (i := 5) rfl (fun K hK => ?_) ReadyU.nil
              refine step_append_own2 Try.underlying57 infoPt rfl (by omega) (by omega) W73 (by rfl) _ (by rfl) X12.out.row (by rfl) _ (owns_box BV.out rfl 0 (Nat.zero_le _)) (by rfl) (by intro u hu; simp only [List.mem_cons, List.not_mem_nil, or_false] at hu; rcases hu with rfl | rfl | rfl <;> rfl) (by rw [HTL.out]; omega) (by omega) ?_
              intro v1 W75 ho1 hg75 hat1
              have hs75 := hg75.size
              have HF75 := Lib.hid (HF73.out.grown hg75 (fun g e => .inr (by have := HLA.out g e; omega))); clear HF73
              have CB75 := Lib.hid (BoxN.far CB73.out hg75 (fun g e => by have := HLA.out g e; omega))
              have X13 := Lib.hid (CoX.app (ys := [(⟨.slice Ac c.code.length cc, .slice Aw c.walk.length cw, c⟩ : CmpV)]) X12.out hg75 ho1 hat1 HYE.out)
              have R73 := Lib.hid (R72.out.kept hg75 (by
                cases hrv : Value.ownBlock (.slice (some ⟨W69.heap.size, 0, none⟩) 0 0) with
                | none => exact .inl rfl
                | some g =>
                  right
                  intro e
                  have h1 := (R72.out.lt g hrv).1
                  have h2 := HLA.out g e.symm
                  omega))
              have HEC4 := Lib.hid (show ∀ y ∈ xs.drop a, ∃ lo hi, WA.heap.size ≤ lo ∧ hi ≤ W75.heap.size ∧ ElOk W75 lo hi y ∧ (∀ g, v1.ownBlock = some g → g < lo ∨ hi ≤ g) ∧ ∀ g, Value.ownBlock (.slice A5 sn.length c5) = some g → g < lo ∨ hi ≤ g from fun y hy => by
                obtain ⟨lo', hi', a1, a2, a3, a4, a5⟩ := HEC3.out y hy
                refine ⟨lo', hi', a1, by omega, a3.far hg75 a2 a4, fun g e => ?_, a5⟩
                rcases hat1 with e1 | ⟨g', e1, h1⟩
                · exact a4 g (by rw [← e1]; exact e)
                · rw [e1] at e; injection e with e; omega)
              have HL1 := Lib.hid (show ∀ g, v1.ownBlock = some g → WA.heap.size ≤ g ∧ g ≠ wq.heap.size from fun g e => by
                refine ⟨(X13.out.lt g e).1, ?_⟩
                rcases hat1 with e1 | ⟨g', e1, h1⟩
                · have := HLA.out g (by rw [← e1]; exact e); omega
                · rw [e1] at e; injection e with e; omega)
              clear HEC3 R72 X12 hat1 HYE CB73 ho1 BV
              have hS76 : W75.cell? ⟨wq.heap.size, 0, none⟩ = some (.slice Ac c.code.length cc) ∧ W75.cell? ⟨wq.heap.size, 1, none⟩ = some (.slice Aw c.walk.length cw) ∧ W75.cell? ⟨wq.heap.size, 2, none⟩ = some (.int .i64 (c.cnt : Nat)) := ⟨CB75.out.cell 0 (by simp), CB75.out.cell 1 (by simp), CB75.out.cell 2 (by simp)⟩
              refine hK.out _ _ ⟨fun _ => hS76, ?_⟩
              clear hK K hS74
              try simp only [List.getElem_toArray, List.getElem_cons_succ, List.getElem_cons_zero, Act.put, List.setIfInBounds_toArray, List.set_cons_zero, List.set_cons_succ]
              refine anyU_ready (rs := [7]) (by kernel_rfl) (by simp) ?_
              refine ReadyU.cons (i := 7) rfl (fun K hK => ?_) ReadyU.nil
              refine step_append_own2 Try.underlying57 infoPt rfl (by omega) (by omega) W75 (by rfl) _ (by rfl) X13.out.row (by rfl) _ R73.out (by rfl) HON.out (by rw [HRL.out, List.length_append, HTL.out]; simp; omega) (by omega) ?_
              intro v2 W77 ho2 hg77 hat2
              have hs77 := hg77.size
              have HF77 := Lib.hid (HF75.out.grown hg77 (fun g e => .inr (by have := HL1.out g e; omega))); clear HF75
              have CB77 := Lib.hid (BoxN.far CB75.out hg77 (fun g e => (HL1.out g e).2))
              have X14 := Lib.hid (CoX.app X13.out hg77 ho2 hat2 HEC4.out)
              clear HEC4 R73 X13 hat2 CB75 ho2
              have hS78 : W77.cell? ⟨wq.heap.size, 0, none⟩ = some (.slice Ac c.code.length cc) ∧ W77.cell? ⟨wq.heap.size, 1, none⟩ = some (.slice Aw c.walk.length cw) ∧ W77.cell? ⟨wq.heap.size, 2, none⟩ = some (.int .i64 (c.cnt : Nat)) := ⟨CB77.out.cell 0 (by simp), CB77.out.cell 1 (by simp), CB77.out.cell 2 (by simp)⟩
              refine hK.out _ _ ⟨fun _ => hS78, ?_⟩
              clear hK K hS76
              try simp only [List.getElem_toArray, List.getElem_cons_succ, List.getElem_cons_zero, Act.put, List.setIfInBounds_toArray, List.set_cons_zero, List.set_cons_succ]
              refine anyU_ready (rs := [8]) (by kernel_rfl) (by simp) ?_
              refine ReadyU.cons (i := 8) rfl (fun K hK => ?_) ReadyU.nil
              simp only [List.getElem_toArray, List.getElem_cons_succ, List.getElem_cons_zero]
              refine ite_is (by rfl) ?_
              simp [go_sem]
              refine hK.out _ _ ⟨fun _ => hS78, ?_⟩
              clear hK K
              try simp only [List.getElem_toArray, List.getElem_cons_succ, List.getElem_cons_zero, Act.put, List.setIfInBounds_toArray, List.set_cons_zero, List.set_cons_succ]
              clear hS78
              refine anyU_done (by kernel_rfl) ?_ _
              go_wp2_with fail
              go_roundw
              case rel => exact ⟨k + 1, sn, _, W77.heap.size, by omega, by go_num, HSN2, hsl2, X14, HINS, HF77⟩
              case measure => simp [intOf]; omega
            | some ad =>
              obtain ⟨bX, rfl, hbX1, hbX2⟩ := HX.out.some_
              by_cases hca : co = a
              case neg =>
                have HINS := Lib.hid (show (xs.take a ++ [(⟨.slice Ac c.code.length cc, .slice Aw c.walk.length cw, c⟩ : CmpV)] ++ xs.drop a).map CmpV.c = partsTo N (k + 1) by
                  have h := insC_at (x := c) (l := partsTo N k) (a := a) (by rw [← HXC.out]; exact HIA.out)
                  rw [HPT.out, HCD.out, h, ← HXC.out]
                  simp [List.map_take, List.map_drop])
                have hrl : (xs.drop a).length = xs.length - a := List.length_drop
                have htl : (xs.take a).length = a := by rw [List.length_take]; omega
                have HRL := Lib.hid hrl; have HTL := Lib.hid htl; clear hrl htl
                have HLX := Lib.hid X69.out.lt
                have HEB := Lib.hid (show ∀ y ∈ xs.drop a, ∃ lo hi, WA.heap.size ≤ lo ∧ hi ≤ top ∧ ElOk W69 lo hi y ∧ (∀ g, Value.ownBlock (.slice (some ⟨bX, 0, none⟩) xs.length co) = some g → g < lo ∨ hi ≤ g) ∧ ∀ g, Value.ownBlock (.slice A5 sn.length c5) = some g → g < lo ∨ hi ≤ g from fun y hy => X69.out.el y (List.mem_of_mem_drop hy))
                have HE1 := Lib.hid (owns_empty W69 W69.heap.size 60 3 rfl (Nat.le_refl _))
                have hax : (a : Int) ≤ xs.length := by omega
                have hay : (a : Int) ≤ co := by omega
                have haz : a ≤ co := by omega
                have HNW := Lib.hid (show ∀ j u, ((xs.drop a).flatMap encS)[j]? = some u → (W69.alloc (.cells #[] 60)).cell? ((⟨bX, a * 3, none⟩ : Addr).add j) = some u from fun j u hj => by
                  rw [Go.WideShapes.add_plain, (below_a1 W69 (.cells #[] 60)).cell (p := ⟨bX, a * 3 + j, none⟩) (by show bX < _; omega)]
                  exact CoS.news X69.out.co (fun _ => rfl) j u hj)
                have HON := Lib.hid (show ∀ u ∈ (xs.drop a).flatMap encS, u.oneCell' = true from fun u hu => by
                  obtain ⟨y, hy1, hy2⟩ := List.mem_flatMap.1 hu
                  obtain ⟨_, _, _, _, hel, _⟩ := HEB.out y hy1
                  exact hel.oneS u hy2)
                have HFL := Lib.hid (show ((xs.drop a).flatMap encS).length = (xs.length - a) * 3 by rw [flat_len (enc := encS) (k := 3) (fun _ => rfl), HRL.out])
                go_upto_region 29 with (at_builtin; refine append_row (s := .tmp 96) (n := 0) (m := xs.length - a) Try.underlying57 infoPt rfl (by omega) (by omega) (W69.alloc (.cells #[] 60)) rfl (.tmp 99) rfl HE1.out rfl ((xs.drop a).flatMap encS) rfl HFL.out HNW.out HON.out (by omega) (by simp) ?_; intro rv w70 ho70 hg70 hat70)
                have hg71 := grown_new (grown_alloc W69 (.cells #[] 60)) hg70 (fun g e => (HE1.out.lt g e).1)
                have R70 := Lib.hid (show w70.ownsRow W69.heap.size 60 3 rv (xs.drop a).length ((xs.drop a).flatMap encS) by have h := ho70; rw [Nat.zero_add, ← HRL.out] at h; exact h)
                clear ho70 hg70 hat70 HNW
                obtain ⟨W79, rfl⟩ : ∃ W : World, W = w70 := ⟨_, rfl⟩
                have hs79 := hg71.size
                have HF79 := Lib.hid (HF69.out.still hg71); clear HF69
                have X79 := Lib.hid (CoX.still X69.out hg71); clear X69
                have CB79 := Lib.hid (BoxN.still CB69.out hg71); clear CB69
                have E79 := Lib.hid (ElOk.still E69.out hg71 (by omega)); clear E69
                have HEC := Lib.hid (show ∀ y ∈ xs.drop a, ∃ lo hi, WA.heap.size ≤ lo ∧ hi ≤ W79.heap.size ∧ ElOk W79 lo hi y ∧ (∀ g, Value.ownBlock (.slice (some ⟨bX, 0, none⟩) a co) = some g → g < lo ∨ hi ≤ g) ∧ ∀ g, Value.ownBlock (.slice A5 sn.length c5) = some g → g < lo ∨ hi ≤ g from fun y hy => by
                  obtain ⟨lo', hi', a1, a2, a3, a4, a5⟩ := HEB.out y hy
                  exact ⟨lo', hi', a1, by omega, a3.still hg71 (by omega), a4, a5⟩)
                have X1 := Lib.hid (CoX.first X79.out (fun _ => rfl) hac)
                clear HEB hg71 HE1
                refine wp_region_U (fun w' => w'.cell? ⟨wq.heap.size, 0, none⟩ = some (.slice Ac c.code.length cc) ∧ w'.cell? ⟨wq.heap.size, 1, none⟩ = some (.slice Aw c.walk.length cw) ∧ w'.cell? ⟨wq.heap.size, 2, none⟩ = some (.int .i64 (c.cnt : Nat))) [] (by kernel_rfl) ?_
                refine nameU ?_
                intro W80 HW80
                have hg80 : W79.grownBy W80 none := by rw [HW80.out]; exact grown_drew _
                clear HW80
                have hs80 := hg80.size
                have HF80 := Lib.hid (HF79.out.still hg80); clear HF79
                have X80 := Lib.hid (CoX.still X79.out hg80); clear X79
                have CB80 := Lib.hid (BoxN.still CB79.out hg80); clear CB79
                have E80 := Lib.hid (ElOk.still E79.out hg80 (by omega)); clear E79
                have hS81 : W80.cell? ⟨wq.heap.size, 0, none⟩ = some (.slice Ac c.code.length cc) ∧ W80.cell? ⟨wq.heap.size, 1, none⟩ = some (.slice Aw c.walk.length cw) ∧ W80.cell? ⟨wq.heap.size, 2, none⟩ = some (.int .i64 (c.cnt : Nat)) := ⟨CB80.out.cell 0 (by simp), CB80.out.cell 1 (by simp), CB80.out.cell 2 (by simp)⟩
                have HEC2 := Lib.hid (show ∀ y ∈ xs.drop a, ∃ lo hi, WA.heap.size ≤ lo ∧ hi ≤ W80.heap.size ∧ ElOk W80 lo hi y ∧ (∀ g, Value.ownBlock (.slice (some ⟨bX, 0, none⟩) a co) = some g → g < lo ∨ hi ≤ g) ∧ ∀ g, Value.ownBlock (.slice A5 sn.length c5) = some g → g < lo ∨ hi ≤ g from fun y hy => by
                  obtain ⟨lo', hi', a1, a2, a3, a4, a5⟩ := HEC.out y hy
                  exact ⟨lo', hi', a1, by omega, a3.still hg80 (by omega), a4, a5⟩)
                have R71 := Lib.hid (R70.out.kept hg80 (by cases hrv : Value.ownBlock (rv) with
                  | none => exact .inl rfl
                  | some g => right; simp))
                have X11 := Lib.hid (CoX.still X1.out hg80)
                clear HEC R70 X1
                refine anyU_take (i := 0) (v := .slice (some ⟨bX, 0, none⟩) xs.length co) rfl (by kernel_rfl) (by kernel_rfl) (by kernel_rfl) (fun _ _ _ h => h) ⟨by rfl, fun w' hS' => (by obtain ⟨s1, s2, s3⟩ := hS'; go_simp)⟩ hS81 ?_
                simp only [List.getElem_toArray, List.getElem_cons_zero, Act.put, List.setIfInBounds_toArray, List.set_cons_zero, List.set_cons_succ]
                refine anyU_take (i := 1) (v := .int .i64 a) rfl (by kernel_rfl) (by kernel_rfl) (by kernel_rfl) (fun _ _ _ h => h) ⟨by rfl, fun w' hS' => (by obtain ⟨s1, s2, s3⟩ := hS'; go_simp)⟩ hS81 ?_
                simp only [List.getElem_toArray, List.getElem_cons_succ, List.getElem_cons_zero, Act.put, List.setIfInBounds_toArray, List.set_cons_zero, List.set_cons_succ]
                refine anyU_take (i := 2) (v := .slice (some ⟨bX, 0, none⟩) a co) rfl (by kernel_rfl) (by kernel_rfl) (by kernel_rfl) (fun _ _ _ h => h) ⟨by rfl, fun w' hS' => (by obtain ⟨s1, s2, s3⟩ := hS'; simp [go_sem, hay])⟩ hS81 ?_
                simp only [List.getElem_toArray, List.getElem_cons_succ, List.getElem_cons_zero, Act.put, List.setIfInBounds_toArray, List.set_cons_zero, List.set_cons_succ]
                refine anyU_take (i := 3) (v := .agg #[.slice Ac c.code.length cc, .slice Aw c.walk.length cw, .int .i64 (c.cnt : Nat)]) rfl (by kernel_rfl) (by kernel_rfl) (by kernel_rfl) (fun _ _ _ h => h) ⟨by rfl, fun w' hS' => (by obtain ⟨s1, s2, s3⟩ := hS'; go_simp)⟩ hS81 ?_
                simp only [List.getElem_toArray, List.getElem_cons_succ, List.getElem_cons_zero, Act.put, List.setIfInBounds_toArray, List.set_cons_zero, List.set_cons_succ]
                refine anyU_take (i := 6) (v := rv) rfl (by kernel_rfl) (by kernel_rfl) (by kernel_rfl) (fun _ _ _ h => h) ⟨by rfl, fun w' hS' => (by obtain ⟨s1, s2, s3⟩ := hS'; go_simp)⟩ hS81 ?_
                simp only [List.getElem_toArray, List.getElem_cons_succ, List.getElem_cons_zero, Act.put, List.setIfInBounds_toArray, List.set_cons_zero, List.set_cons_succ]
                refine anyU_ready (rs := [4]) (by kernel_rfl) (by simp) ?_
                refine ReadyU.cons (i := 4) rfl (fun K hK => ?_) ReadyU.nil
                simp only [List.getElem_toArray, List.getElem_cons_succ, List.getElem_cons_zero]
                refine ite_is (by rfl) ?_
                simp [go_sem]
                refine hK.out _ _ ⟨fun _ => ⟨(CB80.out.still (grown_alloc _ _)).cell 0 (by simp), (CB80.out.still (grown_alloc _ _)).cell 1 (by simp), (CB80.out.still (grown_alloc _ _)).cell 2 (by simp)⟩, ?_⟩
                clear hK K
                try simp only [List.getElem_toArray, List.getElem_cons_succ, List.getElem_cons_zero, Act.put, List.setIfInBounds_toArray, List.set_cons_zero, List.set_cons_succ]
                refine nameU ?_
                intro W82 HW82
                have hg82 : W80.grownBy W82 none := by rw [HW82.out]; exact grown_alloc _ _
                have BV := Lib.hid (show BoxN W82 W80.heap.size #[.slice Ac c.code.length cc, .slice Aw c.walk.length cw, .int .i64 (c.cnt : Nat)] 60 by rw [HW82.out]; exact BoxN.new _ _ _)
                have hz82 : W80.heap.size < W82.heap.size := BV.out.lt
                clear HW82
                have hs82 := hg82.size
                have HF82 := Lib.hid (HF80.out.still hg82); clear HF80
                have X82 := Lib.hid (CoX.still X80.out hg82); clear X80
                have CB82 := Lib.hid (BoxN.still CB80.out hg82); clear CB80
                have E82 := Lib.hid (ElOk.still E80.out hg82 (by omega)); clear E80
                have HEC3 := Lib.hid (show ∀ y ∈ xs.drop a, ∃ lo hi, WA.heap.size ≤ lo ∧ hi ≤ W82.heap.size ∧ ElOk W82 lo hi y ∧ (∀ g, Value.ownBlock (.slice (some ⟨bX, 0, none⟩) a co) = some g → g < lo ∨ hi ≤ g) ∧ ∀ g, Value.ownBlock (.slice A5 sn.length c5) = some g → g < lo ∨ hi ≤ g from fun y hy => by
                  obtain ⟨lo', hi', a1, a2, a3, a4, a5⟩ := HEC2.out y hy
                  exact ⟨lo', hi', a1, by omega, a3.still hg82 (by omega), a4, a5⟩)
                have R72 := Lib.hid (R71.out.kept hg82 (by cases hrv : Value.ownBlock (rv) with
                  | none => exact .inl rfl
                  | some g => right; simp))
                have X12 := Lib.hid (CoX.still X11.out hg82)
                clear HEC2 R71 X11
                have hS83 : W82.cell? ⟨wq.heap.size, 0, none⟩ = some (.slice Ac c.code.length cc) ∧ W82.cell? ⟨wq.heap.size, 1, none⟩ = some (.slice Aw c.walk.length cw) ∧ W82.cell? ⟨wq.heap.size, 2, none⟩ = some (.int .i64 (c.cnt : Nat)) := ⟨CB82.out.cell 0 (by simp), CB82.out.cell 1 (by simp), CB82.out.cell 2 (by simp)⟩
                clear hS81
                have hlx : ∀ g, Value.ownBlock (.slice (some ⟨bX, 0, none⟩) a co) = some g → WA.heap.size ≤ g ∧ g < top := fun g e => HLX.out g e
                have HLA := Lib.hid hlx; clear hlx
                have HYE := Lib.hid (show ∀ y ∈ [(⟨.slice Ac c.code.length cc, .slice Aw c.walk.length cw, c⟩ : CmpV)], ∃ lo hi, WA.heap.size ≤ lo ∧ hi ≤ W82.heap.size ∧ ElOk W82 lo hi y ∧ (∀ g, Value.ownBlock (.slice (some ⟨bX, 0, none⟩) a co) = some g → g < lo ∨ hi ≤ g) ∧ ∀ g, Value.ownBlock (.slice A5 sn.length c5) = some g → g < lo ∨ hi ≤ g from fun y hy => by
                  rw [List.mem_singleton] at hy
                  subst hy
                  exact ⟨lo, hi, by omega, by omega, E82.out, fun g e => .inl (by have := HLA.out g e; omega), fun g e => .inl (by have := HUC.out g e; omega)⟩)
                refine anyU_ready (rs := [5]) (by kernel_rfl) (by simp) ?_
                refine ReadyU.cons (i := 5) rfl (fun K hK => ?_) ReadyU.nil
                refine step_append_own2 Try.underlying57 infoPt rfl (by omega) (by omega) W82 (by rfl) _ (by rfl) X12.out.row (by rfl) _ (owns_box BV.out rfl 0 (Nat.zero_le _)) (by rfl) (by intro u hu; simp only [List.mem_cons, List.not_mem_nil, or_false] at hu; rcases hu with rfl | rfl | rfl <;> rfl) (by rw [HTL.out]; omega) (by omega) ?_
                intro v1 W84 ho1 hg84 hat1
                have hs84 := hg84.size
                have HF84 := Lib.hid (HF82.out.grown hg84 (fun g e => .inr (by have := HLA.out g e; omega))); clear HF82
                have CB84 := Lib.hid (BoxN.far CB82.out hg84 (fun g e => by have := HLA.out g e; omega))
                have X13 := Lib.hid (CoX.app (ys := [(⟨.slice Ac c.code.length cc, .slice Aw c.walk.length cw, c⟩ : CmpV)]) X12.out hg84 ho1 hat1 HYE.out)
                have R73 := Lib.hid (R72.out.kept hg84 (by
                  cases hrv : Value.ownBlock (rv) with
                  | none => exact .inl rfl
                  | some g =>
                    right
                    intro e
                    have h1 := (R72.out.lt g hrv).1
                    have h2 := HLA.out g e.symm
                    omega))
                have HEC4 := Lib.hid (show ∀ y ∈ xs.drop a, ∃ lo hi, WA.heap.size ≤ lo ∧ hi ≤ W84.heap.size ∧ ElOk W84 lo hi y ∧ (∀ g, v1.ownBlock = some g → g < lo ∨ hi ≤ g) ∧ ∀ g, Value.ownBlock (.slice A5 sn.length c5) = some g → g < lo ∨ hi ≤ g from fun y hy => by
                  obtain ⟨lo', hi', a1, a2, a3, a4, a5⟩ := HEC3.out y hy
                  refine ⟨lo', hi', a1, by omega, a3.far hg84 a2 a4, fun g e => ?_, a5⟩
                  rcases hat1 with e1 | ⟨g', e1, h1⟩
                  · exact a4 g (by rw [← e1]; exact e)
                  · rw [e1] at e; injection e with e; omega)
                have HL1 := Lib.hid (show ∀ g, v1.ownBlock = some g → WA.heap.size ≤ g ∧ g ≠ wq.heap.size from fun g e => by
                  refine ⟨(X13.out.lt g e).1, ?_⟩
                  rcases hat1 with e1 | ⟨g', e1, h1⟩
                  · have := HLA.out g (by rw [← e1]; exact e); omega
                  · rw [e1] at e; injection e with e; omega)
                clear HEC3 R72 X12 hat1 HYE CB82 ho1 BV
                have hS85 : W84.cell? ⟨wq.heap.size, 0, none⟩ = some (.slice Ac c.code.length cc) ∧ W84.cell? ⟨wq.heap.size, 1, none⟩ = some (.slice Aw c.walk.length cw) ∧ W84.cell? ⟨wq.heap.size, 2, none⟩ = some (.int .i64 (c.cnt : Nat)) := ⟨CB84.out.cell 0 (by simp), CB84.out.cell 1 (by simp), CB84.out.cell 2 (by simp)⟩
                refine hK.out _ _ ⟨fun _ => hS85, ?_⟩
                clear hK K hS83
                try simp only [List.getElem_toArray, List.getElem_cons_succ, List.getElem_cons_zero, Act.put, List.setIfInBounds_toArray, List.set_cons_zero, List.set_cons_succ]
                refine anyU_ready (rs := [7]) (by kernel_rfl) (by simp) ?_
                refine ReadyU.cons (i := 7) rfl (fun K hK => ?_) ReadyU.nil
                refine step_append_own2 Try.underlying57 infoPt rfl (by omega) (by omega) W84 (by rfl) _ (by rfl) X13.out.row (by rfl) _ R73.out (by rfl) HON.out (by rw [HRL.out, List.length_append, HTL.out]; simp; omega) (by omega) ?_
                intro v2 W86 ho2 hg86 hat2
                have hs86 := hg86.size
                have HF86 := Lib.hid (HF84.out.grown hg86 (fun g e => .inr (by have := HL1.out g e; omega))); clear HF84
                have CB86 := Lib.hid (BoxN.far CB84.out hg86 (fun g e => (HL1.out g e).2))
                have X14 := Lib.hid (CoX.app X13.out hg86 ho2 hat2 HEC4.out)
                clear HEC4 R73 X13 hat2 CB84 ho2
                have hS87 : W86.cell? ⟨wq.heap.size, 0, none⟩ = some (.slice Ac c.code.length cc) ∧ W86.cell? ⟨wq.heap.size, 1, none⟩ = some (.slice Aw c.walk.length cw) ∧ W86.cell? ⟨wq.heap.size, 2, none⟩ = some (.int .i64 (c.cnt : Nat)) := ⟨CB86.out.cell 0 (by simp), CB86.out.cell 1 (by simp), CB86.out.cell 2 (by simp)⟩
                refine hK.out _ _ ⟨fun _ => hS87, ?_⟩
                clear hK K hS85
                try simp only [List.getElem_toArray, List.getElem_cons_succ, List.getElem_cons_zero, Act.put, List.setIfInBounds_toArray, List.set_cons_zero, List.set_cons_succ]
                refine anyU_ready (rs := [8]) (by kernel_rfl) (by simp) ?_
                refine ReadyU.cons (i := 8) rfl (fun K hK => ?_) ReadyU.nil
                simp only [List.getElem_toArray, List.getElem_cons_succ, List.getElem_cons_zero]
                refine ite_is (by rfl) ?_
                simp [go_sem]
                refine hK.out _ _ ⟨fun _ => hS87, ?_⟩
                clear hK K
                try simp only [List.getElem_toArray, List.getElem_cons_succ, List.getElem_cons_zero, Act.put, List.setIfInBounds_toArray, List.set_cons_zero, List.set_cons_succ]
                clear hS87
                refine anyU_done (by kernel_rfl) ?_ _
                go_wp2_with fail
                go_roundw
                case rel => exact ⟨k + 1, sn, _, W86.heap.size, by omega, by go_num, HSN2, hsl2, X14, HINS, HF86⟩
                case measure => simp [intOf]; omega
              have HINS := Lib.hid (show (xs.take a ++ [(⟨.slice Ac c.code.length cc, .slice Aw c.walk.length cw, c⟩ : CmpV)] ++ xs.drop a).map CmpV.c = partsTo N (k + 1) by
                have h := insC_at (x := c) (l := partsTo N k) (a := a) (by rw [← HXC.out]; exact HIA.out)
                rw [HPT.out, HCD.out, h, ← HXC.out]
                simp [List.map_take, List.map_drop])
              have hrl : (xs.drop a).length = xs.length - a := List.length_drop
              have htl : (xs.take a).length = a := by rw [List.length_take]; omega
              have HRL := Lib.hid hrl; have HTL := Lib.hid htl; clear hrl htl
              have HLX := Lib.hid X69.out.lt
              have HEB := Lib.hid (show ∀ y ∈ xs.drop a, ∃ lo hi, WA.heap.size ≤ lo ∧ hi ≤ top ∧ ElOk W69 lo hi y ∧ (∀ g, Value.ownBlock (.slice (some ⟨bX, 0, none⟩) xs.length co) = some g → g < lo ∨ hi ≤ g) ∧ ∀ g, Value.ownBlock (.slice A5 sn.length c5) = some g → g < lo ∨ hi ≤ g from fun y hy => X69.out.el y (List.mem_of_mem_drop hy))
              have HE1 := Lib.hid (owns_empty W69 W69.heap.size 60 3 rfl (Nat.le_refl _))
              have hax : (a : Int) ≤ xs.length := by omega
              have hay : (a : Int) ≤ co := by omega
              have haz : a ≤ co := by omega
              have HNW := Lib.hid (show ∀ j u, ((xs.drop a).flatMap encS)[j]? = some u → (W69.alloc (.cells #[] 60)).cell? ((⟨bX, 0, none⟩ : Addr).add j) = some u from fun j u hj => by
                rw [List.drop_eq_nil_of_le HGE.out] at hj
                simp at hj)
              have HON := Lib.hid (show ∀ u ∈ (xs.drop a).flatMap encS, u.oneCell' = true from fun u hu => by
                obtain ⟨y, hy1, hy2⟩ := List.mem_flatMap.1 hu
                obtain ⟨_, _, _, _, hel, _⟩ := HEB.out y hy1
                exact hel.oneS u hy2)
              have HFL := Lib.hid (show ((xs.drop a).flatMap encS).length = (xs.length - a) * 3 by rw [flat_len (enc := encS) (k := 3) (fun _ => rfl), HRL.out])
              go_upto_region 29 with (at_builtin; refine append_row (s := .tmp 96) (n := 0) (m := xs.length - a) Try.underlying57 infoPt rfl (by omega) (by omega) (W69.alloc (.cells #[] 60)) rfl (.tmp 99) rfl HE1.out rfl ((xs.drop a).flatMap encS) rfl HFL.out HNW.out HON.out (by omega) (by simp) ?_; intro rv w70 ho70 hg70 hat70)
              have hg71 := grown_new (grown_alloc W69 (.cells #[] 60)) hg70 (fun g e => (HE1.out.lt g e).1)
              have R70 := Lib.hid (show w70.ownsRow W69.heap.size 60 3 rv (xs.drop a).length ((xs.drop a).flatMap encS) by have h := ho70; rw [Nat.zero_add, ← HRL.out] at h; exact h)
              clear ho70 hg70 hat70 HNW
              obtain ⟨W88, rfl⟩ : ∃ W : World, W = w70 := ⟨_, rfl⟩
              have hs88 := hg71.size
              have HF88 := Lib.hid (HF69.out.still hg71); clear HF69
              have X88 := Lib.hid (CoX.still X69.out hg71); clear X69
              have CB88 := Lib.hid (BoxN.still CB69.out hg71); clear CB69
              have E88 := Lib.hid (ElOk.still E69.out hg71 (by omega)); clear E69
              have HEC := Lib.hid (show ∀ y ∈ xs.drop a, ∃ lo hi, WA.heap.size ≤ lo ∧ hi ≤ W88.heap.size ∧ ElOk W88 lo hi y ∧ (∀ g, Value.ownBlock (.slice (some ⟨bX, 0, none⟩) a co) = some g → g < lo ∨ hi ≤ g) ∧ ∀ g, Value.ownBlock (.slice A5 sn.length c5) = some g → g < lo ∨ hi ≤ g from fun y hy => by
                obtain ⟨lo', hi', a1, a2, a3, a4, a5⟩ := HEB.out y hy
                exact ⟨lo', hi', a1, by omega, a3.still hg71 (by omega), a4, a5⟩)
              have X1 := Lib.hid (CoX.first X88.out (fun _ => rfl) hac)
              clear HEB hg71 HE1
              refine wp_region_U (fun w' => w'.cell? ⟨wq.heap.size, 0, none⟩ = some (.slice Ac c.code.length cc) ∧ w'.cell? ⟨wq.heap.size, 1, none⟩ = some (.slice Aw c.walk.length cw) ∧ w'.cell? ⟨wq.heap.size, 2, none⟩ = some (.int .i64 (c.cnt : Nat))) [] (by kernel_rfl) ?_
              refine nameU ?_
              intro W89 HW89
              have hg89 : W88.grownBy W89 none := by rw [HW89.out]; exact grown_drew _
              clear HW89
              have hs89 := hg89.size
              have HF89 := Lib.hid (HF88.out.still hg89); clear HF88
              have X89 := Lib.hid (CoX.still X88.out hg89); clear X88
              have CB89 := Lib.hid (BoxN.still CB88.out hg89); clear CB88
              have E89 := Lib.hid (ElOk.still E88.out hg89 (by omega)); clear E88
              have hS90 : W89.cell? ⟨wq.heap.size, 0, none⟩ = some (.slice Ac c.code.length cc) ∧ W89.cell? ⟨wq.heap.size, 1, none⟩ = some (.slice Aw c.walk.length cw) ∧ W89.cell? ⟨wq.heap.size, 2, none⟩ = some (.int .i64 (c.cnt : Nat)) := ⟨CB89.out.cell 0 (by simp), CB89.out.cell 1 (by simp), CB89.out.cell 2 (by simp)⟩
              have HEC2 := Lib.hid (show ∀ y ∈ xs.drop a, ∃ lo hi, WA.heap.size ≤ lo ∧ hi ≤ W89.heap.size ∧ ElOk W89 lo hi y ∧ (∀ g, Value.ownBlock (.slice (some ⟨bX, 0, none⟩) a co) = some g → g < lo ∨ hi ≤ g) ∧ ∀ g, Value.ownBlock (.slice A5 sn.length c5) = some g → g < lo ∨ hi ≤ g from fun y hy => by
                obtain ⟨lo', hi', a1, a2, a3, a4, a5⟩ := HEC.out y hy
                exact ⟨lo', hi', a1, by omega, a3.still hg89 (by omega), a4, a5⟩)
              have R71 := Lib.hid (R70.out.kept hg89 (by cases hrv : Value.ownBlock (rv) with
                | none => exact .inl rfl
                | some g => right; simp))
              have X11 := Lib.hid (CoX.still X1.out hg89)
              clear HEC R70 X1
              refine anyU_take (i := 0) (v := .slice (some ⟨bX, 0, none⟩) xs.length co) rfl (by kernel_rfl) (by kernel_rfl) (by kernel_rfl) (fun _ _ _ h => h) ⟨by rfl, fun w' hS' => (by obtain ⟨s1, s2, s3⟩ := hS'; go_simp)⟩ hS90 ?_
              simp only [List.getElem_toArray, List.getElem_cons_zero, Act.put, List.setIfInBounds_toArray, List.set_cons_zero, List.set_cons_succ]
              refine anyU_take (i := 1) (v := .int .i64 a) rfl (by kernel_rfl) (by kernel_rfl) (by kernel_rfl) (fun _ _ _ h => h) ⟨by rfl, fun w' hS' => (by obtain ⟨s1, s2, s3⟩ := hS'; go_simp)⟩ hS90 ?_
              simp only [List.getElem_toArray, List.getElem_cons_succ, List.getElem_cons_zero, Act.put, List.setIfInBounds_toArray, List.set_cons_zero, List.set_cons_succ]
              refine anyU_take (i := 2) (v := .slice (some ⟨bX, 0, none⟩) a co) rfl (by kernel_rfl) (by kernel_rfl) (by kernel_rfl) (fun _ _ _ h => h) ⟨by rfl, fun w' hS' => (by obtain ⟨s1, s2, s3⟩ := hS'; simp [go_sem, hay])⟩ hS90 ?_
              simp only [List.getElem_toArray, List.getElem_cons_succ, List.getElem_cons_zero, Act.put, List.setIfInBounds_toArray, List.set_cons_zero, List.set_cons_succ]
              refine anyU_take (i := 3) (v := .agg #[.slice Ac c.code.length cc, .slice Aw c.walk.length cw, .int .i64 (c.cnt : Nat)]) rfl (by kernel_rfl) (by kernel_rfl) (by kernel_rfl) (fun _ _ _ h => h) ⟨by rfl, fun w' hS' => (by obtain ⟨s1, s2, s3⟩ := hS'; go_simp)⟩ hS90 ?_
              simp only [List.getElem_toArray, List.getElem_cons_succ, List.getElem_cons_zero, Act.put, List.setIfInBounds_toArray, List.set_cons_zero, List.set_cons_succ]
              refine anyU_take (i := 6) (v := rv) rfl (by kernel_rfl) (by kernel_rfl) (by kernel_rfl) (fun _ _ _ h => h) ⟨by rfl, fun w' hS' => (by obtain ⟨s1, s2, s3⟩ := hS'; go_simp)⟩ hS90 ?_
              simp only [List.getElem_toArray, List.getElem_cons_succ, List.getElem_cons_zero, Act.put, List.setIfInBounds_toArray, List.set_cons_zero, List.set_cons_succ]
              refine anyU_ready (rs := [4]) (by kernel_rfl) (by simp) ?_
              refine ReadyU.cons (i := 4) rfl (fun K hK => ?_) ReadyU.nil
              simp only [List.getElem_toArray, List.getElem_cons_succ, List.getElem_cons_zero]
              refine ite_is (by rfl) ?_
              simp [go_sem]
              refine hK.out _ _ ⟨fun _ => ⟨(CB89.out.still (grown_alloc _ _)).cell 0 (by simp), (CB89.out.still (grown_alloc _ _)).cell 1 (by simp), (CB89.out.still (grown_alloc _ _)).cell 2 (by simp)⟩, ?_⟩
              clear hK K
              try simp only [List.getElem_toArray, List.getElem_cons_succ, List.getElem_cons_zero, Act.put, List.setIfInBounds_toArray, List.set_cons_zero, List.set_cons_succ]
              refine nameU ?_
              intro W91 HW91
              have hg91 : W89.grownBy W91 none := by rw [HW91.out]; exact grown_alloc _ _
              have BV := Lib.hid (show BoxN W91 W89.heap.size #[.slice Ac c.code.length cc, .slice Aw c.walk.length cw, .int .i64 (c.cnt : Nat)] 60 by rw [HW91.out]; exact BoxN.new _ _ _)
              have hz91 : W89.heap.size < W91.heap.size := BV.out.lt
              clear HW91
              have hs91 := hg91.size
              have HF91 := Lib.hid (HF89.out.still hg91); clear HF89
              have X91 := Lib.hid (CoX.still X89.out hg91); clear X89
              have CB91 := Lib.hid (BoxN.still CB89.out hg91); clear CB89
              have E91 := Lib.hid (ElOk.still E89.out hg91 (by omega)); clear E89
              have HEC3 := Lib.hid (show ∀ y ∈ xs.drop a, ∃ lo hi, WA.heap.size ≤ lo ∧ hi ≤ W91.heap.size ∧ ElOk W91 lo hi y ∧ (∀ g, Value.ownBlock (.slice (some ⟨bX, 0, none⟩) a co) = some g → g < lo ∨ hi ≤ g) ∧ ∀ g, Value.ownBlock (.slice A5 sn.length c5) = some g → g < lo ∨ hi ≤ g from fun y hy => by
                obtain ⟨lo', hi', a1, a2, a3, a4, a5⟩ := HEC2.out y hy
                exact ⟨lo', hi', a1, by omega, a3.still hg91 (by omega), a4, a5⟩)
              have R72 := Lib.hid (R71.out.kept hg91 (by cases hrv : Value.ownBlock (rv) with
                | none => exact .inl rfl
                | some g => right; simp))
              have X12 := Lib.hid (CoX.still X11.out hg91)
              clear HEC2 R71 X11
              have hS92 : W91.cell? ⟨wq.heap.size, 0, none⟩ = some (.slice Ac c.code.length cc) ∧ W91.cell? ⟨wq.heap.size, 1, none⟩ = some (.slice Aw c.walk.length cw) ∧ W91.cell? ⟨wq.heap.size, 2, none⟩ = some (.int .i64 (c.cnt : Nat)) := ⟨CB91.out.cell 0 (by simp), CB91.out.cell 1 (by simp), CB91.out.cell 2 (by simp)⟩
              clear hS90
              have hlx : ∀ g, Value.ownBlock (.slice (some ⟨bX, 0, none⟩) a co) = some g → WA.heap.size ≤ g ∧ g < top := fun g e => HLX.out g e
              have HLA := Lib.hid hlx; clear hlx
              have HYE := Lib.hid (show ∀ y ∈ [(⟨.slice Ac c.code.length cc, .slice Aw c.walk.length cw, c⟩ : CmpV)], ∃ lo hi, WA.heap.size ≤ lo ∧ hi ≤ W91.heap.size ∧ ElOk W91 lo hi y ∧ (∀ g, Value.ownBlock (.slice (some ⟨bX, 0, none⟩) a co) = some g → g < lo ∨ hi ≤ g) ∧ ∀ g, Value.ownBlock (.slice A5 sn.length c5) = some g → g < lo ∨ hi ≤ g from fun y hy => by
                rw [List.mem_singleton] at hy
                subst hy
                exact ⟨lo, hi, by omega, by omega, E91.out, fun g e => .inl (by have := HLA.out g e; omega), fun g e => .inl (by have := HUC.out g e; omega)⟩)
              refine anyU_ready (rs := [5]) (by kernel_rfl) (by simp) ?_
              refine ReadyU.cons (i := 5) rfl (fun K hK => ?_) ReadyU.nil
              refine step_append_own2 Try.underlying57 infoPt rfl (by omega) (by omega) W91 (by rfl) _ (by rfl) X12.out.row (by rfl) _ (owns_box BV.out rfl 0 (Nat.zero_le _)) (by rfl) (by intro u hu; simp only [List.mem_cons, List.not_mem_nil, or_false] at hu; rcases hu with rfl | rfl | rfl <;> rfl) (by rw [HTL.out]; omega) (by omega) ?_
              intro v1 W93 ho1 hg93 hat1
              have hs93 := hg93.size
              have HF93 := Lib.hid (HF91.out.grown hg93 (fun g e => .inr (by have := HLA.out g e; omega))); clear HF91
              have CB93 := Lib.hid (BoxN.far CB91.out hg93 (fun g e => by have := HLA.out g e; omega))
              have X13 := Lib.hid (CoX.app (ys := [(⟨.slice Ac c.code.length cc, .slice Aw c.walk.length cw, c⟩ : CmpV)]) X12.out hg93 ho1 hat1 HYE.out)
              have R73 := Lib.hid (R72.out.kept hg93 (by
                cases hrv : Value.ownBlock (rv) with
                | none => exact .inl rfl
                | some g =>
                  right
                  intro e
                  have h1 := (R72.out.lt g hrv).1
                  have h2 := HLA.out g e.symm
                  omega))
              have HEC4 := Lib.hid (show ∀ y ∈ xs.drop a, ∃ lo hi, WA.heap.size ≤ lo ∧ hi ≤ W93.heap.size ∧ ElOk W93 lo hi y ∧ (∀ g, v1.ownBlock = some g → g < lo ∨ hi ≤ g) ∧ ∀ g, Value.ownBlock (.slice A5 sn.length c5) = some g → g < lo ∨ hi ≤ g from fun y hy => by
                obtain ⟨lo', hi', a1, a2, a3, a4, a5⟩ := HEC3.out y hy
                refine ⟨lo', hi', a1, by omega, a3.far hg93 a2 a4, fun g e => ?_, a5⟩
                rcases hat1 with e1 | ⟨g', e1, h1⟩
                · exact a4 g (by rw [← e1]; exact e)
                · rw [e1] at e; injection e with e; omega)
              have HL1 := Lib.hid (show ∀ g, v1.ownBlock = some g → WA.heap.size ≤ g ∧ g ≠ wq.heap.size from fun g e => by
                refine ⟨(X13.out.lt g e).1, ?_⟩
                rcases hat1 with e1 | ⟨g', e1, h1⟩
                · have := HLA.out g (by rw [← e1]; exact e); omega
                · rw [e1] at e; injection e with e; omega)
              clear HEC3 R72 X12 hat1 HYE CB91 ho1 BV
              have hS94 : W93.cell? ⟨wq.heap.size, 0, none⟩ = some (.slice Ac c.code.length cc) ∧ W93.cell? ⟨wq.heap.size, 1, none⟩ = some (.slice Aw c.walk.length cw) ∧ W93.cell? ⟨wq.heap.size, 2, none⟩ = some (.int .i64 (c.cnt : Nat)) := ⟨CB93.out.cell 0 (by simp), CB93.out.cell 1 (by simp), CB93.out.cell 2 (by simp)⟩
              refine hK.out _ _ ⟨fun _ => hS94, ?_⟩
              clear hK K hS92
              try simp only [List.getElem_toArray, List.getElem_cons_succ, List.getElem_cons_zero, Act.put, List.setIfInBounds_toArray, List.set_cons_zero, List.set_cons_succ]
              refine anyU_ready (rs := [7]) (by kernel_rfl) (by simp) ?_
              refine ReadyU.cons (i := 7) rfl (fun K hK => ?_) ReadyU.nil
              refine step_append_own2 Try.underlying57 infoPt rfl (by omega) (by omega) W93 (by rfl) _ (by rfl) X13.out.row (by rfl) _ R73.out (by rfl) HON.out (by rw [HRL.out, List.length_append, HTL.out]; simp; omega) (by omega) ?_
              intro v2 W95 ho2 hg95 hat2
              have hs95 := hg95.size
              have HF95 := Lib.hid (HF93.out.grown hg95 (fun g e => .inr (by have := HL1.out g e; omega))); clear HF93
              have CB95 := Lib.hid (BoxN.far CB93.out hg95 (fun g e => (HL1.out g e).2))
              have X14 := Lib.hid (CoX.app X13.out hg95 ho2 hat2 HEC4.out)
              clear HEC4 R73 X13 hat2 CB93 ho2
              have hS96 : W95.cell? ⟨wq.heap.size, 0, none⟩ = some (.slice Ac c.code.length cc) ∧ W95.cell? ⟨wq.heap.size, 1, none⟩ = some (.slice Aw c.walk.length cw) ∧ W95.cell? ⟨wq.heap.size, 2, none⟩ = some (.int .i64 (c.cnt : Nat)) := ⟨CB95.out.cell 0 (by simp), CB95.out.cell 1 (by simp), CB95.out.cell 2 (by simp)⟩
              refine hK.out _ _ ⟨fun _ => hS96, ?_⟩
              clear hK K hS94
              try simp only [List.getElem_toArray, List.getElem_cons_succ, List.getElem_cons_zero, Act.put, List.setIfInBounds_toArray, List.set_cons_zero, List.set_cons_succ]
              refine anyU_ready (rs := [8]) (by kernel_rfl) (by simp) ?_
              refine ReadyU.cons (i := 8) rfl (fun K hK => ?_) ReadyU.nil
              simp only [List.getElem_toArray, List.getElem_cons_succ, List.getElem_cons_zero]
              refine ite_is (by rfl) ?_
              simp [go_sem]
              refine hK.out _ _ ⟨fun _ => hS96, ?_⟩
              clear hK K
              try simp only [List.getElem_toArray, List.getElem_cons_succ, List.getElem_cons_zero, Act.put, List.setIfInBounds_toArray, List.set_cons_zero, List.set_cons_succ]
              clear hS96
              refine anyU_done (by kernel_rfl) ?_ _
              go_wp2_with fail
              go_roundw
              case rel => exact ⟨k + 1, sn, _, W95.heap.size, by omega, by go_num, HSN2, hsl2, X14, HINS, HF95⟩
              case measure => simp [intOf]; omega
          have hki4 : (a : Int) < xs.length := by omega
          cases Ao with
          | none => exact absurd HX.out.none_.2.2 (by omega)
          | some ad =>
            obtain ⟨bX, rfl, hbX1, hbX2⟩ := HX.out.some_
            obtain ⟨b, cX, eb, _, _, _, _, hcl⟩ := HX.out.co.cells (fun _ => rfl) (by omega) (by omega)
            injection eb with eb1 _ eb2
            injection eb1 with eb1
            injection eb1 with eb1 _ _
            subst eb1 eb2
            have hxm : xs[a] ∈ xs := List.getElem_mem hal
            obtain ⟨lo4, hi4, _, hi4t, hE4, _⟩ := HX.out.co.el _ hxm
            have q0 := (hcl a hal 0 _ (by omega) rfl).1
            rw [Nat.add_zero] at q0
            have hE4c := hE4.code
            clear hcl hxm hE4
            obtain ⟨x, HXK⟩ : ∃ x, Hid (xs[a] = x) := ⟨_, Lib.hid rfl⟩
            rw [HXK.out] at q0 hE4c
            obtain ⟨xc, xw, xd⟩ := x
            dsimp only at q0 hE4c
            obtain ⟨A9, c9, rfl, hc9, hd9⟩ := hE4c.dims
            have HE4 := Lib.hid hE4c; clear hE4c
            obtain ⟨q, HQ⟩ : ∃ q, Hid (ltL c.code xd.code = q) := ⟨_, Lib.hid rfl⟩
            have e0 : ∀ p, (ext wv p).cell? ⟨wq.heap.size, 0, none⟩ = some (.slice Ac c.code.length cc) := ext_cell wv (a := ⟨wq.heap.size, 0, none⟩) hgC2 (HB.out.cell 0 (by simp))
            have e1 : ∀ p, (ext wv p).cell? ⟨wq.heap.size, 1, none⟩ = some (.slice Aw c.walk.length cw) := ext_cell wv (a := ⟨wq.heap.size, 1, none⟩) hgC2 (HB.out.cell 1 (by simp))
            have e2 : ∀ p, (ext wv p).cell? ⟨wq.heap.size, 2, none⟩ = some (.int .i64 (c.cnt : Nat)) := ext_cell wv (a := ⟨wq.heap.size, 2, none⟩) hgC2 (HB.out.cell 2 (by simp))
            have eq0 : ∀ p, (ext wv p).cell? ⟨bX, a * 3, none⟩ = some (.slice A9 xd.code.length c9) := ext_cell wv (a := ⟨bX, a * 3, none⟩) (by show bX < _; omega) q0
            clear q0
            have HBE := Lib.hid (fun p => (isBefore_any _ c.code lo hi (.slice A9 xd.code.length c9) xd.code lo4 hi4 (ext wv p) (IntS.below HE.out.code (ext_below _ _) (by omega)) (by have := ext_size wv p; omega) (IntS.below HE4.out (ext_below _ _) (by omega)) (by have := ext_size wv p; omega)))
            rw [HQ.out] at HBE
            cases q
            case false =>
              go_wp2_with fail
              refine wp_region_ext (by kernel_rfl) (by kernel_rfl) ?_
              repeat (go_big_quiet_step ((first | (go_at_call 52; exact ext_call (HBE.out _)))))
              refine wpQuiet_nil ?_
              rintro w1 ⟨p, rfl⟩
              clear e0 e1 e2 eq0
              obtain ⟨W97, HW97⟩ : ∃ W, Hid (W = ext wv p) := ⟨_, Lib.hid rfl⟩
              rw [← HW97.out]
              have hg97 : wv.grownBy W97 none := by rw [HW97.out]; exact grown_below (ext_below _ _)
              clear HW97
              have hs97 := hg97.size
              have HF97 := Lib.hid (HF68.out.still hg97); clear HF68
              have X97 := Lib.hid (CoX.still HX.out hg97); clear HX
              have CB97 := Lib.hid (BoxN.still HB.out hg97); clear HB
              have E97 := Lib.hid (ElOk.still HE.out hg97 (by omega)); clear HE
              go_wp2_with fail
              go_roundw
              case rel =>
                refine ⟨a + 1, by omega, by go_num, Lib.hid (fun j h hj => ?_), X97, CB97, E97, by omega, HF97⟩
                by_cases e : j = a
                · subst e; rw [HXK.out]; exact HQ.out
                · exact HLT.out j h (by omega)
              case measure => simp [intOf]; omega
            case true =>
              have hac : a ≤ xs.length := by omega
              have HIA := Lib.hid (show InsAt c (xs.map CmpV.c) a from ⟨by simpa using hac, fun j hj hja => by rw [List.getElem_map]; exact HLT.out j (by simpa using hj) hja, fun h => by rw [List.getElem_map, HXK.out]; exact HQ.out⟩)
              go_wp2_with fail
              refine wp_region_ext (by kernel_rfl) (by kernel_rfl) ?_
              repeat (go_big_quiet_step ((first | (go_at_call 52; exact ext_call (HBE.out _)))))
              refine wpQuiet_nil ?_
              rintro w1 ⟨p, rfl⟩
              clear e0 e1 e2 eq0
              obtain ⟨W98, HW98⟩ : ∃ W, Hid (W = ext wv p) := ⟨_, Lib.hid rfl⟩
              rw [← HW98.out]
              have hg98 : wv.grownBy W98 none := by rw [HW98.out]; exact grown_below (ext_below _ _)
              clear HW98
              have hs98 := hg98.size
              have HF98 := Lib.hid (HF68.out.still hg98); clear HF68
              have X98 := Lib.hid (CoX.still HX.out hg98); clear HX
              have CB98 := Lib.hid (BoxN.still HB.out hg98); clear HB
              have E98 := Lib.hid (ElOk.still HE.out hg98 (by omega)); clear HE
              clear HBE HE4
              have HINS := Lib.hid (show (xs.take a ++ [(⟨.slice Ac c.code.length cc, .slice Aw c.walk.length cw, c⟩ : CmpV)] ++ xs.drop a).map CmpV.c = partsTo N (k + 1) by
                have h := insC_at (x := c) (l := partsTo N k) (a := a) (by rw [← HXC.out]; exact HIA.out)
                rw [HPT.out, HCD.out, h, ← HXC.out]
                simp [List.map_take, List.map_drop])
              have hrl : (xs.drop a).length = xs.length - a := List.length_drop
              have htl : (xs.take a).length = a := by rw [List.length_take]; omega
              have HRL := Lib.hid hrl; have HTL := Lib.hid htl; clear hrl htl
              have HLX := Lib.hid X98.out.lt
              have HEB := Lib.hid (show ∀ y ∈ xs.drop a, ∃ lo hi, WA.heap.size ≤ lo ∧ hi ≤ top ∧ ElOk W98 lo hi y ∧ (∀ g, Value.ownBlock (.slice (some ⟨bX, 0, none⟩) xs.length co) = some g → g < lo ∨ hi ≤ g) ∧ ∀ g, Value.ownBlock (.slice A5 sn.length c5) = some g → g < lo ∨ hi ≤ g from fun y hy => X98.out.el y (List.mem_of_mem_drop hy))
              have HE1 := Lib.hid (owns_empty W98 W98.heap.size 60 3 rfl (Nat.le_refl _))
              have hax : (a : Int) ≤ xs.length := by omega
              have hay : (a : Int) ≤ co := by omega
              have haz : a ≤ co := by omega
              have HNW := Lib.hid (show ∀ j u, ((xs.drop a).flatMap encS)[j]? = some u → (W98.alloc (.cells #[] 60)).cell? ((⟨bX, a * 3, none⟩ : Addr).add j) = some u from fun j u hj => by
                rw [Go.WideShapes.add_plain, (below_a1 W98 (.cells #[] 60)).cell (p := ⟨bX, a * 3 + j, none⟩) (by show bX < _; omega)]
                exact CoS.news X98.out.co (fun _ => rfl) j u hj)
              have HON := Lib.hid (show ∀ u ∈ (xs.drop a).flatMap encS, u.oneCell' = true from fun u hu => by
                obtain ⟨y, hy1, hy2⟩ := List.mem_flatMap.1 hu
                obtain ⟨_, _, _, _, hel, _⟩ := HEB.out y hy1
                exact hel.oneS u hy2)
              have HFL := Lib.hid (show ((xs.drop a).flatMap encS).length = (xs.length - a) * 3 by rw [flat_len (enc := encS) (k := 3) (fun _ => rfl), HRL.out])
              go_upto_region 29 with (at_builtin; refine append_row (s := .tmp 96) (n := 0) (m := xs.length - a) Try.underlying57 infoPt rfl (by omega) (by omega) (W98.alloc (.cells #[] 60)) rfl (.tmp 99) rfl HE1.out rfl ((xs.drop a).flatMap encS) rfl HFL.out HNW.out HON.out (by omega) (by simp) ?_; intro rv w70 ho70 hg70 hat70)
              have hg71 := grown_new (grown_alloc W98 (.cells #[] 60)) hg70 (fun g e => (HE1.out.lt g e).1)
              have R70 := Lib.hid (show w70.ownsRow W98.heap.size 60 3 rv (xs.drop a).length ((xs.drop a).flatMap encS) by have h := ho70; rw [Nat.zero_add, ← HRL.out] at h; exact h)
              clear ho70 hg70 hat70 HNW
              obtain ⟨W99, rfl⟩ : ∃ W : World, W = w70 := ⟨_, rfl⟩
              have hs99 := hg71.size
              have HF99 := Lib.hid (HF98.out.still hg71); clear HF98
              have X99 := Lib.hid (CoX.still X98.out hg71); clear X98
              have CB99 := Lib.hid (BoxN.still CB98.out hg71); clear CB98
              have E99 := Lib.hid (ElOk.still E98.out hg71 (by omega)); clear E98
              have HEC := Lib.hid (show ∀ y ∈ xs.drop a, ∃ lo hi, WA.heap.size ≤ lo ∧ hi ≤ W99.heap.size ∧ ElOk W99 lo hi y ∧ (∀ g, Value.ownBlock (.slice (some ⟨bX, 0, none⟩) a co) = some g → g < lo ∨ hi ≤ g) ∧ ∀ g, Value.ownBlock (.slice A5 sn.length c5) = some g → g < lo ∨ hi ≤ g from fun y hy => by
                obtain ⟨lo', hi', a1, a2, a3, a4, a5⟩ := HEB.out y hy
                exact ⟨lo', hi', a1, by omega, a3.still hg71 (by omega), a4, a5⟩)
              have X1 := Lib.hid (CoX.first X99.out (fun _ => rfl) hac)
              clear HEB hg71 HE1
              refine wp_region_U (fun w' => w'.cell? ⟨wq.heap.size, 0, none⟩ = some (.slice Ac c.code.length cc) ∧ w'.cell? ⟨wq.heap.size, 1, none⟩ = some (.slice Aw c.walk.length cw) ∧ w'.cell? ⟨wq.heap.size, 2, none⟩ = some (.int .i64 (c.cnt : Nat))) [] (by kernel_rfl) ?_
              refine nameU ?_
              intro W100 HW100
              have hg100 : W99.grownBy W100 none := by rw [HW100.out]; exact grown_drew _
              clear HW100
              have hs100 := hg100.size
              have HF100 := Lib.hid (HF99.out.still hg100); clear HF99
              have X100 := Lib.hid (CoX.still X99.out hg100); clear X99
              have CB100 := Lib.hid (BoxN.still CB99.out hg100); clear CB99
              have E100 := Lib.hid (ElOk.still E99.out hg100 (by omega)); clear E99
              have hS101 : W100.cell? ⟨wq.heap.size, 0, none⟩ = some (.slice Ac c.code.length cc) ∧ W100.cell? ⟨wq.heap.size, 1, none⟩ = some (.slice Aw c.walk.length cw) ∧ W100.cell? ⟨wq.heap.size, 2, none⟩ = some (.int .i64 (c.cnt : Nat)) := ⟨CB100.out.cell 0 (by simp), CB100.out.cell 1 (by simp), CB100.out.cell 2 (by simp)⟩
              have HEC2 := Lib.hid (show ∀ y ∈ xs.drop a, ∃ lo hi, WA.heap.size ≤ lo ∧ hi ≤ W100.heap.size ∧ ElOk W100 lo hi y ∧ (∀ g, Value.ownBlock (.slice (some ⟨bX, 0, none⟩) a co) = some g → g < lo ∨ hi ≤ g) ∧ ∀ g, Value.ownBlock (.slice A5 sn.length c5) = some g → g < lo ∨ hi ≤ g from fun y hy => by
                obtain ⟨lo', hi', a1, a2, a3, a4, a5⟩ := HEC.out y hy
                exact ⟨lo', hi', a1, by omega, a3.still hg100 (by omega), a4, a5⟩)
              have R71 := Lib.hid (R70.out.kept hg100 (by cases hrv : Value.ownBlock (rv) with
                | none => exact .inl rfl
                | some g => right; simp))
              have X11 := Lib.hid (CoX.still X1.out hg100)
              clear HEC R70 X1
              refine anyU_take (i := 0) (v := .slice (some ⟨bX, 0, none⟩) xs.length co) rfl (by kernel_rfl) (by kernel_rfl) (by kernel_rfl) (fun _ _ _ h => h) ⟨by rfl, fun w' hS' => (by obtain ⟨s1, s2, s3⟩ := hS'; go_simp)⟩ hS101 ?_
              simp only [List.getElem_toArray, List.getElem_cons_zero, Act.put, List.setIfInBounds_toArray, List.set_cons_zero, List.set_cons_succ]
              refine anyU_take (i := 1) (v := .int .i64 a) rfl (by kernel_rfl) (by kernel_rfl) (by kernel_rfl) (fun _ _ _ h => h) ⟨by rfl, fun w' hS' => (by obtain ⟨s1, s2, s3⟩ := hS'; go_simp)⟩ hS101 ?_
              simp only [List.getElem_toArray, List.getElem_cons_succ, List.getElem_cons_zero, Act.put, List.setIfInBounds_toArray, List.set_cons_zero, List.set_cons_succ]
              refine anyU_take (i := 2) (v := .slice (some ⟨bX, 0, none⟩) a co) rfl (by kernel_rfl) (by kernel_rfl) (by kernel_rfl) (fun _ _ _ h => h) ⟨by rfl, fun w' hS' => (by obtain ⟨s1, s2, s3⟩ := hS'; simp [go_sem, hay])⟩ hS101 ?_
              simp only [List.getElem_toArray, List.getElem_cons_succ, List.getElem_cons_zero, Act.put, List.setIfInBounds_toArray, List.set_cons_zero, List.set_cons_succ]
              refine anyU_take (i := 3) (v := .agg #[.slice Ac c.code.length cc, .slice Aw c.walk.length cw, .int .i64 (c.cnt : Nat)]) rfl (by kernel_rfl) (by kernel_rfl) (by kernel_rfl) (fun _ _ _ h => h) ⟨by rfl, fun w' hS' => (by obtain ⟨s1, s2, s3⟩ := hS'; go_simp)⟩ hS101 ?_
              simp only [List.getElem_toArray, List.getElem_cons_succ, List.getElem_cons_zero, Act.put, List.setIfInBounds_toArray, List.set_cons_zero, List.set_cons_succ]
              refine anyU_take (i := 6) (v := rv) rfl (by kernel_rfl) (by kernel_rfl) (by kernel_rfl) (fun _ _ _ h => h) ⟨by rfl, fun w' hS' => (by obtain ⟨s1, s2, s3⟩ := hS'; go_simp)⟩ hS101 ?_
              simp only [List.getElem_toArray, List.getElem_cons_succ, List.getElem_cons_zero, Act.put, List.setIfInBounds_toArray, List.set_cons_zero, List.set_cons_succ]
              refine anyU_ready (rs := [4]) (by kernel_rfl) (by simp) ?_
              refine ReadyU.cons (i := 4) rfl (fun K hK => ?_) ReadyU.nil
              simp only [List.getElem_toArray, List.getElem_cons_succ, List.getElem_cons_zero]
              refine ite_is (by rfl) ?_
              simp [go_sem]
              refine hK.out _ _ ⟨fun _ => ⟨(CB100.out.still (grown_alloc _ _)).cell 0 (by simp), (CB100.out.still (grown_alloc _ _)).cell 1 (by simp), (CB100.out.still (grown_alloc _ _)).cell 2 (by simp)⟩, ?_⟩
              clear hK K
              try simp only [List.getElem_toArray, List.getElem_cons_succ, List.getElem_cons_zero, Act.put, List.setIfInBounds_toArray, List.set_cons_zero, List.set_cons_succ]
              refine nameU ?_
              intro W102 HW102
              have hg102 : W100.grownBy W102 none := by rw [HW102.out]; exact grown_alloc _ _
              have BV := Lib.hid (show BoxN W102 W100.heap.size #[.slice Ac c.code.length cc, .slice Aw c.walk.length cw, .int .i64 (c.cnt : Nat)] 60 by rw [HW102.out]; exact BoxN.new _ _ _)
              have hz102 : W100.heap.size < W102.heap.size := BV.out.lt
              clear HW102
              have hs102 := hg102.size
              have HF102 := Lib.hid (HF100.out.still hg102); clear HF100
              have X102 := Lib.hid (CoX.still X100.out hg102); clear X100
              have CB102 := Lib.hid (BoxN.still CB100.out hg102); clear CB100
              have E102 := Lib.hid (ElOk.still E100.out hg102 (by omega)); clear E100
              have HEC3 := Lib.hid (show ∀ y ∈ xs.drop a, ∃ lo hi, WA.heap.size ≤ lo ∧ hi ≤ W102.heap.size ∧ ElOk W102 lo hi y ∧ (∀ g, Value.ownBlock (.slice (some ⟨bX, 0, none⟩) a co) = some g → g < lo ∨ hi ≤ g) ∧ ∀ g, Value.ownBlock (.slice A5 sn.length c5) = some g → g < lo ∨ hi ≤ g from fun y hy => by
                obtain ⟨lo', hi', a1, a2, a3, a4, a5⟩ := HEC2.out y hy
                exact ⟨lo', hi', a1, by omega, a3.still hg102 (by omega), a4, a5⟩)
              have R72 := Lib.hid (R71.out.kept hg102 (by cases hrv : Value.ownBlock (rv) with
                | none => exact .inl rfl
                | some g => right; simp))
              have X12 := Lib.hid (CoX.still X11.out hg102)
              clear HEC2 R71 X11
              have hS103 : W102.cell? ⟨wq.heap.size, 0, none⟩ = some (.slice Ac c.code.length cc) ∧ W102.cell? ⟨wq.heap.size, 1, none⟩ = some (.slice Aw c.walk.length cw) ∧ W102.cell? ⟨wq.heap.size, 2, none⟩ = some (.int .i64 (c.cnt : Nat)) := ⟨CB102.out.cell 0 (by simp), CB102.out.cell 1 (by simp), CB102.out.cell 2 (by simp)⟩
              clear hS101
              have hlx : ∀ g, Value.ownBlock (.slice (some ⟨bX, 0, none⟩) a co) = some g → WA.heap.size ≤ g ∧ g < top := fun g e => HLX.out g e
              have HLA := Lib.hid hlx; clear hlx
              have HYE := Lib.hid (show ∀ y ∈ [(⟨.slice Ac c.code.length cc, .slice Aw c.walk.length cw, c⟩ : CmpV)], ∃ lo hi, WA.heap.size ≤ lo ∧ hi ≤ W102.heap.size ∧ ElOk W102 lo hi y ∧ (∀ g, Value.ownBlock (.slice (some ⟨bX, 0, none⟩) a co) = some g → g < lo ∨ hi ≤ g) ∧ ∀ g, Value.ownBlock (.slice A5 sn.length c5) = some g → g < lo ∨ hi ≤ g from fun y hy => by
                rw [List.mem_singleton] at hy
                subst hy
                exact ⟨lo, hi, by omega, by omega, E102.out, fun g e => .inl (by have := HLA.out g e; omega), fun g e => .inl (by have := HUC.out g e; omega)⟩)
              refine anyU_ready (rs := [5]) (by kernel_rfl) (by simp) ?_
              refine ReadyU.cons (i := 5) rfl (fun K hK => ?_) ReadyU.nil
              refine step_append_own2 Try.underlying57 infoPt rfl (by omega) (by omega) W102 (by rfl) _ (by rfl) X12.out.row (by rfl) _ (owns_box BV.out rfl 0 (Nat.zero_le _)) (by rfl) (by intro u hu; simp only [List.mem_cons, List.not_mem_nil, or_false] at hu; rcases hu with rfl | rfl | rfl <;> rfl) (by rw [HTL.out]; omega) (by omega) ?_
              intro v1 W104 ho1 hg104 hat1
              have hs104 := hg104.size
              have HF104 := Lib.hid (HF102.out.grown hg104 (fun g e => .inr (by have := HLA.out g e; omega))); clear HF102
              have CB104 := Lib.hid (BoxN.far CB102.out hg104 (fun g e => by have := HLA.out g e; omega))
              have X13 := Lib.hid (CoX.app (ys := [(⟨.slice Ac c.code.length cc, .slice Aw c.walk.length cw, c⟩ : CmpV)]) X12.out hg104 ho1 hat1 HYE.out)
              have R73 := Lib.hid (R72.out.kept hg104 (by
                cases hrv : Value.ownBlock (rv) with
                | none => exact .inl rfl
                | some g =>
                  right
                  intro e
                  have h1 := (R72.out.lt g hrv).1
                  have h2 := HLA.out g e.symm
                  omega))
              have HEC4 := Lib.hid (show ∀ y ∈ xs.drop a, ∃ lo hi, WA.heap.size ≤ lo ∧ hi ≤ W104.heap.size ∧ ElOk W104 lo hi y ∧ (∀ g, v1.ownBlock = some g → g < lo ∨ hi ≤ g) ∧ ∀ g, Value.ownBlock (.slice A5 sn.length c5) = some g → g < lo ∨ hi ≤ g from fun y hy => by
                obtain ⟨lo', hi', a1, a2, a3, a4, a5⟩ := HEC3.out y hy
                refine ⟨lo', hi', a1, by omega, a3.far hg104 a2 a4, fun g e => ?_, a5⟩
                rcases hat1 with e1 | ⟨g', e1, h1⟩
                · exact a4 g (by rw [← e1]; exact e)
                · rw [e1] at e; injection e with e; omega)
              have HL1 := Lib.hid (show ∀ g, v1.ownBlock = some g → WA.heap.size ≤ g ∧ g ≠ wq.heap.size from fun g e => by
                refine ⟨(X13.out.lt g e).1, ?_⟩
                rcases hat1 with e1 | ⟨g', e1, h1⟩
                · have := HLA.out g (by rw [← e1]; exact e); omega
                · rw [e1] at e; injection e with e; omega)
              clear HEC3 R72 X12 hat1 HYE CB102 ho1 BV
              have hS105 : W104.cell? ⟨wq.heap.size, 0, none⟩ = some (.slice Ac c.code.length cc) ∧ W104.cell? ⟨wq.heap.size, 1, none⟩ = some (.slice Aw c.walk.length cw) ∧ W104.cell? ⟨wq.heap.size, 2, none⟩ = some (.int .i64 (c.cnt : Nat)) := ⟨CB104.out.cell 0 (by simp), CB104.out.cell 1 (by simp), CB104.out.cell 2 (by simp)⟩
              refine hK.out _ _ ⟨fun _ => hS105, ?_⟩
              clear hK K hS103
              try simp only [List.getElem_toArray, List.getElem_cons_succ, List.getElem_cons_zero, Act.put, List.setIfInBounds_toArray, List.set_cons_zero, List.set_cons_succ]
              refine anyU_ready (rs := [7]) (by kernel_rfl) (by simp) ?_
              refine ReadyU.cons (i := 7) rfl (fun K hK => ?_) ReadyU.nil
              refine step_append_own2 Try.underlying57 infoPt rfl (by omega) (by omega) W104 (by rfl) _ (by rfl) X13.out.row (by rfl) _ R73.out (by rfl) HON.out (by rw [HRL.out, List.length_append, HTL.out]; simp; omega) (by omega) ?_
              intro v2 W106 ho2 hg106 hat2
              have hs106 := hg106.size
              have HF106 := Lib.hid (HF104.out.grown hg106 (fun g e => .inr (by have := HL1.out g e; omega))); clear HF104
              have CB106 := Lib.hid (BoxN.far CB104.out hg106 (fun g e => (HL1.out g e).2))
              have X14 := Lib.hid (CoX.app X13.out hg106 ho2 hat2 HEC4.out)
              clear HEC4 R73 X13 hat2 CB104 ho2
              have hS107 : W106.cell? ⟨wq.heap.size, 0, none⟩ = some (.slice Ac c.code.length cc) ∧ W106.cell? ⟨wq.heap.size, 1, none⟩ = some (.slice Aw c.walk.length cw) ∧ W106.cell? ⟨wq.heap.size, 2, none⟩ = some (.int .i64 (c.cnt : Nat)) := ⟨CB106.out.cell 0 (by simp), CB106.out.cell 1 (by simp), CB106.out.cell 2 (by simp)⟩
              refine hK.out _ _ ⟨fun _ => hS107, ?_⟩
              clear hK K hS105
              try simp only [List.getElem_toArray, List.getElem_cons_succ, List.getElem_cons_zero, Act.put, List.setIfInBounds_toArray, List.set_cons_zero, List.set_cons_succ]
              refine anyU_ready (rs := [8]) (by kernel_rfl) (by simp) ?_
              refine ReadyU.cons (i := 8) rfl (fun K hK => ?_) ReadyU.nil
              simp only [List.getElem_toArray, List.getElem_cons_succ, List.getElem_cons_zero]
              refine ite_is (by rfl) ?_
              simp [go_sem]
              refine hK.out _ _ ⟨fun _ => hS107, ?_⟩
              clear hK K
              try simp only [List.getElem_toArray, List.getElem_cons_succ, List.getElem_cons_zero, Act.put, List.setIfInBounds_toArray, List.set_cons_zero, List.set_cons_succ]
              clear hS107
              refine anyU_done (by kernel_rfl) ?_ _
              go_wp2_with fail
              go_roundw
              case rel => exact ⟨k + 1, sn, _, W106.heap.size, by omega, by go_num, HSN2, hsl2, X14, HINS, HF106⟩
              case measure => simp [intOf]; omega

end Go.Proofs.Ytmdlginjblnfoaa

/- Contracts: CanonicalOrder, program and reference . -/
namespace Go.Proofs.Ytmdlginjblnfoaa
open Go.ChangeShapes Go.WideShapes Go.ChangeAt Go.RowKit
set_option linter.unusedVariables false

/-- what CanonicalOrder hands back -/
def coOut (N : NetD) : List Int := if N.good then canonL N else []
theorem coOut_yes {N : NetD} (h : N.good = true) : coOut N = canonL N := by unfold coOut; rw [if_pos h]
theorem coOut_no {N : NetD} (h : N.good = false) : coOut N = [] := by unfold coOut; rw [h]; rfl
theorem coOut_len (N : NetD) : (coOut N).length ≤ 1000000 := by
  by_cases h : N.good = true
  · rw [coOut_yes h]
    unfold canonL
    rw [ordTo_numL, numL_length]
    have := (good_n h).2
    simp; omega
  · rw [coOut_no (by simpa using h)]; simp

set_option maxHeartbeats 2000000 in
set_option maxRecDepth 100000 in
theorem CanonicalOrder_impl (v1 : Value) (N : NetD) (lo1 hi1 : Nat) (w : World) (h1 : Net w lo1 hi1 v1 N) (hh1 : hi1 ≤ w.heap.size) (hz1 : N.sz ≤ 1048576) (ok1 : N.Ok) :
    Calls Try.prog 8 #[v1] w fun e w' => ∃ r, e = .returned (.tuple #[r, .bool N.good]) ∧ IntS w' w.heap.size w'.heap.size r (coOut N) ∧ Below w.heap.size w w' := by
  clear ok1
  have F1 := Lib.hid h1
  obtain ⟨A1, c1, A1', c1', A1'', c1'', rfl, hc1, hd1, _⟩ := h1.parts
  clear h1
  obtain ⟨WA, HWA⟩ : ∃ W, Hid (W = (w.alloc (.cells #[.slice A1 N.ends.length c1, .slice A1' N.ids.length c1', .slice A1'' N.inputs.length c1''] 31))) := ⟨_, Lib.hid rfl⟩
  have hbA : Below w.heap.size w WA := by rw [HWA.out]; exact ((Below.refl _ _).alloc (Nat.le_refl _) _)
  have hsA : w.heap.size + 1 ≤ WA.heap.size := by rw [HWA.out]; simp; try omega
  have bx1 : BoxN WA (w.heap.size) #[.slice A1 N.ends.length c1, .slice A1' N.ids.length c1', .slice A1'' N.inputs.length c1''] 31 := by rw [HWA.out]; exact (BoxN.new' _ _ _ (by simp))
  have G1 := Lib.hid (Net.below F1.out hbA hh1); clear F1
  go_enter Try.func8, Try.ntmps8
  go_upto_region 1 with (fail)
  rw [← HWA.out]; clear HWA
  have kbx1_0 : WA.cell? ⟨w.heap.size, 0, none⟩ = some (.slice A1 N.ends.length c1) := bx1.cell 0 (by simp)
  have kbx1_1 : WA.cell? ⟨w.heap.size, 1, none⟩ = some (.slice A1' N.ids.length c1') := bx1.cell 1 (by simp)
  have kbx1_2 : WA.cell? ⟨w.heap.size, 2, none⟩ = some (.slice A1'' N.inputs.length c1'') := bx1.cell 2 (by simp)
  go_wp2_with fail
  clear kbx1_0 kbx1_1 kbx1_2
  refine (IsNetwork_any _ N lo1 hi1 _ G1.out (by omega) hz1).mono ?_
  rintro e W1 ⟨rfl, hb1⟩
  have hg1 := grown_below hb1; clear hb1
  have hs1 := hg1.size
  have HF1 := Lib.hid ((Turned.refl WA.heap.size WA.heap.size WA).still hg1)
  by_cases hg : N.good = true
  case neg =>
    have hg' : N.good = false := by simpa using hg
    rw [hg']
    have HG := Lib.hid hg'; clear hg hg'
    go_wp2_with fail
    go_ret2
    exact ⟨_, ret_vb HG.out.symm, by rw [coOut_no HG.out]; exact IntS.nil _ _ _, (HF1.out.below_of hbA (by omega) (by omega))⟩
  rw [hg]
  have HG := Lib.hid hg; clear hg
  obtain ⟨n1, n40⟩ := good_n HG.out
  have kbx1_0 : W1.cell? ⟨w.heap.size, 0, none⟩ = some (.slice A1 N.ends.length c1) := (HF1.out.boxN bx1 (by omega)).cell 0 (by simp)
  have kbx1_1 : W1.cell? ⟨w.heap.size, 1, none⟩ = some (.slice A1' N.ids.length c1') := (HF1.out.boxN bx1 (by omega)).cell 1 (by simp)
  have kbx1_2 : W1.cell? ⟨w.heap.size, 2, none⟩ = some (.slice A1'' N.inputs.length c1'') := (HF1.out.boxN bx1 (by omega)).cell 2 (by simp)
  go_wp2_with fail
  clear kbx1_0 kbx1_1 kbx1_2
  refine (canonicalOrder_impl _ N lo1 hi1 _ (Net.turned G1.out HF1.out (by omega) (by omega)) (by omega) HG.out).mono ?_
  rintro e W2 ⟨r9, rfl, hr9, hb2⟩
  have hg2 := grown_below hb2; clear hb2
  have hs2 := hg2.size
  have HF2 := Lib.hid (HF1.out.still hg2); clear HF1
  rw [← coOut_yes HG.out] at hr9
  have HR9 := Lib.hid hr9; clear hr9
  obtain ⟨A9, c9, rfl, hc9, hd9⟩ := HR9.out.dims
  go_wp2_with fail
  go_ret2
  exact ⟨_, ret_vb HG.out.symm, IntS.mono HR9.out (by omega) (Nat.le_refl _), (HF2.out.below_of hbA (by omega) (by omega))⟩

set_option maxHeartbeats 2000000 in
set_option maxRecDepth 100000 in
theorem CanonicalOrder_spec (v1 : Value) (N : NetD) (lo1 hi1 : Nat) (w : World) (h1 : Net w lo1 hi1 v1 N) (hh1 : hi1 ≤ w.heap.size) (hz1 : N.sz ≤ 1048576) (ok1 : N.Ok) :
    Calls Try.prog 6 #[v1] w fun e w' => ∃ r, e = .returned (.tuple #[r, .bool N.good]) ∧ IntS w' w.heap.size w'.heap.size r (coOut N) ∧ Below w.heap.size w w' := by
  clear ok1
  have HPC := Lib.hid (show PartsC Try.prog 34 60 from fun v N lo hi w h hh hg => isParts_any v N lo hi w h hh hg)
  have F1 := Lib.hid h1
  obtain ⟨A1, c1, A1', c1', A1'', c1'', rfl, hc1, hd1, _⟩ := h1.parts
  clear h1
  obtain ⟨WA, HWA⟩ : ∃ W, Hid (W = (w.alloc (.cells #[.slice A1 N.ends.length c1, .slice A1' N.ids.length c1', .slice A1'' N.inputs.length c1''] 31))) := ⟨_, Lib.hid rfl⟩
  have hbA : Below w.heap.size w WA := by rw [HWA.out]; exact ((Below.refl _ _).alloc (Nat.le_refl _) _)
  have hsA : w.heap.size + 1 ≤ WA.heap.size := by rw [HWA.out]; simp; try omega
  have bx1 : BoxN WA (w.heap.size) #[.slice A1 N.ends.length c1, .slice A1' N.ids.length c1', .slice A1'' N.inputs.length c1''] 31 := by rw [HWA.out]; exact (BoxN.new' _ _ _ (by simp))
  have G1 := Lib.hid (Net.below F1.out hbA hh1); clear F1
  go_enter Try.func6, Try.ntmps6
  go_upto_region 1 with (fail)
  rw [← HWA.out]; clear HWA
  have kbx1_0 : WA.cell? ⟨w.heap.size, 0, none⟩ = some (.slice A1 N.ends.length c1) := bx1.cell 0 (by simp)
  have kbx1_1 : WA.cell? ⟨w.heap.size, 1, none⟩ = some (.slice A1' N.ids.length c1') := bx1.cell 1 (by simp)
  have kbx1_2 : WA.cell? ⟨w.heap.size, 2, none⟩ = some (.slice A1'' N.inputs.length c1'') := bx1.cell 2 (by simp)
  go_wp2_with fail
  clear kbx1_0 kbx1_1 kbx1_2
  refine (neGood_any _ N lo1 hi1 _ G1.out (by omega) hz1).mono ?_
  rintro e W1 ⟨rfl, hb1⟩
  have hg1 := grown_below hb1; clear hb1
  have hs1 := hg1.size
  have HF1 := Lib.hid ((Turned.refl WA.heap.size WA.heap.size WA).still hg1)
  by_cases hg : N.good = true
  case neg =>
    have hg' : N.good = false := by simpa using hg
    rw [hg']
    have HG := Lib.hid hg'; clear hg hg'
    go_wp2_with fail
    go_ret2
    exact ⟨_, ret_vb HG.out.symm, by rw [coOut_no HG.out]; exact IntS.nil _ _ _, (HF1.out.below_of hbA (by omega) (by omega))⟩
  rw [hg]
  have HG := Lib.hid hg; clear hg
  obtain ⟨n1, n40⟩ := good_n HG.out
  have kbx1_0 : W1.cell? ⟨w.heap.size, 0, none⟩ = some (.slice A1 N.ends.length c1) := (HF1.out.boxN bx1 (by omega)).cell 0 (by simp)
  have kbx1_1 : W1.cell? ⟨w.heap.size, 1, none⟩ = some (.slice A1' N.ids.length c1') := (HF1.out.boxN bx1 (by omega)).cell 1 (by simp)
  have kbx1_2 : W1.cell? ⟨w.heap.size, 2, none⟩ = some (.slice A1'' N.inputs.length c1'') := (HF1.out.boxN bx1 (by omega)).cell 2 (by simp)
  go_wp2_with fail
  clear kbx1_0 kbx1_1 kbx1_2
  refine (isOrder_spec _ N lo1 hi1 _ (Net.turned G1.out HF1.out (by omega) (by omega)) (by omega) HG.out HPC.out).mono ?_
  rintro e W2 ⟨r9, rfl, hr9, hb2⟩
  have hg2 := grown_below hb2; clear hb2
  have hs2 := hg2.size
  have HF2 := Lib.hid (HF1.out.still hg2); clear HF1
  rw [← coOut_yes HG.out] at hr9
  have HR9 := Lib.hid hr9; clear hr9
  obtain ⟨A9, c9, rfl, hc9, hd9⟩ := HR9.out.dims
  go_wp2_with fail
  go_ret2
  exact ⟨_, ret_vb HG.out.symm, IntS.mono HR9.out (by omega) (Nat.le_refl _), (HF2.out.below_of hbA (by omega) (by omega))⟩

end Go.Proofs.Ytmdlginjblnfoaa
