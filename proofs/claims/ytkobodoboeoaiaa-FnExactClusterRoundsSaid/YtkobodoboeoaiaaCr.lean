/-
  Contracts: ClusterRounds, the program's and the reference's.
-/
import Derived.Test.YtkobodoboeoaiaaCrP
import Derived.Test.YtkobodoboeoaiaaDiam
import Derived.Test.YtkobodoboeoaiaaReg
import Derived.Carry
import Derived.Maps.RangeWalk
namespace Go.Proofs.Ytkobodoboeoaiaa
open Go.ChangeShapes Go.WideShapes Go.ChangeAt Go.RowKit
set_option linter.unusedVariables false

theorem ite_is {c : Prop} [Decidable c] {x y : Prop} (h : c) (k : x) : if c then x else y := by rw [if_pos h]; exact k
open Go.Maps in
theorem lawI : Maps.Keyed Try.prog 3 := Maps.int_keyed Try.underlying3
/-- block b is a map of numbers that reads as D -/
def MpO (w : World) (b n : Nat) (D : DataW Unit) : Prop := w.ownsMap Try.prog 3 (plainElem (H := Unit) Try.prog 3) b n D
theorem MpO.still {w w' : World} {b n : Nat} {D : DataW Unit} (h : MpO w b n D) (hg : w.grownBy w' none) : MpO w' b n D := World.ownsMap.kept h hg (by simp)
def crOut (N : NetD) (D : DecD) : Int := if askedB N D then sumC (fun x => rr D.colour (diams N D.cluster D.colour.length) x D.colour.length) 41 else 0
theorem rd_wf {x : Int} (h0 : -1000000 ≤ x) (h1 : x ≤ 1000000) : (Lit.int .i64 x).wf = true := by
  simp [Lit.wf, IntKind.min, IntKind.max, IntKind.signed, IntKind.bits]
  omega
set_option maxRecDepth 100000 in
theorem RdM.look {w : World} {b n : Nat} {D : DataW Unit} {cs ds : List Int} {k : Nat} (h : RdM D cs ds k) (hm : MpO w b n D) {x : Int} (hx : (Lit.int .i64 x).wf = true) :
    (Instr.lookup 84 (.map (some b)) (.int .i64 x) false).run Try.prog w = .ok (.int .i64 (rr cs ds x k)) w := by
  obtain ⟨c, hrun, hat, _⟩ := World.ownsMap.lookup_int hm lawI Try.underlying84 Try.underlying3 (Try.zeroValue3 _) (Maps.keyOf_int_mk Try.underlying3 hx)
  rw [h.at_] at hat
  injection hat with hat
  injection hat with _ hat
  rw [hat]; exact hrun

set_option maxHeartbeats 4000000 in
set_option maxRecDepth 100000 in
theorem ClusterRounds_impl (v1 : Value) (N : NetD) (lo1 hi1 : Nat) (v2 : Value) (D : DecD) (lo2 hi2 : Nat) (w : World) (h1 : Net w lo1 hi1 v1 N) (hh1 : hi1 ≤ w.heap.size) (h2 : Dec w lo2 hi2 v2 D) (hh2 : hi2 ≤ w.heap.size) (hz1 : N.sz ≤ 1048576) (hz2 : D.sz ≤ 1048576) (ok1 : N.Ok) (ok2 : D.Ok) :
    Calls Try.prog 37 #[v1, v2] w fun e w' => e = .returned (.tuple #[.int .i64 (crOut N D), .bool (askedB N D)]) ∧ Below w.heap.size w w' := by
  clear ok1 ok2
  have F1 := Lib.hid h1
  obtain ⟨A1, c1, A1', c1', A1'', c1'', rfl, hc1, hd1, _⟩ := h1.parts
  clear h1
  have F2 := Lib.hid h2
  obtain ⟨A2, c2, A2', c2', rfl, hc2, hd2⟩ := h2.parts
  clear h2
  obtain ⟨WA, HWA⟩ : ∃ W, Hid (W = ((w.alloc (.cells #[.slice A1 N.ends.length c1, .slice A1' N.ids.length c1', .slice A1'' N.inputs.length c1''] 32)).alloc (.cells #[.slice A2 D.cluster.length c2, .slice A2' D.colour.length c2'] 43))) := ⟨_, Lib.hid rfl⟩
  have hbA : Below w.heap.size w WA := by rw [HWA.out]; exact (((Below.refl _ _).alloc (Nat.le_refl _) _).alloc (by simp; try omega) _)
  have hsA : w.heap.size + 2 ≤ WA.heap.size := by rw [HWA.out]; simp; try omega
  have bx1 : BoxN WA (w.heap.size) #[.slice A1 N.ends.length c1, .slice A1' N.ids.length c1', .slice A1'' N.inputs.length c1''] 32 := by rw [HWA.out]; exact (BoxN.new' _ _ _ (by simp)).still (grown_alloc _ _)
  have bx2 : BoxN WA (w.heap.size + 1) #[.slice A2 D.cluster.length c2, .slice A2' D.colour.length c2'] 43 := by rw [HWA.out]; exact (BoxN.new' _ _ _ (by simp))
  have G1 := Lib.hid (Net.below F1.out hbA hh1); clear F1
  have G2 := Lib.hid (Dec.below F2.out hbA hh2); clear F2
  go_enter Try.func37, Try.ntmps37
  go_upto_region 1 with (fail)
  rw [← HWA.out]; clear HWA
  have gC := Lib.hid (Dec.clusterS G2.out)
  have gL := Lib.hid (Dec.colourS G2.out)
  have kbx1_0 : WA.cell? ⟨w.heap.size, 0, none⟩ = some (.slice A1 N.ends.length c1) := bx1.cell 0 (by simp)
  have kbx1_1 : WA.cell? ⟨w.heap.size, 1, none⟩ = some (.slice A1' N.ids.length c1') := bx1.cell 1 (by simp)
  have kbx1_2 : WA.cell? ⟨w.heap.size, 2, none⟩ = some (.slice A1'' N.inputs.length c1'') := bx1.cell 2 (by simp)
  have kbx2_0 : WA.cell? ⟨w.heap.size + 1, 0, none⟩ = some (.slice A2 D.cluster.length c2) := bx2.cell 0 (by simp)
  have kbx2_1 : WA.cell? ⟨w.heap.size + 1, 1, none⟩ = some (.slice A2' D.colour.length c2') := bx2.cell 1 (by simp)
  go_wp2_with fail
  clear kbx1_0 kbx1_1 kbx1_2 kbx2_0 kbx2_1
  refine (decompositionOk_any _ N lo1 hi1 _ D lo2 hi2 _ G1.out (by omega) G2.out (by omega) hz1 hz2).mono ?_
  rintro e W1 ⟨rfl, hb1⟩
  have hg1 := grown_below hb1; clear hb1
  have hs1 := hg1.size
  have HF1 := Lib.hid ((Turned.refl WA.heap.size WA.heap.size WA).still hg1)
  by_cases hA : askedB N D = true
  case neg =>
    have hA' : askedB N D = false := by simpa using hA
    rw [hA']
    have HA := Lib.hid hA'; clear hA hA'
    go_wp2_with fail
    go_ret2
    exact ⟨by unfold crOut; rw [HA.out]; rfl, (HF1.out.below_of hbA (by omega) (by omega))⟩
  rw [hA]
  have HA := Lib.hid hA; clear hA
  have HG := Lib.hid (askedB_parts HA.out).1
  have HK := Lib.hid (askedB_parts HA.out).2
  obtain ⟨n1, n40⟩ := good_n HG.out
  have hcl := HK.out.clus.len
  have hle1 : D.cluster.length ≤ N.ends.length := by omega
  have hle2 : N.ends.length ≤ D.cluster.length := by omega
  have HCL := Lib.hid hcl
  obtain ⟨m, hm, hm3⟩ := HK.out.clus.most HG.out
  have hcol := HK.out.len
  rw [hm, Int.toNat_natCast] at hcol
  have HMC := Lib.hid (show mostI D.cluster + 1 = (D.colour.length : Int) by omega)
  have hcol1 : 1 ≤ D.colour.length := by omega
  have hcol2 : D.colour.length ≤ N.ends.length := by omega
  clear hcl hm hcol
  obtain ⟨m, HM⟩ : ∃ m, Hid (D.colour.length = m) := ⟨_, Lib.hid rfl⟩
  have hm1 : 1 ≤ m := by have := HM.out; omega
  have hm40 : m ≤ 40 := by have := HM.out; omega
  obtain ⟨ds, HDS⟩ : ∃ ds, Hid (diams N D.cluster m = ds) := ⟨_, Lib.hid rfl⟩
  have hdl : ds.length = m := by rw [← HDS.out]; exact diams_length _ _ _
  have HDB := Lib.hid (show ∀ j, j < m → 0 ≤ nth ds j ∧ nth ds j ≤ 40 from fun j hj => by
    have := nth_mem (zs := ds) (i := j) (by omega)
    rw [← HDS.out] at this
    rw [← HDS.out]
    exact diams_at HG.out HCL.out this)
  have hdl1 : ds.length ≤ m := Nat.le_of_eq hdl
  have hdl2 : m ≤ ds.length := Nat.le_of_eq hdl.symm
  clear hdl
  have HCB := Lib.hid (show ∀ j, j < m → ∃ a : Nat, nth D.colour j = a ∧ a < 41 from fun j hj => by
    have := HK.out.low _ (nth_mem (zs := D.colour) (i := j) (by rw [HM.out]; exact hj))
    exact ⟨(nth D.colour j).toNat, by omega, by omega⟩)
  have HRES := Lib.hid (show crOut N D = sumC (fun x => rr D.colour ds x m) 41 by unfold crOut; rw [HA.out, if_pos rfl, HM.out, HDS.out])
  have hmm := @run_makeMap Try.prog
  go_upto_region 4 with (fail)
  refine nameC ?_
  intro W2 HW2
  have hg2 : W1.grownBy W2 none := by rw [HW2.out]; exact grown_alloc _ _
  have hs2 := hg2.size
  have HF2 := Lib.hid (HF1.out.still hg2); clear HF1
  have MP2 := Lib.hid (show MpO W2 W1.heap.size 0 (.map []) by rw [HW2.out]; exact World.ownsMap_made _ _ _ _)
  have hzb : W1.heap.size + 1 ≤ W2.heap.size := by rw [HW2.out]; simp
  clear HW2 hmm
  have kbx1_0 : W2.cell? ⟨w.heap.size, 0, none⟩ = some (.slice A1 N.ends.length c1) := (HF2.out.boxN bx1 (by omega)).cell 0 (by simp)
  have kbx1_1 : W2.cell? ⟨w.heap.size, 1, none⟩ = some (.slice A1' N.ids.length c1') := (HF2.out.boxN bx1 (by omega)).cell 1 (by simp)
  have kbx1_2 : W2.cell? ⟨w.heap.size, 2, none⟩ = some (.slice A1'' N.inputs.length c1'') := (HF2.out.boxN bx1 (by omega)).cell 2 (by simp)
  have kbx2_0 : W2.cell? ⟨w.heap.size + 1, 0, none⟩ = some (.slice A2 D.cluster.length c2) := (HF2.out.boxN bx2 (by omega)).cell 0 (by simp)
  have kbx2_1 : W2.cell? ⟨w.heap.size + 1, 1, none⟩ = some (.slice A2' D.colour.length c2') := (HF2.out.boxN bx2 (by omega)).cell 1 (by simp)
  go_wp2_with fail
  clear kbx1_0 kbx1_1 kbx1_2 kbx2_0 kbx2_1
  refine (diameters_any _ N lo1 hi1 _ D.cluster _ _ _ (Net.turned G1.out HF2.out (by omega) (by omega)) (by omega) (IntS.turned gC.out HF2.out (by omega) (by omega)) (by omega) D.colour.length HG.out HK.out.clus HMC.out).mono ?_
  rintro e W3 ⟨r, rfl, hr0, hb3⟩
  have hg3 := grown_below hb3; clear hb3
  have hs3 := hg3.size
  have HF3 := Lib.hid (HF2.out.still hg3); clear HF2
  have MP3 := Lib.hid (MpO.still MP2.out hg3); clear MP2
  rw [HM.out, HDS.out] at hr0
  have hr := hr0; clear hr0
  have R3 := Lib.hid hr; clear hr
  obtain ⟨Ar, cr, rfl, hcr, hdr⟩ := R3.out.dims
  go_wp2_with fail
  have N_3 := Lib.hid (Net.turned G1.out HF3.out (by omega) (by omega)); clear G1
  have D_3 := Lib.hid (Dec.turned G2.out HF3.out (by omega) (by omega)); clear G2
  have bx1_3 := HF3.out.boxN bx1 (by omega); clear bx1
  have bx2_3 := HF3.out.boxN bx2 (by omega); clear bx2
  have Cl_3 := Lib.hid (IntS.turned gC.out HF3.out (by omega) (by omega)); clear gC
  have Co_3 := Lib.hid (IntS.turned gL.out HF3.out (by omega) (by omega)); clear gL
  have hbA3 := (HF3.out.below_of hbA (by omega) (by omega)); clear hbA HF3
  go_loopw [22] (fun iv wr => ∃ (k n : Nat) (E : DataW Unit), k ≤ m ∧ iv = .int .i64 k ∧ Hid (MpO wr W1.heap.size n E) ∧ n ≤ k ∧ Hid (RdM E D.colour ds k) ∧ Hid (Turned W1.heap.size (W1.heap.size + 1) W3 wr)) (fun iv _ => m - (intOf iv).toNat)
  case atStart => exact ⟨0, 0, _, Nat.zero_le _, rfl, MP3, Nat.le_refl _, Lib.hid (RdM.zero _ _), Lib.hid (Turned.refl W1.heap.size (W1.heap.size + 1) W3)⟩
  case round =>
    obtain ⟨k, n, E, hk, rfl, HMP, hn, HRD, HF4⟩ := hrel
    have hs4 := HF4.out.size
    by_cases hlt : k < m
    case neg =>
      obtain rfl : k = m := by omega
      have hkd : decide ((k : Int) < ds.length) = false := decide_eq_false (by omega)
      have hkd2 : ¬ k < ds.length := by omega
      have hbE := Lib.hid (HF4.out.below_of hbA3 (by omega) (by omega))
      have HRD1 := Lib.hid (doneG_start HRD.out)
      obtain ⟨wo, rfl⟩ : ∃ wo : World, wo = wr := ⟨_, rfl⟩
      go_wp2_with (at_range; refine wpList_range_own _ rfl _ 84 rfl 3 3 lawI Try.underlying84 _ W1.heap.size n _ rfl HMP.out ?_; intro w0 hrg0 hg0 hs0)
      go_frame
      go_loopw [9] (fun sv wr => ∃ (s : Int) (left : Lit → Bool) (cnt : Nat), sv = .int .i64 s ∧ Hid (s = sumC (doneG D.colour ds k left) 41) ∧ Hid (wr.ranges Try.prog 3 (plainElem (H := Unit) Try.prog 3) W1.heap.size wo.heap.size n E left cnt) ∧ Hid (∀ kl, left kl = true → Maps.has E kl = true) ∧ Hid (Below w.heap.size w wr)) (fun _ wr => wr.rangeLeft W1.heap.size wo.heap.size)
      case atStart => exact ⟨0, _, _, rfl, Lib.hid HRD1.out.symm, Lib.hid hrg0, Lib.hid (fun _ h => h), Lib.hid (hbE.out.trans ((grown_to_below hg0).mono hbE.out.size))⟩
      case round =>
        clear hrg0 hg0 hs0 HRD1 HMP
        obtain ⟨s, left, cnt, rfl, HS, HRG, HLF, HBB⟩ := hrel
        have hsb := sumC_bound (n := 41) (g := doneG D.colour ds k left) (B := 41) (fun x _ => doneG_bound HDB.out)
        rw [← HS.out] at hsb
        have hwoz : w.heap.size ≤ wo.heap.size := hbE.out.size
        go_wp2_with (at_next; refine wpList_next_ranges_ii _ rfl _ rfl 3 3 .i64 .i64 lawI Try.underlying3 Try.underlying3 W1.heap.size wo.heap.size n _ _ _ rfl HRG.out ?_ ?_)
        · intro hc0 hl0
          have HE := Lib.hid (show crOut N D = s by rw [HRES.out, HS.out, doneG_end hl0])
          clear hl0 HRG HLF HS
          go_wp2_with fail
          go_ret2
          exact ⟨by rw [HE.out, HA.out]; first | done | rfl, HBB.out⟩
        · intro x c w1 cnt1 hwx hwc hlx hat hrg1 hlt1 hg1 hs1 hen
          have hhas := HLF.out _ hlx
          rw [HRD.out.has, hasC_iff] at hhas
          obtain ⟨j, hj, ej⟩ := hhas
          obtain ⟨a, ea, ha⟩ := HCB.out j hj
          obtain rfl : x = (a : Int) := by omega
          have hc : c = rr D.colour ds a k := by
            have h1 := hat (.lit (.int .i64 0))
            rw [HRD.out.at_] at h1
            injection h1 with h1
            injection h1 with _ h1
            exact h1.symm
          have hcb := rr_bound (cs := D.colour) (x := (a : Int)) HDB.out
          rw [← hc] at hcb
          have HSN := Lib.hid (show s + c = sumC (doneG D.colour ds k (fun z => left z && !z.sameKey (.int .i64 (a : Int)))) 41 by rw [doneG_next ha hlx, HS.out, hc])
          have HRG1 := Lib.hid hrg1
          have HLF1 := Lib.hid (show ∀ kl, (left kl && !kl.sameKey (.int .i64 (a : Int))) = true → Maps.has E kl = true from fun kl h => HLF.out kl (by rw [Bool.and_eq_true] at h; exact h.1))
          have HBB1 := Lib.hid (HBB.out.grown hg1 (by have := HBB.out.size; omega) (fun g e => by injection e; omega))
          have HM0 := Lib.hid (HRG.out.left_eq); have HM1 := Lib.hid (hrg1.left_eq)
          have hw3 : IntKind.i64.wrap (s + c) = s + c := IntWalk.i64_in _ (by omega)
          clear hat hrg1 hlx hc ej ea hg1 hwx hwc HRG HLF HS
          go_wp2_with fail
          go_roundw
          case rel => exact ⟨s + c, _, _, by go_num, HSN, HRG1, HLF1, HBB1⟩
          case measure => rw [HM0.out, HM1.out]; exact hlt1
    have hki : (k : Int) < ds.length := by omega
    have hkm : (k : Int) < m := by omega
    have hkc : (k : Int) < D.colour.length := by have := HM.out; omega
    have hkc2 : k < D.colour.length := by have := HM.out; omega
    obtain ⟨a, ea, ha⟩ := HCB.out k hlt
    obtain ⟨bR, oR, rfl, _, _, x1, _⟩ := IntS.opened (IntS.turned R3.out HF4.out (by omega) (by omega)) (j := k) (by omega)
    obtain ⟨bC, oC, rfl, _, hbC, y1, _⟩ := IntS.opened (IntS.turned Co_3.out HF4.out (by omega) (by omega)) (j := k) hkc2
    have HPUT := Lib.hid HRD.out.put
    rw [ea] at y1 HPUT
    obtain ⟨d, HD⟩ : ∃ d, Hid (nth ds k = d) := ⟨_, Lib.hid rfl⟩
    have hdb := HDB.out k hlt
    rw [HD.out] at x1 hdb HPUT
    have EA := Lib.hid ea; clear ea
    obtain ⟨q, HQ⟩ : ∃ q, Hid (rr D.colour ds (a : Int) k = q) := ⟨_, Lib.hid rfl⟩
    have hqb := rr_bound (cs := D.colour) (ds := ds) (x := (a : Int)) (k := k) (fun j hj => HDB.out j (by omega))
    rw [HQ.out] at hqb HPUT
    obtain ⟨v, HV⟩ : ∃ v, Hid (max q (1 + d) = v) := ⟨_, Lib.hid rfl⟩
    rw [HV.out] at HPUT
    have hvb : 0 ≤ v ∧ v ≤ 41 := by have := HV.out; omega
    have hw14 : IntKind.i64.wrap (1 + d) = 1 + d := IntWalk.i64_in _ (by omega)
    have hwfa : (Lit.int .i64 (a : Int)).wf = true := rd_wf (by omega) (by omega)
    have hwfv : (Lit.int .i64 v).wf = true := rd_wf (by omega) (by omega)
    have HLK := Lib.hid (show ∀ w', MpO w' W1.heap.size n E → (Instr.lookup 84 (.map (some W1.heap.size)) (.int .i64 (a : Int)) false).run Try.prog w' = .ok (.int .i64 q) w' from fun w' hm => by rw [← HQ.out]; exact HRD.out.look hm hwfa)
    obtain ⟨wq, rfl⟩ : ∃ wq : World, wq = wr := ⟨_, rfl⟩
    have hY := Lib.hid y1; clear y1
    go_wp2_with fail
    clear x1
    refine wp_region_U (fun w' => w'.cell? ⟨w.heap.size + 1, 1, none⟩ = some (.slice (some ⟨bC, oC, none⟩) D.colour.length c2') ∧ w'.cell? ⟨bC, oC + k, none⟩ = some (.int .i64 (a : Nat)) ∧ MpO w' W1.heap.size n E) [16] (by kernel_rfl) ?_
    refine nameU ?_
    intro W5 HW5
    have hg5 : wq.grownBy W5 none := by rw [HW5.out]; exact grown_drew _
    clear HW5
    have hs5 := hg5.size
    have HF5 := Lib.hid (HF4.out.still hg5); clear HF4
    have MP5 := Lib.hid (MpO.still HMP.out hg5); clear HMP
    have hS0 : W5.cell? ⟨w.heap.size + 1, 1, none⟩ = some (.slice (some ⟨bC, oC, none⟩) D.colour.length c2') ∧ W5.cell? ⟨bC, oC + k, none⟩ = some (.int .i64 (a : Nat)) ∧ MpO W5 W1.heap.size n E := ⟨(HF5.out.boxN bx2_3 (by omega)).cell 1 (by simp), (by have := (IntS.at_ (IntS.turned Co_3.out HF5.out (by omega) (by omega)) (j := k) hkc2).1; rw [EA.out] at this; exact this), MP5.out⟩
    refine anyU_take (i := 0) (v := .map (some W1.heap.size)) rfl (by kernel_rfl) (by kernel_rfl) (by kernel_rfl) (fun _ _ _ h => h) ⟨by rfl, fun w' hS' => (by obtain ⟨s1, s2, s3⟩ := hS'; go_simp)⟩ hS0 ?_
    simp only [List.getElem_toArray, List.getElem_cons_zero, Act.put, List.setIfInBounds_toArray, List.set_cons_zero, List.set_cons_succ]
    refine anyU_take (i := 1) (v := .pointer (some ⟨w.heap.size + 1, 1, none⟩)) rfl (by kernel_rfl) (by kernel_rfl) (by kernel_rfl) (fun _ _ _ h => h) ⟨by rfl, fun w' hS' => (by obtain ⟨s1, s2, s3⟩ := hS'; go_simp)⟩ hS0 ?_
    simp only [List.getElem_toArray, List.getElem_cons_succ, List.getElem_cons_zero, Act.put, List.setIfInBounds_toArray, List.set_cons_zero, List.set_cons_succ]
    refine anyU_take (i := 2) (v := .slice (some ⟨bC, oC, none⟩) D.colour.length c2') rfl (by kernel_rfl) (by kernel_rfl) (by kernel_rfl) (fun _ _ _ h => h) ⟨by rfl, fun w' hS' => (by obtain ⟨s1, s2, s3⟩ := hS'; go_simp)⟩ hS0 ?_
    simp only [List.getElem_toArray, List.getElem_cons_succ, List.getElem_cons_zero, Act.put, List.setIfInBounds_toArray, List.set_cons_zero, List.set_cons_succ]
    refine anyU_take (i := 3) (v := .int .i64 k) rfl (by kernel_rfl) (by kernel_rfl) (by kernel_rfl) (fun _ _ _ h => h) ⟨by rfl, fun w' hS' => (by obtain ⟨s1, s2, s3⟩ := hS'; go_simp)⟩ hS0 ?_
    simp only [List.getElem_toArray, List.getElem_cons_succ, List.getElem_cons_zero, Act.put, List.setIfInBounds_toArray, List.set_cons_zero, List.set_cons_succ]
    refine anyU_take (i := 4) (v := .pointer (some ⟨bC, oC + k, none⟩)) rfl (by kernel_rfl) (by kernel_rfl) (by kernel_rfl) (fun _ _ _ h => h) ⟨by rfl, fun w' hS' => (by obtain ⟨s1, s2, s3⟩ := hS'; simp [go_sem, hkc])⟩ hS0 ?_
    simp only [List.getElem_toArray, List.getElem_cons_succ, List.getElem_cons_zero, Act.put, List.setIfInBounds_toArray, List.set_cons_zero, List.set_cons_succ]
    refine anyU_take (i := 5) (v := .int .i64 (a : Nat)) rfl (by kernel_rfl) (by kernel_rfl) (by kernel_rfl) (fun _ _ _ h => h) ⟨by rfl, fun w' hS' => (by obtain ⟨s1, s2, s3⟩ := hS'; go_simp)⟩ hS0 ?_
    simp only [List.getElem_toArray, List.getElem_cons_succ, List.getElem_cons_zero, Act.put, List.setIfInBounds_toArray, List.set_cons_zero, List.set_cons_succ]
    refine anyU_take (i := 6) (v := .map (some W1.heap.size)) rfl (by kernel_rfl) (by kernel_rfl) (by kernel_rfl) (fun _ _ _ h => h) ⟨by rfl, fun w' hS' => (by obtain ⟨s1, s2, s3⟩ := hS'; go_simp)⟩ hS0 ?_
    simp only [List.getElem_toArray, List.getElem_cons_succ, List.getElem_cons_zero, Act.put, List.setIfInBounds_toArray, List.set_cons_zero, List.set_cons_succ]
    refine anyU_take (i := 7) (v := .pointer (some ⟨w.heap.size + 1, 1, none⟩)) rfl (by kernel_rfl) (by kernel_rfl) (by kernel_rfl) (fun _ _ _ h => h) ⟨by rfl, fun w' hS' => (by obtain ⟨s1, s2, s3⟩ := hS'; go_simp)⟩ hS0 ?_
    simp only [List.getElem_toArray, List.getElem_cons_succ, List.getElem_cons_zero, Act.put, List.setIfInBounds_toArray, List.set_cons_zero, List.set_cons_succ]
    refine anyU_take (i := 8) (v := .slice (some ⟨bC, oC, none⟩) D.colour.length c2') rfl (by kernel_rfl) (by kernel_rfl) (by kernel_rfl) (fun _ _ _ h => h) ⟨by rfl, fun w' hS' => (by obtain ⟨s1, s2, s3⟩ := hS'; go_simp)⟩ hS0 ?_
    simp only [List.getElem_toArray, List.getElem_cons_succ, List.getElem_cons_zero, Act.put, List.setIfInBounds_toArray, List.set_cons_zero, List.set_cons_succ]
    refine anyU_take (i := 9) (v := .int .i64 k) rfl (by kernel_rfl) (by kernel_rfl) (by kernel_rfl) (fun _ _ _ h => h) ⟨by rfl, fun w' hS' => (by obtain ⟨s1, s2, s3⟩ := hS'; go_simp)⟩ hS0 ?_
    simp only [List.getElem_toArray, List.getElem_cons_succ, List.getElem_cons_zero, Act.put, List.setIfInBounds_toArray, List.set_cons_zero, List.set_cons_succ]
    refine anyU_take (i := 10) (v := .pointer (some ⟨bC, oC + k, none⟩)) rfl (by kernel_rfl) (by kernel_rfl) (by kernel_rfl) (fun _ _ _ h => h) ⟨by rfl, fun w' hS' => (by obtain ⟨s1, s2, s3⟩ := hS'; simp [go_sem, hkc])⟩ hS0 ?_
    simp only [List.getElem_toArray, List.getElem_cons_succ, List.getElem_cons_zero, Act.put, List.setIfInBounds_toArray, List.set_cons_zero, List.set_cons_succ]
    refine anyU_take (i := 11) (v := .int .i64 (a : Nat)) rfl (by kernel_rfl) (by kernel_rfl) (by kernel_rfl) (fun _ _ _ h => h) ⟨by rfl, fun w' hS' => (by obtain ⟨s1, s2, s3⟩ := hS'; go_simp)⟩ hS0 ?_
    simp only [List.getElem_toArray, List.getElem_cons_succ, List.getElem_cons_zero, Act.put, List.setIfInBounds_toArray, List.set_cons_zero, List.set_cons_succ]
    refine anyU_take (i := 12) (v := .int .i64 q) rfl (by kernel_rfl) (by kernel_rfl) (by kernel_rfl) (fun _ _ _ h => h) ⟨by rfl, fun w' hS' => (by obtain ⟨s1, s2, s3⟩ := hS'; have hl := HLK.out w' s3; simp [go_sem, hl])⟩ hS0 ?_
    simp only [List.getElem_toArray, List.getElem_cons_succ, List.getElem_cons_zero, Act.put, List.setIfInBounds_toArray, List.set_cons_zero, List.set_cons_succ]
    refine anyU_take (i := 13) (v := .int .i64 d) rfl (by kernel_rfl) (by kernel_rfl) (by kernel_rfl) (fun _ _ _ h => h) ⟨by rfl, fun w' hS' => (by obtain ⟨s1, s2, s3⟩ := hS'; go_simp)⟩ hS0 ?_
    simp only [List.getElem_toArray, List.getElem_cons_succ, List.getElem_cons_zero, Act.put, List.setIfInBounds_toArray, List.set_cons_zero, List.set_cons_succ]
    refine anyU_take (i := 14) (v := .int .i64 (1 + d)) rfl (by kernel_rfl) (by kernel_rfl) (by kernel_rfl) (fun _ _ _ h => h) ⟨by rfl, fun w' hS' => (by obtain ⟨s1, s2, s3⟩ := hS'; simp [go_sem, hw14])⟩ hS0 ?_
    simp only [List.getElem_toArray, List.getElem_cons_succ, List.getElem_cons_zero, Act.put, List.setIfInBounds_toArray, List.set_cons_zero, List.set_cons_succ]
    refine anyU_take (i := 15) (v := .int .i64 v) rfl (by kernel_rfl) (by kernel_rfl) (by kernel_rfl) (fun _ _ _ h => h) ⟨by rfl, fun w' hS' => (by obtain ⟨s1, s2, s3⟩ := hS'; have hv := HV.out; first | (simp [go_sem, hv]; done) | (simp [go_sem]; omega))⟩ hS0 ?_
    simp only [List.getElem_toArray, List.getElem_cons_succ, List.getElem_cons_zero, Act.put, List.setIfInBounds_toArray, List.set_cons_zero, List.set_cons_succ]
    obtain ⟨w16, hrun16, hown16, hg16⟩ := World.ownsMap.update MP5.out lawI Try.underlying84 (by unfold maxLen; omega) (key := .int .i64 (a : Int)) (val := .int .i64 v) (Maps.keyOf_int_mk Try.underlying3 hwfa) (plainElem_int Try.underlying3 hwfv)
    refine anyU_ready (rs := [16]) (by kernel_rfl) (by simp) ?_
    refine ReadyU.cons (i := 16) rfl (fun K hK => ?_) ReadyU.nil
    simp only [List.getElem_toArray, List.getElem_cons_succ, List.getElem_cons_zero]
    refine ite_is (by rfl) ?_
    simp [go_sem, hrun16]
    refine hK.out _ _ ⟨fun h => absurd h (by decide), ?_⟩
    clear hK K hS0
    try simp only [List.getElem_toArray, List.getElem_cons_succ, List.getElem_cons_zero, Act.put, List.setIfInBounds_toArray, List.set_cons_zero, List.set_cons_succ]
    refine anyU_done (by kernel_rfl) ?_ _
    have HFF := Lib.hid (HF5.out.grown hg16 (fun g e => by injection e; omega))
    have HM16 := Lib.hid (show MpO w16 W1.heap.size (n + 1) _ from hown16)
    clear hrun16 hown16 hg16
    go_wp2_with fail
    go_roundw
    case rel => exact ⟨k + 1, n + 1, _, by omega, by go_num, HM16, by omega, HPUT, HFF⟩
    case measure => simp [intOf]; omega

set_option maxHeartbeats 4000000 in
set_option maxRecDepth 100000 in
theorem ClusterRounds_spec (v1 : Value) (N : NetD) (lo1 hi1 : Nat) (v2 : Value) (D : DecD) (lo2 hi2 : Nat) (w : World) (h1 : Net w lo1 hi1 v1 N) (hh1 : hi1 ≤ w.heap.size) (h2 : Dec w lo2 hi2 v2 D) (hh2 : hi2 ≤ w.heap.size) (hz1 : N.sz ≤ 1048576) (hz2 : D.sz ≤ 1048576) (ok1 : N.Ok) (ok2 : D.Ok) :
    Calls Try.prog 35 #[v1, v2] w fun e w' => e = .returned (.tuple #[.int .i64 (crOut N D), .bool (askedB N D)]) ∧ Below w.heap.size w w' := by
  clear ok1 ok2
  have F1 := Lib.hid h1
  obtain ⟨A1, c1, A1', c1', A1'', c1'', rfl, hc1, hd1, _⟩ := h1.parts
  clear h1
  have F2 := Lib.hid h2
  obtain ⟨A2, c2, A2', c2', rfl, hc2, hd2⟩ := h2.parts
  clear h2
  obtain ⟨WA, HWA⟩ : ∃ W, Hid (W = ((w.alloc (.cells #[.slice A1 N.ends.length c1, .slice A1' N.ids.length c1', .slice A1'' N.inputs.length c1''] 32)).alloc (.cells #[.slice A2 D.cluster.length c2, .slice A2' D.colour.length c2'] 43))) := ⟨_, Lib.hid rfl⟩
  have hbA : Below w.heap.size w WA := by rw [HWA.out]; exact (((Below.refl _ _).alloc (Nat.le_refl _) _).alloc (by simp; try omega) _)
  have hsA : w.heap.size + 2 ≤ WA.heap.size := by rw [HWA.out]; simp; try omega
  have bx1 : BoxN WA (w.heap.size) #[.slice A1 N.ends.length c1, .slice A1' N.ids.length c1', .slice A1'' N.inputs.length c1''] 32 := by rw [HWA.out]; exact (BoxN.new' _ _ _ (by simp)).still (grown_alloc _ _)
  have bx2 : BoxN WA (w.heap.size + 1) #[.slice A2 D.cluster.length c2, .slice A2' D.colour.length c2'] 43 := by rw [HWA.out]; exact (BoxN.new' _ _ _ (by simp))
  have G1 := Lib.hid (Net.below F1.out hbA hh1); clear F1
  have G2 := Lib.hid (Dec.below F2.out hbA hh2); clear F2
  go_enter Try.func35, Try.ntmps35
  go_upto_region 1 with (fail)
  rw [← HWA.out]; clear HWA
  have gC := Lib.hid (Dec.clusterS G2.out)
  have gL := Lib.hid (Dec.colourS G2.out)
  have kbx1_0 : WA.cell? ⟨w.heap.size, 0, none⟩ = some (.slice A1 N.ends.length c1) := bx1.cell 0 (by simp)
  have kbx1_1 : WA.cell? ⟨w.heap.size, 1, none⟩ = some (.slice A1' N.ids.length c1') := bx1.cell 1 (by simp)
  have kbx1_2 : WA.cell? ⟨w.heap.size, 2, none⟩ = some (.slice A1'' N.inputs.length c1'') := bx1.cell 2 (by simp)
  have kbx2_0 : WA.cell? ⟨w.heap.size + 1, 0, none⟩ = some (.slice A2 D.cluster.length c2) := bx2.cell 0 (by simp)
  have kbx2_1 : WA.cell? ⟨w.heap.size + 1, 1, none⟩ = some (.slice A2' D.colour.length c2') := bx2.cell 1 (by simp)
  go_wp2_with fail
  clear kbx1_0 kbx1_1 kbx1_2 kbx2_0 kbx2_1
  refine (deAsked_any _ N lo1 hi1 _ D lo2 hi2 _ G1.out (by omega) G2.out (by omega) hz1 hz2).mono ?_
  rintro e W1 ⟨rfl, hb1⟩
  have hg1 := grown_below hb1; clear hb1
  have hs1 := hg1.size
  have HF1 := Lib.hid ((Turned.refl WA.heap.size WA.heap.size WA).still hg1)
  by_cases hA : askedB N D = true
  case neg =>
    have hA' : askedB N D = false := by simpa using hA
    rw [hA']
    have HA := Lib.hid hA'; clear hA hA'
    go_wp2_with fail
    go_ret2
    exact ⟨by unfold crOut; rw [HA.out]; rfl, (HF1.out.below_of hbA (by omega) (by omega))⟩
  rw [hA]
  have HA := Lib.hid hA; clear hA
  have HG := Lib.hid (askedB_parts HA.out).1
  have HK := Lib.hid (askedB_parts HA.out).2
  obtain ⟨n1, n40⟩ := good_n HG.out
  have hcl := HK.out.clus.len
  have hle1 : D.cluster.length ≤ N.ends.length := by omega
  have hle2 : N.ends.length ≤ D.cluster.length := by omega
  have HCL := Lib.hid hcl
  obtain ⟨m, hm, hm3⟩ := HK.out.clus.most HG.out
  have hcol := HK.out.len
  rw [hm, Int.toNat_natCast] at hcol
  have HMC := Lib.hid (show mostI D.cluster + 1 = (D.colour.length : Int) by omega)
  have hcol1 : 1 ≤ D.colour.length := by omega
  have hcol2 : D.colour.length ≤ N.ends.length := by omega
  clear hcl hm hcol
  obtain ⟨m, HM⟩ : ∃ m, Hid (D.colour.length = m) := ⟨_, Lib.hid rfl⟩
  have hm1 : 1 ≤ m := by have := HM.out; omega
  have hm40 : m ≤ 40 := by have := HM.out; omega
  obtain ⟨ds, HDS⟩ : ∃ ds, Hid (diams N D.cluster m = ds) := ⟨_, Lib.hid rfl⟩
  have hdl : ds.length = m := by rw [← HDS.out]; exact diams_length _ _ _
  have HDB := Lib.hid (show ∀ j, j < m → 0 ≤ nth ds j ∧ nth ds j ≤ 40 from fun j hj => by
    have := nth_mem (zs := ds) (i := j) (by omega)
    rw [← HDS.out] at this
    rw [← HDS.out]
    exact diams_at HG.out HCL.out this)
  have hdl1 : ds.length ≤ m := Nat.le_of_eq hdl
  have hdl2 : m ≤ ds.length := Nat.le_of_eq hdl.symm
  clear hdl
  have HCB := Lib.hid (show ∀ j, j < m → ∃ a : Nat, nth D.colour j = a ∧ a < 41 from fun j hj => by
    have := HK.out.low _ (nth_mem (zs := D.colour) (i := j) (by rw [HM.out]; exact hj))
    exact ⟨(nth D.colour j).toNat, by omega, by omega⟩)
  have HRES := Lib.hid (show crOut N D = sumC (fun x => rr D.colour ds x m) 41 by unfold crOut; rw [HA.out, if_pos rfl, HM.out, HDS.out])
  obtain ⟨top, HTOP, htop, HHI⟩ : ∃ top : Nat, Hid (mostI D.colour = top) ∧ top ≤ 40 ∧ Hid (∀ x : Int, (top : Int) < x → hasC D.colour x m = false) := by
    obtain ⟨h1, h2, h3⟩ := mostI_spec D.colour
    refine ⟨(mostI D.colour).toNat, Lib.hid (by omega), ?_, Lib.hid fun x hx => ?_⟩
    · rcases h3 with h3 | h3
      · omega
      · have := HK.out.low _ h3; omega
    · rw [Bool.eq_false_iff]
      intro h
      obtain ⟨j, hj, e⟩ := hasC_iff.1 h
      have := h2 _ (nth_mem (zs := D.colour) (i := j) (by rw [HM.out]; exact hj))
      omega
  have HEND := Lib.hid (show crOut N D = sumC (fun x => rr D.colour ds x m) (top + 1) by
    rw [HRES.out, show 41 = (top + 1) + (40 - top) by omega]
    exact sumC_more fun x h1 _ => rr_none (HHI.out x (by omega)))
  have HINC := Lib.hid (show ∀ c : Nat, decide ((c : Int) ∈ D.colour) = hasC D.colour c m from fun c => by
    rw [Bool.eq_iff_iff, decide_eq_true_eq, hasC_iff]
    constructor
    · intro h
      obtain ⟨j, hj, e⟩ := List.mem_iff_getElem.1 h
      exact ⟨j, by rw [← HM.out]; exact hj, by rw [nth_eq hj, e]⟩
    · rintro ⟨j, hj, e⟩
      rw [← e]; exact nth_mem (by rw [HM.out]; exact hj))
  have HWD := Lib.hid (show ∀ k, k < m → wide N (clusN D.cluster k) = nth ds k from fun k hk => by rw [← HDS.out, nth_diams hk])
  go_wp2_with fail
  go_loopw [6, 7] (fun sv cv wr => ∃ (c : Nat) (s : Int), c ≤ top + 1 ∧ cv = .int .i64 c ∧ sv = .int .i64 s ∧ Hid (s = sumC (fun x => rr D.colour ds x m) c) ∧ Hid (Turned WA.heap.size WA.heap.size WA wr)) (fun sv cv _ => top + 2 - (intOf cv).toNat)
  case atStart => exact ⟨0, 0, Nat.zero_le _, rfl, rfl, Lib.hid rfl, HF1⟩
  case round =>
    clear HF1
    obtain ⟨c, s, hc, rfl, rfl, HS, HF2⟩ := hrel
    have hs2 := HF2.out.size
    have hsb := sumC_bound (n := c) (g := fun x => rr D.colour ds x m) (B := 41) (fun x _ => rr_bound HDB.out)
    rw [← HS.out] at hsb
    have hcB : (c : Int) * 41 ≤ 1681 := by omega
    have kbx2_0 : wr.cell? ⟨w.heap.size + 1, 0, none⟩ = some (.slice A2 D.cluster.length c2) := (HF2.out.boxN bx2 (by omega)).cell 0 (by simp)
    have kbx2_1 : wr.cell? ⟨w.heap.size + 1, 1, none⟩ = some (.slice A2' D.colour.length c2') := (HF2.out.boxN bx2 (by omega)).cell 1 (by simp)
    by_cases hct : c ≤ top
    case neg =>
      obtain rfl : c = top + 1 := by omega
      have HE := Lib.hid (show crOut N D = s by rw [HEND.out, HS.out])
      obtain ⟨c, HCC⟩ : ∃ c, Hid (top + 1 = c) := ⟨_, Lib.hid rfl⟩
      rw [HCC.out]
      have hdc : decide ((c : Int) ≤ (top : Int)) = false := decide_eq_false (by have := HCC.out; omega)
      have hdc2 : decide (c ≤ top) = false := decide_eq_false (by have := HCC.out; omega)
      have hdc3 : top < c := by have := HCC.out; omega
      go_wp2_with (go_at_call 68; refine (meMost_any _ D.colour _ _ _ (IntS.turned gL.out HF2.out (by omega) (by omega)) (by omega)).mono ?_; rintro e w' ⟨rfl, rfl⟩; rw [HTOP.out])
      go_ret2
      exact ⟨by rw [HE.out, HA.out]; first | done | rfl, (HF2.out.below_of hbA (by omega) (by omega))⟩
    have hdc : decide ((c : Int) ≤ (top : Int)) = true := decide_eq_true (by omega)
    go_wp2_with (go_at_call 68; refine (meMost_any _ D.colour _ _ _ (IntS.turned gL.out HF2.out (by omega) (by omega)) (by omega)).mono ?_; rintro e w' ⟨rfl, rfl⟩; rw [HTOP.out])
    clear kbx2_0 kbx2_1
    have kbx2_0 : wr.cell? ⟨w.heap.size + 1, 0, none⟩ = some (.slice A2 D.cluster.length c2) := (HF2.out.boxN bx2 (by omega)).cell 0 (by simp)
    have kbx2_1 : wr.cell? ⟨w.heap.size + 1, 1, none⟩ = some (.slice A2' D.colour.length c2') := (HF2.out.boxN bx2 (by omega)).cell 1 (by simp)
    go_wp2_with fail
    clear kbx2_0 kbx2_1
    refine (l1Has_any _ D.colour _ _ _ _ (IntS.turned gL.out HF2.out (by omega) (by omega))).mono ?_
    rintro e w' ⟨rfl, rfl⟩
    rw [HINC.out]
    cases hh : hasC D.colour (c : Int) m with
    | false =>
      have HSN := Lib.hid (show s = sumC (fun x => rr D.colour ds x m) (c + 1) by rw [sumC, rr_none hh, HS.out]; omega)
      clear hh
      go_wp2_with fail
      go_roundw
      case rel => exact ⟨c + 1, s, by omega, by go_num, rfl, HSN, HF2⟩
      case measure => simp [intOf]; omega
    | true =>
      have HRM := Lib.hid (rr_mr HDB.out hh); clear hh
      obtain ⟨wo, rfl⟩ : ∃ wo : World, wo = wr := ⟨_, rfl⟩
      have kbx2_0 : wo.cell? ⟨w.heap.size + 1, 0, none⟩ = some (.slice A2 D.cluster.length c2) := (HF2.out.boxN bx2 (by omega)).cell 0 (by simp)
      have kbx2_1 : wo.cell? ⟨w.heap.size + 1, 1, none⟩ = some (.slice A2' D.colour.length c2') := (HF2.out.boxN bx2 (by omega)).cell 1 (by simp)
      go_wp2_with fail
      clear kbx2_0 kbx2_1
      go_loopw [30, 8] (fun i ov wr => ∃ (k : Nat) (y : Int), k ≤ D.colour.length ∧ i = .int .i64 k ∧ ov = .int .i64 y ∧ Hid (y = mr D.colour ds (c : Int) k) ∧ Hid (Turned WA.heap.size WA.heap.size WA wr)) (fun i ov _ => D.colour.length - (intOf i).toNat)
      case atStart => exact ⟨0, 0, Nat.zero_le _, rfl, rfl, Lib.hid rfl, HF2⟩
      case round =>
        clear HF2
        obtain ⟨k, y, hk, rfl, rfl, HY, HF3⟩ := hrel
        have hs3 := HF3.out.size
        have hkm : k ≤ m := by have := HM.out; omega
        have hyb := mr_bound (cs := D.colour) (ds := ds) (x := (c : Int)) (k := k) (fun j hj => HDB.out j (by omega))
        rw [← HY.out] at hyb
        by_cases hlt : k < D.colour.length
        case neg =>
          have HSN := Lib.hid (show s + (1 + y) = sumC (fun x => rr D.colour ds x m) (c + 1) by
            have e : k = m := by have := HM.out; omega
            rw [sumC, HRM.out, HS.out, HY.out, e])
          have hke : k = D.colour.length := by omega
          subst hke
          have hw1 : IntKind.i64.wrap (1 + y) = 1 + y := IntWalk.i64_in _ (by omega)
          have hw2 : IntKind.i64.wrap (s + (1 + y)) = s + (1 + y) := IntWalk.i64_in _ (by omega)
          go_wp2_with fail
          go_roundw
          case rel => exact ⟨c + 1, s + (1 + y), by omega, by go_num, by go_num, HSN, HF3⟩
          case measure => simp [intOf]; omega
        have hkm2 : k < m := by have := HM.out; omega
        have hki : (k : Int) < D.colour.length := by omega
        obtain ⟨bC, oC, hCe, _, hbC, y1, _⟩ := IntS.opened (IntS.turned gL.out HF3.out (by omega) (by omega)) (j := k) hlt
        subst hCe
        obtain ⟨x, HX⟩ : ∃ x, Hid (nth D.colour k = x) := ⟨_, Lib.hid rfl⟩
        rw [HX.out] at y1
        by_cases hxc : x = (c : Int)
        case neg =>
          have hxc' : (x == (c : Int)) = false := by simpa using hxc
          have HYN := Lib.hid (show y = mr D.colour ds (c : Int) (k + 1) by rw [mr, if_neg (by rw [HX.out]; exact hxc)]; exact HY.out)
          clear hxc
          go_wp2_with fail
          go_roundw
          case rel => exact ⟨k + 1, y, by omega, by go_num, rfl, HYN, HF3⟩
          case measure => simp [intOf]; omega
        have hxc' : (x == (c : Int)) = true := by simpa using hxc
        have HYN := Lib.hid (show (if wide N (clusN D.cluster k) < y then y else wide N (clusN D.cluster k)) = mr D.colour ds (c : Int) (k + 1) by
          have e1 : mr D.colour ds (c : Int) (k + 1) = if nth ds k < mr D.colour ds (c : Int) k then mr D.colour ds (c : Int) k else nth ds k := by rw [mr, if_pos (by rw [HX.out]; exact hxc)]
          rw [e1, HWD.out k hkm2, ← HY.out])
        clear hxc
        have kbx1_0 : wr.cell? ⟨w.heap.size, 0, none⟩ = some (.slice A1 N.ends.length c1) := (HF3.out.boxN bx1 (by omega)).cell 0 (by simp)
        have kbx1_1 : wr.cell? ⟨w.heap.size, 1, none⟩ = some (.slice A1' N.ids.length c1') := (HF3.out.boxN bx1 (by omega)).cell 1 (by simp)
        have kbx1_2 : wr.cell? ⟨w.heap.size, 2, none⟩ = some (.slice A1'' N.inputs.length c1'') := (HF3.out.boxN bx1 (by omega)).cell 2 (by simp)
        have kbx2_0 : wr.cell? ⟨w.heap.size + 1, 0, none⟩ = some (.slice A2 D.cluster.length c2) := (HF3.out.boxN bx2 (by omega)).cell 0 (by simp)
        have kbx2_1 : wr.cell? ⟨w.heap.size + 1, 1, none⟩ = some (.slice (some ⟨bC, oC, none⟩) D.colour.length c2') := (HF3.out.boxN bx2 (by omega)).cell 1 (by simp)
        go_wp2_with fail
        go_region_held3 (fun w' => w'.cell? ⟨w.heap.size, 0, none⟩ = some (.slice A1 N.ends.length c1) ∧ w'.cell? ⟨w.heap.size, 1, none⟩ = some (.slice A1' N.ids.length c1') ∧ w'.cell? ⟨w.heap.size, 2, none⟩ = some (.slice A1'' N.inputs.length c1'') ∧ w'.cell? ⟨w.heap.size + 1, 0, none⟩ = some (.slice A2 D.cluster.length c2) ∧ w'.cell? ⟨w.heap.size + 1, 1, none⟩ = some (.slice (some ⟨bC, oC, none⟩) D.colour.length c2'))
          (first | exact ⟨kbx1_0, kbx1_1, kbx1_2, kbx2_0, kbx2_1⟩ | exact ⟨l0, l1, l2, l3, l4⟩ | exact ⟨m0, m1, m2, m3, m4⟩)
          (first | (go_at_call 71; refine (deNodes_any _ D.cluster lo2 hi2 k _ (IntS.below (IntS.turned gC.out HF3.out (by omega) (by omega)) (Below.refl _ _).drew (by omega)) (by show _ ≤ wr.heap.size; omega) (by omega)).mono ?_; rintro e Wa ⟨rn, rfl, hrn, hb1⟩; have hb1' : Below wr.heap.size wr Wa := (Below.refl _ _).drew.trans hb1; have l0 := (hb1'.cell (p := ⟨w.heap.size, 0, none⟩) (by show w.heap.size < wr.heap.size; omega)).trans kbx1_0; have l1 := (hb1'.cell (p := ⟨w.heap.size, 1, none⟩) (by show w.heap.size < wr.heap.size; omega)).trans kbx1_1; have l2 := (hb1'.cell (p := ⟨w.heap.size, 2, none⟩) (by show w.heap.size < wr.heap.size; omega)).trans kbx1_2; have l3 := (hb1'.cell (p := ⟨w.heap.size + 1, 0, none⟩) (by show w.heap.size + 1 < wr.heap.size; omega)).trans kbx2_0; have l4 := (hb1'.cell (p := ⟨w.heap.size + 1, 1, none⟩) (by show w.heap.size + 1 < wr.heap.size; omega)).trans kbx2_1; have hsa := hb1'.size; have HRN := Lib.hid hrn; obtain ⟨An, cn, rfl, hcn, hdn⟩ := hrn.dims; clear hrn hb1) | (go_at_call 70; refine (deWide_any _ N lo1 hi1 _ (clusN D.cluster k) _ _ _ (Net.below (Net.turned G1.out HF3.out (by omega) (by omega)) hb1' (by omega)) (by omega) HRN.out (Nat.le_refl _) HG.out (by have := fibL_len D.cluster k D.cluster.length; show (fibL _ _ _).length ≤ _; omega) (clusN_node HCL.out k)).mono ?_; rintro e Wb ⟨rfl, hb2⟩; have hb2' : Below wr.heap.size wr Wb := hb1'.trans (hb2.mono hsa); have m0 := (hb2'.cell (p := ⟨w.heap.size, 0, none⟩) (by show w.heap.size < wr.heap.size; omega)).trans kbx1_0; have m1 := (hb2'.cell (p := ⟨w.heap.size, 1, none⟩) (by show w.heap.size < wr.heap.size; omega)).trans kbx1_1; have m2 := (hb2'.cell (p := ⟨w.heap.size, 2, none⟩) (by show w.heap.size < wr.heap.size; omega)).trans kbx1_2; have m3 := (hb2'.cell (p := ⟨w.heap.size + 1, 0, none⟩) (by show w.heap.size + 1 < wr.heap.size; omega)).trans kbx2_0; have m4 := (hb2'.cell (p := ⟨w.heap.size + 1, 1, none⟩) (by show w.heap.size + 1 < wr.heap.size; omega)).trans kbx2_1; clear hb2) | (go_at_call 64; refine (l1Most_any _ _ _).mono ?_; rintro e w' ⟨rfl, rfl⟩; rw [HYN.out]))
        go_wp2_with fail
        go_roundw
        case rel => exact ⟨k + 1, _, by omega, by go_num, rfl, Lib.hid rfl, Lib.hid (HF3.out.still (grown_below hb2'))⟩
        case measure => simp [intOf]; omega

end Go.Proofs.Ytkobodoboeoaiaa
