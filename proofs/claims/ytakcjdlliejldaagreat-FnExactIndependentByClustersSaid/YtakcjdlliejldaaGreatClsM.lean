/-
  Several texts in one: Cls, Cls2, Cls3, Cls4, Cls5. No condition on any program.
-/
import Derived.Test.YtakcjdlliejldaaGreatStbM
import Derived.Test.YtakcjdlliejldaaGreatDec
import Derived.Test.YtakcjdlliejldaaGreatDecP
import Derived.Test.YtakcjdlliejldaaGreatShelf
import Derived.Test.YtakcjdlliejldaaGreatBasics
import Derived.Test.YtakcjdlliejldaaGreatFrame
import Derived.Test.YtakcjdlliejldaaGreatDiam
import Derived.Test.YtakcjdlliejldaaGreatPut

/- Contract: the comparing function of clusterOrder, and clusterOrder. -/
namespace Go.Proofs.YtakcjdlliejldaaGreat
open Go.ChangeShapes Go.WideShapes Go.ChangeAt Go.RowKit
set_option linter.unusedVariables false

def cmpV (a b : Int) : Int := if a < b then -1 else if b < a then 1 else 0
theorem cmpV_eq (a b : Int) : Lib.compareInt a b = cmpV a b := by unfold Lib.compareInt cmpV; rfl
/-- the first of two that is not zero -/
def orI (a b : Int) : Int := if a = 0 then b else a
set_option maxHeartbeats 1000000 in
theorem cmpOr_any (g : Nat) (a b : Int) (w : World) (h1 : w.cell? ⟨g, 0, none⟩ = some (.int .i64 a)) (h2 : w.cell? ⟨g, 1, none⟩ = some (.int .i64 b)) :
    Calls Tryz.prog 52 #[.slice (some ⟨g, 0, none⟩) 2 2] w fun e w' => e = .returned (.int .i64 (orI a b)) ∧ w = w' := by
  by_cases ha : a = 0
  · have hr : orI a b = b := by unfold orI; rw [if_pos ha]
    have HR := Lib.hid hr; clear hr
    subst ha
    by_cases hb : b = 0
    · subst hb
      go_enter Tryz.func52, Tryz.ntmps52
      go_wp2_with fail
      refine wp_loop_rounds 3 ?_
      rw [rounds_succ]
      go_wp2_with fail
      try rw [rounds_succ]
      go_wp2_with fail
      try rw [rounds_succ]
      go_wp2_with fail
      go_ret
      exact ⟨ret_int HR.out.symm, rfl⟩
    · have hb2 : (b != 0) = true := by simpa using hb
      go_enter Tryz.func52, Tryz.ntmps52
      go_wp2_with fail
      refine wp_loop_rounds 3 ?_
      rw [rounds_succ]
      go_wp2_with fail
      try rw [rounds_succ]
      go_wp2_with fail
      go_ret
      exact ⟨ret_int HR.out.symm, rfl⟩
  · have hr : orI a b = a := by unfold orI; rw [if_neg ha]
    have HR := Lib.hid hr; clear hr
    have ha2 : (a != 0) = true := by simpa using ha
    go_enter Tryz.func52, Tryz.ntmps52
    go_wp2_with fail
    refine wp_loop_rounds 3 ?_
    rw [rounds_succ]
    go_wp2_with fail
    go_ret
    exact ⟨ret_int HR.out.symm, rfl⟩


/-- the cluster of a node; the order of nodes by colour and cluster -/
def clN (D : DecD) (v : Nat) : Nat := (nth D.cluster v).toNat
def zD (D : DecD) (v w : Nat) : Int := orI (cmpV (nth D.colour (clN D v)) (nth D.colour (clN D w))) (cmpV (nth D.cluster v) (nth D.cluster w))

set_option maxHeartbeats 2000000 in
set_option maxRecDepth 100000 in
theorem clCmp_any (D : DecD) (gd lo hi : Nat) (A A' : Option Addr) (cA cA' : Nat) (v w : Nat) (W : World) (hbx : BoxN W gd #[.slice A D.cluster.length cA, .slice A' D.colour.length cA'] 36) (h1 : IntS W lo hi (.slice A D.cluster.length cA) D.cluster) (h2 : IntS W lo hi (.slice A' D.colour.length cA') D.colour) (hh : hi ≤ W.heap.size) (hv : v < D.cluster.length) (hw : w < D.cluster.length)
    (hc : ∀ x ∈ D.cluster, 0 ≤ x ∧ x < D.colour.length) (hl : D.cluster.length ≤ 1000000) :
    Calls Tryz.prog 51 #[.int .i64 (v : Nat), .int .i64 (w : Nat), .pointer (some ⟨gd, 0, none⟩)] W fun e w' => e = .returned (.int .i64 (zD D v w)) ∧ Below W.heap.size W w' := by
  have hgd := hbx.lt
  have HBX0 := Lib.hid hbx; clear hbx
  obtain ⟨b1, o1, rfl, _, hb1b, x1, _⟩ := h1.opened (j := v) hv
  have x2 := (IntS.at_ h1 (j := w) hw).1
  have hcv0 := hc _ (nth_mem hv)
  have hcw0 := hc _ (nth_mem hw)
  obtain ⟨cv, hcv1⟩ : ∃ k : Nat, nth D.cluster v = k := ⟨(nth D.cluster v).toNat, by omega⟩
  obtain ⟨cw, hcw1⟩ : ∃ k : Nat, nth D.cluster w = k := ⟨(nth D.cluster w).toNat, by omega⟩
  rw [hcv1] at x1 hcv0
  rw [hcw1] at x2 hcw0
  have hcv : cv < D.colour.length := by omega
  have hcw : cw < D.colour.length := by omega
  obtain ⟨b2, o2, rfl, _, hb2b, _, _⟩ := h2.opened (j := cv) hcv
  obtain ⟨x, HX⟩ : ∃ x, Hid (nth D.colour cv = x) := ⟨_, Lib.hid rfl⟩
  obtain ⟨y, HY⟩ : ∃ x, Hid (nth D.colour cw = x) := ⟨_, Lib.hid rfl⟩
  have hz : zD D v w = orI (cmpV x y) (cmpV (cv : Int) (cw : Int)) := by
    unfold zD clN; rw [hcv1, hcw1, Int.toNat_natCast, Int.toNat_natCast, HX.out, HY.out]
  have HP0 : Hid (∀ W, Calls Tryz.prog 53 #[.int .i64 x, .int .i64 y] W fun e w' => e = .returned (.int .i64 (cmpV x y)) ∧ w' = W) := Lib.hid (fun W => by rw [← cmpV_eq]; exact Tryz.cmp_Compare_int x y W)
  have HQ0 : Hid (∀ W, Calls Tryz.prog 53 #[.int .i64 (cv : Int), .int .i64 (cw : Int)] W fun e w' => e = .returned (.int .i64 (cmpV (cv : Int) (cw : Int))) ∧ w' = W) := Lib.hid (fun W => by rw [← cmpV_eq]; exact Tryz.cmp_Compare_int (cv : Int) (cw : Int) W)
  obtain ⟨a, HA⟩ : ∃ c, Hid (cmpV x y = c) := ⟨_, Lib.hid rfl⟩
  obtain ⟨b, HB⟩ : ∃ c, Hid (cmpV (cv : Int) (cw : Int) = c) := ⟨_, Lib.hid rfl⟩
  rw [HA.out, HB.out] at hz
  have HP := HP0; rw [HA.out] at HP; clear HP0
  have HQ := HQ0; rw [HB.out] at HQ; clear HQ0
  have HO := Lib.hid (fun g W h1 h2 => cmpOr_any g a b W h1 h2)
  obtain ⟨r, HR⟩ : ∃ y, Hid (orI a b = y) := ⟨_, Lib.hid rfl⟩
  rw [HR.out] at HO hz
  rw [hz]
  clear hz hc hcv0 hcw0
  have HCV := Lib.hid hcv1; have HCW := Lib.hid hcw1; clear hcv1 hcw1
  have hvi : (v : Int) < D.cluster.length := by omega
  have hwi : (w : Int) < D.cluster.length := by omega
  have hcvi : (cv : Int) < D.colour.length := by omega
  have hcwi : (cw : Int) < D.colour.length := by omega
  have HC2 := Lib.hid h2; clear h2 h1
  have k0 := HBX0.out.cell 0 (by simp)
  go_enter Tryz.func51, Tryz.ntmps51
  go_wp2_with fail
  go_quiet (fail)
  clear k0 x1 x2
  go_upto_region 2 with fail
  refine nameC ?_
  intro W0 HW0
  have hb0 : Below W.heap.size W W0 := by rw [HW0.out]; exact below_drewN (Below.refl _ _) nq
  clear HW0
  have hs0 := hb0.size
  have HBX := Lib.hid (HBX0.out.below hb0 hgd)
  have HCO := Lib.hid (IntS.below HC2.out hb0 hh)
  refine wp_region_U (fun w' => w'.cell? ⟨gd, 1, none⟩ = some (.slice (some ⟨b2, o2, none⟩) D.colour.length cA') ∧ w'.cell? ⟨b2, o2 + cv, none⟩ = some (.int .i64 x) ∧ w'.cell? ⟨b2, o2 + cw, none⟩ = some (.int .i64 y)) [] (by kernel_rfl) ?_
  refine nameU ?_
  intro W1 HW1
  have hb1 : Below W0.heap.size W0 W1 := by rw [HW1.out]; exact (Below.refl _ _).drew
  clear HW1
  have hs1 := hb1.size
  have bx1 := HBX.out.below hb1 (by omega)
  have co1 := IntS.below HCO.out hb1 (by omega)
  have hS1 : W1.cell? ⟨gd, 1, none⟩ = some (.slice (some ⟨b2, o2, none⟩) D.colour.length cA') ∧ W1.cell? ⟨b2, o2 + cv, none⟩ = some (.int .i64 x) ∧ W1.cell? ⟨b2, o2 + cw, none⟩ = some (.int .i64 y) := ⟨bx1.cell 1 (by simp), by have h9 := (IntS.at_ co1 (j := cv) hcv).1; rw [HX.out] at h9; exact h9, by have h9 := (IntS.at_ co1 (j := cw) hcw).1; rw [HY.out] at h9; exact h9⟩
  refine anyU_take (i := 0) (v := .pointer (some ⟨gd, 1, none⟩)) rfl (by kernel_rfl) (by kernel_rfl) (by kernel_rfl) (fun _ _ _ h => h) ⟨by rfl, fun w' hS' => (by obtain ⟨k1, k2, k3⟩ := hS'; go_simp)⟩ hS1 ?_
  simp only [List.getElem_toArray, List.getElem_cons_zero, Act.put, List.setIfInBounds_toArray, List.set_cons_zero, List.set_cons_succ]
  refine anyU_take (i := 1) (v := .slice (some ⟨b2, o2, none⟩) D.colour.length cA') rfl (by kernel_rfl) (by kernel_rfl) (by kernel_rfl) (fun _ _ _ h => h) ⟨by rfl, fun w' hS' => (by obtain ⟨k1, k2, k3⟩ := hS'; go_simp)⟩ hS1 ?_
  simp only [List.getElem_toArray, List.getElem_cons_succ, List.getElem_cons_zero, Act.put, List.setIfInBounds_toArray, List.set_cons_zero, List.set_cons_succ]
  refine anyU_take (i := 2) (v := .int .i64 (cv : Nat)) rfl (by kernel_rfl) (by kernel_rfl) (by kernel_rfl) (fun _ _ _ h => h) ⟨by rfl, fun w' hS' => (by obtain ⟨k1, k2, k3⟩ := hS'; go_simp)⟩ hS1 ?_
  simp only [List.getElem_toArray, List.getElem_cons_succ, List.getElem_cons_zero, Act.put, List.setIfInBounds_toArray, List.set_cons_zero, List.set_cons_succ]
  refine anyU_take (i := 3) (v := .pointer (some ⟨b2, o2 + cv, none⟩)) rfl (by kernel_rfl) (by kernel_rfl) (by kernel_rfl) (fun _ _ _ h => h) ⟨by rfl, fun w' hS' => (by obtain ⟨k1, k2, k3⟩ := hS'; simp [go_sem, hcvi])⟩ hS1 ?_
  simp only [List.getElem_toArray, List.getElem_cons_succ, List.getElem_cons_zero, Act.put, List.setIfInBounds_toArray, List.set_cons_zero, List.set_cons_succ]
  refine anyU_take (i := 4) (v := .int .i64 x) rfl (by kernel_rfl) (by kernel_rfl) (by kernel_rfl) (fun _ _ _ h => h) ⟨by rfl, fun w' hS' => (by obtain ⟨k1, k2, k3⟩ := hS'; go_simp)⟩ hS1 ?_
  simp only [List.getElem_toArray, List.getElem_cons_succ, List.getElem_cons_zero, Act.put, List.setIfInBounds_toArray, List.set_cons_zero, List.set_cons_succ]
  refine anyU_take (i := 5) (v := .pointer (some ⟨gd, 1, none⟩)) rfl (by kernel_rfl) (by kernel_rfl) (by kernel_rfl) (fun _ _ _ h => h) ⟨by rfl, fun w' hS' => (by obtain ⟨k1, k2, k3⟩ := hS'; go_simp)⟩ hS1 ?_
  simp only [List.getElem_toArray, List.getElem_cons_succ, List.getElem_cons_zero, Act.put, List.setIfInBounds_toArray, List.set_cons_zero, List.set_cons_succ]
  refine anyU_take (i := 6) (v := .slice (some ⟨b2, o2, none⟩) D.colour.length cA') rfl (by kernel_rfl) (by kernel_rfl) (by kernel_rfl) (fun _ _ _ h => h) ⟨by rfl, fun w' hS' => (by obtain ⟨k1, k2, k3⟩ := hS'; go_simp)⟩ hS1 ?_
  simp only [List.getElem_toArray, List.getElem_cons_succ, List.getElem_cons_zero, Act.put, List.setIfInBounds_toArray, List.set_cons_zero, List.set_cons_succ]
  refine anyU_take (i := 7) (v := .int .i64 (cw : Nat)) rfl (by kernel_rfl) (by kernel_rfl) (by kernel_rfl) (fun _ _ _ h => h) ⟨by rfl, fun w' hS' => (by obtain ⟨k1, k2, k3⟩ := hS'; go_simp)⟩ hS1 ?_
  simp only [List.getElem_toArray, List.getElem_cons_succ, List.getElem_cons_zero, Act.put, List.setIfInBounds_toArray, List.set_cons_zero, List.set_cons_succ]
  refine anyU_take (i := 8) (v := .pointer (some ⟨b2, o2 + cw, none⟩)) rfl (by kernel_rfl) (by kernel_rfl) (by kernel_rfl) (fun _ _ _ h => h) ⟨by rfl, fun w' hS' => (by obtain ⟨k1, k2, k3⟩ := hS'; simp [go_sem, hcwi])⟩ hS1 ?_
  simp only [List.getElem_toArray, List.getElem_cons_succ, List.getElem_cons_zero, Act.put, List.setIfInBounds_toArray, List.set_cons_zero, List.set_cons_succ]
  refine anyU_take (i := 9) (v := .int .i64 y) rfl (by kernel_rfl) (by kernel_rfl) (by kernel_rfl) (fun _ _ _ h => h) ⟨by rfl, fun w' hS' => (by obtain ⟨k1, k2, k3⟩ := hS'; go_simp)⟩ hS1 ?_
  simp only [List.getElem_toArray, List.getElem_cons_succ, List.getElem_cons_zero, Act.put, List.setIfInBounds_toArray, List.set_cons_zero, List.set_cons_succ]
  refine anyU_take (i := 11) (v := .int .i64 (cv : Nat)) rfl (by kernel_rfl) (by kernel_rfl) (by kernel_rfl) (fun _ _ _ h => h) ⟨by rfl, fun w' hS' => (by obtain ⟨k1, k2, k3⟩ := hS'; go_simp)⟩ hS1 ?_
  simp only [List.getElem_toArray, List.getElem_cons_succ, List.getElem_cons_zero, Act.put, List.setIfInBounds_toArray, List.set_cons_zero, List.set_cons_succ]
  refine anyU_take (i := 12) (v := .int .i64 (cw : Nat)) rfl (by kernel_rfl) (by kernel_rfl) (by kernel_rfl) (fun _ _ _ h => h) ⟨by rfl, fun w' hS' => (by obtain ⟨k1, k2, k3⟩ := hS'; go_simp)⟩ hS1 ?_
  simp only [List.getElem_toArray, List.getElem_cons_succ, List.getElem_cons_zero, Act.put, List.setIfInBounds_toArray, List.set_cons_zero, List.set_cons_succ]
  refine anyU_ready (rs := [10]) (by kernel_rfl) (by simp) ?_
  refine ReadyU.cons (i := 10) rfl (fun K hK => ?_) ReadyU.nil
  simp only [List.getElem_toArray, List.getElem_cons_succ, List.getElem_cons_zero]
  refine ite_is (by rfl) ?_
  simp [go_sem]
  refine (HP.out _).mono ?_
  rintro e W2 ⟨rfl, rfl⟩
  refine hK.out _ _ ⟨fun _ => hS1, ?_⟩
  clear hK K
  try simp only [List.getElem_toArray, List.getElem_cons_succ, List.getElem_cons_zero, Act.put, List.setIfInBounds_toArray, List.set_cons_zero, List.set_cons_succ]
  refine anyU_ready (rs := [13]) (by kernel_rfl) (by simp) ?_
  refine ReadyU.cons (i := 13) rfl (fun K hK => ?_) ReadyU.nil
  simp only [List.getElem_toArray, List.getElem_cons_succ, List.getElem_cons_zero]
  refine ite_is (by rfl) ?_
  simp [go_sem]
  refine (HQ.out _).mono ?_
  rintro e W3 ⟨rfl, rfl⟩
  refine hK.out _ _ ⟨fun _ => hS1, ?_⟩
  clear hK K
  try simp only [List.getElem_toArray, List.getElem_cons_succ, List.getElem_cons_zero, Act.put, List.setIfInBounds_toArray, List.set_cons_zero, List.set_cons_succ]
  refine anyU_ready (rs := [14]) (by kernel_rfl) (by simp) ?_
  refine ReadyU.cons (i := 14) rfl (fun K hK => ?_) ReadyU.nil
  simp only [List.getElem_toArray, List.getElem_cons_succ, List.getElem_cons_zero]
  refine ite_is (by rfl) ?_
  simp [go_sem]
  have hb4 : Below W3.heap.size W3 (W3.alloc (.cells #[.int .i64 a, .int .i64 b] 3)) := (Below.refl _ _).alloc (Nat.le_refl _) _
  have bx4 := bx1.below hb4 (by omega)
  have co4 := IntS.below co1 hb4 (by omega)
  have hS4 : (W3.alloc (.cells #[.int .i64 a, .int .i64 b] 3)).cell? ⟨gd, 1, none⟩ = some (.slice (some ⟨b2, o2, none⟩) D.colour.length cA') ∧ (W3.alloc (.cells #[.int .i64 a, .int .i64 b] 3)).cell? ⟨b2, o2 + cv, none⟩ = some (.int .i64 x) ∧ (W3.alloc (.cells #[.int .i64 a, .int .i64 b] 3)).cell? ⟨b2, o2 + cw, none⟩ = some (.int .i64 y) := ⟨bx4.cell 1 (by simp), by have h9 := (IntS.at_ co4 (j := cv) hcv).1; rw [HX.out] at h9; exact h9, by have h9 := (IntS.at_ co4 (j := cw) hcw).1; rw [HY.out] at h9; exact h9⟩
  refine hK.out _ _ ⟨fun _ => hS4, ?_⟩
  clear hK K
  try simp only [List.getElem_toArray, List.getElem_cons_succ, List.getElem_cons_zero, Act.put, List.setIfInBounds_toArray, List.set_cons_zero, List.set_cons_succ]
  refine nameU ?_
  intro W4 HW4
  rw [← HW4.out] at hb4 hS4
  have c0 : W4.cell? ⟨W3.heap.size, 0, none⟩ = some (.int .i64 a) := by rw [HW4.out]; exact (BoxN.new W3 #[.int .i64 a, .int .i64 b] _).cell 0 (by simp)
  have c1 : W4.cell? ⟨W3.heap.size, 1, none⟩ = some (.int .i64 b) := by rw [HW4.out]; exact (BoxN.new W3 #[.int .i64 a, .int .i64 b] _).cell 1 (by simp)
  clear HW4
  refine anyU_ready (rs := [15]) (by kernel_rfl) (by simp) ?_
  refine ReadyU.cons (i := 15) rfl (fun K hK => ?_) ReadyU.nil
  simp only [List.getElem_toArray, List.getElem_cons_succ, List.getElem_cons_zero]
  refine ite_is (by rfl) ?_
  simp [go_sem]
  refine (HO.out _ _ c0 c1).mono ?_
  rintro e W5 ⟨rfl, rfl⟩
  refine hK.out _ _ ⟨fun _ => hS4, ?_⟩
  clear hK K
  try simp only [List.getElem_toArray, List.getElem_cons_succ, List.getElem_cons_zero, Act.put, List.setIfInBounds_toArray, List.set_cons_zero, List.set_cons_succ]
  refine anyU_ready (rs := [16]) (by kernel_rfl) (by simp) ?_
  refine ReadyU.cons (i := 16) rfl (fun K hK => ?_) ReadyU.nil
  simp only [List.getElem_toArray, List.getElem_cons_succ, List.getElem_cons_zero]
  refine ite_is (by rfl) ?_
  simp [go_sem]
  refine hK.out _ _ ⟨fun _ => hS4, ?_⟩
  clear hK K
  try simp only [List.getElem_toArray, List.getElem_cons_succ, List.getElem_cons_zero, Act.put, List.setIfInBounds_toArray, List.set_cons_zero, List.set_cons_succ]
  refine anyU_done (by kernel_rfl) ?_ _
  go_wp2_with fail
  go_ret
  exact ⟨rfl, (hb0.trans (hb1.mono (by omega))).trans (hb4.mono (by omega))⟩

end Go.Proofs.YtakcjdlliejldaaGreat

/- Contract: clusterOrder sorts the nodes by the colours and the numbers of their clusters. -/
namespace Go.Proofs.YtakcjdlliejldaaGreat
open Go.ChangeShapes Go.WideShapes Go.ChangeAt Go.RowKit
set_option linter.unusedVariables false

/-- the order by colour, cluster and node -/
def RD (D : DecD) (x y : Nat) : Prop := nth D.colour (clN D x) < nth D.colour (clN D y) ∨ (nth D.colour (clN D x) = nth D.colour (clN D y) ∧ (nth D.cluster x < nth D.cluster y ∨ (nth D.cluster x = nth D.cluster y ∧ x < y)))
theorem ordRD (D : DecD) : Ord3 (RD D) := by
  refine ⟨fun x => ?_, fun {x y z} h k => ?_, fun {x y} h k => ?_⟩
  · unfold RD; omega
  · unfold RD at *; omega
  · unfold RD at h k; omega
theorem zD_lt (D : DecD) {x y : Nat} (h : y < x) : (zD D x y < 0 ↔ RD D x y) ∧ x ≠ y := by
  refine ⟨?_, by omega⟩
  unfold zD RD orI cmpV
  (repeat' split) <;> omega
theorem IntS.narrow {w : World} {lo hi b o n c : Nat} {zs : List Int} (h : IntS w lo hi (.slice (some ⟨b, o, none⟩) n c) zs) : IntS w b (b + 1) (.slice (some ⟨b, o, none⟩) n c) zs := by
  obtain ⟨A, c', e, h1, h2, h3⟩ := h
  refine ⟨A, c', e, h1, h2, fun hp => ?_⟩
  obtain ⟨b', off', e2, h4, h5, h6⟩ := h3 hp
  subst e2
  injection e with e
  injection e with e
  injection e with e1 e2
  subst e1 e2
  exact ⟨b, o, rfl, Nat.le_refl _, Nat.lt_succ_self _, h6⟩
theorem upTo_lst (n : Nat) : upTo n = lst n idN := rfl
theorem enters_cl : ∀ args w, (callFunc 51 args).run Tryz.prog w = .ok (.enter 51 args) w := enters_of Tryz.func51 (by kernel_rfl) rfl

set_option maxHeartbeats 2000000 in
set_option maxRecDepth 100000 in
theorem clusterOrder_any (v1 : Value) (D : DecD) (lo1 hi1 : Nat) (w : World) (h1 : Dec w lo1 hi1 v1 D) (hh1 : hi1 ≤ w.heap.size) (hn0 : 0 < D.cluster.length) (hn : D.cluster.length ≤ 40) (hc : ∀ x ∈ D.cluster, 0 ≤ x ∧ x < D.colour.length) :
    Calls Tryz.prog 28 #[v1] w fun e w' => ∃ r g, e = .returned r ∧ Mrg (RD D) idN g 0 D.cluster.length ∧ IntS w' w.heap.size w'.heap.size r (lst D.cluster.length g) ∧ Below w.heap.size w w' := by
  have HCC := Lib.hid hc; clear hc
  have F1 := Lib.hid h1
  obtain ⟨A1, c1, A1', c1', rfl, hc1, hd1⟩ := h1.parts
  clear h1
  obtain ⟨WA, HWA⟩ : ∃ W, Hid (W = (w.alloc (.cells #[.slice A1 D.cluster.length c1, .slice A1' D.colour.length c1'] 36))) := ⟨_, Lib.hid rfl⟩
  have hbA : Below w.heap.size w WA := by rw [HWA.out]; exact ((Below.refl _ _).alloc (Nat.le_refl _) _)
  have hsA : w.heap.size + 1 ≤ WA.heap.size := by rw [HWA.out]; simp; try omega
  have bx1 : BoxN WA (w.heap.size) #[.slice A1 D.cluster.length c1, .slice A1' D.colour.length c1'] 36 := by rw [HWA.out]; exact (BoxN.new' _ _ _ (by simp))
  have G1 := Lib.hid (Dec.below F1.out hbA hh1); clear F1
  go_enter Tryz.func28, Tryz.ntmps28
  go_upto_region 1 with (fail)
  rw [← HWA.out]; clear HWA
  have kbx1_0 : WA.cell? ⟨w.heap.size, 0, none⟩ = some (.slice A1 D.cluster.length c1) := bx1.cell 0 (by simp)
  have kbx1_1 : WA.cell? ⟨w.heap.size, 1, none⟩ = some (.slice A1' D.colour.length c1') := bx1.cell 1 (by simp)
  go_wp2_with fail
  clear kbx1_0 kbx1_1
  refine (numbersTo_any D.cluster.length _ (by omega)).mono ?_
  rintro e W1 ⟨q1, rfl, hq1, hb1⟩
  have hg1 := grown_below hb1; clear hb1
  have hs1 := hg1.size
  have HF1 := Lib.hid ((Turned.refl WA.heap.size WA.heap.size WA).still hg1)
  have Q1 := Lib.hid hq1; clear hq1
  obtain ⟨n, HN⟩ : ∃ n, Hid (D.cluster.length = n) := ⟨_, Lib.hid rfl⟩
  have hnn : 0 < n ∧ n ≤ 40 := by rw [← HN.out]; exact ⟨hn0, hn⟩
  have hul : (upTo D.cluster.length).length = n := by unfold upTo; rw [List.length_map, List.length_range, HN.out]
  obtain ⟨Aq, cq, rfl, hcq, hdq⟩ := IntS.dims Q1.out
  obtain ⟨b, o, rfl, hb1, hb2, _, _⟩ := IntS.opened Q1.out (j := 0) (by omega)
  have hI := IntS.narrow Q1.out
  rw [hul, upTo_lst, HN.out] at hI
  have HI := Lib.hid hI; clear hI
  rw [hul]
  clear hul hcq
  have hC : CmpC 51 #[.pointer (some ⟨w.heap.size, 0, none⟩)] W1 b n (zD D) := fun W x y hx hy hg => by
    refine clCmp_any D w.heap.size lo1 hi1 _ _ _ _ x y W (((HF1.out.boxN bx1 (by omega))).far hg (fun g e => by cases e; omega)) ((Dec.clusterS (Dec.turned G1.out HF1.out (by omega) (by omega))).far hg (by omega) (fun g e => by cases e; omega)) ((Dec.colourS (Dec.turned G1.out HF1.out (by omega) (by omega))).far hg (by omega) (fun g e => by cases e; omega)) (by have := hg.size; omega) (by rw [HN.out]; exact hx) (by rw [HN.out]; exact hy) HCC.out (by omega)
  have HCF := Lib.hid hC; clear hC
  go_wp2_with fail
  refine (SortStable_any 51 _ enters_cl (zD D) (RD D) (ordRD D) b o n cq W1 HI.out hb2 hnn.2 HCF.out (fun x y _ h => zD_lt D h)).mono ?_
  rintro e w9 ⟨g, rfl, hm, h1, hg9⟩
  have hs9 := hg9.size
  have HM := Lib.hid hm; clear hm
  have H9 := Lib.hid h1; clear h1
  have HB9 := Lib.hid (show Below w.heap.size w w9 from (show Below w.heap.size w W1 from (HF1.out.below_of hbA (by omega) (by omega))).grown hg9 (by omega) fun q hq => by cases hq; omega)
  go_wp2_with fail
  go_ret
  rw [HN.out]
  exact ⟨_, g, rfl, HM.out, IntS.mono H9.out (by omega) (by omega), HB9.out⟩

end Go.Proofs.YtakcjdlliejldaaGreat

/- Contract: the reference's order of the nodes by the colours and the numbers of their clusters. -/
namespace Go.Proofs.YtakcjdlliejldaaGreat
open Go.ChangeShapes Go.WideShapes Go.ChangeAt Go.RowKit
set_option linter.unusedVariables false

/-- the nodes of the clusters below k with a colour; of the colours below c -/
def ordK (D : DecD) (c : Nat) : Nat → List Int
  | 0 => []
  | k + 1 => ordK D c k ++ (if nth D.colour k = (c : Int) then clusN D.cluster k else [])
def ordC (D : DecD) : Nat → List Int
  | 0 => []
  | c + 1 => ordC D c ++ ordK D c D.colour.length
theorem clusN_len (l : List Int) (k : Nat) : (clusN l k).length ≤ l.length := fibL_len l k l.length
theorem ordK_len (D : DecD) (c : Nat) : ∀ k, (ordK D c k).length ≤ k * D.cluster.length
  | 0 => by simp [ordK]
  | k + 1 => by
    have h1 := ordK_len D c k
    have h2 := clusN_len D.cluster k
    simp only [ordK, List.length_append]
    rw [Nat.succ_mul]
    split
    · omega
    · simp; omega
theorem ordC_len (D : DecD) : ∀ c, (ordC D c).length ≤ c * (D.colour.length * D.cluster.length)
  | 0 => by simp [ordC]
  | c + 1 => by
    have h1 := ordC_len D c
    have h2 := ordK_len D c D.colour.length
    simp only [ordC, List.length_append]
    rw [Nat.succ_mul]; omega

end Go.Proofs.YtakcjdlliejldaaGreat

/- Plain: the list sorted by colour, cluster and node is the reference's list; ClusterOrder, both sides. -/
namespace Go.Proofs.YtakcjdlliejldaaGreat
open Go.ChangeShapes Go.WideShapes Go.ChangeAt Go.RowKit
set_option linter.unusedVariables false

def clsK (D : DecD) (k : Nat) : List Nat := (List.range D.cluster.length).filter fun v => decide (nth D.cluster v = (k : Int))
def ordKN (D : DecD) (c : Nat) : Nat → List Nat
  | 0 => []
  | k + 1 => ordKN D c k ++ (if nth D.colour k = (c : Int) then clsK D k else [])
def ordCN (D : DecD) : Nat → List Nat
  | 0 => []
  | c + 1 => ordCN D c ++ ordKN D c D.colour.length
theorem clusN_clsK (D : DecD) (k : Nat) : clusN D.cluster k = (clsK D k).map fun (v : Nat) => (v : Int) := rfl
theorem ordK_N (D : DecD) (c : Nat) : ∀ k, ordK D c k = (ordKN D c k).map fun (v : Nat) => (v : Int)
  | 0 => rfl
  | k + 1 => by
    simp only [ordK, ordKN, List.map_append]
    rw [ordK_N D c k]
    split
    · rw [clusN_clsK]
    · rfl
theorem ordC_N (D : DecD) : ∀ c, ordC D c = (ordCN D c).map fun (v : Nat) => (v : Int)
  | 0 => rfl
  | c + 1 => by simp only [ordC, ordCN, List.map_append]; rw [ordC_N D c, ordK_N]
theorem mem_clsK {D : DecD} {k v : Nat} : v ∈ clsK D k ↔ v < D.cluster.length ∧ nth D.cluster v = (k : Int) := by unfold clsK; simp
theorem mem_ordKN {D : DecD} {c v : Nat} : ∀ {k : Nat}, v ∈ ordKN D c k ↔ ∃ q, q < k ∧ nth D.colour q = (c : Int) ∧ v < D.cluster.length ∧ nth D.cluster v = (q : Int)
  | 0 => by simp [ordKN]
  | k + 1 => by
    simp only [ordKN, List.mem_append]
    rw [mem_ordKN]
    constructor
    · rintro (⟨q, h1, h2⟩ | h)
      · exact ⟨q, by omega, h2⟩
      · split at h
        · rename_i hc
          obtain ⟨h1, h2⟩ := mem_clsK.1 h
          exact ⟨k, by omega, hc, h1, h2⟩
        · simp at h
    · rintro ⟨q, h1, h2, h3, h4⟩
      rcases Nat.lt_succ_iff_lt_or_eq.1 h1 with h | rfl
      · exact .inl ⟨q, h, h2, h3, h4⟩
      · right; rw [if_pos h2]; exact mem_clsK.2 ⟨h3, h4⟩
theorem mem_ordCN {D : DecD} {v : Nat} : ∀ {c : Nat}, v ∈ ordCN D c ↔ ∃ e q, e < c ∧ q < D.colour.length ∧ nth D.colour q = ((e : Nat) : Int) ∧ v < D.cluster.length ∧ nth D.cluster v = ((q : Nat) : Int)
  | 0 => by simp [ordCN]
  | c + 1 => by
    simp only [ordCN, List.mem_append]
    rw [mem_ordCN, mem_ordKN]
    constructor
    · rintro (⟨e, q, h1, h2⟩ | ⟨q, h1, h2⟩)
      · exact ⟨e, q, by omega, h2⟩
      · exact ⟨c, q, by omega, h1, h2⟩
    · rintro ⟨e, q, h1, h2, h3, h4⟩
      rcases Nat.lt_succ_iff_lt_or_eq.1 h1 with h | rfl
      · exact .inl ⟨e, q, h, h2, h3, h4⟩
      · exact .inr ⟨q, h2, h3, h4⟩
theorem RD_of {D : DecD} {x y p q : Nat} (hx : nth D.cluster x = (p : Int)) (hy : nth D.cluster y = (q : Int)) : RD D x y ↔ (nth D.colour p < nth D.colour q ∨ (nth D.colour p = nth D.colour q ∧ (p < q ∨ (p = q ∧ x < y)))) := by
  unfold RD clN
  rw [hx, hy, Int.toNat_natCast, Int.toNat_natCast]
  omega
theorem clsK_pw (D : DecD) (k : Nat) : (clsK D k).Pairwise (RD D) := by
  have h : (clsK D k).Pairwise (· < ·) := List.Pairwise.filter _ List.pairwise_lt_range
  refine h.imp_of_mem fun {a b} ha hb hab => ?_
  rw [RD_of (mem_clsK.1 ha).2 (mem_clsK.1 hb).2]
  exact .inr ⟨rfl, .inr ⟨rfl, hab⟩⟩
theorem ordKN_pw (D : DecD) (c : Nat) : ∀ k, (ordKN D c k).Pairwise (RD D)
  | 0 => List.Pairwise.nil
  | k + 1 => by
    simp only [ordKN]
    rw [List.pairwise_append]
    refine ⟨ordKN_pw D c k, ?_, fun a ha b hb => ?_⟩
    · split
      · exact clsK_pw D k
      · exact List.Pairwise.nil
    · split at hb
      · rename_i hc
        obtain ⟨q, h1, h2, _, h4⟩ := mem_ordKN.1 ha
        rw [RD_of h4 (mem_clsK.1 hb).2]
        exact .inr ⟨by rw [h2, hc], .inl h1⟩
      · simp at hb
theorem ordCN_pw (D : DecD) : ∀ c, (ordCN D c).Pairwise (RD D)
  | 0 => List.Pairwise.nil
  | c + 1 => by
    simp only [ordCN]
    rw [List.pairwise_append]
    refine ⟨ordCN_pw D c, ordKN_pw D c _, fun a ha b hb => ?_⟩
    obtain ⟨e, q, h1, _, h3, _, h5⟩ := mem_ordCN.1 ha
    obtain ⟨q', _, k2, _, k4⟩ := mem_ordKN.1 hb
    rw [RD_of h5 k4]
    exact .inl (by rw [h3, k2]; omega)
theorem RD_ne {D : DecD} {x y : Nat} (h : RD D x y) : x ≠ y := fun e => (ordRD D).irr x (by rw [← e] at h; exact h)
/-- THE TWO ORDERS ARE ONE -/
theorem order_eq {D : DecD} {g : Nat → Nat} {M : Nat} (hm : Mrg (RD D) idN g 0 D.cluster.length) (hc : ∀ x ∈ D.cluster, 0 ≤ x ∧ x < D.colour.length) (hcol : ∀ x ∈ D.colour, 0 ≤ x ∧ x ≤ M) : lst D.cluster.length g = ordC D (M + 1) := by
  have h1 : ((List.range D.cluster.length).map g).Pairwise (RD D) := srt_pairwise hm.srt
  have h2 := ordCN_pw D (M + 1)
  have hp1 : ((List.range D.cluster.length).map g).Perm (List.range D.cluster.length) := by
    have := hm.perm
    rw [seg_range, seg_range] at this
    rwa [show (List.range D.cluster.length).map idN = List.range D.cluster.length from List.map_id _] at this
  have hp2 : (ordCN D (M + 1)).Perm (List.range D.cluster.length) := by
    refine (List.perm_ext_iff_of_nodup (h2.imp RD_ne) List.nodup_range).2 fun v => ?_
    rw [mem_ordCN, List.mem_range]
    constructor
    · rintro ⟨_, _, _, _, _, h, _⟩; exact h
    · intro hv
      obtain ⟨a1, a2⟩ := hc _ (nth_mem hv)
      have hq : (nth D.cluster v).toNat < D.colour.length := by omega
      obtain ⟨b1, b2⟩ := hcol _ (nth_mem hq)
      exact ⟨(nth D.colour (nth D.cluster v).toNat).toNat, (nth D.cluster v).toNat, by omega, hq, by omega, hv, by omega⟩
  have he : (List.range D.cluster.length).map g = ordCN D (M + 1) :=
    (hp1.trans hp2.symm).eq_of_pairwise (fun a b _ _ k1 k2 => absurd ((ordRD D).trans k1 k2) ((ordRD D).irr a)) h1 h2
  rw [ordC_N, ← he]
  unfold lst
  rw [List.map_map]; rfl

end Go.Proofs.YtakcjdlliejldaaGreat

/- ClusterOrder: both sides. -/
namespace Go.Proofs.YtakcjdlliejldaaGreat
open Go.ChangeShapes Go.WideShapes Go.ChangeAt Go.RowKit
set_option linter.unusedVariables false

def clOut (N : NetD) (D : DecD) : List Int := if askedB N D then ordC D ((mostI D.colour).toNat + 1) else []
structure ClF (N : NetD) (D : DecD) : Prop where
  pos : 0 < D.cluster.length
  few : D.cluster.length ≤ 40
  low : ∀ x ∈ D.cluster, 0 ≤ x ∧ x < D.colour.length
  col : ∀ x ∈ D.colour, 0 ≤ x ∧ x ≤ 40
  clen : D.colour.length ≤ 1000
  ne : ∀ k, k < D.colour.length → 0 < (clusN D.cluster k).length
  most : mostI D.colour ≤ 40
theorem asked_facts {N : NetD} {D : DecD} (h : askedB N D = true) : ClF N D := by
  unfold askedB at h
  rw [Bool.and_eq_true] at h
  obtain ⟨hg, hd⟩ := h
  obtain ⟨n1, n40⟩ := good_n hg
  have G := decB_is hd
  have hl := G.clus.len
  have hlen := G.len
  obtain ⟨m0, m1, m2⟩ := mostI_spec D.cluster
  have hm40 : mostI D.cluster < 40 := by
    rcases m2 with h | h
    · omega
    · have := G.clus.low _ h; omega
  refine ⟨by omega, by omega, fun x hx => ?_, G.low, by omega, fun k hk => ?_, ?_⟩
  · have h1 := G.clus.low x hx
    have h2 := m1 x hx
    omega
  · have h1 := G.clus.full k (by omega)
    obtain ⟨v, hv, e⟩ := List.getElem_of_mem h1
    have : v ∈ clsK D k := mem_clsK.2 ⟨hv, by rw [nth_eq hv]; exact e⟩
    rw [clusN_clsK, List.length_map]
    exact List.length_pos_of_mem this
  · obtain ⟨c0, c1, c2⟩ := mostI_spec D.colour
    rcases c2 with h | h
    · omega
    · exact (G.low _ h).2
theorem clOut_yes {N : NetD} {D : DecD} (h : askedB N D = true) : clOut N D = ordC D ((mostI D.colour).toNat + 1) := by unfold clOut; rw [if_pos h]
theorem clOut_no {N : NetD} {D : DecD} (h : askedB N D = false) : clOut N D = [] := by unfold clOut; rw [h]; rfl
theorem order_out {N : NetD} {D : DecD} {g : Nat → Nat} (h : askedB N D = true) (hm : Mrg (RD D) idN g 0 D.cluster.length) : lst D.cluster.length g = clOut N D := by
  have F := asked_facts h
  rw [clOut_yes h]
  refine order_eq hm F.low fun x hx => ⟨(F.col x hx).1, ?_⟩
  obtain ⟨c0, c1, c2⟩ := mostI_spec D.colour
  have := c1 x hx
  omega
theorem clOut_len (N : NetD) (D : DecD) : (clOut N D).length ≤ 1000000 := by
  by_cases h : askedB N D = true
  · have F := asked_facts h
    rw [clOut_yes h]
    have h1 := ordC_len D ((mostI D.colour).toNat + 1)
    have h2 : ((mostI D.colour).toNat + 1) * (D.colour.length * D.cluster.length) ≤ 41 * (D.colour.length * D.cluster.length) := Nat.mul_le_mul_right _ (by have := F.most; omega)
    have h3 : D.colour.length * D.cluster.length ≤ 40 * 40 := Nat.mul_le_mul (by
      have h' := h
      unfold askedB at h'
      rw [Bool.and_eq_true] at h'
      have G := decB_is h'.2
      have := G.len
      obtain ⟨m0, m1, m2⟩ := mostI_spec D.cluster
      obtain ⟨n1, n40⟩ := good_n h'.1
      have hm40 : mostI D.cluster < 40 := by
        rcases m2 with h | h
        · omega
        · have := G.clus.low _ h; omega
      omega) F.few
    omega
  · rw [clOut_no (by simpa using h)]; simp

end Go.Proofs.YtakcjdlliejldaaGreat
