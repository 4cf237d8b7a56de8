/-
  Contracts: rows compared, rows sorted.
-/
import Derived.Test.YtlfdhhmccjkogaaMrgP
import Derived.Test.YtlfdhhmccjkogaaTabLaw
import Derived.Test.YtlfdhhmccjkogaaReg
import Derived.Test.YtlfdhhmccjkogaaOwnR
import Derived.Test.YtlfdhhmccjkogaaDrw
import Derived.Test.YtlfdhhmccjkogaaShelf
import Derived.Test.YtlfdhhmccjkogaaShelfS
namespace Go.Proofs.Ytlfdhhmccjkogaa
open Go.ChangeShapes Go.WideShapes Go.ChangeAt Go.RowKit
set_option linter.unusedVariables false

theorem BD.alloc {B : Nat} {w w' : World} (h : BD B w w') (hB : B ≤ w'.heap.size) (o : Obj) : BD B w (w'.alloc o) := ⟨h.below.alloc hB o, h.drawn⟩
theorem BD.drewN {B : Nat} {w w' : World} (h : BD B w w') (k : Nat) : BD B w (w'.drewN k) := ⟨h.below.trans ⟨rfl, rfl, rfl, Nat.le_refl _, fun _ _ => rfl⟩, Nat.le_trans h.drawn (Nat.le_add_right _ _)⟩
theorem BD.drew {B : Nat} {w w' : World} (h : BD B w w') : BD B w w'.drew := h.drewN 1
theorem BD.mono {B C : Nat} {w w' : World} (h : BD B w w') (hC : C ≤ B) : BD C w w' := ⟨⟨h.below.os, h.below.tape, h.below.output, h.below.size, fun k hk => h.below.block k (by omega)⟩, h.drawn⟩
theorem BD.grow' {w w' : World} (h : BD w.heap.size w w') : ∃ (q : Nat) (os : Array Obj), w' = Sort.grow (w.drewN q) os := by
  refine ⟨w'.drawn - w.drawn, w'.heap.extract w.heap.size w'.heap.size, ?_⟩
  have hd := h.drawn
  have hs := h.below.size
  have hheap : w'.heap = w.heap ++ w'.heap.extract w.heap.size w'.heap.size := by
    apply Array.ext_getElem?
    intro k
    rw [Array.getElem?_append]
    by_cases hk : k < w.heap.size
    · rw [if_pos hk]; exact h.below.block k hk
    · rw [if_neg hk, Array.getElem?_extract]
      have e : min w'.heap.size w'.heap.size - w.heap.size = w'.heap.size - w.heap.size := by omega
      split
      · rw [show w.heap.size + (k - w.heap.size) = k by omega]
      · rw [Array.getElem?_eq_none (by omega)]
  have h1 := h.below.os
  have h2 := h.below.tape
  have h3 := h.below.output
  obtain ⟨hp, tp, dr, os, out⟩ := w'
  simp only at h1 h2 h3 hheap hd
  unfold Sort.grow World.drewN
  simp only [World.mk.injEq]
  refine ⟨hheap, h2, ?_, h1, h3⟩
  show dr = w.drawn + (dr - w.drawn)
  omega
theorem cmpN_eq (a b : Int) : Lib.compareInt a b = cmpN a b := by unfold Lib.compareInt cmpN; rfl

set_option maxHeartbeats 1000000 in
theorem cmpRows_any (s1 : ByteArray) (o1 : Int) (s2 : ByteArray) (o2 : Int) (w : World) :
    Calls Try.prog 33 #[.agg #[.string s1, .int .i64 o1], .agg #[.string s2, .int .i64 o2]] w fun e w' => e = .returned (.int .i64 (cmpB s1 s2)) ∧ BD w.heap.size w w' := by
  have hc : ∀ W, Calls Try.prog 44 #[.string s1, .string s2] W fun e w' => e = .returned (.int .i64 (cmpB s1 s2)) ∧ w' = W := fun W => Try.strings_Compare s1 s2 W
  obtain ⟨c, HC⟩ : ∃ c, Hid (cmpB s1 s2 = c) := ⟨_, Lib.hid rfl⟩
  rw [HC.out] at hc ⊢
  have HS := Lib.hid hc; clear hc
  go_enter Try.func33, Try.ntmps33
  go_wp2_with (go_at_call 44; refine (HS.out _).mono ?_; rintro e w' ⟨rfl, rfl⟩)
  go_ret
  exact ⟨rfl, ((BD.refl _ _).alloc (Nat.le_refl _) _).alloc (by simp) _⟩
/-- the first of two that is not zero -/
def orI (a b : Int) : Int := if a = 0 then b else a
set_option maxHeartbeats 1000000 in
theorem cmpOr_any (g : Nat) (a b : Int) (w : World) (h1 : w.cell? ⟨g, 0, none⟩ = some (.int .i64 a)) (h2 : w.cell? ⟨g, 1, none⟩ = some (.int .i64 b)) :
    Calls Try.prog 32 #[.slice (some ⟨g, 0, none⟩) 2 2] w fun e w' => e = .returned (.int .i64 (orI a b)) ∧ w = w' := by
  by_cases ha : a = 0
  · have hr : orI a b = b := by unfold orI; rw [if_pos ha]
    have HR := Lib.hid hr; clear hr
    subst ha
    by_cases hb : b = 0
    · subst hb
      go_enter Try.func32, Try.ntmps32
      go_wp2_with fail
      refine wp_loop_rounds 3 ?_
      rw [rounds_succ]
      go_wp2_with fail
      try rw [rounds_succ]
      go_wp2_with fail
      try rw [rounds_succ]
      go_wp2_with fail
      go_ret
      exact ⟨ret_int HR.out.symm, rfl⟩
    · have hb2 : (b != 0) = true := by simpa using hb
      go_enter Try.func32, Try.ntmps32
      go_wp2_with fail
      refine wp_loop_rounds 3 ?_
      rw [rounds_succ]
      go_wp2_with fail
      try rw [rounds_succ]
      go_wp2_with fail
      go_ret
      exact ⟨ret_int HR.out.symm, rfl⟩
  · have hr : orI a b = a := by unfold orI; rw [if_neg ha]
    have HR := Lib.hid hr; clear hr
    have ha2 : (a != 0) = true := by simpa using ha
    go_enter Try.func32, Try.ntmps32
    go_wp2_with fail
    refine wp_loop_rounds 3 ?_
    rw [rounds_succ]
    go_wp2_with fail
    go_ret
    exact ⟨ret_int HR.out.symm, rfl⟩

set_option maxHeartbeats 2000000 in
set_option maxRecDepth 100000 in
theorem rowsCmp_any (s1 : ByteArray) (o1 : Int) (s2 : ByteArray) (o2 : Int) (w : World) :
    Calls Try.prog 31 #[.agg #[.string s1, .int .i64 o1], .agg #[.string s2, .int .i64 o2]] w fun e w' => e = .returned (.int .i64 (cfR (s1, o1) (s2, o2))) ∧ BD w.heap.size w w' := by
  have hcf : cfR (s1, o1) (s2, o2) = orI (cmpB s1 s2) (cmpN o1 o2) := rfl
  have HP := Lib.hid (cmpRows_any s1 o1 s2 o2)
  have HQ : Hid (∀ W, Calls Try.prog 34 #[.int .i64 o1, .int .i64 o2] W fun e w' => e = .returned (.int .i64 (cmpN o1 o2)) ∧ w' = W) := Lib.hid (fun W => by rw [← cmpN_eq]; exact Try.cmp_Compare_int o1 o2 W)
  obtain ⟨a, HA⟩ : ∃ c, Hid (cmpB s1 s2 = c) := ⟨_, Lib.hid rfl⟩
  obtain ⟨b, HB⟩ : ∃ c, Hid (cmpN o1 o2 = c) := ⟨_, Lib.hid rfl⟩
  rw [HA.out, HB.out] at hcf
  rw [HA.out] at HP
  rw [HB.out] at HQ
  rw [hcf]
  have HO := Lib.hid (fun g W h1 h2 => cmpOr_any g a b W h1 h2)
  clear hcf
  obtain ⟨y, HY⟩ : ∃ y, Hid (orI a b = y) := ⟨_, Lib.hid rfl⟩
  rw [HY.out] at HO ⊢
  go_enter Try.func31, Try.ntmps31
  go_upto_region 1 with fail
  refine nameC ?_
  intro W0 HW0
  have hb0 : BD w.heap.size w W0 := by rw [HW0.out]; exact ((BD.refl _ _).alloc (Nat.le_refl _) _).alloc (by simp) _
  have b0 : Box2 W0 w.heap.size 38 (.string s1) (.int .i64 o1) := by rw [HW0.out]; exact (Box2.new _ _ _ _).alloc _
  have b1 : Box2 W0 (w.heap.size + 1) 38 (.string s2) (.int .i64 o2) := by
    rw [HW0.out]; have := Box2.new (w.alloc (.cells #[.string s1, .int .i64 o1] 38)) 38 (.string s2) (.int .i64 o2); simpa using this
  have hs0 : W0.heap.size = w.heap.size + 2 := by rw [HW0.out]; simp
  clear HW0
  refine wp_region_U (fun w' => w'.cell? ⟨w.heap.size, 0, none⟩ = some (.string s1) ∧ w'.cell? ⟨w.heap.size, 1, none⟩ = some (.int .i64 o1) ∧ w'.cell? ⟨w.heap.size + 1, 0, none⟩ = some (.string s2) ∧ w'.cell? ⟨w.heap.size + 1, 1, none⟩ = some (.int .i64 o2)) [] (by kernel_rfl) ?_
  refine nameU ?_
  intro W1 HW1
  have hb1 : BD W0.heap.size W0 W1 := by rw [HW1.out]; exact (BD.refl _ _).drew
  clear HW1
  have hs1 := hb1.below.size
  have c0 := b0.below hb1.below (by omega)
  have c1 := b1.below hb1.below (by omega)
  have hS1 : W1.cell? ⟨w.heap.size, 0, none⟩ = some (.string s1) ∧ W1.cell? ⟨w.heap.size, 1, none⟩ = some (.int .i64 o1) ∧ W1.cell? ⟨w.heap.size + 1, 0, none⟩ = some (.string s2) ∧ W1.cell? ⟨w.heap.size + 1, 1, none⟩ = some (.int .i64 o2) := ⟨c0.cells.1, c0.cells.2, c1.cells.1, c1.cells.2⟩
  refine anyU_take (i := 0) (v := .agg #[.string s1, .int .i64 o1]) rfl (by kernel_rfl) (by kernel_rfl) (by kernel_rfl) (fun _ _ _ h => h) ⟨by rfl, fun w' hS' => (by obtain ⟨k1, k2, k3, k4⟩ := hS'; go_simp)⟩ hS1 ?_
  simp only [List.getElem_toArray, List.getElem_cons_zero, Act.put, List.setIfInBounds_toArray, List.set_cons_zero, List.set_cons_succ]
  refine anyU_take (i := 1) (v := .agg #[.string s2, .int .i64 o2]) rfl (by kernel_rfl) (by kernel_rfl) (by kernel_rfl) (fun _ _ _ h => h) ⟨by rfl, fun w' hS' => (by obtain ⟨k1, k2, k3, k4⟩ := hS'; go_simp)⟩ hS1 ?_
  simp only [List.getElem_toArray, List.getElem_cons_succ, List.getElem_cons_zero, Act.put, List.setIfInBounds_toArray, List.set_cons_zero, List.set_cons_succ]
  refine anyU_take (i := 3) (v := .pointer (some ⟨w.heap.size, 1, none⟩)) rfl (by kernel_rfl) (by kernel_rfl) (by kernel_rfl) (fun _ _ _ h => h) ⟨by rfl, fun w' hS' => (by obtain ⟨k1, k2, k3, k4⟩ := hS'; go_simp)⟩ hS1 ?_
  simp only [List.getElem_toArray, List.getElem_cons_succ, List.getElem_cons_zero, Act.put, List.setIfInBounds_toArray, List.set_cons_zero, List.set_cons_succ]
  refine anyU_take (i := 4) (v := .int .i64 o1) rfl (by kernel_rfl) (by kernel_rfl) (by kernel_rfl) (fun _ _ _ h => h) ⟨by rfl, fun w' hS' => (by obtain ⟨k1, k2, k3, k4⟩ := hS'; go_simp)⟩ hS1 ?_
  simp only [List.getElem_toArray, List.getElem_cons_succ, List.getElem_cons_zero, Act.put, List.setIfInBounds_toArray, List.set_cons_zero, List.set_cons_succ]
  refine anyU_take (i := 5) (v := .pointer (some ⟨w.heap.size + 1, 1, none⟩)) rfl (by kernel_rfl) (by kernel_rfl) (by kernel_rfl) (fun _ _ _ h => h) ⟨by rfl, fun w' hS' => (by obtain ⟨k1, k2, k3, k4⟩ := hS'; go_simp)⟩ hS1 ?_
  simp only [List.getElem_toArray, List.getElem_cons_succ, List.getElem_cons_zero, Act.put, List.setIfInBounds_toArray, List.set_cons_zero, List.set_cons_succ]
  refine anyU_take (i := 6) (v := .int .i64 o2) rfl (by kernel_rfl) (by kernel_rfl) (by kernel_rfl) (fun _ _ _ h => h) ⟨by rfl, fun w' hS' => (by obtain ⟨k1, k2, k3, k4⟩ := hS'; go_simp)⟩ hS1 ?_
  simp only [List.getElem_toArray, List.getElem_cons_succ, List.getElem_cons_zero, Act.put, List.setIfInBounds_toArray, List.set_cons_zero, List.set_cons_succ]
  refine anyU_ready (rs := [2]) (by kernel_rfl) (by simp) ?_
  refine ReadyU.cons (i := 2) rfl (fun K hK => ?_) ReadyU.nil
  simp only [List.getElem_toArray, List.getElem_cons_succ, List.getElem_cons_zero]
  refine ite_is (by rfl) ?_
  simp [go_sem]
  refine (HP.out _).mono ?_
  rintro e W2 ⟨rfl, hb2⟩
  have hs2 := hb2.below.size
  have d0 := c0.below hb2.below (by omega)
  have d1 := c1.below hb2.below (by omega)
  have hS2 : W2.cell? ⟨w.heap.size, 0, none⟩ = some (.string s1) ∧ W2.cell? ⟨w.heap.size, 1, none⟩ = some (.int .i64 o1) ∧ W2.cell? ⟨w.heap.size + 1, 0, none⟩ = some (.string s2) ∧ W2.cell? ⟨w.heap.size + 1, 1, none⟩ = some (.int .i64 o2) := ⟨d0.cells.1, d0.cells.2, d1.cells.1, d1.cells.2⟩
  refine hK.out _ _ ⟨fun _ => hS2, ?_⟩
  clear hK K
  try simp only [List.getElem_toArray, List.getElem_cons_succ, List.getElem_cons_zero, Act.put, List.setIfInBounds_toArray, List.set_cons_zero, List.set_cons_succ]
  refine anyU_ready (rs := [7]) (by kernel_rfl) (by simp) ?_
  refine ReadyU.cons (i := 7) rfl (fun K hK => ?_) ReadyU.nil
  simp only [List.getElem_toArray, List.getElem_cons_succ, List.getElem_cons_zero]
  refine ite_is (by rfl) ?_
  simp [go_sem]
  refine (HQ.out _).mono ?_
  rintro e W3 ⟨rfl, rfl⟩
  refine hK.out _ _ ⟨fun _ => hS2, ?_⟩
  clear hK K
  try simp only [List.getElem_toArray, List.getElem_cons_succ, List.getElem_cons_zero, Act.put, List.setIfInBounds_toArray, List.set_cons_zero, List.set_cons_succ]
  refine anyU_ready (rs := [8]) (by kernel_rfl) (by simp) ?_
  refine ReadyU.cons (i := 8) rfl (fun K hK => ?_) ReadyU.nil
  simp only [List.getElem_toArray, List.getElem_cons_succ, List.getElem_cons_zero]
  refine ite_is (by rfl) ?_
  simp [go_sem]
  refine hK.out _ _ ⟨fun _ => ⟨(d0.alloc _).cells.1, (d0.alloc _).cells.2, (d1.alloc _).cells.1, (d1.alloc _).cells.2⟩, ?_⟩
  clear hK K
  try simp only [List.getElem_toArray, List.getElem_cons_succ, List.getElem_cons_zero, Act.put, List.setIfInBounds_toArray, List.set_cons_zero, List.set_cons_succ]
  refine nameU ?_
  intro W4 HW4
  have hb4 : BD W3.heap.size W3 W4 := by rw [HW4.out]; exact (BD.refl _ _).alloc (Nat.le_refl _) _
  have hs4 := hb4.below.size
  have c : Box2 W4 W3.heap.size 3 (.int .i64 a) (.int .i64 b) := by rw [HW4.out]; exact Box2.new _ _ _ _
  clear HW4
  have e0 := d0.below hb4.below (by omega)
  have e1 := d1.below hb4.below (by omega)
  have hS4 : W4.cell? ⟨w.heap.size, 0, none⟩ = some (.string s1) ∧ W4.cell? ⟨w.heap.size, 1, none⟩ = some (.int .i64 o1) ∧ W4.cell? ⟨w.heap.size + 1, 0, none⟩ = some (.string s2) ∧ W4.cell? ⟨w.heap.size + 1, 1, none⟩ = some (.int .i64 o2) := ⟨e0.cells.1, e0.cells.2, e1.cells.1, e1.cells.2⟩
  refine anyU_ready (rs := [9]) (by kernel_rfl) (by simp) ?_
  refine ReadyU.cons (i := 9) rfl (fun K hK => ?_) ReadyU.nil
  simp only [List.getElem_toArray, List.getElem_cons_succ, List.getElem_cons_zero]
  refine ite_is (by rfl) ?_
  simp [go_sem]
  refine (HO.out _ _ c.cells.1 c.cells.2).mono ?_
  rintro e W5 ⟨rfl, rfl⟩
  refine hK.out _ _ ⟨fun _ => hS4, ?_⟩
  clear hK K
  try simp only [List.getElem_toArray, List.getElem_cons_succ, List.getElem_cons_zero, Act.put, List.setIfInBounds_toArray, List.set_cons_zero, List.set_cons_succ]
  refine anyU_ready (rs := [10]) (by kernel_rfl) (by simp) ?_
  refine ReadyU.cons (i := 10) rfl (fun K hK => ?_) ReadyU.nil
  simp only [List.getElem_toArray, List.getElem_cons_succ, List.getElem_cons_zero]
  refine ite_is (by rfl) ?_
  simp [go_sem]
  refine hK.out _ _ ⟨fun _ => hS4, ?_⟩
  clear hK K
  try simp only [List.getElem_toArray, List.getElem_cons_succ, List.getElem_cons_zero, Act.put, List.setIfInBounds_toArray, List.set_cons_zero, List.set_cons_succ]
  refine anyU_done (by kernel_rfl) ?_ _
  go_wp2_with fail
  go_ret
  exact ⟨rfl, ((hb0.trans (hb1.mono (by omega))).trans (hb2.mono (by omega))).trans (hb4.mono (by omega))⟩

end Go.Proofs.Ytlfdhhmccjkogaa
