/-
  Several texts in one: Ccmp, Csr, Co. No condition on any program.
-/
import Derived.Test.YtmdlginjblnfoaaGreatCzG
import Derived.Test.YtmdlginjblnfoaaGreatCzH
import Derived.Test.YtmdlginjblnfoaaGreatCzM
import Derived.Test.YtmdlginjblnfoaaGreatCzE
import Derived.Test.YtmdlginjblnfoaaGreatCzF
import Derived.Test.YtmdlginjblnfoaaGreatShelf
import Derived.Test.YtmdlginjblnfoaaGreatCzJ
import Derived.Test.YtmdlginjblnfoaaGreatShelfS
import Derived.Shelf.SlSortCmp.WholeK
import Derived.Shelf.SlSortCmp.NoneTotal
import Derived.Lib.SliceRun

/- Contract: the comparing function of componentsOf. -/
namespace Go.Proofs.YtmdlginjblnfoaaGreat
open Go.ChangeShapes Go.WideShapes Go.ChangeAt Go.RowKit
set_option linter.unusedVariables false

theorem BD.alloc {B : Nat} {w w' : World} (h : BD B w w') (hB : B ≤ w'.heap.size) (o : Obj) : BD B w (w'.alloc o) := ⟨h.below.alloc hB o, h.drawn⟩
theorem BD.drewN {B : Nat} {w w' : World} (h : BD B w w') (k : Nat) : BD B w (w'.drewN k) := ⟨h.below.trans ⟨rfl, rfl, rfl, Nat.le_refl _, fun _ _ => rfl⟩, Nat.le_trans h.drawn (Nat.le_add_right _ _)⟩
theorem BD.drew {B : Nat} {w w' : World} (h : BD B w w') : BD B w w'.drew := h.drewN 1
/-- the first of two that is not zero -/
def orI (a b : Int) : Int := if a = 0 then b else a
set_option maxHeartbeats 1000000 in
theorem cmpOr_any (g : Nat) (a b : Int) (w : World) (h1 : w.cell? ⟨g, 0, none⟩ = some (.int .i64 a)) (h2 : w.cell? ⟨g, 1, none⟩ = some (.int .i64 b)) :
    Calls Tryz.prog 55 #[.slice (some ⟨g, 0, none⟩) 2 2] w fun e w' => e = .returned (.int .i64 (orI a b)) ∧ w = w' := by
  by_cases ha : a = 0
  · have hr : orI a b = b := by unfold orI; rw [if_pos ha]
    have HR := Lib.hid hr; clear hr
    subst ha
    by_cases hb : b = 0
    · subst hb
      go_enter Tryz.func55, Tryz.ntmps55
      go_wp2_with fail
      refine wp_loop_rounds 3 ?_
      rw [rounds_succ]
      go_wp2_with fail
      try rw [rounds_succ]
      go_wp2_with fail
      try rw [rounds_succ]
      go_wp2_with fail
      go_ret
      exact ⟨ret_int HR.out.symm, rfl⟩
    · have hb2 : (b != 0) = true := by simpa using hb
      go_enter Tryz.func55, Tryz.ntmps55
      go_wp2_with fail
      refine wp_loop_rounds 3 ?_
      rw [rounds_succ]
      go_wp2_with fail
      try rw [rounds_succ]
      go_wp2_with fail
      go_ret
      exact ⟨ret_int HR.out.symm, rfl⟩
  · have hr : orI a b = a := by unfold orI; rw [if_neg ha]
    have HR := Lib.hid hr; clear hr
    have ha2 : (a != 0) = true := by simpa using ha
    go_enter Tryz.func55, Tryz.ntmps55
    go_wp2_with fail
    refine wp_loop_rounds 3 ?_
    rw [rounds_succ]
    go_wp2_with fail
    go_ret
    exact ⟨ret_int HR.out.symm, rfl⟩


/-- the order of components: by code, then by least node -/
def cmpCC (a b : CmpD) : Int := orI (cmpL a.code b.code) (cmpV (a.least : Nat) (b.least : Nat))

set_option maxHeartbeats 2000000 in
set_option maxRecDepth 100000 in
theorem ccCmp_any (x y : CmpV) (lo1 hi1 lo2 hi2 : Nat) (W : World) (h1 : ElOk W lo1 hi1 x) (hh1 : hi1 ≤ W.heap.size) (h2 : ElOk W lo2 hi2 y) (hh2 : hi2 ≤ W.heap.size) :
    Calls Tryz.prog 54 #[.agg (encI x).toArray, .agg (encI y).toArray] W fun e w' => e = .returned (.int .i64 (cmpCC x.c y.c)) ∧ BD W.heap.size W w' := by
  have HP0 : Hid (∀ W', Below W.heap.size W W' → Calls Tryz.prog 52 #[x.vc, y.vc] W' fun e w' => e = .returned (.int .i64 (cmpL x.c.code y.c.code)) ∧ W' = w') := Lib.hid (fun W' hb => compareL_any _ _ lo1 hi1 _ _ lo2 hi2 W' (IntS.below h1.code hb hh1) (Nat.le_trans hh1 hb.size) (IntS.below h2.code hb hh2) (Nat.le_trans hh2 hb.size))
  clear h1 h2
  obtain ⟨vx, wx, lx, nx, ex⟩ : ∃ (vx wx : Value) (lx nx : Nat), Hid (x.vc = vx ∧ x.vw = wx ∧ x.c.least = lx ∧ x.c.cnt = nx) := ⟨_, _, _, _, Lib.hid ⟨rfl, rfl, rfl, rfl⟩⟩
  obtain ⟨vy, wy, ly, ny, ey⟩ : ∃ (vx wx : Value) (lx nx : Nat), Hid (y.vc = vx ∧ y.vw = wx ∧ y.c.least = lx ∧ y.c.cnt = nx) := ⟨_, _, _, _, Lib.hid ⟨rfl, rfl, rfl, rfl⟩⟩
  have ax : (encI x).toArray = #[vx, wx, .int .i64 (lx : Nat), .int .i64 (nx : Nat)] := by unfold encI; rw [ex.out.1, ex.out.2.1, ex.out.2.2.1, ex.out.2.2.2]
  have ay : (encI y).toArray = #[vy, wy, .int .i64 (ly : Nat), .int .i64 (ny : Nat)] := by unfold encI; rw [ey.out.1, ey.out.2.1, ey.out.2.2.1, ey.out.2.2.2]
  rw [ax, ay]
  have hz : cmpCC x.c y.c = orI (cmpL x.c.code y.c.code) (cmpV (lx : Nat) (ly : Nat)) := by unfold cmpCC; rw [ex.out.2.2.1, ey.out.2.2.1]
  rw [ex.out.1, ey.out.1] at HP0
  have HQ0 : Hid (∀ W, Calls Tryz.prog 56 #[.int .i64 (lx : Nat), .int .i64 (ly : Nat)] W fun e w' => e = .returned (.int .i64 (cmpV (lx : Nat) (ly : Nat))) ∧ w' = W) := Lib.hid (fun W => by rw [← cmpV_eq]; exact Tryz.cmp_Compare_int (lx : Int) (ly : Int) W)
  obtain ⟨a, HA⟩ : ∃ c, Hid (cmpL x.c.code y.c.code = c) := ⟨_, Lib.hid rfl⟩
  obtain ⟨b, HB⟩ : ∃ c, Hid (cmpV (lx : Nat) (ly : Nat) = c) := ⟨_, Lib.hid rfl⟩
  rw [HA.out, HB.out] at hz
  have HP := HP0; rw [HA.out] at HP; clear HP0
  have HQ := HQ0; rw [HB.out] at HQ; clear HQ0
  have HO := Lib.hid (fun g W h1 h2 => cmpOr_any g a b W h1 h2)
  obtain ⟨r, HR⟩ : ∃ y, Hid (orI a b = y) := ⟨_, Lib.hid rfl⟩
  rw [HR.out] at HO hz
  rw [hz]
  clear hz ax ay ex ey HA HB HR hh1 hh2
  have HWA := Lib.hid (show BoxN ((W.alloc (.cells #[vx, wx, .int .i64 (lx : Nat), .int .i64 (nx : Nat)] 53)).alloc (.cells #[vy, wy, .int .i64 (ly : Nat), .int .i64 (ny : Nat)] 53)) W.heap.size #[vx, wx, .int .i64 (lx : Nat), .int .i64 (nx : Nat)] 53 from (BoxN.new W _ _).below ((Below.refl _ _).alloc (Nat.le_refl _) _) (by simp))
  have HWB := Lib.hid (show BoxN ((W.alloc (.cells #[vx, wx, .int .i64 (lx : Nat), .int .i64 (nx : Nat)] 53)).alloc (.cells #[vy, wy, .int .i64 (ly : Nat), .int .i64 (ny : Nat)] 53)) (W.heap.size + 1) #[vy, wy, .int .i64 (ly : Nat), .int .i64 (ny : Nat)] 53 from BoxN.new' _ _ _ (by simp))
  go_enter Tryz.func54, Tryz.ntmps54
  go_upto_region 1 with fail
  refine nameC ?_
  intro W0 HW0
  have HB0 : Hid (BD W.heap.size W W0) := Lib.hid (by rw [HW0.out]; exact ((BD.refl _ _).alloc (Nat.le_refl _) _).alloc (by simp) _)
  have HBX : Hid (BoxN W0 W.heap.size _ _) := Lib.hid (by rw [HW0.out]; exact HWA.out)
  have HBY : Hid (BoxN W0 (W.heap.size + 1) _ _) := Lib.hid (by rw [HW0.out]; exact HWB.out)
  clear HW0 HWA HWB
  have HLX := Lib.hid HBX.out.lt
  have HLY := Lib.hid HBY.out.lt
  refine wp_region_U (fun w' => w'.cell? ⟨W.heap.size, 0, none⟩ = some (vx) ∧ w'.cell? ⟨W.heap.size, 2, none⟩ = some (.int .i64 (lx : Nat)) ∧ w'.cell? ⟨W.heap.size + 1, 0, none⟩ = some (vy) ∧ w'.cell? ⟨W.heap.size + 1, 2, none⟩ = some (.int .i64 (ly : Nat))) [] (by kernel_rfl) ?_
  refine nameU ?_
  intro W1 HW1
  have hb1 : BD W.heap.size W W1 := by rw [HW1.out]; exact HB0.out.drew
  have hc1 : Below W0.heap.size W0 W1 := by rw [HW1.out]; exact (Below.refl _ _).drew
  clear HW1
  have hs1 := hc1.size
  have bx1 := HBX.out.below hc1 HLX.out
  have by1 := HBY.out.below hc1 HLY.out
  have hS1 := And.intro (bx1.cell 0 (by simp)) (And.intro (bx1.cell 2 (by simp)) (And.intro (by1.cell 0 (by simp)) (by1.cell 2 (by simp))))
  refine anyU_take (i := 0) (v := .pointer (some ⟨W.heap.size, 0, none⟩)) rfl (by kernel_rfl) (by kernel_rfl) (by kernel_rfl) (fun _ _ _ h => h) ⟨by rfl, fun w' hS' => (by obtain ⟨k1, k2, k3, k4⟩ := hS'; go_simp)⟩ hS1 ?_
  simp only [List.getElem_toArray, List.getElem_cons_zero, Act.put, List.setIfInBounds_toArray, List.set_cons_zero, List.set_cons_succ]
  refine anyU_take (i := 1) (v := vx) rfl (by kernel_rfl) (by kernel_rfl) (by kernel_rfl) (fun _ _ _ h => h) ⟨by rfl, fun w' hS' => (by obtain ⟨k1, k2, k3, k4⟩ := hS'; go_simp)⟩ hS1 ?_
  simp only [List.getElem_toArray, List.getElem_cons_succ, List.getElem_cons_zero, Act.put, List.setIfInBounds_toArray, List.set_cons_zero, List.set_cons_succ]
  refine anyU_take (i := 2) (v := .pointer (some ⟨W.heap.size + 1, 0, none⟩)) rfl (by kernel_rfl) (by kernel_rfl) (by kernel_rfl) (fun _ _ _ h => h) ⟨by rfl, fun w' hS' => (by obtain ⟨k1, k2, k3, k4⟩ := hS'; go_simp)⟩ hS1 ?_
  simp only [List.getElem_toArray, List.getElem_cons_succ, List.getElem_cons_zero, Act.put, List.setIfInBounds_toArray, List.set_cons_zero, List.set_cons_succ]
  refine anyU_take (i := 3) (v := vy) rfl (by kernel_rfl) (by kernel_rfl) (by kernel_rfl) (fun _ _ _ h => h) ⟨by rfl, fun w' hS' => (by obtain ⟨k1, k2, k3, k4⟩ := hS'; go_simp)⟩ hS1 ?_
  simp only [List.getElem_toArray, List.getElem_cons_succ, List.getElem_cons_zero, Act.put, List.setIfInBounds_toArray, List.set_cons_zero, List.set_cons_succ]
  refine anyU_take (i := 5) (v := .pointer (some ⟨W.heap.size, 2, none⟩)) rfl (by kernel_rfl) (by kernel_rfl) (by kernel_rfl) (fun _ _ _ h => h) ⟨by rfl, fun w' hS' => (by obtain ⟨k1, k2, k3, k4⟩ := hS'; go_simp)⟩ hS1 ?_
  simp only [List.getElem_toArray, List.getElem_cons_succ, List.getElem_cons_zero, Act.put, List.setIfInBounds_toArray, List.set_cons_zero, List.set_cons_succ]
  refine anyU_take (i := 6) (v := .int .i64 (lx : Nat)) rfl (by kernel_rfl) (by kernel_rfl) (by kernel_rfl) (fun _ _ _ h => h) ⟨by rfl, fun w' hS' => (by obtain ⟨k1, k2, k3, k4⟩ := hS'; go_simp)⟩ hS1 ?_
  simp only [List.getElem_toArray, List.getElem_cons_succ, List.getElem_cons_zero, Act.put, List.setIfInBounds_toArray, List.set_cons_zero, List.set_cons_succ]
  refine anyU_take (i := 7) (v := .pointer (some ⟨W.heap.size + 1, 2, none⟩)) rfl (by kernel_rfl) (by kernel_rfl) (by kernel_rfl) (fun _ _ _ h => h) ⟨by rfl, fun w' hS' => (by obtain ⟨k1, k2, k3, k4⟩ := hS'; go_simp)⟩ hS1 ?_
  simp only [List.getElem_toArray, List.getElem_cons_succ, List.getElem_cons_zero, Act.put, List.setIfInBounds_toArray, List.set_cons_zero, List.set_cons_succ]
  refine anyU_take (i := 8) (v := .int .i64 (ly : Nat)) rfl (by kernel_rfl) (by kernel_rfl) (by kernel_rfl) (fun _ _ _ h => h) ⟨by rfl, fun w' hS' => (by obtain ⟨k1, k2, k3, k4⟩ := hS'; go_simp)⟩ hS1 ?_
  simp only [List.getElem_toArray, List.getElem_cons_succ, List.getElem_cons_zero, Act.put, List.setIfInBounds_toArray, List.set_cons_zero, List.set_cons_succ]
  refine anyU_ready (rs := [4]) (by kernel_rfl) (by simp) ?_
  refine ReadyU.cons (i := 4) rfl (fun K hK => ?_) ReadyU.nil
  simp only [List.getElem_toArray, List.getElem_cons_succ, List.getElem_cons_zero]
  refine ite_is (by rfl) ?_
  simp [go_sem]
  refine (HP.out W1 hb1.below).mono ?_
  rintro e W2 ⟨rfl, rfl⟩
  refine hK.out _ _ ⟨fun _ => hS1, ?_⟩
  clear hK K
  try simp only [List.getElem_toArray, List.getElem_cons_succ, List.getElem_cons_zero, Act.put, List.setIfInBounds_toArray, List.set_cons_zero, List.set_cons_succ]
  refine anyU_ready (rs := [9]) (by kernel_rfl) (by simp) ?_
  refine ReadyU.cons (i := 9) rfl (fun K hK => ?_) ReadyU.nil
  simp only [List.getElem_toArray, List.getElem_cons_succ, List.getElem_cons_zero]
  refine ite_is (by rfl) ?_
  simp [go_sem]
  refine (HQ.out _).mono ?_
  rintro e W3 ⟨rfl, rfl⟩
  refine hK.out _ _ ⟨fun _ => hS1, ?_⟩
  clear hK K
  try simp only [List.getElem_toArray, List.getElem_cons_succ, List.getElem_cons_zero, Act.put, List.setIfInBounds_toArray, List.set_cons_zero, List.set_cons_succ]
  refine anyU_ready (rs := [10]) (by kernel_rfl) (by simp) ?_
  refine ReadyU.cons (i := 10) rfl (fun K hK => ?_) ReadyU.nil
  simp only [List.getElem_toArray, List.getElem_cons_succ, List.getElem_cons_zero]
  refine ite_is (by rfl) ?_
  simp [go_sem]
  have hb4 : Below W3.heap.size W3 (W3.alloc (.cells #[.int .i64 a, .int .i64 b] 3)) := (Below.refl _ _).alloc (Nat.le_refl _) _
  have bd4 : BD W.heap.size W (W3.alloc (.cells #[.int .i64 a, .int .i64 b] 3)) := hb1.alloc hb1.below.size _
  have bx4 := bx1.below hb4 bx1.lt
  have by4 := by1.below hb4 by1.lt
  have hS4 := And.intro (bx4.cell 0 (by simp)) (And.intro (bx4.cell 2 (by simp)) (And.intro (by4.cell 0 (by simp)) (by4.cell 2 (by simp))))
  refine hK.out _ _ ⟨fun _ => hS4, ?_⟩
  clear hK K
  try simp only [List.getElem_toArray, List.getElem_cons_succ, List.getElem_cons_zero, Act.put, List.setIfInBounds_toArray, List.set_cons_zero, List.set_cons_succ]
  refine nameU ?_
  intro W4 HW4
  rw [← HW4.out] at bd4 hS4
  have c0 : W4.cell? ⟨W3.heap.size, 0, none⟩ = some (.int .i64 a) := by rw [HW4.out]; exact (BoxN.new W3 #[.int .i64 a, .int .i64 b] _).cell 0 (by simp)
  have c1 : W4.cell? ⟨W3.heap.size, 1, none⟩ = some (.int .i64 b) := by rw [HW4.out]; exact (BoxN.new W3 #[.int .i64 a, .int .i64 b] _).cell 1 (by simp)
  clear HW4
  refine anyU_ready (rs := [11]) (by kernel_rfl) (by simp) ?_
  refine ReadyU.cons (i := 11) rfl (fun K hK => ?_) ReadyU.nil
  simp only [List.getElem_toArray, List.getElem_cons_succ, List.getElem_cons_zero]
  refine ite_is (by rfl) ?_
  simp [go_sem]
  refine (HO.out _ _ c0 c1).mono ?_
  rintro e W5 ⟨rfl, rfl⟩
  refine hK.out _ _ ⟨fun _ => hS4, ?_⟩
  clear hK K
  try simp only [List.getElem_toArray, List.getElem_cons_succ, List.getElem_cons_zero, Act.put, List.setIfInBounds_toArray, List.set_cons_zero, List.set_cons_succ]
  refine anyU_ready (rs := [12]) (by kernel_rfl) (by simp) ?_
  refine ReadyU.cons (i := 12) rfl (fun K hK => ?_) ReadyU.nil
  simp only [List.getElem_toArray, List.getElem_cons_succ, List.getElem_cons_zero]
  refine ite_is (by rfl) ?_
  simp [go_sem]
  refine hK.out _ _ ⟨fun _ => hS4, ?_⟩
  clear hK K
  try simp only [List.getElem_toArray, List.getElem_cons_succ, List.getElem_cons_zero, Act.put, List.setIfInBounds_toArray, List.set_cons_zero, List.set_cons_succ]
  refine anyU_done (by kernel_rfl) ?_ _
  go_wp2_with fail
  go_ret
  exact ⟨rfl, bd4⟩

end Go.Proofs.YtmdlginjblnfoaaGreat

/- Contract: slices.SortFunc sorts components by code and least node (out of the shelf's contract). -/
namespace Go.Proofs.YtmdlginjblnfoaaGreat
open Go.ChangeShapes Go.WideShapes Go.ChangeAt Go.RowKit
set_option linter.unusedVariables false

theorem BD.grow {w w' : World} (h : BD w.heap.size w w') : ∃ (q : Nat) (os : Array Obj), w' = Sort.grow (w.drewN q) os := by
  refine ⟨w'.drawn - w.drawn, w'.heap.extract w.heap.size w'.heap.size, ?_⟩
  have hd := h.drawn
  have hs := h.below.size
  have hheap : w'.heap = w.heap ++ w'.heap.extract w.heap.size w'.heap.size := by
    apply Array.ext_getElem?
    intro k
    rw [Array.getElem?_append]
    by_cases hk : k < w.heap.size
    · rw [if_pos hk]; exact h.below.block k hk
    · rw [if_neg hk, Array.getElem?_extract]
      have e : min w'.heap.size w'.heap.size - w.heap.size = w'.heap.size - w.heap.size := by omega
      split
      · rw [show w.heap.size + (k - w.heap.size) = k by omega]
      · rw [Array.getElem?_eq_none (by omega)]
  have h1 := h.below.os
  have h2 := h.below.tape
  have h3 := h.below.output
  obtain ⟨hp, tp, dr, os, out⟩ := w'
  simp only at h1 h2 h3 hheap hd
  unfold Sort.grow World.drewN
  simp only [World.mk.injEq]
  refine ⟨hheap, h2, ?_, h1, h3⟩
  show dr = w.drawn + (dr - w.drawn)
  omega
theorem sortHeap {α : Type} [Inhabited α] (enc : α → Value) (w : World) (blk off m : Nat) (dk : Array α) (os : Array Obj) {k : Nat} (hk : k < w.heap.size) (hb : k ≠ blk) : (sortWorld enc w blk off m dk os).heap[k]? = w.heap[k]? := by
  unfold sortWorld Sort.grow Sort.putRow Sort.mapBlock Sort.ahead
  simp only [Array.getElem?_append, Array.size_modify, hk, if_true, Array.getElem?_modify]
  rw [if_neg (fun e => hb e.symm)]
theorem sortSize {α : Type} [Inhabited α] (enc : α → Value) (w : World) (blk off m : Nat) (dk : Array α) (os : Array Obj) : w.heap.size ≤ (sortWorld enc w blk off m dk os).heap.size := by
  unfold sortWorld Sort.grow Sort.putRow Sort.mapBlock Sort.ahead
  simp
theorem sortGrown {α : Type} [Inhabited α] (enc : α → Value) (w : World) (blk off m : Nat) (dk : Array α) (os : Array Obj) : w.grownBy (sortWorld enc w blk off m dk os) (some blk) :=
  ⟨rfl, rfl, rfl, sortSize enc w blk off m dk os, fun k hk hne => sortHeap enc w blk off m dk os hk (fun e => hne (by rw [e]))⟩


theorem sortBlock {w : World} {blk : Nat} {cur : Array Value} {e : TypeId} {fz : Nat × Nat} (h : w.heap[blk]? = some (.cells cur e fz)) (m : Nat) (D : Array Value) (os : Array Obj) : (sortWorld id w blk 0 m D os).heap[blk]? = some (.cells (Sort.putCells id 0 D cur) e fz) := by
  have hk : blk < w.heap.size := (Array.getElem?_eq_some_iff.1 h).1
  unfold sortWorld Sort.grow Sort.putRow Sort.mapBlock Sort.ahead
  simp only [Array.getElem?_append, Array.size_modify, hk, if_true, Array.getElem?_modify]
  rw [h]
  rfl
theorem cmpL_lt (a b : List Int) : cmpL a b < 0 ↔ ltL a b = true := by
  unfold cmpL
  by_cases h : ltL a b = true
  · simp [h]
  · rw [if_neg h]
    constructor
    · intro h2; split at h2 <;> omega
    · intro h2; exact absurd h2 h
theorem cmpL_eq0 {a b : List Int} (h : cmpL a b = 0) : a = b := by
  unfold cmpL at h
  split at h
  · omega
  · split at h
    · assumption
    · omega
theorem cmpL_self (a : List Int) : cmpL a a = 0 := by unfold cmpL; rw [if_neg (by rw [ltL_irr]; simp), if_pos rfl]
theorem cmpCC_neg (a b : CmpD) : cmpCC a b < 0 ↔ ltC a b := by
  unfold cmpCC orI ltC
  by_cases h : cmpL a.code b.code = 0
  · have e := cmpL_eq0 h
    rw [if_pos h, e, ltL_irr]
    clear h
    unfold cmpV
    constructor
    · intro h2; right; refine ⟨rfl, ?_⟩; split at h2
      · omega
      · split at h2 <;> omega
    · rintro (h2 | ⟨_, h2⟩)
      · cases h2
      · rw [if_pos (by omega)]; omega
  · rw [if_neg h, cmpL_lt]
    constructor
    · exact .inl
    · rintro (h2 | ⟨e, _⟩)
      · exact h2
      · rw [e, cmpL_self] at h; exact absurd rfl h
theorem ltC_tri {a b : CmpD} (h1 : ¬ ltC a b) (h2 : ¬ ltC b a) : a.code = b.code ∧ a.least = b.least := by
  unfold ltC at h1 h2
  have e : a.code = b.code := ltL_tot (by cases h : ltL a.code b.code with
    | false => rfl
    | true => exact absurd (.inl h) h1) (by cases h : ltL b.code a.code with
    | false => rfl
    | true => exact absurd (.inl h) h2)
  refine ⟨e, ?_⟩
  have a1 : ¬ a.least < b.least := fun h => h1 (.inr ⟨e, h⟩)
  have a2 : ¬ b.least < a.least := fun h => h2 (.inr ⟨e.symm, h⟩)
  omega
theorem ltC_neg {x y z : CmpD} (h1 : ¬ ltC x y) (h2 : ¬ ltC y z) : ¬ ltC x z := fun h => by
  by_cases h3 : ltC y x
  · exact h2 (ltC_trans h3 h)
  · obtain ⟨e1, e2⟩ := ltC_tri h1 h3
    refine h2 ?_
    unfold ltC at h ⊢
    rw [← e1, ← e2]
    exact h
theorem ltOf_cc (X : Nat → CmpV) (i j : Nat) : ltOf (fun i j => cmpCC (X i).c (X j).c) i j = true ↔ ltC (X i).c (X j).c := by
  unfold ltOf
  rw [decide_eq_true_eq]
  exact cmpCC_neg _ _
theorem ltOf_cc' (X : Nat → CmpV) (i j : Nat) : ltOf (fun i j => cmpCC (X i).c (X j).c) i j = false ↔ ¬ ltC (X i).c (X j).c := by
  rw [← ltOf_cc, Bool.not_eq_true]
theorem swo_cc (X : Nat → CmpV) : Sort.SWO (ltOf (fun i j => cmpCC (X i).c (X j).c)) :=
  ⟨fun x => by rw [ltOf_cc']; exact ltC_irr _, fun x y z => by rw [ltOf_cc, ltOf_cc, ltOf_cc]; exact ltC_trans, fun x y z => by rw [ltOf_cc', ltOf_cc', ltOf_cc']; exact ltC_neg⟩
theorem entersC : ∀ args w, (callFunc 54 args).run Tryz.prog w = .ok (.enter 54 args) w := enters_of Tryz.func54 (by kernel_rfl) rfl
theorem encI_cell (x : CmpV) (i : Nat) (h : i < 4) : (encI x)[i]? = some (encI x)[i]! := by
  rw [List.getElem!_eq_getElem?_getD, List.getElem?_eq_getElem (show i < (encI x).length from h)]; rfl
theorem flat_cell {α : Type} [Inhabited α] (enc : α → List Value) (d : Array α) (t : Nat) (h : t < d.size * 4) : (Sort.flatK enc 4 d)[t]! = (enc d[t / 4]!)[t % 4]! := Sort.get_flatK enc 4 d t h

set_option maxHeartbeats 2000000 in
theorem sortC_any : SortC Tryz.prog 53 54 53 := fun w base top v xs hC hlt hlen hcode => by
  by_cases hn : xs = []
  · subst hn
    obtain ⟨A, c, rfl, _, _⟩ := hC.len
    refine (AnyF.slices_SortFunc_none (P := Tryz.prog) (ρ := Tryz.sortE_ren) Tryz.sortE A c (.func (.func 54) #[] #[]) w).mono ?_
    rintro e w' ⟨rfl, rfl⟩
    exact ⟨rfl, ⟨[], rfl, hC.mono hC.high (Nat.le_refl _)⟩, grown_any (World.grownBy.refl _ none)⟩
  have hpos : 0 < xs.length := List.length_pos_iff.2 hn
  obtain ⟨b, c, rfl, hc, hm, hb1, hb2, hcells⟩ := hC.cells (fun x => rfl) hpos (by omega)
  have hhigh := hC.high
  have hlow := hC.low
  let sel : Nat → Nat := fun i => if i < xs.length then i else 0
  have hsel : ∀ i, sel i < xs.length := fun i => by show (if _ then _ else _) < _; split <;> omega
  let X : Nat → CmpV := fun i => xs[sel i]'(hsel i)
  have hX : ∀ i (hi : i < xs.length), X i = xs[i] := fun i hi => by
    have e : sel i = i := if_pos hi
    show xs[sel i]'(hsel i) = xs[i]
    simp [e]
  have hXm : ∀ i, X i ∈ xs := fun i => List.getElem_mem (hsel i)
  let enc : Nat → List Value := fun i => encI (X i)
  have h1 : ∀ x, ∀ u ∈ enc x, u.oneCell' = true := fun x u hu => by
    obtain ⟨lo, hi, _, _, hE, _⟩ := hC.el _ (hXm x)
    obtain ⟨A1, c1, e1, _, _⟩ := hE.code.dims
    obtain ⟨A2, c2, e2, _, _⟩ := hE.walk.dims
    have hu' : u ∈ [(X x).vc, (X x).vw, .int .i64 ((X x).c.least : Nat), .int .i64 ((X x).c.cnt : Nat)] := hu
    rw [e1, e2] at hu'
    simp only [List.mem_cons, List.not_mem_nil, or_false] at hu'
    rcases hu' with rfl | rfl | rfl | rfl <;> rfl
  have hH : Sort.HoldsK enc 4 w b 0 (Array.range xs.length) := fun t ht => by
    rw [Sort.size_flatK, Array.size_range] at ht
    have hj : t / 4 < xs.length := by omega
    have hi : t % 4 < 4 := by omega
    have e1 : (Array.range xs.length)[t / 4]! = t / 4 := by rw [getElem!_pos _ _ (by simpa using hj)]; simp
    rw [flat_cell enc _ t (by simpa using ht), e1]
    have := hcells (t / 4) hj (t % 4) (encI xs[t / 4])[t % 4]! hi (encI_cell _ _ hi)
    rw [show 0 + t = t / 4 * 4 + t % 4 by omega]
    show _ = some (encI (X (t / 4)))[t % 4]! ∧ _
    rw [hX _ hj]
    exact this
  have hG : ∀ (m : Nat) (dk : Array Nat) (os : Array Obj), w.grownBy (sortWorldK enc 4 w b 0 m dk os) (some b) := fun m dk os => sortGrown id w b 0 m (Sort.flatK enc 4 dk) os
  have hcmp : CmpLays Tryz.prog 54 #[] enc 4 (fun i j => cmpCC (X i).c (X j).c) b 0 (Array.range xs.length).size w := fun m os dk hs x y => by
    obtain ⟨lx, hx, a1, a2, a3, a4⟩ := hC.el _ (hXm x)
    obtain ⟨ly, hy, b1, b2, b3, b4⟩ := hC.el _ (hXm y)
    have hg := hG m dk os
    have hsz := hg.size
    have ow : ∀ lo hi : Nat, (∀ g, (Value.slice (some ⟨b, 0, none⟩) xs.length c).ownBlock = some g → g < lo ∨ hi ≤ g) → ∀ g, some b = some g → g < lo ∨ hi ≤ g := fun lo hi h g e => h g e
    refine (ccCmp_any (X x) (X y) lx hx ly hy _ (a3.far hg (by omega) (ow _ _ a4)) (by omega) (b3.far hg (by omega) (ow _ _ b4)) (by omega)).mono ?_
    rintro e w' ⟨rfl, hbd⟩
    exact ⟨rfl, hbd.grow⟩
  have hS := AnyQ.slices_SortFunc (P := Tryz.prog) (ρ := Tryz.sortE_ren) Tryz.sortE 4 Tryz.isAgg53 Tryz.sizeOf53 enc (fun _ => rfl) h1 (fun i j => cmpCC (X i).c (X j).c) (swo_cc X) 54 #[] b 0 c (Array.range xs.length) w entersC hcmp hH (by omega) (by simp; omega)
  have ev : (Value.slice (some ⟨b, 0, none⟩) xs.length c) = .slice (some ⟨b, 0, none⟩) (Array.range xs.length).size c := by rw [Array.size_range]
  rw [ev]
  refine Calls.mono hS ?_
  rintro e w' ⟨rfl, d', n', os, hp, hsd, rfl⟩
  obtain ⟨hp1, hp2, hp3⟩ := hp
  rw [Array.size_range] at hp1
  have hdl : d'.toList.Perm (List.range xs.length) := by
    have e1 : d'.extract 0 (Array.range xs.length).size = d' := by rw [Array.size_range, ← hp1]; simp
    have e2 : (Array.range xs.length).extract 0 (Array.range xs.length).size = Array.range xs.length := by simp
    rw [e1, e2, Array.toList_range] at hp3
    exact hp3
  let L := d'.toList.map X
  have hLp : L.Perm xs := by
    have h := hdl.map X
    have e : (List.range xs.length).map X = xs := by
      apply List.ext_getElem
      · simp
      · intro i h1 h2; simp [hX i h2]
    rwa [e] at h
  have hLl : L.length = xs.length := hLp.length_eq
  have hget : ∀ j (hj : j < L.length), L[j] = X d'[j]! := fun j hj => by
    have hj' : j < d'.size := by rw [hp1, ← hLl]; exact hj
    rw [getElem!_pos d' j hj']
    show (d'.toList.map X)[j]'hj = _
    simp
  have hne : L.Pairwise (fun a b => a.c.least ≠ b.c.least) := by
    refine (hLp.pairwise_iff (fun {a b} h => Ne.symm h)).2 ?_
    rw [List.pairwise_map] at hlt
    exact hlt.imp fun h => by omega
  have hLs : (L.map CmpV.c).Pairwise ltC := by
    rw [List.pairwise_map]
    refine List.pairwise_iff_getElem.2 fun i j hi hj hij => ?_
    have h2 := List.pairwise_iff_getElem.1 hne i j hi hj hij
    have h3 := hsd i j (Nat.zero_le _) hij (by rw [Array.size_range, ← hLl]; exact hj)
    rw [ltOf_cc', ← hget i hi, ← hget j hj] at h3
    by_cases h4 : ltC L[i].c L[j].c
    · exact h4
    · exact absurd (ltC_tri h4 h3).2 h2
  have hun : L.map CmpV.c = insAll (xs.map CmpV.c) := by
    obtain ⟨q1, q2⟩ := insAll_spec (xs.map CmpV.c) [] List.Pairwise.nil (fun y hy => by cases hy) hlt
    rw [List.nil_append] at q2
    exact ((hLp.map CmpV.c).trans q2.symm).eq_of_pairwise (fun a b _ _ k1 k2 => absurd (ltC_trans k1 k2) (ltC_irr a)) hLs q1
  have hg := hG n' d' os
  have hsz := hg.size
  refine ⟨rfl, ⟨L, hun, ?_, by omega, Nat.le_refl _, fun g e => ?_, fun x hx => ?_⟩, hg⟩
  · have hr := hC.row
    obtain ⟨r1, r2⟩ := hr
    rcases r2 with ⟨r3, _⟩ | ⟨g, cap, cur, r3, r4, r5, r6, r7, r8, r9⟩
    · cases r3
    · injection r3 with r3 _ r3c
      injection r3 with r3
      injection r3 with r3 _ _
      subst r3 r3c
      refine ⟨flat_len (enc := encI) (k := 4) (fun _ => rfl) L, .inr ⟨b, c, _, by rw [Array.size_range, hLl], r4, sortBlock r5 n' (Sort.flatK enc 4 d') os, by omega, r7, by simp [Sort.putCells, r8], ?_⟩⟩
      apply List.ext_getElem?
      intro t
      by_cases ht : t < xs.length * 4
      · have hj : t / 4 < L.length := by omega
        have hi : t % 4 < 4 := by omega
        have hf := flat_get (enc := encI) (k := 4) (fun _ => rfl) L (t / 4) (t % 4) hj hi
        rw [show t / 4 * 4 + t % 4 = t by omega, encI_cell _ _ hi, hget _ hj] at hf
        rw [hf, List.getElem?_take_of_lt (by rw [hLl]; exact ht)]
        have hcur : t < cur.size := by rw [r8]; have := Nat.mul_le_mul_right 4 r6; omega
        have hfl := flat_cell enc d' t (by rw [hp1]; exact ht)
        have hsf : t < (Sort.flatK enc 4 d').size := by rw [Sort.size_flatK, hp1]; exact ht
        simp only [Sort.putCells, Array.getElem?_toList, Array.getElem?_mapIdx, Nat.zero_le, true_and, Nat.zero_add, hsf, if_true, Nat.sub_zero, id, hfl, Array.getElem?_eq_getElem hcur, Option.map_some]
        rfl
      · rw [List.getElem?_eq_none (by rw [List.length_take]; omega), List.getElem?_eq_none (by rw [flat_len (enc := encI) (k := 4) (fun _ => rfl), hLl]; omega)]
  · have := hC.own g e; omega
  · obtain ⟨lo, hi, a1, a2, a3, a4⟩ := hC.el x (hLp.subset hx)
    exact ⟨lo, hi, a1, by omega, a3.far hg (by omega) a4, a4⟩

end Go.Proofs.YtmdlginjblnfoaaGreat

/- Contract: the components of a network in canonical order (program), out of a contract of slices.SortFunc at components. -/
namespace Go.Proofs.YtmdlginjblnfoaaGreat
open Go.ChangeShapes Go.WideShapes Go.ChangeAt Go.RowKit
set_option linter.unusedVariables false

set_option maxHeartbeats 8000000 in
set_option maxRecDepth 100000 in
theorem componentsOf_any (v1 : Value) (N : NetD) (lo1 hi1 : Nat) (w : World) (h1 : Net w lo1 hi1 v1 N) (hh1 : hi1 ≤ w.heap.size) (hg : N.good = true) (hsort : SortC Tryz.prog 53 54 53) :
    Calls Tryz.prog 22 #[v1] w fun e w' => ∃ r xs, e = .returned r ∧ xs.map CmpV.c = sortedC N ∧ CoS encI 4 w' w.heap.size w'.heap.size 53 r xs ∧ Below w.heap.size w w' := by
  obtain ⟨n1, n40⟩ := good_n hg
  have HG := Lib.hid hg; clear hg
  have HS := Lib.hid hsort; clear hsort
  have HNO := Lib.hid (good_nodes HG.out)
  have hnn := fun (W : World) (A : Option Addr) (l c : Nat) => Lib.run_eql_slice_nil (P := Tryz.prog) W 23 3 A l c 0 0 Tryz.underlying23
  have hmk := fun W => run_make_row' (P := Tryz.prog) 73 4 (.bool false) 1 Tryz.underlying73 Tryz.infoBool rfl .i64 .i64 N.ends.length (by omega) (by omega) W
  have F1 := Lib.hid h1
  obtain ⟨A1, c1, A1', c1', A1'', c1'', rfl, hc1, hd1, _⟩ := h1.parts
  obtain ⟨b1, o1, _, _, rfl, _⟩ := Net.rowAt F1.out (u := 0) (by omega)
  clear h1
  obtain ⟨WA, HWA⟩ : ∃ W, Hid (W = (w.alloc (.cells #[.slice (some ⟨b1, o1, none⟩) N.ends.length c1, .slice A1' N.ids.length c1', .slice A1'' N.inputs.length c1''] 32))) := ⟨_, Lib.hid rfl⟩
  have hbA : Below w.heap.size w WA := by rw [HWA.out]; exact ((Below.refl _ _).alloc (Nat.le_refl _) _)
  have hsA : w.heap.size + 1 ≤ WA.heap.size := by rw [HWA.out]; simp; try omega
  have bx1 : BoxN WA (w.heap.size) #[.slice (some ⟨b1, o1, none⟩) N.ends.length c1, .slice A1' N.ids.length c1', .slice A1'' N.inputs.length c1''] 32 := by rw [HWA.out]; exact (BoxN.new' _ _ _ (by simp))
  have G1 := Lib.hid (Net.below F1.out hbA hh1); clear F1
  go_enter Tryz.func22, Tryz.ntmps22
  go_upto_region 1 with (fail)
  rw [← HWA.out]; clear HWA
  have kbx1_0 : WA.cell? ⟨w.heap.size, 0, none⟩ = some (.slice (some ⟨b1, o1, none⟩) N.ends.length c1) := bx1.cell 0 (by simp)
  have kbx1_1 : WA.cell? ⟨w.heap.size, 1, none⟩ = some (.slice A1' N.ids.length c1') := bx1.cell 1 (by simp)
  have kbx1_2 : WA.cell? ⟨w.heap.size, 2, none⟩ = some (.slice A1'' N.inputs.length c1'') := bx1.cell 2 (by simp)
  go_upto_region 3 with (fail)
  clear kbx1_0 kbx1_1 kbx1_2
  refine nameC ?_
  intro W1 HW1
  have hg1 : WA.grownBy W1 none := by rw [HW1.out]; exact grown_alloc _ _
  have hs1 := hg1.size
  have HF1 := Lib.hid ((Turned.refl WA.heap.size WA.heap.size WA).still hg1)
  have HD := Lib.hid (show BoolS W1 WA.heap.size (WA.heap.size + 1) (.slice (some ⟨WA.heap.size, 0, none⟩) N.ends.length N.ends.length) (List.replicate N.ends.length false) by rw [HW1.out]; exact made_bools _ _ _ rfl (by omega))
  have hz : WA.heap.size + 1 ≤ W1.heap.size := by rw [HW1.out]; simp
  clear HW1 hmk
  have N_1 := Lib.hid (Net.turned G1.out HF1.out (by omega) (by omega)); clear G1
  have bx1_1 := HF1.out.boxN bx1 (by omega); clear bx1
  have hbA1 : Below w.heap.size w W1 := (HF1.out.below_of hbA (by omega) (by omega)); clear hbA HF1
  have kbx1_0 : W1.cell? ⟨w.heap.size, 0, none⟩ = some (.slice (some ⟨b1, o1, none⟩) N.ends.length c1) := bx1_1.cell 0 (by simp)
  have kbx1_1 : W1.cell? ⟨w.heap.size, 1, none⟩ = some (.slice A1' N.ids.length c1') := bx1_1.cell 1 (by simp)
  have kbx1_2 : W1.cell? ⟨w.heap.size, 2, none⟩ = some (.slice A1'' N.inputs.length c1'') := bx1_1.cell 2 (by simp)
  go_wp2_with fail
  clear kbx1_0 kbx1_1 kbx1_2
  go_loopw [21, 3] (fun kv ov wr => ∃ (k : Nat) (bs : List Bool) (xs : List CmpV) (top : Nat), k ≤ N.ends.length ∧ kv = .int .i64 k ∧ Hid (BoolS wr WA.heap.size (WA.heap.size + 1) (.slice (some ⟨WA.heap.size, 0, none⟩) N.ends.length N.ends.length) bs) ∧ Hid (bs.length = N.ends.length) ∧ Hid (∀ u : Nat, u < N.ends.length → nthB bs u = decide ((u : Int) ∈ (stC N k).2)) ∧ Hid (CoS encI 4 wr W1.heap.size top 53 ov xs) ∧ Hid (xs.map CmpV.c = (stC N k).1) ∧ Hid (∀ x ∈ xs, x.c.code.length ≤ 600) ∧ Hid (Turned WA.heap.size (WA.heap.size + 1) W1 wr)) (fun kv ov _ => N.ends.length - (intOf kv).toNat)
  case atStart => exact ⟨0, _, [], W1.heap.size, Nat.zero_le _, rfl, HD, Lib.hid (by simp), Lib.hid fun u hu => by rw [nthB_replicate _ _ hu]; simp [stC], Lib.hid (CoS.nil _ _ _ _ _ (Nat.le_refl _)), Lib.hid rfl, Lib.hid (fun x h => by cases h), Lib.hid (Turned.refl WA.heap.size (WA.heap.size + 1) W1)⟩
  case round =>
    obtain ⟨k, bs, xs, top, hk, rfl, HD, HDL, HDB, HX, HXC, HXL, HF2⟩ := hrel
    have hs2 := HF2.out.size
    obtain ⟨wq, rfl⟩ : ∃ wq : World, wq = wr := ⟨_, rfl⟩
    have hxh := HX.out.high
    have hxlo := HX.out.low
    have hxl : xs.length ≤ k := by have h := stC_node HG.out k hk; rw [← HXC.out, List.length_map] at h; exact h
    obtain ⟨Ao, co, rfl, hco, hdo⟩ := HX.out.len
    by_cases hkn : k < N.ends.length
    case neg =>
      obtain rfl : k = N.ends.length := by omega
      have HPW := Lib.hid (show (xs.map CmpV.c).Pairwise (fun a b => a.least < b.least) by rw [HXC.out]; exact (stC_least N _).2)
      have hlx := Lib.hid HX.out.lt
      go_wp2_with fail
      refine (HS.out _ _ _ _ xs HX.out HPW.out (by omega) HXL.out).mono ?_
      rintro e W9 ⟨rfl, ⟨ys, hys, hcy⟩, hg9⟩
      have hs9 := hg9.size
      have HY := Lib.hid hcy
      have HYC := Lib.hid (show ys.map CmpV.c = sortedC N by rw [hys, HXC.out]; rfl)
      have hyl : ys.length = xs.length := by
        have h1 := congrArg List.length hys
        rw [List.length_map] at h1
        have h2 : (insAll (xs.map CmpV.c)).length = xs.length := by
          have h3 := (insAll_spec (xs.map CmpV.c) [] List.Pairwise.nil (fun y hy => by cases hy) HPW.out).2.length_eq
          simpa [insAll] using h3
        omega
      have HF9 := Lib.hid (HF2.out.grown hg9 (fun g e => .inr (by have := hlx.out g e; omega)))
      clear hcy hg9
      go_wp2_with fail
      go_ret
      exact ⟨_, ys, rfl, HYC.out, HY.out.weak (by omega), (HF9.out.below_of hbA1 (by omega) (by omega))⟩
    have hki : (k : Int) < N.ends.length := by omega
    obtain ⟨d1, d2⟩ := HD.out.at0 (j := k) (by rw [HDL.out]; exact hkn)
    rw [HDB.out k hkn] at d1
    have HST := Lib.hid (show stC N (k + 1) = if (k : Int) ∈ (stC N k).2 then stC N k else ((stC N k).1 ++ [compD N k], (stC N k).2 ++ nodesOf N k) from rfl)
    by_cases hin : (k : Int) ∈ (stC N k).2
    case pos =>
      rw [decide_eq_true hin] at d1
      rw [if_pos hin] at HST
      go_wp2_with fail
      go_roundw
      case rel => exact ⟨k + 1, bs, xs, top, by omega, by go_num, HD, HDL, Lib.hid (by rw [HST.out]; exact HDB.out), HX, Lib.hid (by rw [HST.out]; exact HXC.out), HXL, HF2⟩
      case measure => simp [intOf]; omega
    rw [decide_eq_false hin] at d1
    rw [if_neg hin] at HST
    obtain ⟨seen, HSN⟩ : ∃ l, Hid ((stC N k).2 = l) := ⟨_, Lib.hid rfl⟩
    rw [HSN.out] at HDB HST
    clear hin
    have kbx1_0 : wq.cell? ⟨w.heap.size, 0, none⟩ = some (.slice (some ⟨b1, o1, none⟩) N.ends.length c1) := (HF2.out.boxN bx1_1 (by omega)).cell 0 (by simp)
    have kbx1_1 : wq.cell? ⟨w.heap.size, 1, none⟩ = some (.slice A1' N.ids.length c1') := (HF2.out.boxN bx1_1 (by omega)).cell 1 (by simp)
    have kbx1_2 : wq.cell? ⟨w.heap.size, 2, none⟩ = some (.slice A1'' N.inputs.length c1'') := (HF2.out.boxN bx1_1 (by omega)).cell 2 (by simp)
    go_wp2_with fail
    clear d1 d2 kbx1_0 kbx1_1 kbx1_2
    refine (codeFrom_any _ N lo1 hi1 k _ (Net.turned N_1.out HF2.out (by omega) (by omega)) (by omega) HG.out hkn).mono ?_
    rintro e W3 ⟨rc3, rw3, m3, rfl, hm3, hm3', hw3, hc3, hb3⟩
    have hg3 := grown_below hb3; clear hb3
    have hs3 := hg3.size
    have HF3 := Lib.hid (HF2.out.still hg3); clear HF2
    have D3 := Lib.hid (BoolS.still HD.out hg3 (by omega)); clear HD
    have X3 := Lib.hid (CoS.still HX.out hg3); clear HX
    have L3 := Lib.hid hw3; have C3 := Lib.hid hc3; clear hw3 hc3
    obtain ⟨Al, cl, rfl, hcl, hdl⟩ := L3.out.dims
    have hwl := (walk_ok HNO.out hkn).len
    go_wp2_with fail
    refine (sort_any _ (walkN N k) _ _ _ L3.out (by omega) (by omega)).mono ?_
    rintro e W4 ⟨rfl, hr4, hg4⟩
    have hrw : ∀ g, rowOf (walkN N k).length (.slice Al (walkN N k).length cl) = some g → wq.heap.size ≤ g ∧ g < m3 := fun g hg => by
      rcases Sl.row L3.out with e | ⟨b, e, l1, l2⟩
      · rw [e] at hg; cases hg
      · rw [e] at hg; injection hg; omega
    have hs4 := hg4.size
    have HF4 := Lib.hid (HF3.out.grown hg4 (fun g hg => by have := hrw g hg; omega)); clear HF3
    have D4 := Lib.hid (BoolS.far D3.out hg4 (by omega) (fun g hg => by have := hrw g hg; omega)); clear D3
    have X4 := Lib.hid (CoS.far X3.out hg4 (fun g hg => by have := hrw g hg; omega)); clear X3
    have HNL := Lib.hid (show IntS W4 wq.heap.size m3 (.slice Al (nodesOf N k).length cl) (nodesOf N k) by
      have h := hr4
      show IntS W4 wq.heap.size m3 (.slice Al (sortI (walkN N k)).length cl) (sortI (walkN N k))
      rw [sortI_length]; exact h)
    have hnl2 : (nodesOf N k).length = (walkN N k).length := by unfold nodesOf; rw [sortI_length]
    have hnl : (nodesOf N k).length ≤ N.ends.length := nodes_len HG.out hkn
    have hclN : (nodesOf N k).length ≤ cl := by rw [hnl2]; exact hcl
    rw [← hnl2]
    obtain ⟨ns, HNS⟩ : ∃ l, Hid (nodesOf N k = l) := ⟨_, Lib.hid rfl⟩
    rw [HNS.out] at HNL hnl hclN ⊢
    clear hr4 hrw hnl2 hcl
    go_upto_region 10 with (fail)
    refine nameC ?_
    intro W5 HW5
    have hg5 : W4.grownBy W5 none := by rw [HW5.out]; exact grown_alloc _ _
    have hs5 := hg5.size
    have HF5 := Lib.hid (HF4.out.still hg5); clear HF4
    have D5 := Lib.hid (BoolS.still D4.out hg5 (by omega)); clear D4
    have X5 := Lib.hid (CoS.still X4.out hg5); clear X4
    have NL5 := Lib.hid (IntS.still HNL.out hg5 (by omega)); clear HNL
    have CB5 := Lib.hid (show BoxN W5 W4.heap.size #[.slice none 0 0, .slice none 0 0, .int .i64 (k : Nat), .int .i64 0] 53 by rw [HW5.out]; exact BoxN.new _ _ _)
    clear HW5
    have hzc : W4.heap.size + 1 ≤ W5.heap.size := by have := CB5.out.lt; omega
    go_wp2_with fail
    go_loopw [40] (fun jv wr => ∃ (j : Nat) (ds : List Bool) (vc vw : Value) (lo hi : Nat), j ≤ ns.length ∧ jv = .int .i64 j ∧ Hid (BoolS wr WA.heap.size (WA.heap.size + 1) (.slice (some ⟨WA.heap.size, 0, none⟩) N.ends.length N.ends.length) ds) ∧ Hid (ds.length = N.ends.length) ∧ Hid (∀ u : Nat, u < N.ends.length → nthB ds u = decide ((u : Int) ∈ seen ++ ns.take j)) ∧ Hid (CoS encI 4 wr W1.heap.size top 53 (.slice Ao xs.length co) xs) ∧ Hid (IntS wr wq.heap.size m3 (.slice Al ns.length cl) ns) ∧ Hid (BoxN wr W4.heap.size #[vc, vw, .int .i64 (k : Nat), .int .i64 ((compTo N k j).cnt : Nat)] 53) ∧ Hid (ElOk wr lo hi ⟨vc, vw, compTo N k j⟩) ∧ Hid ((compTo N k j).cnt = 0 → vw = .slice none 0 0) ∧ W4.heap.size + 1 ≤ lo ∧ lo ≤ hi ∧ hi ≤ wr.heap.size ∧ Hid (Turned WA.heap.size (WA.heap.size + 1) W1 wr)) (fun jv _ => ns.length - (intOf jv).toNat)
    case atStart => exact ⟨0, bs, .slice none 0 0, .slice none 0 0, (W4.heap.size + 1), (W4.heap.size + 1), Nat.zero_le _, rfl, D5, HDL, Lib.hid fun u hu => by rw [HDB.out u hu]; simp, X5, NL5, CB5, Lib.hid ⟨IntS.nil _ _ _, IntS.nil _ _ _⟩, Lib.hid (fun _ => rfl), Nat.le_refl _, Nat.le_refl _, hzc, HF5⟩
    case round =>
      clear HF5
      obtain ⟨j, ds, vc, vw, lo, hi, hj, rfl, HD, HDL2, HDB2, HX, HN, HB, HE, HZ, hlo, hlh, hhi, HF6⟩ := hrel
      have hs6 := HF6.out.size
      obtain ⟨wt, rfl⟩ : ∃ wt : World, wt = wr := ⟨_, rfl⟩
      have hcw := compTo_walk HG.out hkn j (by rw [HNS.out]; exact hj)
      have HCW := Lib.hid hcw; clear hcw
      obtain ⟨c, HC⟩ : ∃ c, Hid (compTo N k j = c) := ⟨_, Lib.hid rfl⟩
      rw [HC.out] at HCW HB HE HZ
      have hc40 : c.cnt ≤ 41 := by rcases HCW.out with h | h <;> omega
      have hcd : IntS wt lo hi vc c.code := HE.out.code
      have hwd : IntS wt lo hi vw c.walk := HE.out.walk
      obtain ⟨Ac, cc, rfl, hcc, hdc⟩ := hcd.dims
      obtain ⟨Aw, cw, rfl, hcw, hdw⟩ := hwd.dims
      have HCD1 := Lib.hid hcd; have HWD1 := Lib.hid hwd
      clear hcd hwd
      by_cases hjn : j < ns.length
      case neg =>
        obtain rfl : j = ns.length := by omega
        have HCD := Lib.hid (show compD N k = c by unfold compD; rw [HNS.out, HC.out])
        have kb0 : wt.cell? ⟨W4.heap.size, 0, none⟩ = some (.slice Ac c.code.length cc) := HB.out.cell 0 (by simp)
        have kb1 : wt.cell? ⟨W4.heap.size, 1, none⟩ = some (.slice Aw c.walk.length cw) := HB.out.cell 1 (by simp)
        have kb2 : wt.cell? ⟨W4.heap.size, 2, none⟩ = some (.int .i64 (k : Nat)) := HB.out.cell 2 (by simp)
        have kb3 : wt.cell? ⟨W4.heap.size, 3, none⟩ = some (.int .i64 (c.cnt : Nat)) := HB.out.cell 3 (by simp)
        have hcl2 : c.least = k := by rw [← HC.out]; exact compTo_least N k _ (by rw [HNS.out]; exact Nat.le_refl _)
        have HCL := Lib.hid hcl2; clear hcl2
        have HXM := Lib.hid HX.out
        have hcode : c.code.length ≤ 600 := by
          rcases HCW.out with h | h
          · rw [h.2.1]; simp
          · exact h.2.2.2.1
        have hlx := Lib.hid HX.out.lt
        have HXO := Lib.hid HX.out.own
        have HEL := Lib.hid (show ElOk wt lo hi ⟨.slice Ac c.code.length cc, .slice Aw c.walk.length cw, c⟩ from ⟨HCD1.out, HWD1.out⟩)
        have hxl2 : xs.length < 1099511627000 := by omega
        rw [show (k : Nat) = c.least from HCL.out.symm] at kb2
        go_wp2_with (at_builtin; refine append_co (s := .tmp 78) Tryz.underlying50 infoCo rfl (by decide) wt rfl _ rfl HX.out ⟨.slice Ac c.code.length cc, .slice Aw c.walk.length cw, c⟩ HEL.out (by omega) (by omega) (by omega) rfl rfl _ (by simp [Act.eval, go_sem]) (by simp [Act.eval, go_sem]) hxl2 ?_; intro v' w' hcs' hg')
        go_roundw
        case rel =>
          refine ⟨k + 1, ds, xs ++ [⟨.slice Ac c.code.length cc, .slice Aw c.walk.length cw, c⟩], w'.heap.size, by omega, by go_num, Lib.hid (BoolS.far HD.out hg' (by omega) (fun g e => .inr (by have := hlx.out g e; omega))), HDL2, Lib.hid fun u hu => ?_, Lib.hid hcs', Lib.hid ?_, Lib.hid fun x hx => ?_, Lib.hid (HF6.out.grown hg' fun g e => .inr (by have := hlx.out g e; omega))⟩
          · rw [HDB2.out u hu, HST.out, List.take_length]
            rw [HNS.out]
          · rw [List.map_append, HXC.out, HST.out]
            show _ ++ [c] = _
            rw [HCD.out]
          · rw [List.mem_append, List.mem_singleton] at hx
            rcases hx with hx | rfl
            · exact HXL.out x hx
            · exact hcode
        case measure => simp [intOf]; omega
      obtain ⟨u, eu, hun⟩ := nodes_mem HG.out hkn (j := j) (by rw [HNS.out]; exact hjn)
      rw [HNS.out] at eu
      obtain ⟨bn, on, rfl, _, _, xn, _⟩ := IntS.opened HN.out hjn
      rw [eu] at xn
      have HTN := Lib.hid (show compTo N k (j + 1) = cmpStep N c (u : Int) by rw [compTo_succ N k (by rw [HNS.out]; exact hjn), HC.out, HNS.out, eu])
      have HTK := Lib.hid (show ns.take (j + 1) = ns.take j ++ [(u : Int)] by rw [List.take_succ_eq_append_getElem hjn, ← nth_eq hjn, eu])
      clear eu
      have hji : (j : Int) < ns.length := by omega
      have hui : (u : Int) < N.ends.length := by omega
      obtain ⟨d1, d2⟩ := HD.out.at0 (j := u) (by rw [HDL2.out]; exact hun)
      obtain ⟨dv, HDV⟩ : ∃ x, Hid (nthB ds u = x) := ⟨_, Lib.hid rfl⟩
      rw [HDV.out] at d1
      go_upto_region 14 with (fail)
      clear d1 d2 xn
      refine nameC ?_
      intro W7 HW7
      have hg7 : wt.grownBy W7 (some (WA.heap.size)) := by rw [HW7.out]; exact grown_set _ _ _
      have hs7 := hg7.size
      have HF7 := Lib.hid (HF6.out.grown hg7 (fun g e => by cases e; omega)); clear HF6
      have CB7 := Lib.hid (BoxN.far HB.out hg7 (fun g e => by cases e; omega)); clear HB
      have HD1 := Lib.hid (show BoolS W7 WA.heap.size (WA.heap.size + 1) (.slice (some ⟨WA.heap.size, 0, none⟩) N.ends.length N.ends.length) (ds.set u true) by rw [HW7.out]; exact HD.out.set0 (by rw [HDL2.out]; exact hun) true)
      have HX1 := Lib.hid (CoS.far HX.out hg7 (fun g e => .inl (by cases e; omega)))
      have HN1 := Lib.hid (IntS.far HN.out hg7 (by omega) (fun g e => .inl (by cases e; omega)))
      have HE1 := Lib.hid (ElOk.far HE.out hg7 (by omega) (fun g e => .inl (by cases e; omega)))
      have HDL3 := Lib.hid (show (ds.set u true).length = N.ends.length by rw [List.length_set]; exact HDL2.out)
      have HDB3 := Lib.hid (show ∀ x : Nat, x < N.ends.length → nthB (ds.set u true) x = decide ((x : Int) ∈ seen ++ ns.take (j + 1)) from fun x hx => by
        rw [nthB_set _ _ _ _ (by rw [HDL2.out]; exact hun), HTK.out]
        by_cases e : x = u
        · rw [if_pos e, e]; simp
        · rw [if_neg e, HDB2.out x hx, Bool.eq_iff_iff]
          simp only [decide_eq_true_eq, List.mem_append, List.mem_singleton]
          constructor
          · rintro (h | h)
            · exact .inl h
            · exact .inr (.inl h)
          · rintro (h | h | h)
            · exact .inl h
            · exact .inr h
            · omega)
      obtain ⟨ds2, HDS2⟩ : ∃ l, Hid (ds.set u true = l) := ⟨_, Lib.hid rfl⟩
      rw [HDS2.out] at HD1 HDL3 HDB3
      clear HW7 HD HX HN HE HDL2 HDB2 HDV HDS2
      have kbx1_0 : W7.cell? ⟨w.heap.size, 0, none⟩ = some (.slice (some ⟨b1, o1, none⟩) N.ends.length c1) := (HF7.out.boxN bx1_1 (by omega)).cell 0 (by simp)
      have kbx1_1 : W7.cell? ⟨w.heap.size, 1, none⟩ = some (.slice A1' N.ids.length c1') := (HF7.out.boxN bx1_1 (by omega)).cell 1 (by simp)
      have kbx1_2 : W7.cell? ⟨w.heap.size, 2, none⟩ = some (.slice A1'' N.inputs.length c1'') := (HF7.out.boxN bx1_1 (by omega)).cell 2 (by simp)
      go_wp2_with fail
      clear kbx1_0 kbx1_1 kbx1_2
      refine (codeFrom_any _ N lo1 hi1 u _ (Net.turned N_1.out HF7.out (by omega) (by omega)) (by omega) HG.out hun).mono ?_
      rintro e W8 ⟨rc8, rw8, m8, rfl, hm8, hm8', hw8, hc8, hb8⟩
      have hg8 := grown_below hb8; clear hb8
      have hs8 := hg8.size
      have HF8 := Lib.hid (HF7.out.still hg8); clear HF7
      have D8 := Lib.hid (BoolS.still HD1.out hg8 (by omega)); clear HD1
      have X8 := Lib.hid (CoS.still HX1.out hg8); clear HX1
      have NL8 := Lib.hid (IntS.still HN1.out hg8 (by omega)); clear HN1
      have CB8 := Lib.hid (BoxN.still CB7.out hg8); clear CB7
      have E8 := Lib.hid (ElOk.still HE1.out hg8 (by omega)); clear HE1
      have L8 := Lib.hid hw8; have C8 := Lib.hid hc8; clear hw8 hc8
      have hwok := walk_ok HNO.out hun
      have hwl2 := hwok.len
      have hdl2 : (codeN N (walkN N u)).length ≤ 600 := by have := codeTo_len HG.out hwok _ (Nat.le_refl _); show (codeTo N (walkN N u) (walkN N u).length).length ≤ 600; omega
      have HWP := Lib.hid (List.length_pos_of_mem (walk_pos HNO.out hun))
      obtain ⟨d, HDd⟩ : ∃ l, Hid (codeN N (walkN N u) = l) := ⟨_, Lib.hid rfl⟩
      obtain ⟨wl, HWL⟩ : ∃ l, Hid (walkN N u = l) := ⟨_, Lib.hid rfl⟩
      have HSTP := Lib.hid (show cmpStep N c (u : Int) = if c.cnt = 0 ∨ ltL d c.code = true then ⟨d, wl, c.least, 1⟩ else if d = c.code then ⟨c.code, c.walk, c.least, c.cnt + 1⟩ else c by unfold cmpStep; rw [Int.toNat_natCast, HDd.out, HWL.out])
      rw [HDd.out] at hdl2 C8
      rw [HWL.out] at hwl2 L8 HWP
      obtain ⟨Ad, cd, rfl, hcd, hdd⟩ := C8.out.dims
      obtain ⟨Ae, ce, rfl, hce, hde⟩ := L8.out.dims
      clear hwok HDd HWL
      by_cases h0 : c.cnt = 0
      case pos =>
        have hz := HZ.out h0
        injection hz with hz1 hz2 hz3
        subst hz1
        have HCOND := Lib.hid (show c.cnt = 0 ∨ ltL d c.code = true from .inl h0)
        obtain ⟨q, HCM⟩ : ∃ q, Hid (cmpL d c.code = q) := ⟨_, Lib.hid rfl⟩
        clear h0 hz2 hz3
        have kb0 : W8.cell? ⟨W4.heap.size, 0, none⟩ = some (.slice Ac c.code.length cc) := CB8.out.cell 0 (by simp)
        have kb1 : W8.cell? ⟨W4.heap.size, 1, none⟩ = some (.slice none c.walk.length cw) := CB8.out.cell 1 (by simp)
        have kb3 : W8.cell? ⟨W4.heap.size, 3, none⟩ = some (.int .i64 (c.cnt : Nat)) := CB8.out.cell 3 (by simp)
        have kf0 := CB8.out.frozen 0
        have kf1 := CB8.out.frozen 1
        have kf3 := CB8.out.frozen 3
        have HNEW := Lib.hid (show compTo N k (j + 1) = ⟨d, wl, c.least, 1⟩ by rw [HTN.out, HSTP.out, if_pos HCOND.out])
        go_wp2_with (go_at_call 52; refine (compareL_any _ d _ _ _ c.code _ _ _ C8.out (Nat.le_refl _) E8.out.code (by omega)).mono ?_; rintro e w' ⟨rfl, rfl⟩; rw [HCM.out])
        go_roundw
        case rel =>
          have hg9 : W8.grownBy (((W8.setCell ⟨W4.heap.size, 0, none⟩ (.slice Ad d.length cd)).setCell ⟨W4.heap.size, 1, none⟩ (.slice Ae wl.length ce)).setCell ⟨W4.heap.size, 3, none⟩ (.int .i64 1)) (some (W4.heap.size)) := grownBy_setCell (p := ⟨W4.heap.size, 3, none⟩) (grownBy_setCell (p := ⟨W4.heap.size, 1, none⟩) (grown_set W8 ⟨W4.heap.size, 0, none⟩ _) rfl _) rfl _
          have hs9 := hg9.size
          refine ⟨j + 1, ds2, .slice Ad d.length cd, .slice Ae wl.length ce, W7.heap.size, W8.heap.size, by omega, by go_num, Lib.hid (BoolS.far D8.out hg9 (by omega) (fun g e => .inr (by cases e; omega))), HDL3, HDB3, Lib.hid (CoS.far X8.out hg9 (fun g e => .inr (by cases e; omega))), Lib.hid (IntS.far NL8.out hg9 (by omega) (fun g e => .inr (by cases e; omega))), Lib.hid (?_), Lib.hid (?_), Lib.hid (fun e => absurd (show (1 : Nat) = 0 by rw [HNEW.out] at e; exact e) (by omega)), by omega, by omega, by omega, Lib.hid (HF8.out.grown hg9 (fun g e => .inr (by cases e; omega)))⟩
          · rw [HNEW.out]
            exact (((CB8.out.set 0 (.slice Ad d.length cd)).set 1 (.slice Ae wl.length ce)).set 3 (.int .i64 1))
          · rw [HNEW.out]
            exact ElOk.far (x := ⟨.slice Ad d.length cd, .slice Ae wl.length ce, ⟨d, wl, c.least, 1⟩⟩) ⟨IntS.mono C8.out (by omega) (by omega), IntS.mono L8.out (by omega) (by omega)⟩ hg9 (by omega) (fun g e => .inl (by cases e; omega))
        case measure => simp [intOf]; omega
      have hwpos : 0 < c.walk.length := by
        rcases HCW.out with h | h
        · exact absurd h.1 h0
        · exact h.2.1
      obtain ⟨bw, ow, rfl, _, _, _, _⟩ := IntS.opened HWD1.out hwpos
      by_cases hlt : ltL d c.code = true
      case pos =>
        have HCOND := Lib.hid (show c.cnt = 0 ∨ ltL d c.code = true from .inr hlt)
        have HCM := Lib.hid (cmpL_neg hlt)
        clear h0 hlt
        have kb0 : W8.cell? ⟨W4.heap.size, 0, none⟩ = some (.slice Ac c.code.length cc) := CB8.out.cell 0 (by simp)
        have kb1 : W8.cell? ⟨W4.heap.size, 1, none⟩ = some (.slice (some ⟨bw, ow, none⟩) c.walk.length cw) := CB8.out.cell 1 (by simp)
        have kb3 : W8.cell? ⟨W4.heap.size, 3, none⟩ = some (.int .i64 (c.cnt : Nat)) := CB8.out.cell 3 (by simp)
        have kf0 := CB8.out.frozen 0
        have kf1 := CB8.out.frozen 1
        have kf3 := CB8.out.frozen 3
        have HNEW := Lib.hid (show compTo N k (j + 1) = ⟨d, wl, c.least, 1⟩ by rw [HTN.out, HSTP.out, if_pos HCOND.out])
        go_wp2_with (go_at_call 52; refine (compareL_any _ d _ _ _ c.code _ _ _ C8.out (Nat.le_refl _) E8.out.code (by omega)).mono ?_; rintro e w' ⟨rfl, rfl⟩; rw [HCM.out])
        go_roundw
        case rel =>
          have hg9 : W8.grownBy (((W8.setCell ⟨W4.heap.size, 0, none⟩ (.slice Ad d.length cd)).setCell ⟨W4.heap.size, 1, none⟩ (.slice Ae wl.length ce)).setCell ⟨W4.heap.size, 3, none⟩ (.int .i64 1)) (some (W4.heap.size)) := grownBy_setCell (p := ⟨W4.heap.size, 3, none⟩) (grownBy_setCell (p := ⟨W4.heap.size, 1, none⟩) (grown_set W8 ⟨W4.heap.size, 0, none⟩ _) rfl _) rfl _
          have hs9 := hg9.size
          refine ⟨j + 1, ds2, .slice Ad d.length cd, .slice Ae wl.length ce, W7.heap.size, W8.heap.size, by omega, by go_num, Lib.hid (BoolS.far D8.out hg9 (by omega) (fun g e => .inr (by cases e; omega))), HDL3, HDB3, Lib.hid (CoS.far X8.out hg9 (fun g e => .inr (by cases e; omega))), Lib.hid (IntS.far NL8.out hg9 (by omega) (fun g e => .inr (by cases e; omega))), Lib.hid (?_), Lib.hid (?_), Lib.hid (fun e => absurd (show (1 : Nat) = 0 by rw [HNEW.out] at e; exact e) (by omega)), by omega, by omega, by omega, Lib.hid (HF8.out.grown hg9 (fun g e => .inr (by cases e; omega)))⟩
          · rw [HNEW.out]
            exact (((CB8.out.set 0 (.slice Ad d.length cd)).set 1 (.slice Ae wl.length ce)).set 3 (.int .i64 1))
          · rw [HNEW.out]
            exact ElOk.far (x := ⟨.slice Ad d.length cd, .slice Ae wl.length ce, ⟨d, wl, c.least, 1⟩⟩) ⟨IntS.mono C8.out (by omega) (by omega), IntS.mono L8.out (by omega) (by omega)⟩ hg9 (by omega) (fun g e => .inl (by cases e; omega))
        case measure => simp [intOf]; omega
      have HN0 := Lib.hid (show ¬ (c.cnt = 0 ∨ ltL d c.code = true) from fun h => h.elim h0 hlt)
      by_cases heq : d = c.code
      case pos =>
        have HCM := Lib.hid (show cmpL d c.code = 0 by rw [heq]; exact cmpL_zero _)
        have HNEW := Lib.hid (show compTo N k (j + 1) = ⟨c.code, c.walk, c.least, c.cnt + 1⟩ by rw [HTN.out, HSTP.out, if_neg HN0.out, if_pos heq])
        have HQ := Lib.hid heq; clear h0 hlt heq
        have kb0 : W8.cell? ⟨W4.heap.size, 0, none⟩ = some (.slice Ac c.code.length cc) := CB8.out.cell 0 (by simp)
        have kb1 : W8.cell? ⟨W4.heap.size, 1, none⟩ = some (.slice (some ⟨bw, ow, none⟩) c.walk.length cw) := CB8.out.cell 1 (by simp)
        have kb3 : W8.cell? ⟨W4.heap.size, 3, none⟩ = some (.int .i64 (c.cnt : Nat)) := CB8.out.cell 3 (by simp)
        have kf0 := CB8.out.frozen 0
        have kf1 := CB8.out.frozen 1
        have kf3 := CB8.out.frozen 3
        go_wp2_with (go_at_call 52; refine (compareL_any _ d _ _ _ c.code _ _ _ C8.out (Nat.le_refl _) E8.out.code (by omega)).mono ?_; rintro e w' ⟨rfl, rfl⟩; rw [HCM.out])
        go_roundw
        case rel =>
          have hg9 : W8.grownBy (W8.setCell ⟨W4.heap.size, 3, none⟩ (.int .i64 ((c.cnt : Int) + 1))) (some (W4.heap.size)) := grown_set _ _ _
          have hs9 := hg9.size
          refine ⟨j + 1, ds2, .slice Ac c.code.length cc, .slice (some ⟨bw, ow, none⟩) c.walk.length cw, lo, hi, by omega, by go_num, Lib.hid (BoolS.far D8.out hg9 (by omega) (fun g e => .inr (by cases e; omega))), HDL3, HDB3, Lib.hid (CoS.far X8.out hg9 (fun g e => .inr (by cases e; omega))), Lib.hid (IntS.far NL8.out hg9 (by omega) (fun g e => .inr (by cases e; omega))), Lib.hid (?_), Lib.hid (?_), Lib.hid (fun e => absurd (show c.cnt + 1 = 0 by rw [HNEW.out] at e; exact e) (by omega)), by omega, by omega, by omega, Lib.hid (HF8.out.grown hg9 (fun g e => .inr (by cases e; omega)))⟩
          · rw [HNEW.out]
            exact (CB8.out.set 3 (.int .i64 ((c.cnt : Int) + 1)))
          · rw [HNEW.out]
            exact ElOk.far (x := ⟨.slice Ac c.code.length cc, .slice (some ⟨bw, ow, none⟩) c.walk.length cw, ⟨c.code, c.walk, c.least, c.cnt + 1⟩⟩) ⟨E8.out.code, E8.out.walk⟩ hg9 (by omega) (fun g e => .inl (by cases e; omega))
        case measure => simp [intOf]; omega
      have HCM := Lib.hid (cmpL_pos hlt heq)
      have HNEW := Lib.hid (show compTo N k (j + 1) = c by rw [HTN.out, HSTP.out, if_neg HN0.out, if_neg heq])
      have H00 := Lib.hid h0; clear h0 hlt heq
      have kb0 : W8.cell? ⟨W4.heap.size, 0, none⟩ = some (.slice Ac c.code.length cc) := CB8.out.cell 0 (by simp)
      have kb1 : W8.cell? ⟨W4.heap.size, 1, none⟩ = some (.slice (some ⟨bw, ow, none⟩) c.walk.length cw) := CB8.out.cell 1 (by simp)
      have kb3 : W8.cell? ⟨W4.heap.size, 3, none⟩ = some (.int .i64 (c.cnt : Nat)) := CB8.out.cell 3 (by simp)
      have kf0 := CB8.out.frozen 0
      have kf1 := CB8.out.frozen 1
      have kf3 := CB8.out.frozen 3
      go_wp2_with (go_at_call 52; refine (compareL_any _ d _ _ _ c.code _ _ _ C8.out (Nat.le_refl _) E8.out.code (by omega)).mono ?_; rintro e w' ⟨rfl, rfl⟩; rw [HCM.out])
      go_roundw
      case rel =>
        refine ⟨j + 1, ds2, .slice Ac c.code.length cc, .slice (some ⟨bw, ow, none⟩) c.walk.length cw, lo, hi, by omega, by go_num, D8, HDL3, HDB3, X8, NL8, Lib.hid (?_), Lib.hid (?_), Lib.hid (fun e => absurd (show c.cnt = 0 by rw [HNEW.out] at e; exact e) H00.out), hlo, hlh, by omega, HF8⟩
        · rw [HNEW.out]; exact CB8.out
        · rw [HNEW.out]; exact E8.out
      case measure => simp [intOf]; omega

end Go.Proofs.YtmdlginjblnfoaaGreat
