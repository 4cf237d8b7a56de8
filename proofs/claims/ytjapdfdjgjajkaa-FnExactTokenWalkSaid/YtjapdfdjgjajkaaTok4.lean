/-
  Contracts: the program's tokenWalk and the reference's biWalk.
-/
import Derived.Test.YtjapdfdjgjajkaaTok3
import Derived.Test.YtjapdfdjgjajkaaOri4
import Derived.Test.YtjapdfdjgjajkaaBasics
import Derived.Carry
namespace Go.Proofs.Ytjapdfdjgjajkaa
open Go.ChangeShapes Go.WideShapes Go.ChangeAt Go.RowKit
set_option linter.unusedVariables false

theorem Try.infoBoolT : (Try.prog.info? 4).map (fun i => (i.zero, i.size, i.bytes)) = some (some (.bool false), 1, 1) := by kernel_rfl
theorem metL_zero (n : Nat) : metL n (fun _ => false) = List.replicate n false := by simp [metL, List.map_const']

set_option maxHeartbeats 8000000 in
set_option maxRecDepth 100000 in
theorem tokenWalk_any (v1 : Value) (N : NetD) (lo1 hi1 r : Nat) (w : World) (h1 : Net w lo1 hi1 v1 N) (hh1 : hi1 ≤ w.heap.size) (hg : N.good = true) (hr : r < N.ends.length) :
    Calls Try.prog 32 #[v1, .int .i64 (r : Nat)] w fun e w' => ∃ rv, e = .returned rv ∧ IntSSx w' w.heap.size w'.heap.size rv (walkOf N r) ∧ Below w.heap.size w w' := by
  obtain ⟨n1, n40⟩ := good_n hg
  have HG := Lib.hid hg; clear hg
  have F1 := Lib.hid h1
  obtain ⟨A1, c1, A1', c1', A1'', c1'', rfl, hc1, hd1, _⟩ := h1.parts
  clear h1
  obtain ⟨n, HN⟩ : ∃ n, Hid (N.ends.length = n) := ⟨_, Lib.hid rfl⟩
  have hmk := fun W => run_make_row' (P := Try.prog) 79 4 (.bool false) 1 Try.underlying79 Try.infoBoolT rfl .i64 .i64 n (by rw [← HN.out]; omega) (by rw [← HN.out]; omega) W
  have hmm := @run_makeMap Try.prog
  obtain ⟨ve, vi, vn, ee, hE, _, _⟩ := F1.out
  have HEE := Lib.hid (show EndSS w lo1 hi1 (.slice A1 N.ends.length c1) N.ends by injection ee with ee; injection ee with ee; injection ee with e1 _; rw [e1]; exact hE)
  clear ee hE
  rw [HN.out] at hc1 n1 n40 hr HEE
  rw [HN.out]
  go_enter Try.func32, Try.ntmps32
  go_wp2_with fail
  go_region
  · go_upto_region 2 with fail
    refine nameC ?_
    intro W1 HW1
    have hb1 : Below w.heap.size w W1 := by rw [HW1.out]; exact ((below_a3 _ _ _ _).alloc (by simp; omega) _).drew
    have hs1 : w.heap.size + 4 ≤ W1.heap.size := by rw [HW1.out]; simp [World.drew]
    have hbox : BoxN W1 (w.heap.size + 3) #[.slice A1 n c1, .slice A1' N.ids.length c1', .slice A1'' N.inputs.length c1'', .map (some (w.heap.size + 1)), .slice (some ⟨w.heap.size + 1 + 1, 0, none⟩) n n, .slice none 0 0] 81 := by rw [HW1.out]; exact BoxN.new' _ _ _ (by simp)
    have hmap : MpT W1 (w.heap.size + 1) (fun _ _ => false) 0 := by
      rw [HW1.out]
      have h0 := MpT.new (w.alloc (.cells #[.slice A1 n c1, .slice A1' N.ids.length c1', .slice A1'' N.inputs.length c1''] 32))
      rw [show ((w.alloc (.cells #[.slice A1 n c1, .slice A1' N.ids.length c1', .slice A1'' N.inputs.length c1''] 32))).heap.size = w.heap.size + 1 by simp] at h0
      exact ((h0.kept (grown_alloc _ _) (by simp)).kept (grown_alloc _ _) (by simp)).kept (grown_drew _) (by simp)
    have hmet : BoolS W1 (w.heap.size + 1 + 1) (w.heap.size + 1 + 1 + 1) (.slice (some ⟨w.heap.size + 1 + 1, 0, none⟩) n n) (metL n tk0.met) := by
      rw [HW1.out, show metL n tk0.met = List.replicate n false from metL_zero n]
      have h0 := made_bools ((w.alloc (.cells #[.slice A1 n c1, .slice A1' N.ids.length c1', .slice A1'' N.inputs.length c1''] 32)).alloc (.map #[] 0)) n 4 (g := w.heap.size + 1 + 1) (by simp) (by omega)
      exact (h0.still (grown_alloc _ _) (by simp)).still (grown_drew _) (by simp)
    clear HW1 hmk hmm
    have HT := Lib.hid (show TokI W1 w.heap.size (w.heap.size + 4) (w.heap.size + 3) (w.heap.size + 1) (w.heap.size + 1 + 1) n (.slice A1 n c1) (.slice A1' N.ids.length c1') (.slice A1'' N.inputs.length c1'') tk0 (.slice none 0 0) (2 * tk0.moves.length) from ⟨hbox, hmap, hmet, _, OwnSS.nil W1 (w.heap.size + 4) (w.heap.size + 4) _ (Nat.le_refl _) hs1⟩)
    have HB1 := Lib.hid hb1
    clear hbox hmap hmet hb1
    have HCALL := Lib.hid (visit_any N HG.out w lo1 hi1 n HN A1 c1 _ _ w.heap.size (w.heap.size + 4) (w.heap.size + 3) (w.heap.size + 1) (w.heap.size + 1 + 1) ⟨by omega, by omega, by omega, by omega, by omega, by omega, by omega, by omega, by omega⟩ HEE.out hh1 (Nat.le_refl _) n r tk0 _ W1 hr rfl (unm_le _ _) (by have := free_le tk0.used; show 0 + 2 * free tk0.used ≤ 480; omega) HT.out hs1 HB1.out)
    clear HT
    go_upto_region 3 with (go_at_call 53; refine HCALL.out.mono ?_; rintro e W2 ⟨rfl, vm, hT, hF⟩; have HT := Lib.hid hT; have HF := Lib.hid hF; have c5 : W2.cell? ⟨w.heap.size + 3, 5, none⟩ = some vm := hT.box.cell 5 (by simp); clear hT hF)
    go_wp2_with fail
    go_ret
    obtain ⟨top, hm⟩ := HT.out.mvs
    have hF := HF.out
    refine ⟨vm, rfl, ?_, HB1.out.trans (hF.below (fun k e => by cases e) (Nat.le_refl _) (by omega))⟩
    have := ISSx.mono hm.ssx (lo' := w.heap.size) (hi' := W2.heap.size) (by omega) (Nat.le_refl _)
    unfold walkOf
    rw [HN.out]
    exact this
  · go_upto_region 2 with fail
    refine nameC ?_
    intro W1 HW1
    have hb1 : Below w.heap.size w W1 := by rw [HW1.out]; exact ((below_a3 _ _ _ _).alloc (by simp; omega) _).drew
    have hs1 : w.heap.size + 4 ≤ W1.heap.size := by rw [HW1.out]; simp [World.drew]
    have hbox : BoxN W1 (w.heap.size + 3) #[.slice A1 n c1, .slice A1' N.ids.length c1', .slice A1'' N.inputs.length c1'', .map (some (w.heap.size + 1 + 1)), .slice (some ⟨w.heap.size + 1, 0, none⟩) n n, .slice none 0 0] 81 := by rw [HW1.out]; exact BoxN.new' _ _ _ (by simp)
    have hmap : MpT W1 (w.heap.size + 1 + 1) (fun _ _ => false) 0 := by
      rw [HW1.out]
      have h0 := MpT.new ((w.alloc (.cells #[.slice A1 n c1, .slice A1' N.ids.length c1', .slice A1'' N.inputs.length c1''] 32)).alloc (.cells (madeCells #[.bool false] n) 4))
      rw [show (((w.alloc (.cells #[.slice A1 n c1, .slice A1' N.ids.length c1', .slice A1'' N.inputs.length c1''] 32)).alloc (.cells (madeCells #[.bool false] n) 4))).heap.size = w.heap.size + 1 + 1 by simp] at h0
      exact (h0.kept (grown_alloc _ _) (by simp)).kept (grown_drew _) (by simp)
    have hmet : BoolS W1 (w.heap.size + 1) (w.heap.size + 1 + 1) (.slice (some ⟨w.heap.size + 1, 0, none⟩) n n) (metL n tk0.met) := by
      rw [HW1.out, show metL n tk0.met = List.replicate n false from metL_zero n]
      have h0 := made_bools (w.alloc (.cells #[.slice A1 n c1, .slice A1' N.ids.length c1', .slice A1'' N.inputs.length c1''] 32)) n 4 (g := w.heap.size + 1) (by simp) (by omega)
      exact ((h0.still (grown_alloc _ _) (by simp)).still (grown_alloc _ _) (by simp)).still (grown_drew _) (by simp)
    clear HW1 hmk hmm
    have HT := Lib.hid (show TokI W1 w.heap.size (w.heap.size + 4) (w.heap.size + 3) (w.heap.size + 1 + 1) (w.heap.size + 1) n (.slice A1 n c1) (.slice A1' N.ids.length c1') (.slice A1'' N.inputs.length c1'') tk0 (.slice none 0 0) (2 * tk0.moves.length) from ⟨hbox, hmap, hmet, _, OwnSS.nil W1 (w.heap.size + 4) (w.heap.size + 4) _ (Nat.le_refl _) hs1⟩)
    have HB1 := Lib.hid hb1
    clear hbox hmap hmet hb1
    have HCALL := Lib.hid (visit_any N HG.out w lo1 hi1 n HN A1 c1 _ _ w.heap.size (w.heap.size + 4) (w.heap.size + 3) (w.heap.size + 1 + 1) (w.heap.size + 1) ⟨by omega, by omega, by omega, by omega, by omega, by omega, by omega, by omega, by omega⟩ HEE.out hh1 (Nat.le_refl _) n r tk0 _ W1 hr rfl (unm_le _ _) (by have := free_le tk0.used; show 0 + 2 * free tk0.used ≤ 480; omega) HT.out hs1 HB1.out)
    clear HT
    go_upto_region 3 with (go_at_call 53; refine HCALL.out.mono ?_; rintro e W2 ⟨rfl, vm, hT, hF⟩; have HT := Lib.hid hT; have HF := Lib.hid hF; have c5 : W2.cell? ⟨w.heap.size + 3, 5, none⟩ = some vm := hT.box.cell 5 (by simp); clear hT hF)
    go_wp2_with fail
    go_ret
    obtain ⟨top, hm⟩ := HT.out.mvs
    have hF := HF.out
    refine ⟨vm, rfl, ?_, HB1.out.trans (hF.below (fun k e => by cases e) (Nat.le_refl _) (by omega))⟩
    have := ISSx.mono hm.ssx (lo' := w.heap.size) (hi' := W2.heap.size) (by omega) (Nat.le_refl _)
    unfold walkOf
    rw [HN.out]
    exact this

end Go.Proofs.Ytjapdfdjgjajkaa
