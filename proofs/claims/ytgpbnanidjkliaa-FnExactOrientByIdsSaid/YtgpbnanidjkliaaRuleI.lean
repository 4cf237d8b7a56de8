/-
  Contracts of IsRuling (program and reference).
-/
import Derived.Test.YtgpbnanidjkliaaRuleS
namespace Go.Proofs.Ytgpbnanidjkliaa
open Go.ChangeShapes Go.WideShapes Go.ChangeAt Go.RowKit
set_option linter.unusedVariables false

theorem ret_bb {a b c d : Bool} (h : a = b) (h2 : c = d) : Ending.returned (.tuple #[.bool a, .bool c]) = .returned (.tuple #[.bool b, .bool d]) := by rw [h, h2]
theorem rule_no {N : NetD} {zs : List Int} {α β : Int} (h : ruleOk N zs α β = false) : ruleRes N zs α β = false := by unfold ruleRes; rw [h]; rfl
theorem rule_yes {N : NetD} {zs : List Int} {α β : Int} (h : ruleOk N zs α β = true) : ruleRes N zs α β = (apartB N zs α && coversB N zs β) := by unfold ruleRes; rw [h]; rfl

set_option maxHeartbeats 4000000 in
set_option maxRecDepth 100000 in
theorem IsRuling_spec (v1 : Value) (N : NetD) (lo1 hi1 : Nat) (v2 : Value) (zs : List Int) (lo2 hi2 : Nat) (α β : Int) (w : World) (h1 : Net w lo1 hi1 v1 N) (hh1 : hi1 ≤ w.heap.size) (h2 : IntS w lo2 hi2 v2 zs) (hh2 : hi2 ≤ w.heap.size) (hz1 : N.sz ≤ 1048576) (hz2 : zs.length ≤ 1048576) (o1 : N.Ok) (o2 : ∀ z ∈ zs, I64 z) (o3 : I64 α) (o4 : I64 β) :
    Calls Try.prog 46 #[v1, v2, .int .i64 α, .int .i64 β] w fun e w' => e = .returned (.tuple #[.bool (ruleRes N zs α β), .bool (ruleOk N zs α β)]) ∧ Below w.heap.size w w' := by
  have HN := Lib.hid h1
  have HP := Lib.hid h2
  obtain ⟨A, c, A2, c2, A3, c3, rfl, hc1, hc2, _⟩ := h1.parts
  obtain ⟨B, d, rfl⟩ := h2.shape
  clear h1 h2 o1 o2
  have b0 := Box3.new w 31 (.slice A N.ends.length c) (.slice A2 N.ids.length c2) (.slice A3 N.inputs.length c3)
  have hb0 : Below w.heap.size w (w.alloc (.cells #[.slice A N.ends.length c, .slice A2 N.ids.length c2, .slice A3 N.inputs.length c3] 31)) := below_a1 _ _
  go_enter Try.func46, Try.ntmps46
  go_wp2_with fail
  refine (ruSet_any _ N lo1 hi1 _ zs lo2 hi2 _ (HN.out.below hb0 hh1) (by simp; omega) (HP.out.below hb0 hh2) (by simp; omega) hz1).mono ?_
  rintro e w1 ⟨rfl, hb1⟩
  have hw1 := hb0.trans (hb1.mono (by simp))
  have b1 := b0.below hb1 (by simp)
  have hsw1 := hw1.size
  clear b0 hb0 hb1
  by_cases hg : nodeSet N zs = true
  case neg =>
    have hg' : nodeSet N zs = false := by simpa using hg
    rw [hg']
    have ho : ruleOk N zs α β = false := by unfold ruleOk; rw [hg']; rfl
    have HO := Lib.hid ho
    clear ho
    go_wp2_with fail
    go_ret2
    exact ⟨ret_bb (rule_no HO.out).symm HO.out.symm, hw1⟩
  rw [hg]
  by_cases ha : inB α 1 40 = true
  case neg =>
    have ha' : inB α 1 40 = false := by simpa using ha
    have ho : ruleOk N zs α β = false := by unfold ruleOk; rw [ha']; simp
    have HO := Lib.hid ho
    clear ho ha
    go_wp2_with (go_at_call 76; refine (l1In_any _ _ _ _).mono ?_; rintro e w' ⟨rfl, rfl⟩)
    go_ret2
    exact ⟨ret_bb (rule_no HO.out).symm HO.out.symm, hw1⟩
  by_cases hbt : inB β 0 40 = true
  case neg =>
    have hb' : inB β 0 40 = false := by simpa using hbt
    have ho : ruleOk N zs α β = false := by unfold ruleOk; rw [hb']; simp
    have HO := Lib.hid ho
    clear ho hbt
    go_wp2_with (go_at_call 76; refine (l1In_any _ _ _ _).mono ?_; rintro e w' ⟨rfl, rfl⟩)
    go_ret2
    exact ⟨ret_bb (rule_no HO.out).symm HO.out.symm, hw1⟩
  have HO := Lib.hid (show ruleOk N zs α β = true by unfold ruleOk; rw [hg, ha, hbt]; rfl)
  have hgood := nodeSet_good hg
  have HM := Lib.hid (fun k (hk : k < zs.length) => nodeSet_mem hg hk)
  have HGG := Lib.hid hgood
  obtain ⟨α1, α2⟩ := inB_le ha
  obtain ⟨k0, k1, k2⟩ := b1.cells
  clear hg hgood
  go_wp2_with (go_at_call 76; refine (l1In_any _ _ _ _).mono ?_; rintro e w' ⟨rfl, rfl⟩)
  refine (ruApart_any _ N lo1 hi1 _ zs lo2 hi2 α _ (HN.out.below hw1 hh1) (by omega) (HP.out.below hw1 hh2) (by omega) HGG.out hz2 HM.out α1 α2).mono ?_
  rintro e w2 ⟨rfl, hb2⟩
  have hw2 := hw1.trans (hb2.mono hsw1)
  have b2 := b1.below hb2 b1.lt
  have hs2 := hw2.size
  clear b1 hb2 hw1 k0 k1 k2
  obtain ⟨k0, k1, k2⟩ := b2.cells
  cases hap : apartB N zs α with
  | false =>
    have HA := Lib.hid hap
    clear hap
    go_wp2_with fail
    go_ret2
    exact ⟨ret_bb (by rw [rule_yes HO.out, HA.out]; rfl) HO.out.symm, hw2⟩
  | true =>
    have HA := Lib.hid hap
    clear hap
    go_wp2_with fail
    refine (ruCovers_any _ N lo1 hi1 _ zs lo2 hi2 β _ (HN.out.below hw2 hh1) (by omega) (HP.out.below hw2 hh2) (by omega) HGG.out hz2 HM.out).mono ?_
    rintro e w3 ⟨rfl, hb3⟩
    go_wp2_with fail
    go_ret2
    exact ⟨ret_bb (by rw [rule_yes HO.out, HA.out]; rfl) HO.out.symm, hw2.trans (hb3.mono hs2)⟩

end Go.Proofs.Ytgpbnanidjkliaa
