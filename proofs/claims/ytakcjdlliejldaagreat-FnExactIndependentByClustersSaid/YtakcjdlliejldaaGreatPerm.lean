/-
  Contracts: permutations, orders of a network's nodes, least free numbers (program and reference).
-/
import Derived.Test.YtakcjdlliejldaaGreatBasics
import Derived.Test.YtakcjdlliejldaaGreatNearP
namespace Go.Proofs.YtakcjdlliejldaaGreat
open Go.ChangeShapes Go.WideShapes Go.ChangeAt Go.RowKit
set_option linter.unusedVariables false

theorem Tryz.infoBool : (Tryz.prog.info? 4).map (fun i => (i.zero, i.size, i.bytes)) = some (some (.bool false), 1, 1) := by kernel_rfl
theorem permB_bad {zs : List Int} {n k : Nat} (hk : k < zs.length) (h : permAt zs n k = false) : permB zs n = false := by unfold permB; rw [rangeAll_false hk h]; rfl
def orderB (N : NetD) (zs : List Int) : Bool := N.good && permB zs N.ends.length
theorem seen_step {zs : List Int} {n k t : Nat} {bs : List Bool} (hl : bs.length = n) (hk : k < zs.length) (ht : nth zs k = t) (htn : t < n) (h : ∀ j : Nat, j < n → nthB bs j = decide ((j : Int) ∈ zs.take k)) : ∀ j : Nat, j < n → nthB (bs.set t true) j = decide ((j : Int) ∈ zs.take (k + 1)) := fun j hj => by
  rw [nthB_set _ _ _ _ (by omega), List.take_succ_eq_append_getElem hk, ← nth_eq hk, ht]
  by_cases e : j = t
  · rw [if_pos e, e]; simp
  · rw [if_neg e, h j hj, Bool.eq_iff_iff]
    simp only [decide_eq_true_eq, List.mem_append, List.mem_singleton]
    exact ⟨fun h => .inl h, fun h => h.resolve_right (by omega)⟩

set_option maxHeartbeats 4000000 in
set_option maxRecDepth 100000 in
theorem leastFree_any (v1 : Value) (zs : List Int) (lo1 hi1 : Nat) (w : World) (h1 : IntS w lo1 hi1 v1 zs) (hh1 : hi1 ≤ w.heap.size) (hz : zs.length ≤ 1048576) :
    Calls Tryz.prog 57 #[v1] w fun e w' => e = .returned (.int .i64 (lf zs)) ∧ w = w' := by
  have F1 := Lib.hid h1
  obtain ⟨A1, c1, rfl, hc1, hd1⟩ := h1.dims
  clear h1
  go_enter Tryz.func57, Tryz.ntmps57
  go_wp2_with fail
  go_loop [3] (fun c => ∃ (k : Nat), c = .int .i64 k ∧ k ≤ zs.length ∧ Hid (∀ j : Nat, j < k → (j : Int) ∈ zs)) (fun c => zs.length + 1 - (intOf c).toNat)
  case atStart => exact ⟨0, rfl, Nat.zero_le _, Lib.hid fun j hj => absurd hj (by omega)⟩
  case round =>
    obtain ⟨k, rfl, hk, HU⟩ := hrel
    cases hm : decide ((k : Int) ∈ zs) with
    | true =>
      have HM := Lib.hid hm; clear hm
      have HU2 : Hid (∀ j : Nat, j < k + 1 → (j : Int) ∈ zs) := Lib.hid fun j hj => by
        by_cases e : j = k
        · rw [e]; exact of_decide_eq_true HM.out
        · exact HU.out j (by omega)
      have hk2 := pigeon _ _ HU2.out
      go_wp2_with (go_at_call 79; refine (contains_any _ zs _ _ _ _ F1.out).mono ?_; rintro e w' ⟨rfl, rfl⟩; rw [HM.out])
      go_round
      case rel => exact ⟨k + 1, by go_num, hk2, HU2⟩
      case measure => simp [intOf]; omega
    | false =>
      have HM := Lib.hid hm; clear hm
      go_wp2_with (go_at_call 79; refine (contains_any _ zs _ _ _ _ F1.out).mono ?_; rintro e w' ⟨rfl, rfl⟩; rw [HM.out])
      go_ret
      exact ⟨ret_int (by rw [lf_is (of_decide_eq_false HM.out) HU.out]), rfl⟩

set_option maxHeartbeats 4000000 in
set_option maxRecDepth 100000 in
theorem clLeast_any (v1 : Value) (zs : List Int) (lo1 hi1 : Nat) (w : World) (h1 : IntS w lo1 hi1 v1 zs) (hh1 : hi1 ≤ w.heap.size) (hz : zs.length ≤ 1048576) :
    Calls Tryz.prog 40 #[v1] w fun e w' => e = .returned (.int .i64 (lf zs)) ∧ w = w' := by
  have F1 := Lib.hid h1
  obtain ⟨A1, c1, rfl, hc1, hd1⟩ := h1.dims
  clear h1
  go_enter Tryz.func40, Tryz.ntmps40
  go_wp2_with fail
  go_loop [3] (fun c => ∃ (k : Nat), c = .int .i64 k ∧ k ≤ zs.length ∧ Hid (∀ j : Nat, j < k → (j : Int) ∈ zs)) (fun c => zs.length + 1 - (intOf c).toNat)
  case atStart => exact ⟨0, rfl, Nat.zero_le _, Lib.hid fun j hj => absurd hj (by omega)⟩
  case round =>
    obtain ⟨k, rfl, hk, HU⟩ := hrel
    cases hm : decide ((k : Int) ∈ zs) with
    | true =>
      have HM := Lib.hid hm; clear hm
      have HU2 : Hid (∀ j : Nat, j < k + 1 → (j : Int) ∈ zs) := Lib.hid fun j hj => by
        by_cases e : j = k
        · rw [e]; exact of_decide_eq_true HM.out
        · exact HU.out j (by omega)
      have hk2 := pigeon _ _ HU2.out
      go_wp2_with (go_at_call 41; refine (l1Has_any _ zs _ _ _ _ F1.out).mono ?_; rintro e w' ⟨rfl, rfl⟩; rw [HM.out])
      go_round
      case rel => exact ⟨k + 1, by go_num, hk2, HU2⟩
      case measure => simp [intOf]; omega
    | false =>
      have HM := Lib.hid hm; clear hm
      go_wp2_with (go_at_call 41; refine (l1Has_any _ zs _ _ _ _ F1.out).mono ?_; rintro e w' ⟨rfl, rfl⟩; rw [HM.out])
      go_ret
      exact ⟨ret_int (by rw [lf_is (of_decide_eq_false HM.out) HU.out]), rfl⟩

end Go.Proofs.YtakcjdlliejldaaGreat
