/-
  For every slice of integers the program's ClustersBy returns what the reference's returns, leaves its argument as it was, and returns memory of its own. No condition.
-/
import Derived.Test.YtnfggpedbpjbbaaClust
namespace Go.Proofs.Ytnfggpedbpjbbaa.fnExactClustersBy
open Go.ChangeShapes Go.WideShapes Go.ChangeAt Go.RowKit
set_option linter.unusedVariables false

theorem own : ownKnob Try.prog.godebug = none := by kernel_rfl
theorem laidOut : laidOutB Try.prog = true := by kernel_rfl

set_option maxHeartbeats 4000000 in
set_option maxRecDepth 100000 in
theorem walk (w : World) (v0 : Value) (d0 : List Int) (h0 : IntS w 0 w.heap.size v0 d0) (i0 : ∀ z ∈ d0, I64 z) :
    Calls Try.prog 4 #[v0] w fun e w' => e = .returned (.bool true) ∧ Below w.heap.size w w' := by
  obtain ⟨A0, c0, rfl, hc10, hc20, hcell0⟩ := h0.form; clear hcell0 hc10 hc20
  have H0 := Lib.hid h0; clear h0
  have I0 := Lib.hid i0; clear i0
  have hcby := cby_len d0
  by_cases c0 : d0.length ≤ 1048576
  case neg =>
    go_enter Try.func4, Try.ntmps4
    go_wp2_with fail
    go_ret
    exact ⟨rfl, Below.refl _ _⟩
  case pos =>
    go_enter Try.func4, Try.ntmps4
    go_wp2_with fail
    refine (toIntS_any _ d0 _ _ _ H0.out (by omega) (by omega)).mono ?_
    rintro e w1 ⟨r1, rfl, hr1, hb1⟩
    have hs1 := hb1.size
    have hbw1 := hb1
    have R1 := Lib.hid hr1; clear hr1
    go_wp2_with fail
    refine (ClustersBy_spec _ d0 _ _ _ R1.out (by omega) (by omega) I0.out).mono ?_
    rintro e w2 ⟨r2_0, rfl, hr2_0, hb2⟩
    have hs2 := hb2.size
    have hbw2 := hbw1.trans (hb2.mono (by omega))
    clear hbw1
    have R1b := Lib.hid (R1.out.below hb2 (by omega)); clear R1
    have R2_0 := Lib.hid hr2_0; clear hr2_0
    clear R1b
    go_wp2_with fail
    refine (toIntS_any _ d0 _ _ _ (H0.out.below hbw2 (Nat.le_refl _)) (by omega) (by omega)).mono ?_
    rintro e w3 ⟨r3, rfl, hr3, hb3⟩
    have hs3 := hb3.size
    have hbw3 := hbw2.trans (hb3.mono (by omega))
    clear hbw2
    have R2_0b := Lib.hid (R2_0.out.below hb3 (by omega)); clear R2_0
    have R3 := Lib.hid hr3; clear hr3
    go_wp2_with fail
    refine (ClustersBy_impl _ d0 _ _ _ R3.out (by omega) (by omega) I0.out).mono ?_
    rintro e w4 ⟨r4_0, rfl, hr4_0, hb4⟩
    have hs4 := hb4.size
    have hbw4 := hbw3.trans (hb4.mono (by omega))
    clear hbw3
    have R2_0bb := Lib.hid (R2_0b.out.below hb4 (by omega)); clear R2_0b
    have R3b := Lib.hid (R3.out.below hb4 (by omega)); clear R3
    have R4_0 := Lib.hid hr4_0; clear hr4_0
    go_wp2_with fail
    refine (eqIntS_same _ _ _ _ _ _ _ _ R4_0.out R2_0bb.out).mono ?_
    rintro e w5 ⟨rfl, n5, hw5⟩
    have hb5 : Below w4.heap.size w4 w5 := by rw [hw5]; exact below_drewN (Below.refl _ _) _
    have hz5 : w5.heap.size ≤ w4.heap.size := by rw [hw5]; exact Nat.le_refl _
    clear hw5
    have hs5 := hb5.size
    have hbw5 := hbw4.trans (hb5.mono (by omega))
    clear hbw4
    have R2_0bbb := Lib.hid (R2_0bb.out.below hb5 (by omega)); clear R2_0bb
    have R3bb := Lib.hid (R3b.out.below hb5 (by omega)); clear R3b
    have R4_0b := Lib.hid (R4_0.out.below hb5 (by omega)); clear R4_0
    go_wp2_with fail
    refine (toIntS_any _ d0 _ _ _ (H0.out.below hbw5 (Nat.le_refl _)) (by omega) (by omega)).mono ?_
    rintro e w6 ⟨r6, rfl, hr6, hb6⟩
    have hs6 := hb6.size
    have hbw6 := hbw5.trans (hb6.mono (by omega))
    clear hbw5
    have R2_0bbbb := Lib.hid (R2_0bbb.out.below hb6 (by omega)); clear R2_0bbb
    have R3bbb := Lib.hid (R3bb.out.below hb6 (by omega)); clear R3bb
    have R4_0bb := Lib.hid (R4_0b.out.below hb6 (by omega)); clear R4_0b
    have R6 := Lib.hid hr6; clear hr6
    go_wp2_with fail
    refine (eqIntS_same _ _ _ _ _ _ _ _ R3bbb.out R6.out).mono ?_
    rintro e w7 ⟨rfl, n7, hw7⟩
    have hb7 : Below w6.heap.size w6 w7 := by rw [hw7]; exact below_drewN (Below.refl _ _) _
    have hz7 : w7.heap.size ≤ w6.heap.size := by rw [hw7]; exact Nat.le_refl _
    clear hw7
    have hs7 := hb7.size
    have hbw7 := hbw6.trans (hb7.mono (by omega))
    clear hbw6
    have R2_0bbbbb := Lib.hid (R2_0bbbb.out.below hb7 (by omega)); clear R2_0bbbb
    have R3bbbb := Lib.hid (R3bbb.out.below hb7 (by omega)); clear R3bbb
    have R4_0bbb := Lib.hid (R4_0bb.out.below hb7 (by omega)); clear R4_0bb
    have R6b := Lib.hid (R6.out.below hb7 (by omega)); clear R6
    clear R6b
    go_wp2_with fail
    refine (markIntS_any _ d0 _ _ _ _ R3bbbb.out (by omega) (by omega) (by omega) (by omega)).mono ?_
    rintro e w8 ⟨rfl, hr8, ht8, hz8⟩
    have hs8 := ht8.size
    have hz8' : w8.heap.size ≤ w7.heap.size := by omega
    have hbw8 := hbw7.trans ((ht8.below (by omega)).mono (by omega))
    clear hbw7 hz8
    have R2_0bbbbbb := Lib.hid (R2_0bbbbb.out.turned ht8 (by omega) (by omega)); clear R2_0bbbbb
    have R4_0bbbb := Lib.hid (R4_0bbb.out.turned ht8 (by omega) (by omega)); clear R4_0bbb
    clear R3bbbb
    have R8 := Lib.hid hr8; clear hr8
    go_wp2_with fail
    refine (eqIntS_same _ _ _ _ _ _ _ _ R4_0bbbb.out R2_0bbbbbb.out).mono ?_
    rintro e w9 ⟨rfl, n9, hw9⟩
    have hb9 : Below w8.heap.size w8 w9 := by rw [hw9]; exact below_drewN (Below.refl _ _) _
    have hz9 : w9.heap.size ≤ w8.heap.size := by rw [hw9]; exact Nat.le_refl _
    clear hw9
    have hs9 := hb9.size
    have hbw9 := hbw8.trans (hb9.mono (by omega))
    clear hbw8
    have R2_0bbbbbbb := Lib.hid (R2_0bbbbbb.out.below hb9 (by omega)); clear R2_0bbbbbb
    have R8b := Lib.hid (R8.out.below hb9 (by omega)); clear R8
    have R4_0bbbbb := Lib.hid (R4_0bbbb.out.below hb9 (by omega)); clear R4_0bbbb
    go_wp2_with fail
    refine (markIntS_any _ (cby d0) _ _ _ _ R4_0bbbbb.out (by omega) (by omega) (by omega) (by omega)).mono ?_
    rintro e w10 ⟨rfl, hr10, ht10, hz10⟩
    have hs10 := ht10.size
    have hz10' : w10.heap.size ≤ w9.heap.size := by omega
    have hbw10 := hbw9.trans ((ht10.below (by omega)).mono (by omega))
    clear hbw9 hz10
    have R2_0bbbbbbbb := Lib.hid (R2_0bbbbbbb.out.turned ht10 (by omega) (by omega)); clear R2_0bbbbbbb
    have R8bb := Lib.hid (R8b.out.turned ht10 (by omega) (by omega)); clear R8b
    clear R4_0bbbbb
    have R10 := Lib.hid hr10; clear hr10
    go_wp2_with fail
    refine (heldIntS_yes _ (cby d0) _ _ _ _ R10.out (by omega) (by omega) (by omega)).mono ?_
    rintro e w11 ⟨rfl, n11, hw11⟩
    have hb11 : Below w10.heap.size w10 w11 := by rw [hw11]; exact below_drewN (Below.refl _ _) _
    have hz11 : w11.heap.size ≤ w10.heap.size := by rw [hw11]; exact Nat.le_refl _
    clear hw11
    have hs11 := hb11.size
    have hbw11 := hbw10.trans (hb11.mono (by omega))
    clear hbw10
    have R2_0bbbbbbbbb := Lib.hid (R2_0bbbbbbbb.out.below hb11 (by omega)); clear R2_0bbbbbbbb
    have R8bbb := Lib.hid (R8bb.out.below hb11 (by omega)); clear R8bb
    have R10b := Lib.hid (R10.out.below hb11 (by omega)); clear R10
    go_wp2_with fail
    refine (toIntS_any _ d0 _ _ _ (H0.out.below hbw11 (Nat.le_refl _)) (by omega) (by omega)).mono ?_
    rintro e w12 ⟨r12, rfl, hr12, hb12⟩
    have hs12 := hb12.size
    have hbw12 := hbw11.trans (hb12.mono (by omega))
    clear hbw11
    have R2_0bbbbbbbbbb := Lib.hid (R2_0bbbbbbbbb.out.below hb12 (by omega)); clear R2_0bbbbbbbbb
    have R8bbbb := Lib.hid (R8bbb.out.below hb12 (by omega)); clear R8bbb
    have R10bb := Lib.hid (R10b.out.below hb12 (by omega)); clear R10b
    have R12 := Lib.hid hr12; clear hr12
    go_wp2_with fail
    refine (ClustersBy_impl _ d0 _ _ _ R12.out (by omega) (by omega) I0.out).mono ?_
    rintro e w13 ⟨r13_0, rfl, hr13_0, hb13⟩
    have hs13 := hb13.size
    have hbw13 := hbw12.trans (hb13.mono (by omega))
    clear hbw12
    have R2_0bbbbbbbbbbb := Lib.hid (R2_0bbbbbbbbbb.out.below hb13 (by omega)); clear R2_0bbbbbbbbbb
    have R8bbbbb := Lib.hid (R8bbbb.out.below hb13 (by omega)); clear R8bbbb
    have R10bbb := Lib.hid (R10bb.out.below hb13 (by omega)); clear R10bb
    have R12b := Lib.hid (R12.out.below hb13 (by omega)); clear R12
    have R13_0 := Lib.hid hr13_0; clear hr13_0
    clear R12b
    go_wp2_with fail
    refine (eqIntS_same _ _ _ _ _ _ _ _ R13_0.out R2_0bbbbbbbbbbb.out).mono ?_
    rintro e w14 ⟨rfl, n14, hw14⟩
    have hb14 : Below w13.heap.size w13 w14 := by rw [hw14]; exact below_drewN (Below.refl _ _) _
    have hz14 : w14.heap.size ≤ w13.heap.size := by rw [hw14]; exact Nat.le_refl _
    clear hw14
    have hs14 := hb14.size
    have hbw14 := hbw13.trans (hb14.mono (by omega))
    clear hbw13
    have R2_0bbbbbbbbbbbb := Lib.hid (R2_0bbbbbbbbbbb.out.below hb14 (by omega)); clear R2_0bbbbbbbbbbb
    have R8bbbbbb := Lib.hid (R8bbbbb.out.below hb14 (by omega)); clear R8bbbbb
    have R10bbbb := Lib.hid (R10bbb.out.below hb14 (by omega)); clear R10bbb
    have R13_0b := Lib.hid (R13_0.out.below hb14 (by omega)); clear R13_0
    go_wp2_with fail
    refine (heldIntS_yes _ (cby d0) _ _ _ _ R10bbbb.out (by omega) (by omega) (by omega)).mono ?_
    rintro e w15 ⟨rfl, n15, hw15⟩
    have hb15 : Below w14.heap.size w14 w15 := by rw [hw15]; exact below_drewN (Below.refl _ _) _
    have hz15 : w15.heap.size ≤ w14.heap.size := by rw [hw15]; exact Nat.le_refl _
    clear hw15
    have hs15 := hb15.size
    have hbw15 := hbw14.trans (hb15.mono (by omega))
    clear hbw14
    have R2_0bbbbbbbbbbbbb := Lib.hid (R2_0bbbbbbbbbbbb.out.below hb15 (by omega)); clear R2_0bbbbbbbbbbbb
    have R8bbbbbbb := Lib.hid (R8bbbbbb.out.below hb15 (by omega)); clear R8bbbbbb
    have R10bbbbb := Lib.hid (R10bbbb.out.below hb15 (by omega)); clear R10bbbb
    have R13_0bb := Lib.hid (R13_0b.out.below hb15 (by omega)); clear R13_0b
    go_wp2_with fail
    go_ret
    exact ⟨rfl, hbw15⟩

set_option maxRecDepth 100000 in
theorem lifted (os : Os) (started : os.Started) (H : Type) (enc : TypeId × Value → H) :
    ReturnsInHanded {} Try.checked os 4 .any (Rows.fnExactClustersBySpec.pre6 enc Try.prog Try.f4 Rows.fnExactClustersByRow.domain false) (Rows.fnExactClustersBySpec.post enc Try.prog Try.f4 false true false false) := by
  refine returnsInHanded_of_change (C := Try.checked) own started (by kernel_rfl) Try.func4
    (ChangeSpec.witness6 (enc := enc) (C := Try.checked) false ⟨#[], #[.slice none 0 0], []⟩ 8 (by kernel_rfl) (by kernel_rfl) (by kernel_rfl) (by kernel_rfl)) ?_
  intro W base args ds gs before hval0 hW hcnd _
  have hval : ∀ (j : Nat) t v, Try.f4.params[j]? = some t → args[j]? = some v → Value.okWide Try.prog W .any base t v := hval0
  have hW' := hW
  obtain ⟨p, q, hA0, hV, rfl, hfz, hnd⟩ := hW
  have hA : DataW.TrodAll enc Try.prog W 0 (fun _ => true) true Try.f4.params.toList args.toList ds p := hA0
  rw [Try.params4] at hA hval
  obtain ⟨v0, vs0, d0, ds0, p0, q0, hargs, rfl, rfl, h0, r0⟩ := trodAll_cons hA
  obtain ⟨rfl, rfl, rfl⟩ := trodAll_nil r0
  obtain rfl : args = #[v0] := by cases args; simp_all
  obtain ⟨rfl, rfl⟩ := trodVars_none hV
  have k0 := h0
  have lt0 : ∀ x ∈ p0, x.block < W.heap.size := by obtain ⟨m, hm⟩ := k0; exact DataW.trod_lt m _ _ _ hm
  have fz0 : W.noneFrozen p0 := fun b off hb => hfz b off (by simp [hb])
  obtain ⟨z0, zh0, zi0⟩ := open_IntS Try.underlying25 Try.underlying3 (by kernel_rfl) (hval 0 25 v0 rfl rfl) h0 fz0
  clear hA0 hval0
  refine (walk W v0 z0 zh0 zi0).mono fun e W' ⟨he, bel⟩ => ?_
  subst he
  exact ⟨_, rfl, _, _, _, [], _, [], hW', trodAll_mk1 (shut_bool Try.underlying4 _), (trodAll_cons_mk (Below.trod laidOut (by kernel_rfl) (of_decide_eq_true (by kernel_rfl)) k0 bel lt0) trodAll_mk0), rfl, bel.frame _, fun h => by cases h⟩

theorem over : Rows.fnExactClustersByRow.holds Try.pinned (OpenSpec.ofChange Rows.fnExactClustersBySpec) :=
  OpenClaim.holds_of_wide 4 Try.f4 rfl rfl rfl rfl rfl rfl rfl ⟨rfl, rfl, rfl, rfl, rfl⟩ rfl rfl rfl rfl rfl (by kernel_rfl) Try.func4 (by kernel_rfl)
    (of_decide_eq_true (by kernel_rfl)) (by unfold Func.isWrapper; first | (rw [if_pos (by decide +kernel)]; kernel_rfl) | (rw [if_neg (by decide +kernel)]; exact ⟨rfl, rfl⟩))
    (fun os started H enc _ => lifted os started H enc)

theorem proved : Rows.FnExactClustersBySaid := over
end Go.Proofs.Ytnfggpedbpjbbaa.fnExactClustersBy
