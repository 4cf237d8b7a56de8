/-
  Contracts: WaveFrom (the reference); both for the law.
-/
import Derived.Test.YtoebgfmnjjiddaaWave
import Derived.Test.YtoebgfmnjjiddaaWave2
namespace Go.Proofs.Ytoebgfmnjjiddaa
open Go.ChangeShapes Go.WideShapes Go.ChangeAt Go.RowKit
set_option linter.unusedVariables false

set_option maxHeartbeats 1000000 in
set_option maxRecDepth 100000 in
theorem WaveFrom_spec (v1 : Value) (N : NetD) (lo1 hi1 : Nat) (x : Int) (w : World) (h1 : Net w lo1 hi1 v1 N) (hh1 : hi1 ≤ w.heap.size) (hz1 : N.sz ≤ 1048576) (ok1 : N.Ok) (ok2 : I64 x) :
    Calls Try.prog 47 #[v1, .int .i64 x] w fun e w' => ∃ r r2 m, e = .returned (.tuple #[r, r2, .int .i64 (wvMsg N x : Nat), .bool (waveOk N x)]) ∧ w.heap.size ≤ m ∧ m ≤ w'.heap.size ∧ IntS w' w.heap.size m r (wvPar N x) ∧ IntS w' m w'.heap.size r2 (wvDep N x) ∧ Below w.heap.size w w' := by
  clear ok1 ok2
  have F1 := Lib.hid h1
  obtain ⟨A1, c1, A1', c1', A1'', c1'', rfl, hc1, hd1, _⟩ := h1.parts
  clear h1
  obtain ⟨WA, HWA⟩ : ∃ W, Hid (W = (w.alloc (.cells #[.slice A1 N.ends.length c1, .slice A1' N.ids.length c1', .slice A1'' N.inputs.length c1''] 33))) := ⟨_, Lib.hid rfl⟩
  have hbA : Below w.heap.size w WA := by rw [HWA.out]; exact ((Below.refl _ _).alloc (Nat.le_refl _) _)
  have hsA : w.heap.size + 1 ≤ WA.heap.size := by rw [HWA.out]; simp; try omega
  have bx1 : BoxN WA (w.heap.size) #[.slice A1 N.ends.length c1, .slice A1' N.ids.length c1', .slice A1'' N.inputs.length c1''] 33 := by rw [HWA.out]; exact (BoxN.new' _ _ _ (by simp))
  have G1 := Lib.hid (Net.below F1.out hbA hh1); clear F1
  go_enter Try.func47, Try.ntmps47
  go_upto_region 1 with (fail)
  rw [← HWA.out]; clear HWA
  have kbx1_0 : WA.cell? ⟨w.heap.size, 0, none⟩ = some (.slice A1 N.ends.length c1) := bx1.cell 0 (by simp)
  have kbx1_1 : WA.cell? ⟨w.heap.size, 1, none⟩ = some (.slice A1' N.ids.length c1') := bx1.cell 1 (by simp)
  have kbx1_2 : WA.cell? ⟨w.heap.size, 2, none⟩ = some (.slice A1'' N.inputs.length c1'') := bx1.cell 2 (by simp)
  go_wp2_with fail
  clear kbx1_0 kbx1_1 kbx1_2
  refine (neNode_any _ N lo1 hi1 x _ G1.out (by omega) hz1).mono ?_
  rintro e W1 ⟨rfl, hb1⟩
  have hg1 := grown_below hb1; clear hb1
  have hs1 := hg1.size
  have HF1 := Lib.hid ((Turned.refl WA.heap.size WA.heap.size WA).still hg1)
  by_cases hx : waveOk N x = true
  case neg =>
    have hx' : waveOk N x = false := by simpa using hx
    rw [hx']
    have HX := Lib.hid hx'; clear hx hx'
    go_wp2_with fail
    ((try simp only [Exit.inBlock, Exit.then]); refine bodyPost_ret (results_tmp4 rfl _ _ _) rfl ?_)
    exact ⟨_, _, _, ret_rrib (by rw [(wvNo (HX.out)).2.2]; rfl) (HX.out).symm, Nat.le_refl _, ((HF1.out.below_of hbA (by omega) (by omega))).size, by rw [(wvNo (HX.out)).1]; exact IntS.nil _ _ _, by rw [(wvNo (HX.out)).2.1]; exact IntS.nil _ _ _, (HF1.out.below_of hbA (by omega) (by omega))⟩
  rw [hx]
  have HX := Lib.hid hx; clear hx
  have hp := HX.out
  unfold waveOk at hp
  rw [Bool.and_eq_true] at hp
  have HG := Lib.hid hp.1
  have hxx := inB_le hp.2
  obtain ⟨root, rfl⟩ : ∃ m : Nat, x = m := ⟨x.toNat, by omega⟩
  have hroot : root < N.ends.length := by omega
  clear hp hxx
  have kbx1_0 : W1.cell? ⟨w.heap.size, 0, none⟩ = some (.slice A1 N.ends.length c1) := (HF1.out.boxN bx1 (by omega)).cell 0 (by simp)
  have kbx1_1 : W1.cell? ⟨w.heap.size, 1, none⟩ = some (.slice A1' N.ids.length c1') := (HF1.out.boxN bx1 (by omega)).cell 1 (by simp)
  have kbx1_2 : W1.cell? ⟨w.heap.size, 2, none⟩ = some (.slice A1'' N.inputs.length c1'') := (HF1.out.boxN bx1 (by omega)).cell 2 (by simp)
  go_wp2_with fail
  clear kbx1_0 kbx1_1 kbx1_2
  refine (biWave_any _ N lo1 hi1 root _ (Net.turned G1.out HF1.out (by omega) (by omega)) (by omega) HG.out hroot).mono ?_
  rintro e W2 ⟨r, r2, m, rfl, hm1, hm2, hr, hr2, hb2⟩
  have hg2 := grown_below hb2; clear hb2
  have hs2 := hg2.size
  have HF2 := Lib.hid (HF1.out.still hg2); clear HF1
  go_wp2_with fail
  ((try simp only [Exit.inBlock, Exit.then]); refine bodyPost_ret (results_tmp4 rfl _ _ _) rfl ?_)
  refine ⟨_, _, m, ret_rrib (by rw [(wvYes HX.out).2.2]) HX.out.symm, by omega, by omega, ?_, ?_, (HF2.out.below_of hbA (by omega) (by omega))⟩
  · rw [(wvYes HX.out).1]; exact hr.mono (by omega) (by omega)
  · rw [(wvYes HX.out).2.1]; exact hr2.mono (by omega) (by omega)

theorem wave_top {N : NetD} (hg : N.good = true) {root : Nat} (hr : root < N.ends.length) : ∃ q, WTop N root q (wave N root) := by
  have key : ∀ f q s, f = N.ends.length + 1 - q → WTop N root q s → ∃ q, WTop N root q (wave N root) := by
    intro f
    induction f with
    | zero => intro q s hf h; have := h.qle; omega
    | succ f ih =>
      intro q s hf h
      cases ha : anyAt N s.dep q with
      | true => exact ih (q + 1) _ (by omega) (h.step hg ha)
      | false => rw [h.stop ha]; exact ⟨q, h⟩
  exact key _ 0 _ rfl (WTop.zero hr)
theorem waveOk_is {N : NetD} {x : Int} (h : waveOk N x = true) : N.good = true ∧ ∃ r : Nat, x = r ∧ r < N.ends.length := by
  unfold waveOk at h
  rw [Bool.and_eq_true] at h
  have := inB_le h.2
  exact ⟨h.1, x.toNat, by omega, by omega⟩
theorem wvPar_len (N : NetD) (x : Int) : (wvPar N x).length ≤ N.ends.length := by
  by_cases h : waveOk N x = true
  · obtain ⟨hg, r, rfl, hr⟩ := waveOk_is h
    obtain ⟨q, ht⟩ := wave_top hg hr
    rw [(wvYes h).1, ht.plen]; exact Nat.le_refl _
  · rw [(wvNo (by simpa using h)).1]; exact Nat.zero_le _
theorem wvDep_len (N : NetD) (x : Int) : (wvDep N x).length ≤ N.ends.length := by
  by_cases h : waveOk N x = true
  · obtain ⟨hg, r, rfl, hr⟩ := waveOk_is h
    obtain ⟨q, ht⟩ := wave_top hg hr
    rw [(wvYes h).2.1, ht.dlen]; exact Nat.le_refl _
  · rw [(wvNo (by simpa using h)).2.1]; exact Nat.zero_le _
theorem ends_le_szw (N : NetD) : N.ends.length ≤ N.sz := by unfold NetD.sz szSS; omega

end Go.Proofs.Ytoebgfmnjjiddaa
