/-
  Contracts of allDistances, isNodeSet, ruSet, slices.Contains.
-/
import Derived.Test.YtcmmklcampmkjaaDistI
import Derived.Test.YtcmmklcampmkjaaOwnSS
import Derived.Test.YtcmmklcampmkjaaIsNet
namespace Go.Proofs.Ytcmmklcampmkjaa
open Go.ChangeShapes Go.WideShapes Go.ChangeAt Go.RowKit
set_option linter.unusedVariables false

def allDist (N : NetD) : List (List Int) := (List.range N.ends.length).map (dist N)
theorem allDist_length (N : NetD) : (allDist N).length = N.ends.length := by simp [allDist]
theorem nthL_allDist (N : NetD) {j : Nat} (h : j < N.ends.length) : nthL (allDist N) j = dist N j := by simp [nthL, allDist, h]
theorem good_degs {N : NetD} (h : N.good = true) : ∀ u, u < N.ends.length → (nthL N.ends u).length ≤ 1048576 := fun u hu => by have := good_deg h hu; omega

set_option maxHeartbeats 1000000 in
set_option maxRecDepth 100000 in
theorem allDistances_any (v : Value) (N : NetD) (lo hi : Nat) (w : World) (h : Net w lo hi v N) (hhi : hi ≤ w.heap.size) (hn : N.ends.length ≤ 1048576) (hN : N.nodes) (hdeg : ∀ u, u < N.ends.length → (nthL N.ends u).length ≤ 1048576) :
    Calls Try.prog 34 #[v] w fun e w' => ∃ r, e = .returned r ∧ IntSS w' w.heap.size w'.heap.size r (allDist N) ∧ Below w.heap.size w w' := by
  have HNET := Lib.hid h
  obtain ⟨A, c, A2, c2, A3, c3, rfl, hc1, hc2, _, _, _⟩ := h.parts
  have b0 := Box3.new w 34 (.slice A N.ends.length c) (.slice A2 N.ids.length c2) (.slice A3 N.inputs.length c3)
  have hb0 : Below w.heap.size w (w.alloc (.cells #[.slice A N.ends.length c, .slice A2 N.ids.length c2, .slice A3 N.inputs.length c3] 34)) := below_a1 _ _
  have HNN := Lib.hid hN
  have HDG := Lib.hid hdeg
  clear h hN hdeg
  go_enter Try.func34, Try.ntmps34
  go_wp2_with fail
  go_loopw [8, 3] (fun i ov wr => ∃ (k : Nat) (xss : List (List Int)), k ≤ N.ends.length ∧ i = .int .i64 k ∧ Hid (OwnSS wr (w.heap.size + 1) wr.heap.size 23 ov xss) ∧ Hid (xss = (allDist N).take k) ∧ xss.length ≤ k ∧
      Box3 wr w.heap.size 34 (.slice A N.ends.length c) (.slice A2 N.ids.length c2) (.slice A3 N.inputs.length c3) ∧ Below w.heap.size w wr) (fun i _ _ => N.ends.length - (intOf i).toNat)
  case atStart => exact ⟨0, [], Nat.zero_le _, rfl, Lib.hid (OwnSS.nil _ _ _ _ (by simp) (Nat.le_refl _)), Lib.hid (by simp), Nat.zero_le _, b0, hb0⟩
  case round =>
    clear b0 hb0
    obtain ⟨k, xss, hk, rfl, HO, HD, hxl, hbx, hb⟩ := hrel
    have hbl := hbx.lt
    by_cases hlt : k < N.ends.length
    · obtain ⟨q0, q1, q2⟩ := hbx.cells
      go_wp2_with fail
      refine (distancesFrom_any _ N k lo hi _ (HNET.out.below hb hhi) (by omega) hlt hn HNN.out HDG.out).mono ?_
      rintro e w1 ⟨r, rfl, hr, hb1⟩
      have HR := Lib.hid hr
      obtain ⟨R, rc, rfl⟩ := hr.shape
      have HO1 := Lib.hid ((HO.out.below hb1))
      have hs1 := hb1.size
      have hlr := HO.out.lt
      have hbx1 := hbx.below hb1 hbx.lt
      have hbw := hb.trans (hb1.mono hb.size)
      clear hr q0 q1 q2 hbx
      go_wp2_with (at_builtin; refine append_ss (s := .tmp 11) Try.underlying63 Try.info23 (by decide) w1 rfl _ rfl HO1.out HR.out (Nat.le_refl _) (Nat.le_refl _) hs1 (fun g hg => .inl (hlr g hg).2) _ rfl (by simp [Act.eval, go_sem]) (by omega) ?_; intro v' w' ho' hg' hat')
      go_roundw
      case rel =>
        have hgs := hg'.size
        refine ⟨k + 1, xss ++ [dist N k], by omega, by go_num, Lib.hid (ho'.mono hgs (Nat.le_refl _)), Lib.hid ?_, by simp; omega, hbx1.grown hg' (fun g hg => by have := hlr g hg; omega), hbw.grown hg' (by have := hb.size; omega) fun g hg => by have := hlr g hg; omega⟩
        rw [List.take_succ_eq_append_getElem (by rw [allDist_length]; exact hlt), HD.out]
        simp [allDist]
      case measure => simp [intOf]; omega
    · obtain rfl : k = N.ends.length := by omega
      obtain ⟨B, d, rfl, _, _⟩ := HO.out.len
      go_wp2_with fail
      go_ret
      have e : allDist N = xss := by rw [HD.out, List.take_of_length_le (by rw [allDist_length]; exact Nat.le_refl _)]
      rw [e]
      exact ⟨_, rfl, ISS.mono HO.out.ssx.ss (by omega) (Nat.le_refl _), hb⟩

theorem contains_any (v : Value) (zs : List Int) (x : Int) (lo hi : Nat) (w : World) (h : IntS w lo hi v zs) :
    Calls Try.prog 42 #[v, .int .i64 x] w fun e w' => e = .returned (.bool (decide (x ∈ zs))) ∧ w = w' := by
  obtain ⟨A, c, rfl, hc1, hc2, hcell⟩ := h.form
  rcases Nat.eq_zero_or_pos zs.length with h0 | h0
  · obtain rfl : zs = [] := List.eq_nil_of_length_eq_zero h0
    refine (Try.slices_Contains_int_empty _ _ _ _).mono ?_
    rintro e w' ⟨rfl, rfl⟩
    exact ⟨ret_bool (by simp), rfl⟩
  · obtain ⟨b, off, rfl, hb1, hb2, hcs⟩ := hcell h0
    unfold maxLen at hc2
    refine (Try.slices_Contains_int b off zs.length c zs x w (Nat.le_refl _) (by omega) (fun j hj => (hcs j hj).1)).mono ?_
    rintro e w' ⟨rfl, rfl⟩
    rw [List.take_length]
    exact ⟨ret_bool (by rw [Bool.eq_iff_iff]; simp), rfl⟩

/-- a set of nodes of a network -/
def nodeSet (N : NetD) (zs : List Int) : Bool := N.good && rising zs 0 ((N.ends.length : Int) - 1)



end Go.Proofs.Ytcmmklcampmkjaa
